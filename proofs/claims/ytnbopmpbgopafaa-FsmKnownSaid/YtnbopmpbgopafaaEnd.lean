/- fsm: end. -/
import Derived.Test.YtnbopmpbgopafaaFsm2
namespace Go.Proofs.Ytnbopmpbgopafaa
open Go.RowKit
variable {A : Nat → Prop}

def openNone : OpenD := ⟨0, 0, 0, [], false, false, [], false, false, 0, []⟩
def endM (m : MachD) : MachD := { m with state := 1, ses := sesNone, theirs := openNone }
def endV (v : MV) : MV := { v with sf := .slice none 0 0, ss := .slice none 0 0, st := .slice none 0 0, sk := .slice none 0 0, tf := .slice none 0 0, ta := .slice none 0 0, tk := .slice none 0 0 }
def noteL (c s : Int) : List ActD := if 0 < c then [⟨5, 0, 0, c, s⟩] else []
def closeL (closed : Bool) : List ActD := if closed then [] else [actK 2]
def downL (st : Int) : List ActD := if st = 6 then [actK 9] else []
def againL (wanted : Bool) (n : Int) : List ActD := if wanted then [actA 1 n] else []
def endL (m : MachD) (c s : Int) (closed : Bool) : List ActD := noteL c s ++ closeL closed ++ [actC 2] ++ [actC 3] ++ downL m.state ++ againL m.wanted m.retry

set_option maxRecDepth 100000 in
set_option maxHeartbeats 1000000 in
theorem f_end {w : World} {bm ba base : Nat} {m : MachD} {v : MV} {L : List ActD} (h : FC w bm ba base m v L) (hl : L.length ≤ 900) (act c s : Int) (closed : Bool) :
    Calls Try.prog 30 #[.pointer (some ⟨bm, 0, none⟩), .pointer (some ⟨ba, 0, none⟩), verV ⟨act, c, s⟩, .bool closed] w fun e w' => e = .returned (.tuple #[]) ∧
      FC w' bm ba base (endM m) (endV v) (L ++ endL m c s closed) ∧ Keeps (Out bm ba base) w w' := by
  have H := Lib.hid h
  have HL := Lib.hid hl
  have hsz := (Array.getElem?_eq_some_iff.1 h.mach).1
  clear h hl
  unfold verV
  go_enter Try.func30, Try.ntmps30
  go_wp2_with fail
  refine (c_Told c s _).mono ?_
  rintro e w1 ⟨rfl, hb1⟩
  have H1 := Lib.hid ((H.out.below ((Below.refl _ _).alloc (Nat.le_refl _) _)).below hb1)
  have K1 := Lib.hid ((Keeps.of_below (A := Out bm ba base) ((Below.refl _ _).alloc (Nat.le_refl _) _)).trans (Keeps.of_below hb1))
  clear hb1
  go_upto_if 21 with fail
  go_cut [] (fun w' => FC w' bm ba base m v (L ++ noteL c s) ∧ Keeps (Out bm ba base) w w')
  case first =>
    by_cases hc : 0 < c
    · have HN := Lib.hid (show noteL c s = [⟨5, 0, 0, c, s⟩] from if_pos hc)
      have hgt : c > 0 := hc
      obtain ⟨hlt, oa, oc, hr, ho⟩ := H1.out.acts
      obtain ⟨i0, hi, hi0, hi1, hi2⟩ := info_parts i_T
      have HO1 := Lib.hid ho
      have HO := Lib.hid (ho.below ((Below.refl _ _).alloc (Nat.le_refl _) (.cells #[.int .u8 c, .int .u8 s, .string ⟨#[]⟩] 48)))
      have HR := Lib.hid (heap_old1 (o := .cells #[.int .u8 c, .int .u8 s, .string ⟨#[]⟩] 48) hr)
      have HF := Lib.hid (H1.out.below ((Below.refl _ _).alloc (Nat.le_refl _) (.cells #[.int .u8 c, .int .u8 s, .string ⟨#[]⟩] 48)))
      have KF := Lib.hid (K1.out.alloc (.cells #[.int .u8 c, .int .u8 s, .string ⟨#[]⟩] 48))
      have cr := row_cell hr
      have hbaz := (Array.getElem?_eq_some_iff.1 hr).1
      have hbs := H1.out.hb
      clear hr ho
      go_wp2_with fail
      refine wp_region_K2 [11] (fun W => W.cell? ⟨ba, 0, none⟩ = some (.slice oa L.length oc) ∧ W.cell? ⟨w1.heap.size, 0, none⟩ = some (.int .u8 c) ∧ W.cell? ⟨w1.heap.size, 1, none⟩ = some (.int .u8 s) ∧ W.cell? ⟨w1.heap.size, 2, none⟩ = some (.string ⟨#[]⟩)) (fun _ => True) rfl ⟨cell_drew_keep (cell_alloc_keep (by simpa using cr 0)), by simp, by simp, by simp⟩ trivial (fun hS0 _ => ?_)
      have HS0 := Lib.hid hS0
      clear hS0
      refine wpAnyK_take 0 (v := ?_) rfl (by kernel_rfl) (fun _ _ _ h => h) (.inl ⟨by rfl, ?_⟩) HS0.out ?_
      rotate_left
      · intro w hS; clear hS; go_simp; with_reducible rfl
      refine wpAnyK_take 1 (v := ?_) rfl (by kernel_rfl) (fun _ _ _ h => h) (.inl ⟨by rfl, ?_⟩) HS0.out ?_
      rotate_left
      · intro w hS; clear hS; go_simp; with_reducible rfl
      refine wpAnyK_take 2 (v := ?_) rfl (by kernel_rfl) (fun _ _ _ h => h) (.inl ⟨by rfl, ?_⟩) HS0.out ?_
      rotate_left
      · intro w hS; clear hS; go_simp; with_reducible rfl
      refine wpAnyK_take 3 (v := ?_) rfl (by kernel_rfl) (fun _ _ _ h => h) (.inl ⟨by rfl, ?_⟩) HS0.out ?_
      rotate_left
      · intro w hS; clear hS; go_simp; with_reducible rfl
      refine wpAnyK_take 4 (v := .slice oa L.length oc) rfl (by kernel_rfl) (fun _ _ _ h => h) (.inl ⟨by rfl, fun w hS => ?_⟩) HS0.out ?_
      · obtain ⟨h1, h2, h3, h4⟩ := hS; go_simp
      refine wpAnyK_take 5 (v := .agg #[.int .u8 c, .int .u8 s, .string ⟨#[]⟩]) rfl (by kernel_rfl) (fun _ _ _ h => h) (.inl ⟨by rfl, fun w hS => ?_⟩) HS0.out ?_
      · obtain ⟨h1, h2, h3, h4⟩ := hS; go_simp
      refine wpAnyK_take 6 (v := ?_) rfl (by kernel_rfl) (fun _ _ _ h => h) (.inl ⟨by rfl, ?_⟩) HS0.out ?_
      rotate_left
      · intro w hS; clear hS; go_simp; with_reducible rfl
      refine wpAnyK_one 7 (by kernel_rfl) rfl (by rfl) (fun K' hK => ?_)
      go_wp2_with fail
      refine stillS ⟨cell_drew_keep (cell_alloc_keep HS0.out.1), by simp, by simp, by simp⟩ (fun hS1 => ?_)
      have HS1 := Lib.hid hS1
      clear hS1
      refine wpAnyK_one 8 (by kernel_rfl) rfl (by rfl) (fun K' hK => ?_)
      refine wp_append_own _ _ _ 41 rfl base 50 i0 (.agg #[.int .i64 0, .int .i64 0, .int .i64 0, .int .u8 0, .int .u8 0, .string ByteArray.empty]) 6 48 Try.underlying41 hi hi0 hi1 hi2 rfl (by decide) _ L.length (L.flatMap cT) rfl ?own ⟨w1.heap.size + 1, 0, none⟩ 1 1 (cT ⟨5, 0, 0, c, s⟩) rfl rfl ?hnews ?h1 ?h63 ?hbytes ?hbase ?_
      case own => exact World.ownsRow.alloc (HO.out.below (Below.refl _ _).drew) _
      case hnews => have hq := news_new (w := w1.alloc (.cells #[.int .u8 c, .int .u8 s, .string ⟨#[]⟩] 48)) (cs := actCells ⟨5, 0, 0, c, s⟩) (e := 50) (l := cT ⟨5, 0, 0, c, s⟩) rfl; simp only [World.size_alloc] at hq; exact hq
      case h1 => exact cod_T.one _
      case h63 => have := HL.out; simp only [maxLen]; omega
      case hbytes => have := HL.out; omega
      case hbase => simp; omega
      intro v' w3 hown3 hgrow3 _
      have hno : some w1.heap.size ≠ (Value.slice oa L.length oc).ownBlock := fun e => by have := Ow.lt HO1.out _ e.symm; omega
      obtain ⟨oa', oc', hv, hr3, hacts, hkeep⟩ := ActsAt.stored (w := (w1.alloc (.cells #[.int .u8 c, .int .u8 s, .string ⟨#[]⟩] 48)).drew) HR.out hlt (HO.out.below (Below.refl _ _).drew) (by simp; omega) hown3 hgrow3
      have HA := Lib.hid hacts
      have HK := Lib.hid hkeep
      subst hv
      refine hK _ _ ?_
      refine stillS ⟨by simpa using row_cell hr3 0, hgrow3.cell HS1.out.2.1 hno, hgrow3.cell HS1.out.2.2.1 hno, hgrow3.cell HS1.out.2.2.2 hno⟩ (fun hS2 => ?_)
      have HS2 := Lib.hid hS2
      clear hS2 hown3 hgrow3 hacts hkeep hno
      refine wpAnyK_one 9 (by kernel_rfl) rfl (by rfl) (fun K' hK => ?_)
      go_wp2_with fail
      refine stillS HS2.out (fun hS3 => ?_)
      clear hS3
      refine wpAnyK_take 10 (v := ?_) rfl (by kernel_rfl) (fun _ _ _ h => h) (.inl ⟨by rfl, ?_⟩) HS2.out ?_
      rotate_left
      · intro w hS; clear hS; go_simp; with_reducible rfl
      have cr3 := row_cell hr3
      have fr3 := row_free hr3
      refine wpAnyK_one 11 (by kernel_rfl) rfl (by rfl) (fun K' hK => ?_)
      go_wp2_with fail
      refine deadS (by kernel_rfl) ?_
      refine wpAnyK_done (by kernel_rfl) ?_
      go_wp2_with fail
      go_meet
      case rel =>
        rw [HN.out]
        have hk : Keeps (Out bm ba base) (w1.alloc (.cells #[.int .u8 c, .int .u8 s, .string ⟨#[]⟩] 48)).drew _ := HK.out.mono (fun b hb => ⟨hb.1, hb.2.1⟩)
        exact ⟨⟨(HK.out.block bm (by have := (Array.getElem?_eq_some_iff.1 HF.out.mach).1; simpa using this) ⟨HF.out.lt, HF.out.ne⟩).trans HF.out.mach, HA.out, HF.out.lt, HF.out.ne, Nat.le_trans HF.out.hb HK.out.size⟩, KF.out.trans ((Keeps.refl _ _).drew.trans hk)⟩
    · go_wp2_with fail
      go_meet
      case rel => rw [show noteL c s = [] from if_neg (by omega), List.append_nil]; exact ⟨H1.out.below ((Below.refl _ _).alloc (Nat.le_refl _) _), K1.out.alloc _⟩
  case rest =>
    obtain ⟨hf2, hk2⟩ := hcut
    have H2 := Lib.hid hf2
    have K2 := Lib.hid hk2
    have hln : (noteL c s).length ≤ 1 := by unfold noteL; split <;> simp
    have HLN := Lib.hid hln
    clear hf2 hk2 hln
    go_upto_if 34 with fail
    go_cut [] (fun w' => FC w' bm ba base m v (L ++ noteL c s ++ closeL closed) ∧ Keeps (Out bm ba base) w w')
    case first =>
      cases closed
      · go_wp2_with fail
        refine (f_do H2.out (by have := HL.out; have := HLN.out; simp; omega) 2).mono ?_
        rintro e w2 ⟨rfl, h3, k3⟩
        have H3 := Lib.hid h3
        have K3 := Lib.hid k3
        clear h3 k3
        go_wp2_with fail
        go_meet
        case rel => exact ⟨H3.out, K2.out.trans K3.out⟩
      · go_wp2_with fail
        go_meet
        case rel => exact ⟨by have := H2.out; simpa [closeL] using this, K2.out⟩
    case rest =>
      obtain ⟨hf3, hk3⟩ := hcut
      have H3 := Lib.hid hf3
      have K3 := Lib.hid hk3
      have hlc : (closeL closed).length ≤ 1 := by unfold closeL; split <;> simp
      have HLC := Lib.hid hlc
      clear hf3 hk3 hlc
      go_wp2_with fail
      refine (f_cancel H3.out (by have := HL.out; have := HLN.out; have := HLC.out; simp; omega) 2).mono ?_
      rintro e w4 ⟨rfl, h4, k4⟩
      have H4 := Lib.hid h4
      have K4 := Lib.hid k4
      clear h4 k4
      go_wp2_with fail
      refine (f_cancel H4.out (by have := HL.out; have := HLN.out; have := HLC.out; simp; omega) 3).mono ?_
      rintro e w5 ⟨rfl, h5, k5⟩
      have H5 := Lib.hid h5
      have K5 := Lib.hid (K3.out.trans (K4.out.trans k5))
      have c5 := row_cell h5.mach
      clear h5 k5
      go_upto_if 45 with fail
      go_cut [] (fun w' => FC w' bm ba base m v (L ++ noteL c s ++ closeL closed ++ [actC 2] ++ [actC 3] ++ downL m.state) ∧ Keeps (Out bm ba base) w w')
      case first =>
        clear c5
        by_cases hst : m.state = 6
        · have HST := Lib.hid hst
          have hsb : (m.state == 6) = true := by simpa using hst
          clear hst
          go_wp2_with fail
          refine (f_do H5.out (by have := HL.out; have := HLN.out; have := HLC.out; simp; omega) 9).mono ?_
          rintro e w6 ⟨rfl, h6, k6⟩
          have H6 := Lib.hid h6
          have K6 := Lib.hid k6
          clear h6 k6
          go_wp2_with fail
          go_meet
          case rel => rw [show downL m.state = [actK 9] from if_pos HST.out]; exact ⟨H6.out, K5.out.trans K6.out⟩
        · have HST := Lib.hid hst
          have hsb : (m.state == 6) = false := by simpa using hst
          clear hst
          go_wp2_with fail
          go_meet
          case rel => rw [show downL m.state = [] from if_neg HST.out, List.append_nil]; exact ⟨H5.out, K5.out⟩
      case rest =>
        obtain ⟨hf6, hk6⟩ := hcut
        have H6 := Lib.hid hf6
        have K6 := Lib.hid hk6
        have c6 := row_cell hf6.mach
        have hld : (downL m.state).length ≤ 1 := by unfold downL; split <;> simp
        have HLD := Lib.hid hld
        clear hf6 hk6 hld c5
        go_upto_if 51 with fail
        go_cut [] (fun w' => FC w' bm ba base m v (L ++ noteL c s ++ closeL closed ++ [actC 2] ++ [actC 3] ++ downL m.state ++ againL m.wanted m.retry) ∧ Keeps (Out bm ba base) w w')
        case first =>
          cases hw : m.wanted
          · go_wp2_with fail
            go_meet
            case rel => rw [show againL m.wanted m.retry = [] by rw [hw]; rfl, List.append_nil]; exact ⟨H6.out, K6.out⟩
          · go_wp2_with fail
            refine (f_arm H6.out (by have := HL.out; have := HLN.out; have := HLC.out; have := HLD.out; simp; omega) 1 m.retry).mono ?_
            rintro e w7 ⟨rfl, h7, k7⟩
            have H7 := Lib.hid h7
            have K7 := Lib.hid k7
            clear h7 k7 c6
            go_wp2_with fail
            go_meet
            case rel => rw [show againL m.wanted m.retry = [actA 1 m.retry] by rw [hw]; rfl]; exact ⟨H7.out, K6.out.trans K7.out⟩
        case rest =>
          obtain ⟨hf8, hk8⟩ := hcut
          have H8 := Lib.hid hf8
          have K8 := Lib.hid hk8
          have c8 := row_cell hf8.mach
          have f8 := row_free hf8.mach
          clear hf8 hk8 c6
          go_wp2
          go_end0
          refine ⟨rfl, ?_, ?_⟩
          · rw [show L ++ endL m c s closed = L ++ noteL c s ++ closeL closed ++ [actC 2] ++ [actC 3] ++ downL m.state ++ againL m.wanted m.retry by simp [endL]]
            exact FR.done (FR.setMany [(35, .int .i64 1), (36, .int .i64 0), (37, .slice none 0 0), (38, .bool false), (39, .bool false), (40, .slice none 0 0), (41, .slice none 0 0), (42, .bool false), (43, .bool false), (44, .int .i64 0), (45, .slice none 0 0),
              (46, .int .u32 0), (47, .int .i64 0), (48, .int .u32 0), (49, .slice none 0 0), (50, .bool false), (51, .bool false), (52, .slice none 0 0), (53, .bool false), (54, .bool false), (55, .int .i64 0), (56, .slice none 0 0)] H8.out.raw) (by simp [endM, endV, sesNone, openNone])
          · repeat refine Keeps.setCell ?_ (by simp) _
            exact K8.out
end Go.Proofs.Ytnbopmpbgopafaa
