/- fsm: opened. -/
import Derived.Test.YtnbopmpbgopafaaEnd
import Derived.Test.YtnbopmpbgopafaaOwnD
namespace Go.Proofs.Ytnbopmpbgopafaa
open Go.RowKit
variable {A B : Nat → Prop}

structure SesAt (A : Nat → Prop) (w : World) (s : SesD) (sf ss st sk : Value) : Prop where
  fams : Rd A w 1 cI sf s.fams
  send : Rd A w 1 cI ss s.send
  take : Rd A w 1 cI st s.take
  kept : Rd A w 2 cR sk s.kept
theorem SesAt.keeps {A A' : Nat → Prop} {w w' : World} {s : SesD} {sf ss st sk : Value} (h : SesAt A w s sf ss st sk) (hk : Keeps A' w w') (hA : ∀ k, A k → A' k) : SesAt A w' s sf ss st sk :=
  ⟨h.fams.keeps hk hA, h.send.keeps hk hA, h.take.keeps hk hA, h.kept.keeps hk hA⟩
theorem SesAt.mono {A A' : Nat → Prop} {w : World} {s : SesD} {sf ss st sk : Value} (h : SesAt A w s sf ss st sk) (hA : ∀ k, A k → A' k) : SesAt A' w s sf ss st sk :=
  ⟨h.fams.mono hA, h.send.mono hA, h.take.mono hA, h.kept.mono hA⟩
theorem SesAt.none (A : Nat → Prop) (w : World) : SesAt A w sesNone (.slice none 0 0) (.slice none 0 0) (.slice none 0 0) (.slice none 0 0) := ⟨.inl ⟨_, rfl, rfl⟩, .inl ⟨_, rfl, rfl⟩, .inl ⟨_, rfl, rfl⟩, .inl ⟨_, rfl, rfl⟩⟩
theorem OpenAt.none (A : Nat → Prop) (w : World) : OpenAt A w openNone (.slice none 0 0) (.slice none 0 0) (.slice none 0 0) := ⟨.inl ⟨_, rfl, rfl⟩, .inl ⟨_, rfl, rfl⟩, .inl ⟨_, rfl, rfl⟩⟩

theorem keeps_setMany {A : Nat → Prop} {b : Nat} (hb : ¬ A b) : ∀ (l : List (Nat × Value)) {a w : World}, Keeps A a w → Keeps A a (l.foldl (fun W p => W.setCell ⟨b, p.1, none⟩ p.2) w)
  | [], _, _, h => h
  | p :: l, _, _, h => keeps_setMany hb l (h.setCell (p := ⟨b, p.1, none⟩) hb p.2)
theorem below_setMany {b B : Nat} (hb : B ≤ b) : ∀ (l : List (Nat × Value)) {a w : World}, Below B a w → Below B a (l.foldl (fun W p => W.setCell ⟨b, p.1, none⟩ p.2) w)
  | [], _, _, h => h
  | p :: l, _, _, h => below_setMany hb l (h.setCell (p := ⟨b, p.1, none⟩) hb p.2)
theorem row_ne {w : World} {a b : Nat} {c c' : Array Value} {e e' : TypeId} {z z' : Nat × Nat} (h : w.heap[a]? = some (.cells c e z)) (h' : w.heap[b]? = some (.cells c' e' z')) (he : e ≠ e') : a ≠ b := by
  intro hab
  subst hab
  rw [h] at h'
  simp only [Option.some.injEq, Obj.cells.injEq] at h'
  exact he h'.2.1
theorem FC.rebase {w : World} {bm ba B B' : Nat} {m : MachD} {v : MV} {L : List ActD} (h : FC w bm ba B m v L) (h1 : B' ≤ B) (h2 : bm < B') (h3 : ba < B') : FC w bm ba B' m v L := by
  obtain ⟨a, ⟨_, oa, oc, hr, ho⟩, _, hne, hb⟩ := h
  exact ⟨a, ⟨h3, oa, oc, hr, ho.mono h1⟩, h2, hne, Nat.le_trans h1 hb⟩
theorem Ow.ne {τ : Type} {B b : Nat} {w : World} {e e' : TypeId} {sz : Nat} {enc : τ → List Value} {v : Value} {l : List τ} {c : Array Value} {z : Nat × Nat} (h : Ow B w e sz enc v l) (hb : w.heap[b]? = some (.cells c e' z)) (he : e ≠ e') :
    ∀ k, v.ownBlock = some k → k ≠ b := by
  intro k hk
  obtain ⟨_, ⟨rfl, _⟩ | ⟨g, cap, cur, rfl, _, hg, _⟩⟩ := h
  · simp [Value.ownBlock] at hk
  · simp only [Value.ownBlock, Option.some.injEq] at hk
    subst hk
    exact row_ne hg hb he
theorem row_keepMany {bm b : Nat} {o : Obj} : ∀ (l : List (Nat × Value)) {w : World}, w.heap[b]? = some o → b ≠ bm → (l.foldl (fun W p => W.setCell ⟨bm, p.1, none⟩ p.2) w).heap[b]? = some o
  | [], _, h, _ => h
  | p :: l, _, h, hb => row_keepMany l (row_setOther (p := ⟨bm, p.1, none⟩) (u := p.2) h hb) hb
/-- The block of the acts' row. -/
def actsBlk (w : World) (ba : Nat) : Option Nat := (w.cell? ⟨ba, 0, none⟩).bind Value.ownBlock

theorem agD_ok {m t : OpenD} (h : agE m t = 0) : checkD m = true ∧ checkD t = true ∧ agD m t = agreeD m t := by
  unfold agE at h
  split at h
  · rename_i hc
    simp only [Bool.and_eq_true] at hc
    exact ⟨hc.1, hc.2, by unfold agD; rw [if_pos (by simp [hc.1, hc.2])]⟩
  · simp at h
theorem agD_hold {m t : OpenD} (h : agE m t = 0) : (agD m t).hold ≤ 65535 := by
  obtain ⟨h1, _, h3⟩ := agD_ok h
  rw [h3]
  have : m.hold ≤ 65535 := by simp [checkD] at h1; simp [h1]
  simp only [agreeD]; omega
def openedL (h : Int) : List ActD := [actK 4] ++ if 0 < h then [actA 2 h, actA 3 (max 1 (h / 3))] else [actC 2]
/-- What an open in OpenSent makes of a machine. -/
def openedD (m : MachD) (o : OpenD) : MachD × List ActD :=
  if (acceptD o m.asn m.mine.id).act = 3 then (endM m, endL m (acceptD o m.asn m.mine.id).code (acceptD o m.asn m.mine.id).sub false)
  else if agE m.mine o ≠ 0 then (endM m, endL m 2 0 false)
  else if (agD m.mine o).fams = [] then (endM m, endL m 2 7 false)
  else ({ m with state := 5, ses := agD m.mine o, theirs := o }, openedL (agD m.mine o).hold)

set_option maxRecDepth 100000 in
set_option maxHeartbeats 4000000 in
theorem f_opened {w : World} {bm ba base : Nat} {m : MachD} {v : MV} (h : FC w bm ba base m v []) (hnil : w.cell? ⟨ba, 0, none⟩ = some (.slice none 0 0)) {o : OpenD} {qf qa qk : Value} (hA : ∀ k, B k → Out bm ba w.heap.size k)
    (hm : OpenAt A w m.mine v.mf v.ma v.mq) (ho : OpenAt B w o qf qa qk) (hl : o.fams.length * 8 ≤ 140737488355328) (hl2 : o.adds.length * 16 ≤ 140737488355328) (hl3 : o.kept.length * 16 ≤ 140737488355328) :
    Calls Try.prog 75 #[.pointer (some ⟨bm, 0, none⟩), .pointer (some ⟨ba, 0, none⟩), openV o qf qa qk] w fun e w' => e = .returned (.tuple #[]) ∧
      ∃ (v' : MV) (A2 : Nat → Prop), FC w' bm ba base (openedD m o).1 v' (openedD m o).2 ∧ Keeps (Out bm ba base) w w' ∧ (∀ k, A2 k → w.heap.size ≤ k ∧ k < w'.heap.size) ∧ (∀ k, actsBlk w' ba = some k → ¬ A2 k) ∧
        v'.mf = v.mf ∧ v'.ma = v.ma ∧ v'.mq = v.mq ∧ SesAt A2 w' (openedD m o).1.ses v'.sf v'.ss v'.st v'.sk ∧ OpenAt A2 w' (openedD m o).1.theirs v'.tf v'.ta v'.tk := by
  have H := Lib.hid h
  have HM := Lib.hid hm
  have HO := Lib.hid ho
  have HL := Lib.hid (And.intro hl (And.intro hl2 hl3))
  have HNIL := Lib.hid hnil
  have HAA := Lib.hid hA
  clear hnil hA
  have hbz := (Array.getElem?_eq_some_iff.1 h.mach).1
  have c0 := row_cell h.mach
  have hbb := h.hb
  clear h hm ho hl hl2 hl3
  unfold openV
  go_enter Try.func75, Try.ntmps75
  go_upto_region 1 with fail
  go_cut [6] (fun v6 wx => ∃ b6, v6 = .pointer (some ⟨b6, 0, none⟩) ∧ wx.heap[b6]? = some (.cells #[.int .i64 (acceptD o m.asn m.mine.id).act, .int .u8 (acceptD o m.asn m.mine.id).code, .int .u8 (acceptD o m.asn m.mine.id).sub] 44 (0, 0)) ∧ w.heap.size < b6 ∧
      Below w.heap.size w wx ∧ wx.heap[w.heap.size]? = some (.cells (openCells o qf qa qk) 32 (0, 0)))
  case first =>
    refine wp_region_K2 [] (fun W => Below w.heap.size w W ∧ W.heap[w.heap.size]? = some (.cells (openCells o qf qa qk) 32 (0, 0))) (fun _ => True) rfl ⟨((Below.refl _ _).alloc (Nat.le_refl _) _).drew, heap_new1 _ _ _ rfl⟩ trivial (fun hS0 _ => ?_)
    have HS0 := Lib.hid hS0
    clear hS0
    refine wpAnyK_take 0 (v := .agg (openCells o qf qa qk)) rfl (by kernel_rfl) (fun _ _ _ h => h) (.inl ⟨by rfl, fun W hS => ?_⟩) HS0.out ?_
    · obtain ⟨hb, hr⟩ := hS; have k0 := row_cell hr; obtain ⟨kc, _⟩ := bcell hb; clear hb hr; go_simp
    refine wpAnyK_take 1 (v := ?_) rfl (by kernel_rfl) (fun _ _ _ h => h) (.inl ⟨by rfl, ?_⟩) HS0.out ?_
    rotate_left
    · intro w hS; clear hS; go_simp; with_reducible rfl
    refine wpAnyK_take 2 (v := ?_) rfl (by kernel_rfl) (fun _ _ _ h => h) (.inl ⟨by rfl, ?_⟩) HS0.out ?_
    rotate_left
    · intro w hS; clear hS; go_simp; with_reducible rfl
    refine wpAnyK_take 3 (v := ?_) rfl (by kernel_rfl) (fun _ _ _ h => h) (.inl ⟨by rfl, ?_⟩) HS0.out ?_
    rotate_left
    · intro w hS; clear hS; go_simp; with_reducible rfl
    refine wpAnyK_take 4 (v := ?_) rfl (by kernel_rfl) (fun _ _ _ h => h) (.inl ⟨by rfl, ?_⟩) HS0.out ?_
    rotate_left
    · intro w hS; clear hS; go_simp; with_reducible rfl
    refine wpAnyK_take 5 (v := .int .u32 m.asn) rfl (by kernel_rfl) (fun _ _ _ h => h) (.inl ⟨by rfl, fun W hS => ?_⟩) HS0.out ?_
    · obtain ⟨hb, hr⟩ := hS; have k0 := row_cell hr; obtain ⟨kc, _⟩ := bcell hb; clear hb hr; go_simp
    refine wpAnyK_take 6 (v := ?_) rfl (by kernel_rfl) (fun _ _ _ h => h) (.inl ⟨by rfl, ?_⟩) HS0.out ?_
    rotate_left
    · intro w hS; clear hS; go_simp; with_reducible rfl
    refine wpAnyK_take 7 (v := ?_) rfl (by kernel_rfl) (fun _ _ _ h => h) (.inl ⟨by rfl, ?_⟩) HS0.out ?_
    rotate_left
    · intro w hS; clear hS; go_simp; with_reducible rfl
    refine wpAnyK_take 8 (v := ?_) rfl (by kernel_rfl) (fun _ _ _ h => h) (.inl ⟨by rfl, ?_⟩) HS0.out ?_
    rotate_left
    · intro w hS; clear hS; go_simp; with_reducible rfl
    refine wpAnyK_take 9 (v := ?_) rfl (by kernel_rfl) (fun _ _ _ h => h) (.inl ⟨by rfl, ?_⟩) HS0.out ?_
    rotate_left
    · intro w hS; clear hS; go_simp; with_reducible rfl
    refine wpAnyK_take 10 (v := .int .u32 m.mine.id) rfl (by kernel_rfl) (fun _ _ _ h => h) (.inl ⟨by rfl, fun W hS => ?_⟩) HS0.out ?_
    · obtain ⟨hb, hr⟩ := hS; have k0 := row_cell hr; obtain ⟨kc, _⟩ := bcell hb; clear hb hr; go_simp
    refine wpAnyK_two 11 12 (by kernel_rfl) ?_ ?_
    · refine wpOp_wanted rfl (by rfl) (fun K' hK => ?_)
      go_wp2_with fail
      refine (c_Accept _ o qf qa qk m.asn m.mine.id).mono ?_
      rintro e w2 ⟨rfl, hb2⟩
      have B2 := Lib.hid (HS0.out.1.trans (hb2.mono (by simp)))
      have R2 := Lib.hid (below_row hb2 HS0.out.2)
      clear hb2
      go_wp2_with fail
      refine stillS ⟨B2.out, R2.out⟩ (fun _ => ?_)
      refine wpAnyK_one 12 (by kernel_rfl) rfl (by rfl) (fun K' hK => ?_)
      go_wp2_with fail
      refine stillS ⟨B2.out.alloc B2.out.size _, heap_old1 R2.out⟩ (fun _ => ?_)
      refine wpAnyK_one 13 (by kernel_rfl) rfl (by rfl) (fun K' hK => ?_)
      go_wp2_with fail
      refine stillS ⟨B2.out.alloc B2.out.size _, heap_old1 R2.out⟩ (fun _ => ?_)
      refine wpAnyK_done (by kernel_rfl) ?_
      go_wp2_with fail
      go_meet
      case rel => exact ⟨w2.heap.size, rfl, heap_new1 _ _ _ rfl, (Array.getElem?_eq_some_iff.1 R2.out).1, B2.out.alloc B2.out.size _, heap_old1 R2.out⟩
    · refine wpOp_wanted rfl (by rfl) (fun K' hK => ?_)
      go_wp2_with fail
      refine stillS ⟨HS0.out.1.alloc HS0.out.1.size _, heap_old1 HS0.out.2⟩ (fun hS1 => ?_)
      have HS1 := Lib.hid hS1
      clear hS1
      refine wpAnyK_one 11 (by kernel_rfl) rfl (by rfl) (fun K' hK => ?_)
      go_wp2_with fail
      refine (c_Accept _ o qf qa qk m.asn m.mine.id).mono ?_
      rintro e w2 ⟨rfl, hb2⟩
      have B2 := Lib.hid (HS1.out.1.trans (hb2.mono (by simp; omega)))
      have R2 := Lib.hid (below_row hb2 HS1.out.2)
      have hv := below_row hb2 (b := w.heap.size + 1) (o := .cells #[.int .i64 0, .int .u8 0, .int .u8 0] 44 (0, 0)) (heap_new1 _ _ _ (by simp))
      have V2 := Lib.hid hv
      have kv := row_cell hv
      have kf := row_free hv
      clear hb2 hv
      go_wp2_with fail
      refine stillS ⟨B2.out, R2.out⟩ (fun _ => ?_)
      refine wpAnyK_one 13 (by kernel_rfl) rfl (by rfl) (fun K' hK => ?_)
      go_wp2_with fail
      have V3 := Lib.hid (row_setMany [(0, .int .i64 (acceptD o m.asn m.mine.id).act), (1, .int .u8 (acceptD o m.asn m.mine.id).code), (2, .int .u8 (acceptD o m.asn m.mine.id).sub)] V2.out)
      have B3 := Lib.hid (((B2.out.setCell (p := ⟨w.heap.size + 1, 0, none⟩) (by simp) (.int .i64 (acceptD o m.asn m.mine.id).act)).setCell (p := ⟨w.heap.size + 1, 1, none⟩) (by simp) (.int .u8 (acceptD o m.asn m.mine.id).code)).setCell (p := ⟨w.heap.size + 1, 2, none⟩) (by simp) (.int .u8 (acceptD o m.asn m.mine.id).sub))
      have R3 := Lib.hid (row_setOther (p := ⟨w.heap.size + 1, 2, none⟩) (u := .int .u8 (acceptD o m.asn m.mine.id).sub) (row_setOther (p := ⟨w.heap.size + 1, 1, none⟩) (u := .int .u8 (acceptD o m.asn m.mine.id).code) (row_setOther (p := ⟨w.heap.size + 1, 0, none⟩) (u := .int .i64 (acceptD o m.asn m.mine.id).act) R2.out (by simp)) (by simp)) (by simp))
      refine stillS ⟨B3.out, R3.out⟩ (fun _ => ?_)
      refine wpAnyK_done (by kernel_rfl) ?_
      go_wp2_with fail
      go_meet
      case rel => exact ⟨w.heap.size + 1, rfl, V3.out, by omega, B3.out, R3.out⟩
  case rest =>
    obtain ⟨b6, rfl, hv6, hb6, hbel, hrow⟩ := hcut
    obtain ⟨w6, hw6⟩ : ∃ x, x = wc := ⟨wc, rfl⟩
    subst hw6
    have V6 := Lib.hid hv6
    have B6 := Lib.hid hbel
    have R6 := Lib.hid hrow
    have H6 := Lib.hid (H.out.below hbel)
    have c6 := row_cell hv6
    have hbz6 := (Array.getElem?_eq_some_iff.1 hv6).1
    clear hv6 hbel hrow c0
    by_cases hact : (acceptD o m.asn m.mine.id).act = 3
    · have HD := Lib.hid (show openedD m o = (endM m, endL m (acceptD o m.asn m.mine.id).code (acceptD o m.asn m.mine.id).sub false) from if_pos hact)
      have HE := Lib.hid hact
      have hab : ((acceptD o m.asn m.mine.id).act == 3) = true := by simpa using hact
      clear hact
      go_wp2_with fail
      refine (f_end H6.out (by simp) (acceptD o m.asn m.mine.id).act (acceptD o m.asn m.mine.id).code (acceptD o m.asn m.mine.id).sub false).mono ?_
      rintro e w7 ⟨rfl, h7, k7⟩
      have H7 := Lib.hid h7
      have K7 := Lib.hid ((Keeps.of_below B6.out).trans k7)
      clear h7 k7
      go_wp2
      refine bodyPost_ret (results_none rfl _ _ _) rfl ?_
      refine ⟨rfl, endV v, fun _ => False, ?_, K7.out, fun k hk => hk.elim, fun _ _ h => h, rfl, rfl, rfl, ?_, ?_⟩
      · rw [HD.out]; exact H7.out
      · rw [HD.out]; exact SesAt.none _ _
      · rw [HD.out]; exact OpenAt.none _ _
    · have HACT := Lib.hid hact
      have hab : ((acceptD o m.asn m.mine.id).act == 3) = false := by simpa using hact
      have cm := row_cell H6.out.mach
      have co := row_cell R6.out
      have hbm := (Array.getElem?_eq_some_iff.1 H6.out.mach).1
      have hbo := (Array.getElem?_eq_some_iff.1 R6.out).1
      clear hact
      go_upto_region 4 with fail
      go_cut [7, 8] (fun v7 v8 W => ∃ b7 fa fc sa sc ra rc ka kc, v7 = .pointer (some ⟨b7, 0, none⟩) ∧ v8 = .int .i64 (agE m.mine o) ∧ W.heap[b7]? = some (.cells (sesCells (agD m.mine o) (.slice fa (agD m.mine o).fams.length fc) (.slice sa (agD m.mine o).send.length sc) (.slice ra (agD m.mine o).take.length rc) (.slice ka (agD m.mine o).kept.length kc)) 54 (0, 0)) ∧
          Ow w6.heap.size W 3 1 cI (.slice fa (agD m.mine o).fams.length fc) (agD m.mine o).fams ∧ Ow w6.heap.size W 3 1 cI (.slice sa (agD m.mine o).send.length sc) (agD m.mine o).send ∧ Ow w6.heap.size W 3 1 cI (.slice ra (agD m.mine o).take.length rc) (agD m.mine o).take ∧ Ow w6.heap.size W 108 2 cR (.slice ka (agD m.mine o).kept.length kc) (agD m.mine o).kept ∧ Below w6.heap.size w6 W)
      case first =>
        refine wp_region_K2 [] (fun W => Below w6.heap.size w6 W) (fun _ => True) rfl (Below.refl _ _).drew trivial (fun hS0 _ => ?_)
        have HS0 := Lib.hid hS0
        clear hS0 c6
        refine wpAnyK_take 0 (v := ?_) rfl (by kernel_rfl) (fun _ _ _ h => h) (.inl ⟨by rfl, ?_⟩) HS0.out ?_
        rotate_left
        · intro w hS; clear hS; go_simp; with_reducible rfl
        refine wpAnyK_take 1 (v := ?_) rfl (by kernel_rfl) (fun _ _ _ h => h) (.inl ⟨by rfl, ?_⟩) HS0.out ?_
        rotate_left
        · intro w hS; clear hS; go_simp; with_reducible rfl
        refine wpAnyK_take 2 (v := ?_) rfl (by kernel_rfl) (fun _ _ _ h => h) (.inl ⟨by rfl, ?_⟩) HS0.out ?_
        rotate_left
        · intro w hS; clear hS; go_simp; with_reducible rfl
        refine wpAnyK_take 3 (v := .agg (openCells m.mine v.mf v.ma v.mq)) rfl (by kernel_rfl) (fun _ _ _ h => h) (.inl ⟨by rfl, fun W hS => ?_⟩) HS0.out ?_
        · obtain ⟨kc, _⟩ := bcell hS; clear hS; go_simp
        refine wpAnyK_take 4 (v := .agg (openCells o qf qa qk)) rfl (by kernel_rfl) (fun _ _ _ h => h) (.inl ⟨by rfl, fun W hS => ?_⟩) HS0.out ?_
        · obtain ⟨kc, _⟩ := bcell hS; clear hS; go_simp
        refine wpAnyK_two 5 9 (by kernel_rfl) ?_ ?_
        · refine wpOp_wanted rfl (by rfl) (fun K' hK => ?_)
          go_wp2_with fail
          refine (c_Agree (A := fun k => A k ∨ B k) ((HM.out.below (B6.out.trans (HS0.out.mono B6.out.size))).mono (fun _ h => .inl h)) ((HO.out.below (B6.out.trans (HS0.out.mono B6.out.size))).mono (fun _ h => .inr h))).mono ?_
          rintro e w8 ⟨fa, fc, sa, sc, ra, rc, ka, kc, rfl, o1, o2, o3, o4, hb8⟩
          have OO := Lib.hid (And.intro o1 (And.intro o2 (And.intro o3 o4)))
          have B8 := Lib.hid (HS0.out.trans (hb8.mono (Nat.le_refl _)))
          clear o1 o2 o3 o4 hb8
          go_wp2_with fail
          refine stillS B8.out (fun _ => ?_)
          refine wpAnyK_take 6 (v := ?_) rfl (by kernel_rfl) (fun _ _ _ h => h) (.inl ⟨by rfl, ?_⟩) B8.out ?_
          rotate_left
          · intro w hS; clear hS; go_simp; with_reducible rfl
          refine wpAnyK_take 7 (v := ?_) rfl (by kernel_rfl) (fun _ _ _ h => h) (.inl ⟨by rfl, ?_⟩) B8.out ?_
          rotate_left
          · intro w hS; clear hS; go_simp; with_reducible rfl
          refine wpAnyK_take 8 (v := ?_) rfl (by kernel_rfl) (fun _ _ _ h => h) (.inl ⟨by rfl, ?_⟩) B8.out ?_
          rotate_left
          · intro w hS; clear hS; go_simp; with_reducible rfl
          refine wpAnyK_one 9 (by kernel_rfl) rfl (by rfl) (fun K' hK => ?_)
          go_wp2_with fail
          refine stillS (B8.out.alloc B8.out.size _) (fun _ => ?_)
          refine wpAnyK_one 10 (by kernel_rfl) rfl (by rfl) (fun K' hK => ?_)
          go_wp2_with fail
          refine stillS (B8.out.alloc B8.out.size _) (fun _ => ?_)
          refine wpAnyK_one 11 (by kernel_rfl) rfl (by rfl) (fun K' hK => ?_)
          go_wp2_with fail
          refine stillS (B8.out.alloc B8.out.size _) (fun _ => ?_)
          refine wpAnyK_done (by kernel_rfl) ?_
          go_wp2_with fail
          go_meet
          case rel =>
            exact ⟨w8.heap.size, fa, fc, sa, sc, ra, rc, ka, kc, rfl, rfl, heap_new1 _ _ _ rfl, (OO.out.1.below ((Below.refl _ _).alloc (Nat.le_refl _) _)).mono (by simp), (OO.out.2.1.below ((Below.refl _ _).alloc (Nat.le_refl _) _)).mono (by simp), (OO.out.2.2.1.below ((Below.refl _ _).alloc (Nat.le_refl _) _)).mono (by simp), (OO.out.2.2.2.below ((Below.refl _ _).alloc (Nat.le_refl _) _)).mono (by simp), B8.out.alloc B8.out.size _⟩
        · refine wpOp_wanted rfl (by rfl) (fun K' hK => ?_)
          go_wp2_with fail
          refine stillS (HS0.out.alloc HS0.out.size _) (fun hS1 => ?_)
          have HS1 := Lib.hid hS1
          clear hS1
          refine wpAnyK_one 5 (by kernel_rfl) rfl (by rfl) (fun K' hK => ?_)
          go_wp2_with fail
          refine (c_Agree (A := fun k => A k ∨ B k) ((HM.out.below (B6.out.trans (HS1.out.mono B6.out.size))).mono (fun _ h => .inl h)) ((HO.out.below (B6.out.trans (HS1.out.mono B6.out.size))).mono (fun _ h => .inr h))).mono ?_
          rintro e w8 ⟨fa, fc, sa, sc, ra, rc, ka, kc, rfl, o1, o2, o3, o4, hb8⟩
          have B8 := Lib.hid (HS1.out.trans (hb8.mono (by simp)))
          have hv := below_row hb8 (b := w6.heap.size) (o := .cells sesZero 54 (0, 0)) (heap_new1 _ _ _ (by simp))
          have V8 := Lib.hid hv
          have OO := Lib.hid (And.intro o1 (And.intro o2 (And.intro o3 o4)))
          have kv := row_cell hv
          have kf := row_free hv
          clear o1 o2 o3 o4 hb8 hv
          go_wp2_with fail
          refine stillS B8.out (fun _ => ?_)
          refine wpAnyK_take 6 (v := ?_) rfl (by kernel_rfl) (fun _ _ _ h => h) (.inl ⟨by rfl, ?_⟩) B8.out ?_
          rotate_left
          · intro w hS; clear hS; go_simp; with_reducible rfl
          refine wpAnyK_take 7 (v := ?_) rfl (by kernel_rfl) (fun _ _ _ h => h) (.inl ⟨by rfl, ?_⟩) B8.out ?_
          rotate_left
          · intro w hS; clear hS; go_simp; with_reducible rfl
          refine wpAnyK_take 8 (v := ?_) rfl (by kernel_rfl) (fun _ _ _ h => h) (.inl ⟨by rfl, ?_⟩) B8.out ?_
          rotate_left
          · intro w hS; clear hS; go_simp; with_reducible rfl
          refine wpAnyK_one 10 (by kernel_rfl) rfl (by rfl) (fun K' hK => ?_)
          go_wp2_with fail
          have hv9 := row_setMany [(0, .int .i64 (agD m.mine o).hold), (1, .slice fa (agD m.mine o).fams.length fc), (2, .bool (agD m.mine o).four), (3, .bool (agD m.mine o).refresh), (4, .slice sa (agD m.mine o).send.length sc), (5, .slice ra (agD m.mine o).take.length rc), (6, .bool (agD m.mine o).hasGR), (7, .bool (agD m.mine o).again), (8, .int .i64 (agD m.mine o).time), (9, .slice ka (agD m.mine o).kept.length kc)] V8.out
          have hk9 : Keeps (fun b => b ≠ w6.heap.size) w8 _ := keeps_setMany (b := w6.heap.size) (A := fun b => b ≠ w6.heap.size) (by simp) [(0, .int .i64 (agD m.mine o).hold), (1, .slice fa (agD m.mine o).fams.length fc), (2, .bool (agD m.mine o).four), (3, .bool (agD m.mine o).refresh), (4, .slice sa (agD m.mine o).send.length sc), (5, .slice ra (agD m.mine o).take.length rc), (6, .bool (agD m.mine o).hasGR), (7, .bool (agD m.mine o).again), (8, .int .i64 (agD m.mine o).time), (9, .slice ka (agD m.mine o).kept.length kc)] (Keeps.refl _ _)
          have hb9 := below_setMany (b := w6.heap.size) (Nat.le_refl _) [(0, .int .i64 (agD m.mine o).hold), (1, .slice fa (agD m.mine o).fams.length fc), (2, .bool (agD m.mine o).four), (3, .bool (agD m.mine o).refresh), (4, .slice sa (agD m.mine o).send.length sc), (5, .slice ra (agD m.mine o).take.length rc), (6, .bool (agD m.mine o).hasGR), (7, .bool (agD m.mine o).again), (8, .int .i64 (agD m.mine o).time), (9, .slice ka (agD m.mine o).kept.length kc)] B8.out
          simp only [List.foldl_cons, List.foldl_nil] at hv9 hk9 hb9
          have he9 : (((((((((((sesZero.setIfInBounds 0 (.int .i64 (agD m.mine o).hold)).setIfInBounds 1 (.slice fa (agD m.mine o).fams.length fc)).setIfInBounds 2 (.bool (agD m.mine o).four)).setIfInBounds 3 (.bool (agD m.mine o).refresh)).setIfInBounds 4 (.slice sa (agD m.mine o).send.length sc)).setIfInBounds 5 (.slice ra (agD m.mine o).take.length rc)).setIfInBounds 6 (.bool (agD m.mine o).hasGR)).setIfInBounds 7 (.bool (agD m.mine o).again)).setIfInBounds 8 (.int .i64 (agD m.mine o).time)).setIfInBounds 9 (.slice ka (agD m.mine o).kept.length kc))) = sesCells (agD m.mine o) (.slice fa (agD m.mine o).fams.length fc) (.slice sa (agD m.mine o).send.length sc) (.slice ra (agD m.mine o).take.length rc) (.slice ka (agD m.mine o).kept.length kc) := by simp
          rw [he9] at hv9
          have V9 := Lib.hid hv9
          have HK := Lib.hid hk9
          have B9 := Lib.hid hb9
          clear hv9 hk9 hb9 he9
          refine stillS B9.out (fun _ => ?_)
          refine wpAnyK_one 11 (by kernel_rfl) rfl (by rfl) (fun K' hK => ?_)
          go_wp2_with fail
          refine stillS B9.out (fun _ => ?_)
          refine wpAnyK_done (by kernel_rfl) ?_
          go_wp2_with fail
          go_meet
          case rel =>
            exact ⟨w6.heap.size, fa, fc, sa, sc, ra, rc, ka, kc, rfl, rfl, V9.out, (OO.out.1.keeps HK.out (fun b hb => by have := Ow.lt OO.out.1 b hb; simp at this; omega)).mono (by simp), (OO.out.2.1.keeps HK.out (fun b hb => by have := Ow.lt OO.out.2.1 b hb; simp at this; omega)).mono (by simp), (OO.out.2.2.1.keeps HK.out (fun b hb => by have := Ow.lt OO.out.2.2.1 b hb; simp at this; omega)).mono (by simp), (OO.out.2.2.2.keeps HK.out (fun b hb => by have := Ow.lt OO.out.2.2.2 b hb; simp at this; omega)).mono (by simp), B9.out⟩
      case rest =>
        obtain ⟨b7, fa, fc, sa, sc, ra, rc, ka, kc, rfl, rfl, hv7, o1, o2, o3, o4, hb7⟩ := hcut
        have V7 := Lib.hid hv7
        have O1 := Lib.hid o1
        have O2 := Lib.hid o2
        have O3 := Lib.hid o3
        have O4 := Lib.hid o4
        have B7 := Lib.hid hb7
        have H7 := Lib.hid (H6.out.below hb7)
        have R7 := Lib.hid (below_row hb7 R6.out)
        have c7 := row_cell hv7
        have hz7 := hb7.size
        clear hv7 o1 o2 o3 o4 hb7 c6 cm co
        by_cases hag : agE m.mine o = 0
        · have HAG := Lib.hid hag
          have hab2 : (agE m.mine o != 0) = false := by simpa using hag
          clear hag
          by_cases hfl : (agD m.mine o).fams = []
          · have HFL := Lib.hid hfl
            have HD := Lib.hid (show openedD m o = (endM m, endL m 2 7 false) by unfold openedD; rw [if_neg HACT.out, if_neg (by simpa using HAG.out), if_pos hfl])
            have hlen : (agD m.mine o).fams.length = 0 := by rw [hfl]; rfl
            clear hfl
            go_wp2_with (go_at_call 31; refine (c_code 2 7 _).mono ?_; rintro e w8 ⟨rfl, hb8⟩; have H8 := Lib.hid (H7.out.below hb8); have B8 := Lib.hid (B7.out.trans (hb8.mono B7.out.size)); clear hb8 hlen c7)
            refine (f_end H8.out (by simp) 0 2 7 false).mono ?_
            rintro e w9 ⟨rfl, h9, k9⟩
            have H9 := Lib.hid h9
            have K9 := Lib.hid ((Keeps.of_below (B6.out.trans (B8.out.mono B6.out.size))).trans k9)
            clear h9 k9
            go_wp2
            refine bodyPost_ret (results_none rfl _ _ _) rfl ?_
            refine ⟨rfl, endV v, fun _ => False, ?_, K9.out, fun k hk => hk.elim, fun _ _ h => h, rfl, rfl, rfl, ?_, ?_⟩
            · rw [HD.out]; exact H9.out
            · rw [HD.out]; exact SesAt.none _ _
            · rw [HD.out]; exact OpenAt.none _ _
          · have HFL := Lib.hid hfl
            have HD := Lib.hid (show openedD m o = ({ m with state := 5, ses := agD m.mine o, theirs := o }, openedL (agD m.mine o).hold) by unfold openedD; rw [if_neg HACT.out, if_neg (by simpa using HAG.out), if_neg hfl])
            have hlen : (((agD m.mine o).fams.length : Int) == 0) = false := by
              have : (agD m.mine o).fams.length ≠ 0 := fun h => hfl (List.eq_nil_of_length_eq_zero h)
              simp [hfl]
            clear hfl
            have hlt7 : ba < wc.heap.size := by obtain ⟨_, _, _, hr, _⟩ := H7.out.acts; exact (Array.getElem?_eq_some_iff.1 hr).1
            have hn7 : wc.cell? ⟨ba, 0, none⟩ = some (.slice none 0 0) := by
              rw [B7.out.cell (p := ⟨ba, 0, none⟩) (by obtain ⟨_, _, _, hr, _⟩ := H6.out.acts; exact (Array.getElem?_eq_some_iff.1 hr).1), B6.out.cell (p := ⟨ba, 0, none⟩) (World.block_lt_of_cell? w _ HNIL.out)]
              exact HNIL.out
            have G7 := Lib.hid (show FC wc bm ba wc.heap.size m v [] from ⟨H7.out.mach, by
              obtain ⟨_, oa, oc, hr, ho⟩ := H7.out.acts
              have h1 := row_cell hr 0
              rw [hn7] at h1
              simp at h1
              obtain ⟨rfl, rfl⟩ := h1
              exact ⟨hlt7, none, 0, hr, World.ownsRow_nil _ _ _ _⟩, (Array.getElem?_eq_some_iff.1 H7.out.mach).1, H7.out.ne, Nat.le_refl _⟩)
            have hb7 : Out bm ba wc.heap.size b7 := ⟨(Array.getElem?_eq_some_iff.1 V7.out).1, by obtain ⟨_, oa, oc, hr, ho⟩ := H7.out.acts; exact row_ne V7.out hr (by decide), row_ne V7.out H7.out.mach (by decide)⟩
            have hbo : Out bm ba wc.heap.size w.heap.size := ⟨(Array.getElem?_eq_some_iff.1 R7.out).1, by obtain ⟨_, oa, oc, hr, ho⟩ := H7.out.acts; exact row_ne R7.out hr (by decide), row_ne R7.out H7.out.mach (by decide)⟩
            have HB7 := Lib.hid hb7
            have HBO := Lib.hid hbo
            clear hn7 hb7 hbo
            go_wp2_with fail
            refine (f_do G7.out (by simp) 4).mono ?_
            rintro e w8 ⟨rfl, h8, k8⟩
            have H8 := Lib.hid h8
            have K8 := Lib.hid k8
            have c8 := row_cell ((k8.block b7 HB7.out.1 HB7.out).trans V7.out)
            clear h8 k8 c7 hlen
            go_upto_if 57 with fail
            go_cut [] (fun W => FC W bm ba wc.heap.size m v (openedL (agD m.mine o).hold) ∧ Keeps (Out bm ba wc.heap.size) wc W)
            case first =>
              by_cases hh : 0 < (agD m.mine o).hold
              · have HH := Lib.hid hh
                have hh2 := agD_hold HAG.out
                go_wp2_with fail
                refine (f_arm H8.out (by simp) 2 (agD m.mine o).hold).mono ?_
                rintro e w9 ⟨rfl, h9, k9⟩
                have H9 := Lib.hid h9
                have K9 := Lib.hid (K8.out.trans k9)
                clear h9 k9
                have c9 := row_cell ((K9.out.block b7 HB7.out.1 HB7.out).trans V7.out)
                clear c8
                go_wp2_with fail
                refine (f_arm H9.out (by simp) 3 (max 1 ((agD m.mine o).hold / 3))).mono ?_
                rintro e w10 ⟨rfl, h10, k10⟩
                have H10 := Lib.hid h10
                have K10 := Lib.hid (K9.out.trans k10)
                clear h10 k10 c9
                go_wp2_with fail
                go_meet
                case rel => exact ⟨by have := H10.out; simpa [openedL, HH.out] using this, K10.out⟩
              · have HH := Lib.hid hh
                go_wp2_with fail
                refine (f_cancel H8.out (by simp) 2).mono ?_
                rintro e w9 ⟨rfl, h9, k9⟩
                have H9 := Lib.hid h9
                have K9 := Lib.hid (K8.out.trans k9)
                clear h9 k9 c8
                go_wp2_with fail
                go_meet
                case rel => rw [show openedL (agD m.mine o).hold = [] ++ [actK 4] ++ [actC 2] by unfold openedL; rw [if_neg (by have := HH.out; omega)]; rfl]; exact ⟨H9.out, K9.out⟩
            case rest =>
              obtain ⟨hf, hk⟩ := hcut
              obtain ⟨w7, hw7⟩ : ∃ x, x = wc := ⟨wc, rfl⟩
              subst hw7
              have HF := Lib.hid hf
              have HK := Lib.hid hk
              have hv := (hk.block b7 HB7.out.1 HB7.out).trans V7.out
              have hr := (hk.block w.heap.size HBO.out.1 HBO.out).trans R7.out
              have HV := Lib.hid hv
              have HR := Lib.hid hr
              obtain ⟨hba, oax, ocx, hrx, hox⟩ := H7.out.acts
              have hrx' := Lib.hid hrx
              have P1 := Lib.hid (O1.out.keeps hk (fun b hb => ⟨(Ow.lt O1.out b hb).2, O1.out.ne hrx (by decide) b hb, O1.out.ne H7.out.mach (by decide) b hb⟩))
              have P2 := Lib.hid (O2.out.keeps hk (fun b hb => ⟨(Ow.lt O2.out b hb).2, O2.out.ne hrx (by decide) b hb, O2.out.ne H7.out.mach (by decide) b hb⟩))
              have P3 := Lib.hid (O3.out.keeps hk (fun b hb => ⟨(Ow.lt O3.out b hb).2, O3.out.ne hrx (by decide) b hb, O3.out.ne H7.out.mach (by decide) b hb⟩))
              have P4 := Lib.hid (O4.out.keeps hk (fun b hb => ⟨(Ow.lt O4.out b hb).2, O4.out.ne hrx (by decide) b hb, O4.out.ne H7.out.mach (by decide) b hb⟩))
              clear hf hk hv hr hrx hox
              go_wp2_with fail
              refine wp_region_K2 [] (fun W => W.heap[b7]? = some (.cells (sesCells (agD m.mine o) (.slice fa (agD m.mine o).fams.length fc) (.slice sa (agD m.mine o).send.length sc) (.slice ra (agD m.mine o).take.length rc) (.slice ka (agD m.mine o).kept.length kc)) 54 (0, 0)) ∧ W.heap[w.heap.size]? = some (.cells (openCells o qf qa qk) 32 (0, 0))) (fun _ => True) rfl ⟨HV.out, HR.out⟩ trivial (fun hS0 _ => ?_)
              have HS0 := Lib.hid hS0
              clear hS0
              refine wpAnyK_take 0 (v := ?_) rfl (by kernel_rfl) (fun _ _ _ h => h) (.inl ⟨by rfl, ?_⟩) HS0.out ?_
              rotate_left
              · intro w hS; clear hS; go_simp; with_reducible rfl
              refine wpAnyK_take 1 (v := ?_) rfl (by kernel_rfl) (fun _ _ _ h => h) (.inl ⟨by rfl, ?_⟩) HS0.out ?_
              rotate_left
              · intro w hS; clear hS; go_simp; with_reducible rfl
              refine wpAnyK_take 2 (v := ?_) rfl (by kernel_rfl) (fun _ _ _ h => h) (.inl ⟨by rfl, ?_⟩) HS0.out ?_
              rotate_left
              · intro w hS; clear hS; go_simp; with_reducible rfl
              refine wpAnyK_take 3 (v := .agg (sesCells (agD m.mine o) (.slice fa (agD m.mine o).fams.length fc) (.slice sa (agD m.mine o).send.length sc) (.slice ra (agD m.mine o).take.length rc) (.slice ka (agD m.mine o).kept.length kc))) rfl (by kernel_rfl) (fun _ _ _ h => h) (.inl ⟨by rfl, fun W hS => ?_⟩) HS0.out ?_
              · obtain ⟨hb, hr⟩ := hS; have k0 := row_cell hb; have k1 := row_cell hr; clear hb hr; go_simp
              refine wpAnyK_take 4 (v := .agg (openCells o qf qa qk)) rfl (by kernel_rfl) (fun _ _ _ h => h) (.inl ⟨by rfl, fun W hS => ?_⟩) HS0.out ?_
              · obtain ⟨hb, hr⟩ := hS; have k0 := row_cell hb; have k1 := row_cell hr; clear hb hr; go_simp
              refine wpAnyK_one 5 (by kernel_rfl) rfl (by rfl) (fun K' hK => ?_)
              go_wp2_with fail
              refine (c_own (A := B) (HO.out.below (B6.out.trans (B7.out.mono B6.out.size)) |>.keeps HK.out ?own1 |>.below (Below.refl _ _).drew) HL.out.1 HL.out.2.1 HL.out.2.2).mono ?_
              case own1 => exact fun k hk => ⟨by have h1 := (HAA.out k hk).1; have h2 := B6.out.size; have h3 := B7.out.size; omega, (HAA.out k hk).2⟩
              rintro e w8 ⟨xa, xc, ya, yc, za, zc, rfl, x1, x2, x3, hb8⟩
              have X := Lib.hid (And.intro x1 (And.intro x2 x3))
              have B8 := Lib.hid hb8
              clear x1 x2 x3
              have HS8 := Lib.hid (And.intro (below_row hb8 HS0.out.1) (below_row hb8 HS0.out.2))
              have F8 := Lib.hid ((HF.out.below (Below.refl _ _).drew).below hb8)
              have cm := row_cell F8.out.mach
              have fm := row_free F8.out.mach
              clear hb8
              go_wp2_with fail
              refine stillS HS8.out (fun _ => ?_)
              refine wpAnyK_take 6 (v := ?_) rfl (by kernel_rfl) (fun _ _ _ h => h) (.inl ⟨by rfl, ?_⟩) HS8.out ?_
              rotate_left
              · intro w hS; clear hS; go_simp; with_reducible rfl
              refine wpAnyK_take 7 (v := ?_) rfl (by kernel_rfl) (fun _ _ _ h => h) (.inl ⟨by rfl, ?_⟩) HS8.out ?_
              rotate_left
              · intro w hS; clear hS; go_simp; with_reducible rfl
              refine wpAnyK_one 8 (by kernel_rfl) rfl (by rfl) (fun K' hK => ?_)
              go_wp2_with fail
              have S9 := Lib.hid (show (_ ∧ _) from ⟨row_keepMany (bm := bm) [(35, .int .i64 5)] HS8.out.1 (row_ne HS8.out.1 F8.out.mach (by decide)), row_keepMany (bm := bm) [(35, .int .i64 5)] HS8.out.2 (row_ne HS8.out.2 F8.out.mach (by decide))⟩)
              refine stillS S9.out (fun _ => ?_)
              refine wpAnyK_take 9 (v := ?_) rfl (by kernel_rfl) (fun _ _ _ h => h) (.inl ⟨by rfl, ?_⟩) S9.out ?_
              rotate_left
              · intro w hS; clear hS; go_simp; with_reducible rfl
              refine wpAnyK_take 10 (v := ?_) rfl (by kernel_rfl) (fun _ _ _ h => h) (.inl ⟨by rfl, ?_⟩) S9.out ?_
              rotate_left
              · intro w hS; clear hS; go_simp; with_reducible rfl
              refine wpAnyK_one 11 (by kernel_rfl) rfl (by rfl) (fun K' hK => ?_)
              go_wp2_with fail
              have S10 := Lib.hid (show (_ ∧ _) from ⟨row_keepMany (bm := bm) [(35, .int .i64 5), (36, .int .i64 (agD m.mine o).hold), (37, .slice fa (agD m.mine o).fams.length fc), (38, .bool (agD m.mine o).four), (39, .bool (agD m.mine o).refresh), (40, .slice sa (agD m.mine o).send.length sc), (41, .slice ra (agD m.mine o).take.length rc), (42, .bool (agD m.mine o).hasGR), (43, .bool (agD m.mine o).again), (44, .int .i64 (agD m.mine o).time), (45, .slice ka (agD m.mine o).kept.length kc)] HS8.out.1 (row_ne HS8.out.1 F8.out.mach (by decide)), row_keepMany (bm := bm) [(35, .int .i64 5), (36, .int .i64 (agD m.mine o).hold), (37, .slice fa (agD m.mine o).fams.length fc), (38, .bool (agD m.mine o).four), (39, .bool (agD m.mine o).refresh), (40, .slice sa (agD m.mine o).send.length sc), (41, .slice ra (agD m.mine o).take.length rc), (42, .bool (agD m.mine o).hasGR), (43, .bool (agD m.mine o).again), (44, .int .i64 (agD m.mine o).time), (45, .slice ka (agD m.mine o).kept.length kc)] HS8.out.2 (row_ne HS8.out.2 F8.out.mach (by decide))⟩)
              refine stillS S10.out (fun _ => ?_)
              refine wpAnyK_take 12 (v := ?_) rfl (by kernel_rfl) (fun _ _ _ h => h) (.inl ⟨by rfl, ?_⟩) S10.out ?_
              rotate_left
              · intro w hS; clear hS; go_simp; with_reducible rfl
              refine wpAnyK_take 13 (v := ?_) rfl (by kernel_rfl) (fun _ _ _ h => h) (.inl ⟨by rfl, ?_⟩) S10.out ?_
              rotate_left
              · intro w hS; clear hS; go_simp; with_reducible rfl
              refine wpAnyK_one 14 (by kernel_rfl) rfl (by rfl) (fun K' hK => ?_)
              go_wp2_with fail
              have S11 := Lib.hid (show (_ ∧ _) from ⟨row_keepMany (bm := bm) [(35, .int .i64 5), (36, .int .i64 (agD m.mine o).hold), (37, .slice fa (agD m.mine o).fams.length fc), (38, .bool (agD m.mine o).four), (39, .bool (agD m.mine o).refresh), (40, .slice sa (agD m.mine o).send.length sc), (41, .slice ra (agD m.mine o).take.length rc), (42, .bool (agD m.mine o).hasGR), (43, .bool (agD m.mine o).again), (44, .int .i64 (agD m.mine o).time), (45, .slice ka (agD m.mine o).kept.length kc), (46, .int .u32 o.asn), (47, .int .i64 o.hold), (48, .int .u32 o.id), (49, .slice xa o.fams.length xc), (50, .bool o.four), (51, .bool o.refresh), (52, .slice ya o.adds.length yc), (53, .bool o.hasGR), (54, .bool o.again), (55, .int .i64 o.time), (56, .slice za o.kept.length zc)] HS8.out.1 (row_ne HS8.out.1 F8.out.mach (by decide)), row_keepMany (bm := bm) [(35, .int .i64 5), (36, .int .i64 (agD m.mine o).hold), (37, .slice fa (agD m.mine o).fams.length fc), (38, .bool (agD m.mine o).four), (39, .bool (agD m.mine o).refresh), (40, .slice sa (agD m.mine o).send.length sc), (41, .slice ra (agD m.mine o).take.length rc), (42, .bool (agD m.mine o).hasGR), (43, .bool (agD m.mine o).again), (44, .int .i64 (agD m.mine o).time), (45, .slice ka (agD m.mine o).kept.length kc), (46, .int .u32 o.asn), (47, .int .i64 o.hold), (48, .int .u32 o.id), (49, .slice xa o.fams.length xc), (50, .bool o.four), (51, .bool o.refresh), (52, .slice ya o.adds.length yc), (53, .bool o.hasGR), (54, .bool o.again), (55, .int .i64 o.time), (56, .slice za o.kept.length zc)] HS8.out.2 (row_ne HS8.out.2 F8.out.mach (by decide))⟩)
              refine stillS S11.out (fun _ => ?_)
              refine wpAnyK_done (by kernel_rfl) ?_
              go_wp2
              go_end0
              have hq := FR.setMany [(35, .int .i64 5), (36, .int .i64 (agD m.mine o).hold), (37, .slice fa (agD m.mine o).fams.length fc), (38, .bool (agD m.mine o).four), (39, .bool (agD m.mine o).refresh), (40, .slice sa (agD m.mine o).send.length sc), (41, .slice ra (agD m.mine o).take.length rc), (42, .bool (agD m.mine o).hasGR), (43, .bool (agD m.mine o).again), (44, .int .i64 (agD m.mine o).time), (45, .slice ka (agD m.mine o).kept.length kc), (46, .int .u32 o.asn), (47, .int .i64 o.hold), (48, .int .u32 o.id), (49, .slice xa o.fams.length xc), (50, .bool o.four), (51, .bool o.refresh), (52, .slice ya o.adds.length yc), (53, .bool o.hasGR), (54, .bool o.again), (55, .int .i64 o.time), (56, .slice za o.kept.length zc)] F8.out.raw
              have hkq : Keeps (fun b => b ≠ bm) w8 _ := keeps_setMany (b := bm) (A := fun b => b ≠ bm) (by simp) [(35, .int .i64 5), (36, .int .i64 (agD m.mine o).hold), (37, .slice fa (agD m.mine o).fams.length fc), (38, .bool (agD m.mine o).four), (39, .bool (agD m.mine o).refresh), (40, .slice sa (agD m.mine o).send.length sc), (41, .slice ra (agD m.mine o).take.length rc), (42, .bool (agD m.mine o).hasGR), (43, .bool (agD m.mine o).again), (44, .int .i64 (agD m.mine o).time), (45, .slice ka (agD m.mine o).kept.length kc), (46, .int .u32 o.asn), (47, .int .i64 o.hold), (48, .int .u32 o.id), (49, .slice xa o.fams.length xc), (50, .bool o.four), (51, .bool o.refresh), (52, .slice ya o.adds.length yc), (53, .bool o.hasGR), (54, .bool o.again), (55, .int .i64 o.time), (56, .slice za o.kept.length zc)] (Keeps.refl _ _)
              simp only [List.foldl_cons, List.foldl_nil] at hq hkq
              have hfin := FR.done (m := { m with state := 5, ses := agD m.mine o, theirs := o }) (v := { v with sf := .slice fa (agD m.mine o).fams.length fc, ss := .slice sa (agD m.mine o).send.length sc, st := .slice ra (agD m.mine o).take.length rc, sk := .slice ka (agD m.mine o).kept.length kc, tf := .slice xa o.fams.length xc, ta := .slice ya o.adds.length yc, tk := .slice za o.kept.length zc }) hq (by simp)
              have hs78 := B8.out.size
              have hs77 := HK.out.size
              have hsw7 := B6.out.size
              have hsw6 := B7.out.size
              have hbm7 := (Array.getElem?_eq_some_iff.1 H7.out.mach).1
              simp at hs78
              have KB : Keeps (fun b => b ≠ bm ∧ b < w7.heap.size) w7 w8 := (Keeps.refl _ w7).drew.trans (Keeps.of_below' (B8.out.mono (B' := w7.heap.size) (by simp)) (fun k hk => hk.2))
              have KS : Keeps (fun b => b < wc.heap.size ∧ b ≠ ba ∧ b ≠ bm) wc w7 := HK.out
              have up : ∀ (τ : Type) (e : TypeId) (sz : Nat) (enc : τ → List Value) (x : Value) (l : List τ), Ow w6.heap.size w7 e sz enc x l → (∀ b, x.ownBlock = some b → b < wc.heap.size) → e ≠ 76 → Cod sz enc → Rd (fun b => (w6.heap.size ≤ b ∧ b < wc.heap.size) ∨ (w7.heap.size ≤ b ∧ b < w8.heap.size)) _ sz enc x l := fun τ e sz enc x l hx hb he hcod =>
                (((hx.keeps KB (fun b hb2 => ⟨hx.ne (HF.out.mach) he b hb2, (Ow.lt hx b hb2).2⟩)).keeps hkq (fun b hb2 => hx.ne (HF.out.mach) he b hb2)).rd hcod).mono (fun k hk => .inl ⟨hk.1, hb k hk.2.2⟩)
              have down : ∀ (τ : Type) (e : TypeId) (sz : Nat) (enc : τ → List Value) (x : Value) (l : List τ), Ow w7.drew.heap.size w8 e sz enc x l → Cod sz enc → Rd (fun b => (w6.heap.size ≤ b ∧ b < wc.heap.size) ∨ (w7.heap.size ≤ b ∧ b < w8.heap.size)) _ sz enc x l := fun τ e sz enc x l hx hcod =>
                ((hx.keeps hkq (fun b hb2 => by have := (Ow.lt hx b hb2).1; simp at this; omega)).rd hcod).mono (fun k hk => .inr ⟨by simpa using hk.1, by have := hk.2.1; simpa using this⟩)
              refine ⟨rfl, { v with sf := .slice fa (agD m.mine o).fams.length fc, ss := .slice sa (agD m.mine o).send.length sc, st := .slice ra (agD m.mine o).take.length rc, sk := .slice ka (agD m.mine o).kept.length kc, tf := .slice xa o.fams.length xc, ta := .slice ya o.adds.length yc, tk := .slice za o.kept.length zc }, fun b => (w6.heap.size ≤ b ∧ b < wc.heap.size) ∨ (w7.heap.size ≤ b ∧ b < w8.heap.size), ?_, ?_, ?_, ?_, rfl, rfl, rfl, ?_, ?_⟩
              · rw [HD.out]; exact FC.rebase hfin (by have := H.out.hb; omega) H.out.lt (by obtain ⟨h1, _⟩ := H.out.acts; exact h1)
              · exact ((Keeps.of_below (B6.out.trans (B7.out.mono B6.out.size))).trans (HK.out.mono (fun b hb => ⟨by have := H.out.hb; have := hb.1; omega, hb.2⟩))).trans (((Keeps.refl _ w7).drew.trans (Keeps.of_below' (B8.out.mono (B' := w7.heap.size) (by simp)) (fun k hk => by have := H.out.hb; have := hk.1; omega))).trans (hkq.mono (fun b hb => hb.2.2)))
              · intro k hk; simp; omega
              · intro k hk
                have e1 : actsBlk w7 ba = some k := by
                  rw [← hk]
                  unfold actsBlk
                  obtain ⟨_, oay, ocy, hry, hoy⟩ := HF.out.acts
                  have e2 := row_cell (hkq.block ba (by have := (Array.getElem?_eq_some_iff.1 hry).1; omega) (row_ne hry HF.out.mach (by decide)) |>.trans ((B8.out.block ba (by have := (Array.getElem?_eq_some_iff.1 hry).1; simpa using this)).trans hry)) 0
                  have e3 := row_cell hry 0
                  rw [e2, e3]
                obtain ⟨_, oay, ocy, hry, hoy⟩ := HF.out.acts
                have e3 := row_cell hry 0
                simp [actsBlk, e3] at e1
                have := Ow.lt hoy k e1
                omega
              · rw [HD.out]
                exact ⟨up _ _ _ _ _ _ P1.out (fun b hb => (Ow.lt O1.out b hb).2) (by decide) cod_I, up _ _ _ _ _ _ P2.out (fun b hb => (Ow.lt O2.out b hb).2) (by decide) cod_I, up _ _ _ _ _ _ P3.out (fun b hb => (Ow.lt O3.out b hb).2) (by decide) cod_I, up _ _ _ _ _ _ P4.out (fun b hb => (Ow.lt O4.out b hb).2) (by decide) cod_R⟩
              · rw [HD.out]
                exact ⟨down _ _ _ _ _ _ X.out.1 cod_I, down _ _ _ _ _ _ X.out.2.1 cod_A, down _ _ _ _ _ _ X.out.2.2 cod_R⟩
        · have HAG := Lib.hid hag
          have HD := Lib.hid (show openedD m o = (endM m, endL m 2 0 false) by unfold openedD; rw [if_neg HACT.out, if_pos hag])
          have hab2 : (agE m.mine o != 0) = true := by simpa using hag
          clear hag c7
          go_wp2_with (go_at_call 31; refine (c_code 2 0 _).mono ?_; rintro e w8 ⟨rfl, hb8⟩; have H8 := Lib.hid (H7.out.below hb8); have B8 := Lib.hid (B7.out.trans (hb8.mono B7.out.size)); clear hb8)
          refine (f_end H8.out (by simp) 0 2 0 false).mono ?_
          rintro e w9 ⟨rfl, h9, k9⟩
          have H9 := Lib.hid h9
          have K9 := Lib.hid ((Keeps.of_below (B6.out.trans (B8.out.mono B6.out.size))).trans k9)
          clear h9 k9
          go_wp2
          refine bodyPost_ret (results_none rfl _ _ _) rfl ?_
          refine ⟨rfl, endV v, fun _ => False, ?_, K9.out, fun k hk => hk.elim, fun _ _ h => h, rfl, rfl, rfl, ?_, ?_⟩
          · rw [HD.out]; exact H9.out
          · rw [HD.out]; exact SesAt.none _ _
          · rw [HD.out]; exact OpenAt.none _ _
end Go.Proofs.Ytnbopmpbgopafaa
