/- fsm: the closures of rows whose code draws its order, and opened's. -/
import Derived.Test.YtnbopmpbgopafaaClo
namespace Go.Proofs.Ytnbopmpbgopafaa
open Go.RowKit
variable {A B : Nat → Prop}

/-- What the closures' boxes and the machine say. -/
def Seen (bm ba b3 b4 : Nat) (m : MachD) (v : MV) (W : World) : Prop :=
  W.cell? ⟨b3, 0, none⟩ = some (.pointer (some ⟨bm, 0, none⟩)) ∧ W.cell? ⟨b4, 0, none⟩ = some (.pointer (some ⟨ba, 0, none⟩)) ∧ ∀ o, W.cell? ⟨bm, o, none⟩ = (machCells m v)[o]?
theorem Seen.drew {bm ba b3 b4 : Nat} {m : MachD} {v : MV} {w : World} (h : Seen bm ba b3 b4 m v w) : Seen bm ba b3 b4 m v w.drew := h

set_option maxRecDepth 100000 in
theorem k3L {w : World} {bm ba base b3 b4 : Nat} {m : MachD} {v : MV} {L : List ActD} (h : FC w bm ba base m v L) (hl : L.length ≤ 900) (c3 : w.cell? ⟨b3, 0, none⟩ = some (.pointer (some ⟨bm, 0, none⟩))) (c4 : w.cell? ⟨b4, 0, none⟩ = some (.pointer (some ⟨ba, 0, none⟩)))
    (o3 : Out bm ba base b3) (o4 : Out bm ba base b4) :
    Calls Try.prog 65 #[.pointer (some ⟨b4, 0, none⟩), .pointer (some ⟨b3, 0, none⟩)] w fun e w' => e = .returned (.tuple #[]) ∧ FC w' bm ba base { m with state := 3 } v (L ++ [actA 1 m.retry]) ∧ Keeps (Out bm ba base) w w' := by
  have H := Lib.hid h
  have hs : Seen bm ba b3 b4 m v w := ⟨c3, c4, row_cell h.mach⟩
  have C3 := Lib.hid c3
  have C4 := Lib.hid c4
  have O3 := Lib.hid o3
  have O4 := Lib.hid o4
  have HL := Lib.hid hl
  clear h c3 c4 o3 o4 hl
  go_enter Try.func65, Try.ntmps65
  go_wp2_with fail
  refine wp_region_K2 [] (Seen bm ba b3 b4 m v) (fun _ => True) rfl hs.drew trivial (fun hS0 _ => ?_)
  have HS0 := Lib.hid hS0
  clear hS0 hs
  refine wpAnyK_take 0 (v := .pointer (some ⟨ba, 0, none⟩)) rfl (by kernel_rfl) (fun _ _ _ h => h) (.inl ⟨by rfl, fun w hS => ?_⟩) HS0.out ?_
  · obtain ⟨q3, q4, q0⟩ := hS; go_simp
  refine wpAnyK_take 1 (v := .pointer (some ⟨bm, 0, none⟩)) rfl (by kernel_rfl) (fun _ _ _ h => h) (.inl ⟨by rfl, fun w hS => ?_⟩) HS0.out ?_
  · obtain ⟨q3, q4, q0⟩ := hS; go_simp
  refine wpAnyK_take 2 (v := ?_) rfl (by kernel_rfl) (fun _ _ _ h => h) (.inl ⟨by rfl, ?_⟩) HS0.out ?_
  rotate_left
  · intro w hS; clear hS; go_simp; with_reducible rfl
  refine wpAnyK_take 3 (v := ?_) rfl (by kernel_rfl) (fun _ _ _ h => h) (.inl ⟨by rfl, ?_⟩) HS0.out ?_
  rotate_left
  · intro w hS; clear hS; go_simp; with_reducible rfl
  refine wpAnyK_take 4 (v := ?_) rfl (by kernel_rfl) (fun _ _ _ h => h) (.inl ⟨by rfl, ?_⟩) HS0.out ?_
  rotate_left
  · intro w hS; clear hS; go_simp; with_reducible rfl
  refine wpAnyK_take 5 (v := .int .i64 m.retry) rfl (by kernel_rfl) (fun _ _ _ h => h) (.inl ⟨by rfl, fun w hS => ?_⟩) HS0.out ?_
  · obtain ⟨q3, q4, q0⟩ := hS; go_simp
  refine wpAnyK_one 6 (by kernel_rfl) rfl (by rfl) (fun K' hK => ?_)
  have F0 := Lib.hid (H.out.below ((Below.refl _ _).drew))
  have K0 := Lib.hid ((Keeps.refl (Out bm ba base) w).drew)
  go_wp2_with fail
  refine (f_arm F0.out (by have := HL.out; omega) 1 m.retry).mono ?_
  rintro e w1 ⟨rfl, h1, k1⟩
  have F1 := Lib.hid h1
  have K1 := Lib.hid (K0.out.trans k1)
  have hs : Seen bm ba b3 b4 m v w1 := ⟨K1.out.cell (p := ⟨b3, 0, none⟩) O3.out C3.out, K1.out.cell (p := ⟨b4, 0, none⟩) O4.out C4.out, row_cell h1.mach⟩
  have f0 := row_free h1.mach
  clear h1 k1
  go_wp2_with fail
  refine stillS hs (fun _ => ?_)
  obtain ⟨c3, c4, c0⟩ := hs
  refine wpAnyK_done (by kernel_rfl) ?_
  go_wp2
  go_end0
  exact ⟨rfl, F1.out.set (j := 35) (x := .int .i64 3) (m' := { m with state := 3 }) (v' := v) (by simp), K1.out.setCell (by simp) _⟩
theorem k3 {w : World} {bm ba base b3 b4 : Nat} {m : MachD} {v : MV} (h : Clo A w bm ba base m v b3 b4) :
    Calls Try.prog 65 #[.pointer (some ⟨b4, 0, none⟩), .pointer (some ⟨b3, 0, none⟩)] w fun e w' => e = .returned (.tuple #[]) ∧ StepTo A bm ba base w w' { m with state := 3 } [actA 1 m.retry] :=
  (k3L h.fc (by simp) h.c3 h.c4 h.o3 h.o4).mono fun _ _ ⟨he, hf, hk⟩ => ⟨he, StepTo.of h.hA hf hk ⟨h.held.mine, h.held.ses, h.held.theirs⟩⟩

set_option maxRecDepth 100000 in
theorem k5 {w : World} {bm ba base b3 b4 bc : Nat} {m : MachD} {v : MV} (h : Clo A w bm ba base m v b3 b4) (s : Int) (ob : Out bm ba base bc) (hbc : w.cell? ⟨bc, 0, none⟩ = some (.int .u8 s)) :
    Calls Try.prog 68 #[.pointer (some ⟨b3, 0, none⟩), .pointer (some ⟨b4, 0, none⟩), .pointer (some ⟨bc, 0, none⟩)] w fun e w' => e = .returned (.tuple #[]) ∧ StepTo A bm ba base w w' (endM m) (endL m 5 s false) := by
  have H := Lib.hid h
  have hs : (fun W : World => W.cell? ⟨b3, 0, none⟩ = some (.pointer (some ⟨bm, 0, none⟩)) ∧ W.cell? ⟨b4, 0, none⟩ = some (.pointer (some ⟨ba, 0, none⟩)) ∧ W.cell? ⟨bc, 0, none⟩ = some (.int .u8 s)) w := ⟨h.c3, h.c4, hbc⟩
  have OB := Lib.hid ob
  have HBC := Lib.hid hbc
  clear h ob hbc
  go_enter Try.func68, Try.ntmps68
  go_wp2_with fail
  refine wp_region_K2 [] (fun W : World => W.cell? ⟨b3, 0, none⟩ = some (.pointer (some ⟨bm, 0, none⟩)) ∧ W.cell? ⟨b4, 0, none⟩ = some (.pointer (some ⟨ba, 0, none⟩)) ∧ W.cell? ⟨bc, 0, none⟩ = some (.int .u8 s)) (fun _ => True) rfl hs trivial (fun hS0 _ => ?_)
  have HS0 := Lib.hid hS0
  clear hS0 hs
  refine wpAnyK_take 0 (v := .pointer (some ⟨bm, 0, none⟩)) rfl (by kernel_rfl) (fun _ _ _ h => h) (.inl ⟨by rfl, fun w hS => ?_⟩) HS0.out ?_
  · obtain ⟨q3, q4, q0⟩ := hS; go_simp
  refine wpAnyK_take 1 (v := .pointer (some ⟨ba, 0, none⟩)) rfl (by kernel_rfl) (fun _ _ _ h => h) (.inl ⟨by rfl, fun w hS => ?_⟩) HS0.out ?_
  · obtain ⟨q3, q4, q0⟩ := hS; go_simp
  refine wpAnyK_take 2 (v := .int .u8 s) rfl (by kernel_rfl) (fun _ _ _ h => h) (.inl ⟨by rfl, fun w hS => ?_⟩) HS0.out ?_
  · obtain ⟨q3, q4, q0⟩ := hS; go_simp
  refine wpAnyK_one 3 (by kernel_rfl) rfl (by rfl) (fun K' hK => ?_)
  have F0 := Lib.hid (H.out.fc.below ((Below.refl _ _).drew))
  have K0 := Lib.hid ((Keeps.refl (Out bm ba base) w).drew)
  go_wp2_with fail
  refine (c_code 5 s _).mono ?_
  rintro e w1 ⟨rfl, hb1⟩
  have F1 := Lib.hid (F0.out.below hb1)
  have K1 := Lib.hid (K0.out.trans (Keeps.of_below hb1))
  clear hb1
  have HS1 := Lib.hid (show (_ ∧ _ ∧ _) from ⟨K1.out.cell (p := ⟨b3, 0, none⟩) H.out.o3 H.out.c3, K1.out.cell (p := ⟨b4, 0, none⟩) H.out.o4 H.out.c4, K1.out.cell (p := ⟨bc, 0, none⟩) OB.out HBC.out⟩)
  go_wp2_with fail
  refine stillS HS1.out (fun _ => ?_)
  refine wpAnyK_one 4 (by kernel_rfl) rfl (by rfl) (fun K' hK => ?_)
  go_wp2_with fail
  refine (f_end F1.out (by simp) 0 5 s false).mono ?_
  rintro e w2 ⟨rfl, h2, k2⟩
  have F2 := Lib.hid h2
  have K2 := Lib.hid (K1.out.trans k2)
  clear h2 k2
  have HS2 := Lib.hid (show (_ ∧ _ ∧ _) from ⟨K2.out.cell (p := ⟨b3, 0, none⟩) H.out.o3 H.out.c3, K2.out.cell (p := ⟨b4, 0, none⟩) H.out.o4 H.out.c4, K2.out.cell (p := ⟨bc, 0, none⟩) OB.out HBC.out⟩)
  go_wp2_with fail
  refine stillS HS2.out (fun _ => ?_)
  refine wpAnyK_done (by kernel_rfl) ?_
  go_wp2
  go_end0
  exact ⟨rfl, StepTo.of H.out.hA F2.out K2.out H.out.held.ended⟩

def tickL (h : Int) : List ActD := if 0 < h then [actK 4, actA 3 (max 1 (h / 3))] else []
set_option maxRecDepth 100000 in
theorem k6 {w : World} {bm ba base b3 b4 : Nat} {m : MachD} {v : MV} (h : Clo A w bm ba base m v b3 b4) (hr : m.ses.hold ≤ 9223372036854775807) :
    Calls Try.prog 69 #[.pointer (some ⟨b3, 0, none⟩), .pointer (some ⟨b4, 0, none⟩)] w fun e w' => e = .returned (.tuple #[]) ∧ StepTo A bm ba base w w' m (tickL m.ses.hold) := by
  have H := Lib.hid h
  have c3 := h.c3
  have c4 := h.c4
  have c0 := row_cell h.fc.mach
  have F0 := Lib.hid h.fc
  have K0 := Lib.hid (Keeps.refl (Out bm ba base) w)
  clear h
  by_cases hh : 0 < m.ses.hold
  · have hL := Lib.hid (show tickL m.ses.hold = [actK 4, actA 3 (max 1 (m.ses.hold / 3))] from if_pos hh)
    rw [hL.out]
    have hgt : m.ses.hold > 0 := hh
    go_enter Try.func69, Try.ntmps69
    go_wp2_with fail
    refine (f_do F0.out (by simp) 4).mono ?_
    rintro e w1 ⟨rfl, h1, k1⟩
    have F1 := Lib.hid h1
    have K1 := Lib.hid (K0.out.trans k1)
    clear c3 c4 c0
    have hs : Seen bm ba b3 b4 m v w1 := ⟨K1.out.cell (p := ⟨b3, 0, none⟩) H.out.o3 H.out.c3, K1.out.cell (p := ⟨b4, 0, none⟩) H.out.o4 H.out.c4, row_cell h1.mach⟩
    clear h1 k1
    go_wp2_with fail
    refine wp_region_K2 [] (Seen bm ba b3 b4 m v) (fun _ => True) rfl hs.drew trivial (fun hS0 _ => ?_)
    have HS0 := Lib.hid hS0
    clear hS0 hs
    refine wpAnyK_take 0 (v := .pointer (some ⟨ba, 0, none⟩)) rfl (by kernel_rfl) (fun _ _ _ h => h) (.inl ⟨by rfl, fun w hS => ?_⟩) HS0.out ?_
    · obtain ⟨q3, q4, q0⟩ := hS; go_simp
    refine wpAnyK_take 1 (v := .pointer (some ⟨bm, 0, none⟩)) rfl (by kernel_rfl) (fun _ _ _ h => h) (.inl ⟨by rfl, fun w hS => ?_⟩) HS0.out ?_
    · obtain ⟨q3, q4, q0⟩ := hS; go_simp
    refine wpAnyK_take 2 (v := ?_) rfl (by kernel_rfl) (fun _ _ _ h => h) (.inl ⟨by rfl, ?_⟩) HS0.out ?_
    rotate_left
    · intro w hS; clear hS; go_simp; with_reducible rfl
    refine wpAnyK_take 3 (v := ?_) rfl (by kernel_rfl) (fun _ _ _ h => h) (.inl ⟨by rfl, ?_⟩) HS0.out ?_
    rotate_left
    · intro w hS; clear hS; go_simp; with_reducible rfl
    refine wpAnyK_take 4 (v := ?_) rfl (by kernel_rfl) (fun _ _ _ h => h) (.inl ⟨by rfl, ?_⟩) HS0.out ?_
    rotate_left
    · intro w hS; clear hS; go_simp; with_reducible rfl
    refine wpAnyK_take 5 (v := .int .i64 m.ses.hold) rfl (by kernel_rfl) (fun _ _ _ h => h) (.inl ⟨by rfl, fun w hS => ?_⟩) HS0.out ?_
    · obtain ⟨q3, q4, q0⟩ := hS; go_simp
    have hq := Lib.hid (show Int.tdiv m.ses.hold 3 = m.ses.hold / 3 from Int.tdiv_eq_ediv_of_nonneg (by omega))
    refine wpAnyK_take 6 (v := .int .i64 (m.ses.hold / 3)) rfl (by kernel_rfl) (fun _ _ _ h => h) (.inl ⟨by rfl, fun w hS => ?_⟩) HS0.out ?_
    · clear hS; have hq' := hq.out; go_simp; rw [IntKind.wrap_i64]; omega
    refine wpAnyK_take 7 (v := .int .i64 (max 1 (m.ses.hold / 3))) rfl (by kernel_rfl) (fun _ _ _ h => h) (.inl ⟨by rfl, fun w hS => ?_⟩) HS0.out ?_
    · clear hS; go_simp
    refine wpAnyK_one 8 (by kernel_rfl) rfl (by rfl) (fun K' hK => ?_)
    have G1 := Lib.hid (F1.out.below ((Below.refl _ _).drew))
    go_wp2_with fail
    refine (f_arm G1.out (by simp) 3 (max 1 (m.ses.hold / 3))).mono ?_
    rintro e w2 ⟨rfl, h2, k2⟩
    have F2 := Lib.hid h2
    have K2 := Lib.hid (K1.out.drew.trans k2)
    have hs : Seen bm ba b3 b4 m v w2 := ⟨K2.out.cell (p := ⟨b3, 0, none⟩) H.out.o3 H.out.c3, K2.out.cell (p := ⟨b4, 0, none⟩) H.out.o4 H.out.c4, row_cell h2.mach⟩
    clear h2 k2
    go_wp2_with fail
    refine stillS hs (fun _ => ?_)
    clear hs
    refine wpAnyK_done (by kernel_rfl) ?_
    go_wp2
    go_end0
    exact ⟨rfl, StepTo.of H.out.hA F2.out K2.out H.out.held⟩
  · have hL := Lib.hid (show tickL m.ses.hold = [] from if_neg hh)
    rw [hL.out]
    have hle : m.ses.hold ≤ 0 := by omega
    go_enter Try.func69, Try.ntmps69
    go_wp2
    go_end0
    exact ⟨rfl, StepTo.of H.out.hA F0.out K0.out H.out.held⟩

set_option maxRecDepth 100000 in
theorem k11 {w : World} {bm ba base b3 b4 b9 : Nat} {m : MachD} {v : MV} (h : Clo A w bm ba base m v b3 b4) (o9 : Out bm ba base b9) (c9 : w.cell? ⟨b9, 0, none⟩ = some (.func (.func 65) #[] #[.pointer (some ⟨b4, 0, none⟩), .pointer (some ⟨b3, 0, none⟩)])) :
    Calls Try.prog 76 #[.pointer (some ⟨b4, 0, none⟩), .pointer (some ⟨b9, 0, none⟩)] w fun e w' => e = .returned (.tuple #[]) ∧ StepTo A bm ba base w w' { m with state := 3 } [actC 2, actA 1 m.retry] := by
  have H := Lib.hid h
  have c3 := h.c3
  have c4 := h.c4
  have C9 := Lib.hid c9
  have O9 := Lib.hid o9
  clear h o9
  go_enter Try.func76, Try.ntmps76
  go_wp2_with fail
  refine (f_cancel H.out.fc (by simp) 2).mono ?_
  rintro e w1 ⟨rfl, h1, k1⟩
  have F1 := Lib.hid h1
  have K1 := Lib.hid k1
  clear c3 c4 c9
  have c9 := k1.cell (p := ⟨b9, 0, none⟩) O9.out C9.out
  have c3 := Lib.hid (k1.cell (p := ⟨b3, 0, none⟩) H.out.o3 H.out.c3)
  have c4 := Lib.hid (k1.cell (p := ⟨b4, 0, none⟩) H.out.o4 H.out.c4)
  clear h1 k1
  go_wp2_with fail
  refine (k3L F1.out (by simp) c3.out c4.out H.out.o3 H.out.o4).mono ?_
  rintro e w2 ⟨rfl, h2, k2⟩
  have F2 := Lib.hid h2
  have K2 := Lib.hid (K1.out.trans k2)
  clear h2 k2 c9
  go_wp2
  go_end0
  exact ⟨rfl, StepTo.of H.out.hA F2.out K2.out ⟨H.out.held.mine, H.out.held.ses, H.out.held.theirs⟩⟩

/-- An input's cells. -/
abbrev inCells (kd : Int) (o : OpenD) (qf qa qk : Value) (d : VerD) : Array Value :=
  #[.int .i64 kd, .int .u32 o.asn, .int .i64 o.hold, .int .u32 o.id, qf, .bool o.four, .bool o.refresh, qa, .bool o.hasGR, .bool o.again, .int .i64 o.time, qk, .int .i64 d.act, .int .u8 d.code, .int .u8 d.sub]
set_option maxRecDepth 100000 in
theorem k10 {w : World} {bm ba base b3 b4 b5 : Nat} {m : MachD} {v : MV} (h : Clo A w bm ba base m v b3 b4) (hnil : w.cell? ⟨ba, 0, none⟩ = some (.slice none 0 0)) {kd : Int} {o : OpenD} {qf qa qk : Value} {d : VerD}
    (h5 : w.heap[b5]? = some (.cells (inCells kd o qf qa qk d) 46 (0, 0))) (ho : OpenAt B w o qf qa qk) (hB : ∀ k, B k → Out bm ba base k)
    (hl : o.fams.length * 8 ≤ 140737488355328) (hl2 : o.adds.length * 16 ≤ 140737488355328) (hl3 : o.kept.length * 16 ≤ 140737488355328) :
    Calls Try.prog 74 #[.pointer (some ⟨b3, 0, none⟩), .pointer (some ⟨b4, 0, none⟩), .pointer (some ⟨b5, 0, none⟩)] w fun e w' => e = .returned (.tuple #[]) ∧ StepTo A bm ba base w w' (openedD m o).1 (openedD m o).2 := by
  have H := Lib.hid h
  have HO := Lib.hid ho
  have HBB := Lib.hid hB
  clear hB
  have HN := Lib.hid hnil
  have HL := Lib.hid (And.intro hl (And.intro hl2 hl3))
  have c3 := h.c3
  have c4 := h.c4
  have c5 := row_cell h5
  clear h ho hl hl2 hl3 hnil h5
  go_enter Try.func74, Try.ntmps74
  go_wp2_with fail
  refine (f_opened H.out.fc HN.out (A := A) (B := B) (fun k hk => ⟨Nat.lt_of_lt_of_le (HBB.out k hk).1 H.out.fc.hb, (HBB.out k hk).2⟩) H.out.held.mine HO.out HL.out.1 HL.out.2.1 HL.out.2.2).mono ?_
  rintro e w1 ⟨rfl, v', A2, hf, hk, hA2, hblk, q1, q2, q3, hs, ht⟩
  have F := Lib.hid hf
  have R := Lib.hid (And.intro hk (And.intro hA2 (And.intro hblk (And.intro q1 (And.intro q2 (And.intro q3 (And.intro hs ht)))))))
  clear hf hk hA2 hblk q1 q2 q3 hs ht c3 c4 c5
  go_wp2
  go_end0
  obtain ⟨hk, hA2, hblk, q1, q2, q3, hs, ht⟩ := R.out
  have hm : (openedD m o).1.mine = m.mine := by unfold openedD; (repeat' split) <;> rfl
  refine ⟨rfl, v', fun k => A k ∨ A2 k, F.out, hk, ?_, ⟨?_, ?_, ?_⟩⟩
  · rintro k (h | h)
    · exact .inl h
    · exact .inr ⟨(hA2 k h).1, (hA2 k h).2, fun e => hblk k e h⟩
  · rw [hm, q1, q2, q3]
    exact (H.out.held.mine.keeps hk H.out.hA).mono (fun _ h => .inl h)
  · exact hs.mono (fun _ h => .inr h)
  · exact ht.mono (fun _ h => .inr h)
end Go.Proofs.Ytnbopmpbgopafaa
