/- heraldlaw20: works. -/
import Derived.Test.YtnbopmpbgopafaaUp
namespace Go.Proofs.Ytnbopmpbgopafaa
open Go.RowKit
variable {A B : Nat → Prop}

def downL0 : List ActD := [⟨5, 0, 0, 4, 0⟩, actK 2, actC 2, actC 3, actK 9, actA 1 30]
theorem down_is : (doD upD 12 openNone in0).2 = downL0 ∧ (doD upD 12 openNone in0).1.state = 1 := by decide +kernel

/-- A list of acts that was just laid. -/
theorem rd_lit {w : World} {L : List ActD} {cs : Array Value} (h : cs = (L.flatMap cT).toArray) (hl : L.length ≤ 1000) : Rd (fun _ => True) (w.alloc (.cells cs 50)) 6 cT (.slice (some ⟨w.heap.size, 0, none⟩) L.length L.length) L := by
  subst h
  have hl : L.length ≤ maxLen := Nat.le_trans hl (by decide)
  · refine .inr ⟨_, _, _, rfl, Nat.le_refl _, hl, .inr trivial, fun i x hx j u hu => ?_⟩
    have hj : j < 6 := by have := (List.getElem?_eq_some_iff.1 hu).1; rwa [cod_T.len] at this
    rw [row_cell (heap_new1 w _ _ rfl), Nat.zero_add]
    simpa [← hu] using flat_get cod_T.len L i x hx j hj

set_option maxRecDepth 100000 in
set_option maxHeartbeats 1000000 in
theorem c_works (w : World) : Calls Try.prog 7 #[] w fun e w' => e = .returned (.bool true) ∧ Below w.heap.size w w' := by
  go_enter Try.func7, Try.ntmps7
  go_wp2_with fail
  refine (c_up _).mono ?_
  rintro e w1 ⟨bm, rfl, hm1, hb1⟩
  have H1 := Lib.hid hm1
  have B1 := Lib.hid hb1
  clear hm1 hb1
  go_wp2_with fail
  refine (c_State H1.out.state).mono ?_
  rintro e w2 ⟨rfl, rfl⟩
  go_wp2_with fail
  refine (c_in _ 12).mono ?_
  rintro e w2 ⟨rfl, hb2⟩
  have H2 := Lib.hid (H1.out.below hb2)
  have B2 := Lib.hid (below_trans B1.out hb2 (Nat.le_refl _))
  clear hb2
  go_wp2_with fail
  refine (c_inDo H2.out (fun k hk => hk ▸ H2.out.lt.2) 12).mono ?_
  rintro e w3 ⟨ra, rc, rfl, hm3, ho3, hk3⟩
  rw [down_is.1] at ho3 ⊢
  have B3 := Lib.hid (below_did B2.out hk3 H2.out.lt.1 B2.out.size)
  have H3 := Lib.hid (show Mach w.heap.size (fun k => k = bm) w3 bm (doD upD 12 openNone in0).1 from hm3)
  have O3 := Lib.hid ho3
  have hst := H3.out.state
  rw [down_is.2] at hst
  have ST := Lib.hid hst
  clear hm3 ho3 hk3 hst
  go_wp2_with fail
  refine (c_State ST.out).mono ?_
  rintro e w4 ⟨rfl, rfl⟩
  go_wp2_with fail
  refine (c_mkarm _ 1 30).mono ?_
  rintro e w4 ⟨rfl, hb4⟩
  have O4 := Lib.hid (O3.out.below hb4)
  have B4 := Lib.hid (below_trans B3.out hb4 (Nat.le_refl _))
  clear hb4
  go_wp2_with fail
  refine (c_same (A := fun _ => True) (B := fun _ => True) (la := downL0) (lb := downL0) (((O4.out.below ((Below.refl _ _).alloc (Nat.le_refl _) _)).rd cod_T).mono (fun _ _ => trivial)) (rd_lit rfl (by decide))).mono ?_
  rintro e w5 ⟨rfl, hb5⟩
  have B5 := Lib.hid ((B4.out.alloc B4.out.size _).trans (hb5.mono (by have := B4.out.size; simp; omega)))
  clear hb5
  go_wp2
  go_ret
  exact ⟨rfl, B5.out⟩
end Go.Proofs.Ytnbopmpbgopafaa
