/- fsm.own, ownSession: copies of an open's and a session's slices. -/
import Derived.Test.YtnbopmpbgopafaaOwn
import Derived.Test.YtnbopmpbgopafaaRegion
namespace Go.Proofs.Ytnbopmpbgopafaa
open Go.RowKit
variable {A : Nat → Prop}

def SOwn (b : Nat) (v3 v6 v10 : Value) (w : World) : Prop := w.cell? ⟨b, 3, none⟩ = some v3 ∧ w.cell? ⟨b, 6, none⟩ = some v6 ∧ w.cell? ⟨b, 10, none⟩ = some v10

theorem SOwn.below {b : Nat} {v3 v6 v10 : Value} {w w1 : World} (h : SOwn b v3 v6 v10 w) (hb : Below w.heap.size w w1) : SOwn b v3 v6 v10 w1 := by
  obtain ⟨h1, h2, h3⟩ := h
  exact ⟨by rw [hb.cell (World.block_lt_of_cell? w _ h1)]; exact h1, by rw [hb.cell (World.block_lt_of_cell? w _ h2)]; exact h2, by rw [hb.cell (World.block_lt_of_cell? w _ h3)]; exact h3⟩

set_option maxRecDepth 100000 in
theorem c_own {w : World} {o : OpenD} {fv av kv : Value} (h : OpenAt A w o fv av kv) (hl : o.fams.length * 8 ≤ 140737488355328) (hl2 : o.adds.length * 16 ≤ 140737488355328) (hl3 : o.kept.length * 16 ≤ 140737488355328) :
    Calls Try.prog 28 #[openV o fv av kv] w fun e w' => ∃ fa fc aa ac ka kc, e = .returned (openV o (.slice fa o.fams.length fc) (.slice aa o.adds.length ac) (.slice ka o.kept.length kc)) ∧
      Ow w.heap.size w' 3 1 cI (.slice fa o.fams.length fc) o.fams ∧ Ow w.heap.size w' 99 3 cA (.slice aa o.adds.length ac) o.adds ∧ Ow w.heap.size w' 108 2 cR (.slice ka o.kept.length kc) o.kept ∧ Below w.heap.size w w' := by
  obtain ⟨hf, ha, hk⟩ := h
  have HF := Lib.hid hf
  have HA := Lib.hid ha
  have HK := Lib.hid hk
  obtain ⟨fa, fc, rfl, _, _, _⟩ := hf.open
  obtain ⟨aa, ac, rfl, _, _, _⟩ := ha.open
  obtain ⟨ka, kc, rfl, _, _, _⟩ := hk.open
  clear hf ha hk
  unfold openV
  obtain ⟨asn, hold, id, fams, four, refresh, adds, hasGR, again, time, kept⟩ := o
  simp only at *
  have HL := Lib.hid hl
  have HL2 := Lib.hid hl2
  have HL3 := Lib.hid hl3
  clear hl hl2 hl3
  go_enter Try.func28, Try.ntmps28
  go_wp2
  refine wp_region_K2 [10, 12, 14] (SOwn w.heap.size (.slice fa fams.length fc) (.slice aa adds.length ac) (.slice ka kept.length kc)) (fun W => Below w.heap.size w W ∧ W.heap[w.heap.size]? = some (.cells (openCells ⟨asn, hold, id, fams, four, refresh, adds, hasGR, again, time, kept⟩ (.slice fa fams.length fc) (.slice aa adds.length ac) (.slice ka kept.length kc)) 32 (0, 0)) ∧ W.heap[w.heap.size + 1]? = some (.cells openZero 32 (0, 0))) rfl ⟨by simp, by simp, by simp⟩ ⟨(((Below.refl _ _).alloc (Nat.le_refl _) _).alloc (by simp) _).drew, heap_old1 (heap_new1 _ _ _ rfl), heap_new1 _ _ _ (by simp)⟩ (fun hS0 hB0 => ?_)
  obtain ⟨hB0, hr0, hs0⟩ := hB0
  have HB0 := Lib.hid hB0
  have HR0 := Lib.hid hr0
  have HS0 := Lib.hid hs0
  clear hB0 hr0 hs0
  refine wpAnyK_take 0 (v := ?_) rfl (by kernel_rfl) (fun _ _ _ h => h) (.inl ⟨by rfl, ?_⟩) hS0 ?_
  rotate_left
  · intro w hS; clear hS; go_simp; with_reducible rfl
  refine wpAnyK_take 1 (v := .slice fa fams.length fc) rfl (by kernel_rfl) (fun _ _ _ h => h) (.inl ⟨by rfl, fun w hS => ?_⟩) hS0 ?_
  · obtain ⟨h1, h2, h3⟩ := hS; go_simp
  refine wpAnyK_take 3 (v := ?_) rfl (by kernel_rfl) (fun _ _ _ h => h) (.inl ⟨by rfl, ?_⟩) hS0 ?_
  rotate_left
  · intro w hS; clear hS; go_simp; with_reducible rfl
  refine wpAnyK_take 4 (v := .slice aa adds.length ac) rfl (by kernel_rfl) (fun _ _ _ h => h) (.inl ⟨by rfl, fun w hS => ?_⟩) hS0 ?_
  · obtain ⟨h1, h2, h3⟩ := hS; go_simp
  refine wpAnyK_take 6 (v := ?_) rfl (by kernel_rfl) (fun _ _ _ h => h) (.inl ⟨by rfl, ?_⟩) hS0 ?_
  rotate_left
  · intro w hS; clear hS; go_simp; with_reducible rfl
  refine wpAnyK_take 7 (v := .slice ka kept.length kc) rfl (by kernel_rfl) (fun _ _ _ h => h) (.inl ⟨by rfl, fun w hS => ?_⟩) hS0 ?_
  · obtain ⟨h1, h2, h3⟩ := hS; go_simp
  refine wpAnyK_one 2 (by kernel_rfl) rfl (by rfl) (fun K' hK => ?_)
  go_wp2_with fail
  refine (c_CloneI (HF.out.below HB0.out) HL.out).mono ?_
  rintro e w1 ⟨a1, c1, rfl, ho1, hb1⟩
  go_wp2_with fail
  refine stillS (hS0.below hb1) (fun hS1 => ?_)
  have HB1 := Lib.hid (HB0.out.trans (hb1.mono HB0.out.size))
  refine wpAnyK_take 9 (v := ?_) rfl (by kernel_rfl) (fun _ _ _ h => h) (.inl ⟨by rfl, ?_⟩) hS1 ?_
  rotate_left
  · intro w hS; clear hS; go_simp; with_reducible rfl
  refine wpAnyK_one 5 (by kernel_rfl) rfl (by rfl) (fun K' hK => ?_)
  go_wp2_with fail
  refine (c_CloneA (HA.out.below HB1.out) HL2.out).mono ?_
  rintro e w2 ⟨a2, c2, rfl, ho2, hb2⟩
  go_wp2_with fail
  refine stillS (hS1.below hb2) (fun hS2 => ?_)
  have HB2 := Lib.hid (HB1.out.trans (hb2.mono HB1.out.size))
  refine wpAnyK_one 8 (by kernel_rfl) rfl (by rfl) (fun K' hK => ?_)
  go_wp2_with fail
  refine (c_CloneR (HK.out.below HB2.out) HL3.out).mono ?_
  rintro e w3 ⟨a3, c3, rfl, ho3, hb3⟩
  go_wp2_with fail
  refine stillS (hS2.below hb3) (fun hS3 => ?_)
  have HB3 := Lib.hid (HB2.out.trans (hb3.mono HB2.out.size))
  have hr3 := below_row hb3 (below_row hb2 (below_row hb1 HR0.out))
  have hs3 := below_row hb3 (below_row hb2 (below_row hb1 HS0.out))
  have kc := row_cell hr3
  have kf := row_free hr3
  have lc := row_cell hs3
  have lf := row_free hs3
  have HR3 := Lib.hid hr3
  have HS3 := Lib.hid hs3
  clear hr3 hs3 hS0 hS1 hS2 hS3
  refine wpAnyK_one 10 (by kernel_rfl) rfl (by rfl) (fun K' hK => ?_)
  go_wp2_with fail
  refine deadS (by kernel_rfl) ?_
  refine wpAnyK_one 11 (by kernel_rfl) rfl (by rfl) (fun K' hK => ?_)
  go_wp2_with fail
  refine deadS (by kernel_rfl) ?_
  refine wpAnyK_one 12 (by kernel_rfl) rfl (by rfl) (fun K' hK => ?_)
  go_wp2_with fail
  refine deadS (by kernel_rfl) ?_
  refine wpAnyK_one 13 (by kernel_rfl) rfl (by rfl) (fun K' hK => ?_)
  go_wp2_with fail
  refine deadS (by kernel_rfl) ?_
  refine wpAnyK_one 14 (by kernel_rfl) rfl (by rfl) (fun K' hK => ?_)
  go_wp2_with fail
  refine deadS (by kernel_rfl) ?_
  refine wpAnyK_done (by kernel_rfl) ?_
  go_wp2
  refine bodyPost_ret (v := openV ⟨asn, hold, id, fams, four, refresh, adds, hasGR, again, time, kept⟩ (.slice a1 fams.length c1) (.slice a2 adds.length c2) (.slice a3 kept.length c3)) (by simp [results, Try.results28, go_sem, lc, kc]) rfl ⟨a1, c1, a2, c2, a3, c3, rfl, ?_, ?_, ?_, ?_⟩
  rotate_right
  · repeat refine Below.setCell ?_ (by simp) _
    exact HB3.out
  · refine Ow.keeps (A' := fun k => k ≠ w.heap.size ∧ k ≠ w.heap.size + 1) (((ho1.below hb2).below hb3).mono (by simp; omega)) ?_ ?_
    · repeat refine Keeps.setCell ?_ (by simp) _
      exact Keeps.refl _ _
    · intro k hk; have := ho1.lt k hk; simp at this; omega
  · refine Ow.keeps (A' := fun k => k ≠ w.heap.size ∧ k ≠ w.heap.size + 1) ((ho2.below hb3).mono (by have := HB1.out.size; omega)) ?_ ?_
    · repeat refine Keeps.setCell ?_ (by simp) _
      exact Keeps.refl _ _
    · intro k hk; have := ho2.lt k hk; have h1 := hb1.size; simp at h1; omega
  · refine Ow.keeps (A' := fun k => k ≠ w.heap.size ∧ k ≠ w.heap.size + 1) (ho3.mono (by have := HB2.out.size; omega)) ?_ ?_
    · repeat refine Keeps.setCell ?_ (by simp) _
      exact Keeps.refl _ _
    · intro k hk; have := ho3.lt k hk; have h1 := hb1.size; have h2 := hb2.size; simp at h1; omega
end Go.Proofs.Ytnbopmpbgopafaa
