/- open.Agree's closure both, and open.Agree. -/
import Derived.Test.YtnbopmpbgopafaaAgree
namespace Go.Proofs.Ytnbopmpbgopafaa
open Go.RowKit
variable {A : Nat → Prop}

def bothP (a b : List AddD) (f : Int) : Bool := a.any (pSend f) && b.any (pTake f)

theorem take_filter_succ {τ : Type} (p : τ → Bool) (l : List τ) (k : Nat) (h : k < l.length) :
    (l.take (k + 1)).filter p = (l.take k).filter p ++ (if p l[k] then [l[k]] else []) := by
  rw [List.take_succ_eq_append_getElem h, List.filter_append]
  congr 1
  by_cases hp : p l[k] = true <;> simp [hp]

theorem ow_step {B : Nat} {w' : World} {e : TypeId} {sz : Nat} {τ : Type} {enc : τ → List Value} {v : Value} {l : List τ} {x : τ}
    (h : w'.ownsRow B e sz v (l.length + 1) (l.flatMap enc ++ enc x)) : Ow B w' e sz enc v (l ++ [x]) := by
  unfold Ow
  simpa using h

set_option maxRecDepth 100000 in
theorem c_both {w : World} {bs : Nat} {fv va vb : Value} {fams : List Int} {la lb : List AddD} (hbs : w.cell? ⟨bs, 1, none⟩ = some fv) (hf : Rd A w 1 cI fv fams) (ha : Rd A w 3 cA va la) (hb : Rd A w 3 cA vb lb)
    (hl : fams.length * 8 ≤ 140737488355328) :
    Calls Try.prog 93 #[va, vb, .pointer (some ⟨bs, 0, none⟩)] w fun e w' => ∃ a' c', e = .returned (.slice a' (fams.filter (bothP la lb)).length c') ∧
      Ow w.heap.size w' 3 1 cI (.slice a' (fams.filter (bothP la lb)).length c') (fams.filter (bothP la lb)) ∧ Below w.heap.size w w' := by
  obtain ⟨aa, ac, rfl, _, _, _⟩ := ha.open
  obtain ⟨ba, bc, rfl, _, _, _⟩ := hb.open
  have HA := Lib.hid ha
  have HB := Lib.hid hb
  have HL := Lib.hid hl
  clear ha hb hl
  rcases hf with ⟨an, rfl, rfl⟩ | ⟨b, off, c, rfl, h2, h3, h4, h5⟩
  · go_enter Try.func93, Try.ntmps93
    go_wp2
    refine wp_loop_rounds 1 ?_
    rw [rounds_succ]
    go_wp2
    go_ret
    exact ⟨none, 0, rfl, World.ownsRow_nil _ _ _ _, Below.refl _ _⟩
  obtain ⟨i0, hi, hz0, hz1, hz2⟩ := info_parts i_I
  unfold maxLen at h3
  have HC := Lib.hid (fun (wr : World) (hb : Below w.heap.size w wr) (k : Nat) (hk : k < fams.length) => cellsI (wr := wr) h5 hb k hk)
  clear h5
  have hblk := World.block_lt_of_cell? w _ hbs
  simp only at hblk
  go_enter Try.func93, Try.ntmps93
  go_wp2
  go_loopw [6, 13] (fun out i wr => ∃ k : Nat, k ≤ fams.length ∧ i = .int .i64 k ∧ Ow w.heap.size wr 3 1 cI out ((fams.take k).filter (bothP la lb)) ∧ Below w.heap.size w wr) (fun _ i _ => fams.length - (intOf i).toNat)
  case atStart => exact ⟨0, Nat.zero_le _, rfl, World.ownsRow_nil _ _ _ _, Below.refl _ _⟩
  case round =>
    obtain ⟨k, hk, rfl, hown, hbel⟩ := hrel
    have HO := Lib.hid hown
    have HB0 := Lib.hid hbel
    obtain ⟨oa, oc, ho⟩ := hown.shape
    subst ho
    clear hown
    by_cases hlt : k < fams.length
    · have HS := Lib.hid (take_filter_succ (bothP la lb) fams k hlt)
      have hc0 := HC.out wr hbel k hlt
      obtain ⟨xk, hxk⟩ : ∃ xk, xk = fams[k] := ⟨_, rfl⟩
      rw [← hxk] at hc0
      have HX := Lib.hid hxk; clear hxk
      clear hbel
      go_wp2_with fail
      refine (c_ContainsSend (HA.out.below (HB0.out.trans (((Below.refl _ _).alloc (Nat.le_refl _) _).mono HB0.out.size))) xk wr.heap.size (by simp)).mono ?_
      rintro e w1 ⟨rfl, hb1⟩
      have hc1 := below_row hb1 (heap_new1 _ _ _ rfl)
      have HC1 := Lib.hid hc1
      have kc1 := row_cell hc1
      have HB1 := Lib.hid (HB0.out.trans ((below_of_alloc hb1 (by simp)).mono HB0.out.size))
      have HO1 := Lib.hid (HO.out.below (below_of_alloc hb1 (by simp)))
      have hsz1 : wr.heap.size < w1.heap.size := by have := hb1.size; simp at this; omega
      clear hc1 hb1
      obtain ⟨p1, hp1⟩ : ∃ p, p = la.any (pSend xk) := ⟨_, rfl⟩
      rw [← hp1]
      have HP1 := Lib.hid hp1; clear hp1
      cases p1
      · go_wp2
        go_roundw
        case rel =>
          have hb : bothP la lb fams[k] = false := by rw [← HX.out]; simp [bothP, ← HP1.out]
          exact ⟨k + 1, by omega, by go_num, by rw [HS.out, if_neg (by rw [hb]; simp), List.append_nil]; exact HO1.out, HB1.out⟩
        case measure => simp [intOf]; omega
      · go_wp2_with fail
        refine (c_ContainsTake (HB.out.below HB1.out) xk wr.heap.size (by simp [kc1])).mono ?_
        rintro e w2 ⟨rfl, hb2⟩
        have kc2 := row_cell (below_row hb2 HC1.out)
        have HB2 := Lib.hid (HB1.out.trans (hb2.mono HB1.out.size))
        have HO2 := Lib.hid (HO1.out.below hb2)
        clear hb2 kc1
        obtain ⟨p2, hp2⟩ : ∃ p, p = lb.any (pTake xk) := ⟨_, rfl⟩
        rw [← hp2]
        have HP2 := Lib.hid hp2; clear hp2
        cases p2
        · go_wp2
          go_roundw
          case rel =>
            have hb : bothP la lb fams[k] = false := by rw [← HX.out]; simp [bothP, ← HP2.out]
            exact ⟨k + 1, by omega, by go_num, by rw [HS.out, if_neg (by rw [hb]; simp), List.append_nil]; exact HO2.out, HB2.out⟩
          case measure => simp [intOf]; omega
        · have hlen : (List.filter (bothP la lb) (List.take k fams)).length ≤ k := by
            have h1 := List.length_filter_le (bothP la lb) (List.take k fams)
            have h2 := List.length_take_le k fams
            omega
          have hbytes : ((List.filter (bothP la lb) (List.take k fams)).length + 1) * 8 ≤ 140737488355328 := by have := HL.out; omega
          have hml : (List.filter (bothP la lb) (List.take k fams)).length + 1 ≤ maxLen := by simp only [maxLen]; omega
          have HH := Lib.hid (And.intro hbytes hml)
          clear hbytes hml hlen
          obtain ⟨L, hL⟩ : ∃ L, L = List.filter (bothP la lb) (List.take k fams) := ⟨_, rfl⟩
          rw [← hL]
          have HLL := Lib.hid hL; clear hL
          go_wp2_with (at_builtin; go_must (refine wpList_append_own _ rfl _ _ 26 rfl w.heap.size 3 i0 (.int .i64 0) 1 8 Try.underlying26 hi hz0 hz1 hz2 rfl (by decide) _ L.length (L.flatMap cI) rfl ?own ⟨w2.heap.size, 0, none⟩ 1 1 (cI xk) rfl rfl ?hnews ?h1 ?h63 ?hbytes ?hbase ?_))
          case own => have := HO2.out; rw [← HLL.out] at this; exact World.ownsRow.alloc this _
          case hnews => exact cell_one_new _ _ _
          case h1 => exact cod_I.one xk
          case h63 => have := HH.out.2; rw [← HLL.out] at this; exact this
          case hbytes => have := HH.out.1; rw [← HLL.out] at this; exact this
          case hbase => have := HB2.out.size; simp; omega
          intro v' w3 hown3 hgrow3 _
          have HO3 := Lib.hid (ow_step hown3)
          have HB3 := Lib.hid (HB2.out.trans (below_grown hgrow3 (fun k hk => (HO2.out.lt k (by rw [← HLL.out]; exact hk)).1) (by have := HB2.out.size; omega)))
          clear hown3 hgrow3
          go_wp2
          go_roundw
          case rel =>
            have hb : bothP la lb fams[k] = true := by rw [← HX.out]; simp [bothP, ← HP2.out, ← HP1.out]
            exact ⟨k + 1, by omega, by go_num, by rw [HS.out, if_pos hb, ← HLL.out, ← HX.out]; exact HO3.out, HB3.out⟩
          case measure => simp [intOf]; omega
    · have hk2 : k = fams.length := by omega
      have e1 : List.take k fams = fams := List.take_of_length_le (by omega)
      have HO3 : Ow w.heap.size wr 3 1 cI (.slice oa (List.filter (bothP la lb) fams).length oc) (List.filter (bothP la lb) fams) := by have := HO.out; rw [e1] at this; exact this
      have HE := Lib.hid e1
      have HO4 := Lib.hid HO3
      clear e1 hk2 HO3
      go_wp2
      go_ret
      exact ⟨oa, oc, by rw [HE.out]; rfl, HO4.out, HB0.out⟩
end Go.Proofs.Ytnbopmpbgopafaa
