/- A drawn region by an invariant: whatever comes up next keeps J. -/
import Derived.Test.YtnbopmpbgopafaaRegion
namespace Go.Proofs.Ytnbopmpbgopafaa
section
variable {P : Program} {ops : Array Oper} {Q : Exit → Act → World → Prop} {S : World → Prop}

def downB (ops : Array Oper) : Bool := (List.range ops.size).all fun i => match ops[i]? with
  | some o => o.after.all fun e => !Region.binds .any e || decide (e.on < i)
  | none => true
def closedB (ops : Array Oper) (L : Array Bool) : Bool := (List.range ops.size).all fun i => !L.getD i true || match ops[i]? with
  | some o => o.after.all fun e => !Region.binds .any e || L.getD e.on false
  | none => true
def Closed (ops : Array Oper) (L : Array Bool) : Prop := ∀ i o, ops[i]? = some o → L.getD i true = true → ∀ e ∈ o.after, Region.binds .any e = true → L.getD e.on false = true
theorem closed_of {L : Array Bool} (h : closedB ops L = true) : Closed ops L := by
  intro i o ho hl e he hb
  have hi := (Array.getElem?_eq_some_iff.1 ho).1
  have := List.all_eq_true.1 h i (List.mem_range.2 hi)
  rw [ho] at this
  simp only [hl, Bool.not_true, Bool.false_or] at this
  have := Array.all_eq_true_iff_forall_mem.1 this e he
  simpa [hb] using this
theorem down_of (h : downB ops = true) : ∀ i o, ops[i]? = some o → ∀ e ∈ o.after, Region.binds .any e = true → e.on < i := by
  intro i o ho e he hb
  have hi := (Array.getElem?_eq_some_iff.1 ho).1
  have := List.all_eq_true.1 h i (List.mem_range.2 hi)
  rw [ho] at this
  have := Array.all_eq_true_iff_forall_mem.1 this e he
  simpa [hb] using this
theorem all_listed (hd : ∀ i o, ops[i]? = some o → ∀ e ∈ o.after, Region.binds .any e = true → e.on < i) {L : Array Bool} (hz : L.size = ops.size) (hr : Region.ready .any ops L = []) : ∀ i, i < ops.size → L.getD i true = true := by
  intro i
  induction i using Nat.strongRecOn with
  | ind i ih =>
    intro hi
    cases hl : L.getD i true with
    | true => rfl
    | false =>
      have hm : i ∈ Region.ready .any ops L := mem_ready.2 ⟨hl, ops[i], by simp [hi], fun e he hb => by
        have h1 := hd i ops[i] (by simp [hi]) e he hb
        have h2 := ih e.on h1 (Nat.lt_trans h1 hi)
        have h3 : e.on < L.size := by omega
        simpa [Array.getD, h3] using h2⟩
      rw [hr] at hm
      cases hm
theorem Closed.set {L : Array Bool} (hc : Closed ops L) {i : Nat} {o : Oper} (ho : ops[i]? = some o) (hall : ∀ e ∈ o.after, Region.binds .any e = true → L.getD e.on false = true) : Closed ops (L.setIfInBounds i true) := by
  intro j oj hoj hl e he hb
  by_cases hij : i = j
  · subst hij
    rw [ho] at hoj
    cases hoj
    exact getD_set_true (hall e he hb)
  · rw [getD_set_ne true hij] at hl
    exact getD_set_true (hc j oj hoj hl e he hb)
theorem count_set : ∀ (l : List Bool) (i : Nat), l[i]? = some false → (l.set i true).count false + 1 = l.count false
  | [], i, h => by simp at h
  | b :: l, 0, h => by
    simp at h
    subst h
    simp
  | b :: l, i + 1, h => by
    have := count_set l i (by simpa using h)
    simp only [List.set_cons_succ, List.count_cons]
    omega

theorem wpAnyK_inv (J : Array Bool → Act → World → Prop) (hd : downB ops = true) (hS : ∀ L a w, J L a w → S w)
    (hstep : ∀ i o L a w, ops[i]? = some o → L.size = ops.size → Closed ops L → L.getD i true = false → (∀ e ∈ o.after, Region.binds .any e = true → L.getD e.on false = true) → J L a w → wpOp P ops Q i (fun a' w' => J (L.setIfInBounds i true) a' w') a w)
    (hend : ∀ L a w, L.size = ops.size → (∀ i, i < ops.size → L.getD i true = true) → J L a w → Q .normal a w) :
    ∀ (n : Nat) (L : Array Bool) (a : Act) (w : World), L.size = ops.size → L.toList.count false ≤ n → closedB ops L = true ∨ Closed ops L → J L a w → wpAnyK P ops Q [] S n L a w := by
  intro n
  induction n with
  | zero =>
    intro L a w hz hc _ hJ
    have hall : ∀ i, i < ops.size → L.getD i true = true := fun i hi => by
      cases hl : L.getD i true with
      | true => rfl
      | false =>
        have h3 : i < L.size := by omega
        have : false ∈ L.toList := by
          have e : L[i] = false := by simpa [Array.getD, h3] using hl
          exact Array.mem_toList_iff.2 (e ▸ Array.getElem_mem h3)
        have := List.count_pos_iff.2 this
        omega
    refine ⟨?_, hend L a w hz hall hJ⟩
    rw [List.eq_nil_iff_forall_not_mem]
    intro i hi
    obtain ⟨h1, o, h2, _⟩ := mem_ready.1 hi
    rw [hall i (Array.getElem?_eq_some_iff.1 h2).1] at h1
    cases h1
  | succ n ih =>
    intro L a w hz hc hcl hJ
    have hcl : Closed ops L := hcl.elim closed_of id
    refine ⟨fun hr => hend L a w hz (all_listed (down_of hd) hz hr) hJ, fun i hi => ?_⟩
    obtain ⟨h1, o, h2, h3⟩ := mem_ready.1 hi
    refine wpOp_mono (fun a' w' hJ' => ⟨fun _ => hS _ _ _ hJ', ih _ a' w' (by simpa using hz) ?_ (.inr (hcl.set h2 h3)) hJ'⟩) (hstep i o L a w h2 hz hcl h1 h3 hJ)
    have h4 : i < L.size := by have := (Array.getElem?_eq_some_iff.1 h2).1; omega
    have e : L.toList[i]? = some false := by
      have : L[i] = false := by simpa [Array.getD, h4] using h1
      simp [h4, this]
    have := count_set L.toList i e
    simp only [Array.toList_setIfInBounds]
    omega
end
end Go.Proofs.Ytnbopmpbgopafaa
