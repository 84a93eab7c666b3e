/- A region that draws its order: operations that yield one value in every world that meets S may be taken first, as long as no operation that ends S ('killer') has come up; each killer waits for them. Over OrdersHeld's words. -/
import Derived.Test.YtnbopmpbgopafaaBase
import Derived.OrdersHeld
namespace Go.Proofs.Ytnbopmpbgopafaa
section
variable {P : Program} {ops : Array Oper} {Q : Exit → Act → World → Prop} {S : World → Prop}

/-- No killer has come up yet. -/
def alive (K : List Nat) (L : Array Bool) : Bool := K.all fun k => !(L.getD k false)
theorem alive_set {K : List Nat} {L : Array Bool} {j : Nat} (hj : j ∉ K) : alive K (L.setIfInBounds j true) = alive K L := by
  unfold alive
  rw [Bool.eq_iff_iff, List.all_eq_true, List.all_eq_true]
  have h : ∀ k ∈ K, (L.setIfInBounds j true).getD k false = L.getD k false := fun k hk => getD_set_ne false (fun e => hj (e ▸ hk))
  exact ⟨fun g k hk => by rw [← h k hk]; exact g k hk, fun g k hk => by rw [h k hk]; exact g k hk⟩

def wpAnyK (P : Program) (ops : Array Oper) (Q : Exit → Act → World → Prop) (K : List Nat) (S : World → Prop) : Nat → Array Bool → Act → World → Prop
  | 0, L, a, w => Region.ready .any ops L = [] ∧ Q .normal a w
  | n + 1, L, a, w =>
    (Region.ready .any ops L = [] → Q .normal a w) ∧
    ∀ i ∈ Region.ready .any ops L, wpOp P ops Q i (fun a' w' => (alive K (L.setIfInBounds i true) = true → S w') ∧ wpAnyK P ops Q K S n (L.setIfInBounds i true) a' w') a w

theorem wpAny_of_K {K : List Nat} : ∀ (n : Nat) (L : Array Bool) (a : Act) (w : World), wpAnyK P ops Q K S n L a w → wpAny P .any ops Q n L a w
  | 0, _, _, _, h => h
  | n + 1, _, _, _, h => ⟨h.1, fun i hi => wpOp_mono (fun a' w' h' => wpAny_of_K n _ a' w' h'.2) (h.2 i hi)⟩

/-- Every killer waits for operation i. -/
def waited (ops : Array Oper) (K : List Nat) (i : Nat) : Bool :=
  K.all fun k => k != i && match ops[k]? with
    | some o => o.after.any fun e => Region.binds .any e && e.on == i
    | none => false

theorem wpAnyK_first {K : List Nat} {i : Nat} {oi : Oper} {v : Value} (hi : ops[i]? = some oi) (hsel : ∀ (j : Nat) (o : Oper) cs b, ops[j]? = some o → o.op ≠ .select cs b)
    (hQ : ∀ c a w, Q (.panic c) (a.put oi.dst v) w → Q (.panic c) a w) (hK : waited ops K i = true) :
    ∀ (n : Nat) (L : Array Bool) (a : Act) (w : World),
      (∀ j oj, ops[j]? = some oj → j ≠ i → L.getD j true = false → (∀ e ∈ oj.after, Region.binds .any e = true → e.on ≠ i) → oi.apart ops oj = true) →
      i ∈ Region.ready .any ops L → YieldsIf P ops S oi v a → alive K L = true → S w →
      wpAnyK P ops Q K S n (L.setIfInBounds i true) (a.put oi.dst v) w → wpAnyK P ops Q K S (n + 1) L a w := by
  have hiK : i ∉ K := fun h => by
    have := List.all_eq_true.1 hK i h
    simp at this
  have hwait : ∀ k ∈ K, ∀ ok, ops[k]? = some ok → ∃ e ∈ ok.after, Region.binds .any e = true ∧ e.on = i := fun k hk ok hok => by
    have := List.all_eq_true.1 hK k hk
    rw [hok] at this
    simp only [Bool.and_eq_true] at this
    obtain ⟨e, he, hb⟩ := Array.any_eq_true'.1 this.2
    simp only [Bool.and_eq_true, beq_iff_eq] at hb
    exact ⟨e, he, hb.1, hb.2⟩
  intro n
  induction n with
  | zero =>
    intro L a w _ hr hy ha hS H
    refine ⟨fun h => (by rw [h] at hr; cases hr), fun j hj => ?_⟩
    by_cases hji : j = i
    · subst hji; exact hy.wpOp hi hS ⟨fun _ => hS, H⟩
    · have := ready_mono hj hji
      rw [H.1] at this
      cases this
  | succ n ih =>
    intro L a w hfree hr hy ha hS H
    refine ⟨fun h => (by rw [h] at hr; cases hr), fun j hj => ?_⟩
    by_cases hji : j = i
    · subst hji; exact hy.wpOp hi hS ⟨fun _ => hS, H⟩
    · have h1 := H.2 j (ready_mono hj hji)
      obtain ⟨hjun, oj, hoj, hall⟩ := mem_ready.1 hj
      have hnot : ∀ e ∈ oj.after, Region.binds .any e = true → e.on ≠ i := fun e he hb heq => by
        have g1 := hall e he hb
        have g0 := (mem_ready.1 hr).1
        rw [heq] at g1
        rcases Nat.lt_or_ge i L.size with h' | h'
        · simp [h'] at g0 g1; rw [g0] at g1; cases g1
        · simp [Array.getElem?_eq_none h'] at g1
      have hjK : j ∉ K := fun hk => by
        obtain ⟨e, he, hb, ho⟩ := hwait j hk oj hoj
        exact hnot e he hb ho
      have al : alive K (L.setIfInBounds j true) = true := by rw [alive_set hjK]; exact ha
      have al2 : alive K ((L.setIfInBounds i true).setIfInBounds j true) = true := by rw [alive_set hjK, alive_set hiK]; exact ha
      have h2 := wpOp_putIf hoj (hfree j oj hoj hji hjun hnot) (fun cs b => hsel i oi cs b hi) (fun cs b => hsel j oj cs b hoj) hQ hy h1
      have hfree' : ∀ k ok, ops[k]? = some ok → k ≠ i → (L.setIfInBounds j true).getD k true = false →
          (∀ e ∈ ok.after, Region.binds .any e = true → e.on ≠ i) → oi.apart ops ok = true := fun k ok hk hki hun hno => by
        refine hfree k ok hk hki ?_ hno
        by_cases hjk : j = k
        · subst hjk; exact hjun
        · rw [getD_set_ne true hjk] at hun; exact hun
      refine wpOp_mono (fun a' w' h3 => ⟨fun _ => h3.2.1 al2, ih (L.setIfInBounds j true) a' w' hfree' (ready_mono hr (Ne.symm hji)) h3.1 al (h3.2.1 al2) ?_⟩) h2
      rw [Array.setIfInBounds_comm _ _ hji]
      exact h3.2.2

/-- Take number i first. -/
theorem wpAnyK_take {K : List Nat} (i : Nat) {oi : Oper} {v : Value} {n : Nat} {L : Array Bool} {a : Act} {w : World} (hi : ops[i]? = some oi)
    (hs : (Region.noSelect ops && Region.free .any ops L i && (Region.ready .any ops L).contains i && waited ops K i && alive K L) = true)
    (hQ : ∀ c a w, Q (.panic c) (a.put oi.dst v) w → Q (.panic c) a w) (hy : YieldsIf P ops S oi v a) (hS : S w)
    (h : wpAnyK P ops Q K S n (L.setIfInBounds i true) (a.put oi.dst v) w) : wpAnyK P ops Q K S (n + 1) L a w := by
  simp only [Bool.and_eq_true] at hs
  obtain ⟨⟨⟨⟨h1, h2⟩, h3⟩, h4⟩, h5⟩ := hs
  exact wpAnyK_first hi (Region.noSelect_spec h1) hQ h4 n L a w (Region.free_spec hi h2) (by simpa using h3) hy h5 hS h

/-- Number i alone may come up. -/
theorem wpAnyK_one {K : List Nat} (i : Nat) {oi : Oper} {n : Nat} {L : Array Bool} {a : Act} {w : World} (hr : Region.ready .any ops L = [i]) (hi : ops[i]? = some oi)
    (hw : Region.wanted oi (yielded ops a.tmps) = true)
    (h : ∀ K' : Act → World → Prop, (∀ a' w', (alive K (L.setIfInBounds i true) = true → S w') ∧ wpAnyK P ops Q K S n (L.setIfInBounds i true) a' w' → K' a' w') → oi.wp P a w K' Q) :
    wpAnyK P ops Q K S (n + 1) L a w := by
  refine ⟨fun h0 => (by rw [h0] at hr; cases hr), fun j hj => ?_⟩
  rw [hr] at hj
  simp at hj
  subst hj
  unfold wpOp
  rw [hi]
  simp only [hw, if_true]
  exact .inl (h _ fun _ _ h => h)

/-- Two may come up: either. -/
theorem wpAnyK_two {K : List Nat} (i j : Nat) {n : Nat} {L : Array Bool} {a : Act} {w : World} (hr : Region.ready .any ops L = [i, j])
    (h1 : wpOp P ops Q i (fun a' w' => (alive K (L.setIfInBounds i true) = true → S w') ∧ wpAnyK P ops Q K S n (L.setIfInBounds i true) a' w') a w)
    (h2 : wpOp P ops Q j (fun a' w' => (alive K (L.setIfInBounds j true) = true → S w') ∧ wpAnyK P ops Q K S n (L.setIfInBounds j true) a' w') a w) :
    wpAnyK P ops Q K S (n + 1) L a w := by
  refine ⟨fun h0 => (by rw [h0] at hr; cases hr), fun k hk => ?_⟩
  rw [hr] at hk
  simp at hk
  rcases hk with rfl | rfl
  · exact h1
  · exact h2
theorem wpOp_wanted {i : Nat} {oi : Oper} {a : Act} {w : World} {R : Act → World → Prop} (hi : ops[i]? = some oi) (hw : Region.wanted oi (yielded ops a.tmps) = true)
    (h : ∀ K' : Act → World → Prop, (∀ a' w', R a' w' → K' a' w') → oi.wp P a w K' Q) : wpOp P ops Q i R a w := by
  unfold wpOp
  rw [hi]
  simp only [hw, if_true]
  exact .inl (h _ fun _ _ h => h)

/-- All have come up. -/
theorem wpAnyK_done {K : List Nat} {L : Array Bool} {a : Act} {w : World} {n : Nat} (hr : Region.ready .any ops L = []) (h : Q .normal a w) : wpAnyK P ops Q K S n L a w := by
  cases n with
  | zero => exact ⟨hr, h⟩
  | succ n => exact ⟨fun _ => h, by rw [hr]; simp⟩

theorem dead {K : List Nat} {L : Array Bool} {p : Prop} (h : alive K L = false) : alive K L = true → p := fun g => by rw [h] at g; cases g

/-- The beginning. -/
theorem wp_region_K {id : Nat} {a : Act} {w : World} (K : List Nat) (S : World → Prop) (hm : P.follows .mixedOrders = true)
    (h : wpAnyK P ops Q K S ops.size (Array.replicate ops.size false) a w.drew) : (Code.region id ops true).wp P Q a w :=
  wp_region_any hm (wpAny_of_K _ _ _ _ h)
theorem wp_region_K2 {id : Nat} {a : Act} {w : World} (K : List Nat) (S : World → Prop) (R : World → Prop) (hm : P.follows .mixedOrders = true) (hS : S w.drew) (hR : R w.drew)
    (h : S w.drew → R w.drew → wpAnyK P ops Q K S ops.size (Array.replicate ops.size false) a w.drew) : (Code.region id ops true).wp P Q a w :=
  wp_region_K K S hm (h hS hR)
theorem stillS {p q a : Prop} (hp : p) (hq : p → q) : (a → p) ∧ q := ⟨fun _ => hp, hq hp⟩
theorem deadS {K : List Nat} {L : Array Bool} {p q : Prop} (h : alive K L = false) (hq : q) : (alive K L = true → p) ∧ q := ⟨dead h, hq⟩
end
end Go.Proofs.Ytnbopmpbgopafaa
