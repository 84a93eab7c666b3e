/- fsm: a machine's lists are short; counting acts. -/
import Derived.Test.YtnbopmpbgopafaaSes
namespace Go.Proofs.Ytnbopmpbgopafaa

theorem rising_len : ∀ (l : List Int) (a : Int), risingL l a = true → l = [] ∨ (l.length : Int) + a ≤ 5
  | [], _, _ => .inl rfl
  | f :: l, a, h => by
    right
    simp only [risingL] at h
    split at h
    · cases h
    · rcases rising_len l f h with rfl | h'
      · simp; omega
      · simp; omega
theorem check_len {o : OpenD} (h : checkD o = true) : o.fams.length ≤ 5 ∧ o.adds.length ≤ 5 ∧ o.kept.length ≤ 5 := by
  unfold checkD at h
  simp only [Bool.and_eq_true] at h
  obtain ⟨⟨⟨⟨⟨⟨⟨_, h1⟩, h2⟩, _⟩, _⟩, _⟩, _⟩, h3⟩ := h
  have g : ∀ {l : List Int}, risingL l 0 = true → l.length ≤ 5 := fun {l} h => by
    rcases rising_len l 0 h with rfl | h <;> simp at * <;> omega
  exact ⟨by simpa using g h1, by simpa using g h2, by simpa using g h3⟩
theorem small_none {m : MachD} (h1 : m.ses = sesNone) (h2 : m.theirs = openNone) : Small m := by
  constructor <;> simp [h1, h2, sesNone, openNone]
theorem Small.of {m m' : MachD} (h : Small m) (h1 : m'.ses = m.ses) (h2 : m'.theirs = m.theirs) : Small m' := by
  obtain ⟨a, b, c, d, e, f, g⟩ := h
  constructor <;> simp only [h1, h2] <;> assumption
theorem small_opened {m : MachD} {o : OpenD} : Small (openedD m o).1 := by
  unfold openedD
  split
  · exact small_none rfl rfl
  split
  · exact small_none rfl rfl
  split
  · exact small_none rfl rfl
  · rename_i _ h _
    have hc : (checkD m.mine && checkD o) = true := by
      cases hx : (checkD m.mine && checkD o) with
      | true => rfl
      | false => exact absurd (by simp [agE, hx]) h
    have ha : agD m.mine o = agreeD m.mine o := if_pos hc
    simp only [Bool.and_eq_true] at hc
    obtain ⟨f1, _, _⟩ := check_len hc.1
    obtain ⟨g1, g2, g3⟩ := check_len hc.2
    have hf : (agreeF m.mine o).length ≤ 5 := Nat.le_trans (List.length_filter_le _ _) f1
    constructor
    · simp only [ha]; show (agreeF m.mine o).length ≤ _; omega
    · simp only [ha]; exact Nat.le_trans (List.length_filter_le _ _) (by omega)
    · simp only [ha]; exact Nat.le_trans (List.length_filter_le _ _) (by omega)
    · simp only [ha]; exact Nat.le_trans (List.length_filter_le _ _) (by omega)
    · simp only; omega
    · simp only; omega
    · simp only; omega
theorem small_ite {c : Prop} [Decidable c] {a b : MachD × List ActD} (ha : Small a.1) (hb : Small b.1) : Small (if c then a else b).1 := by split <;> assumption
theorem small_end (m : MachD) : Small (endM m) := small_none rfl rfl
theorem small_tab {m : MachD} {k : Int} {o : OpenD} (h : Small m) : Small (tabD m k o).1 :=
  small_ite (h.of rfl rfl) (small_ite (small_ite (h.of rfl rfl) h) (small_ite h (small_ite (h.of rfl rfl) (small_ite (h.of rfl rfl) (small_ite (small_ite h (h.of rfl rfl)) (small_ite (h.of rfl rfl) (small_ite small_opened (small_ite (small_end _) (small_ite (h.of rfl rfl)
    (small_ite (h.of rfl rfl) (small_ite (small_end _) (small_ite h (small_ite h (small_ite (small_end _) h))))))))))))))
theorem small_do {m : MachD} {k : Int} {o : OpenD} {d : VerD} (h : Small m) : Small (doD m k o d).1 := by
  unfold doD
  split
  · exact small_end _
  · exact small_tab (h.of rfl rfl)
theorem small_new (p : PeerD) (o : OpenD) : Small (newD p o) := small_none rfl rfl

theorem cnt_snoc (k : Int) (L : List ActD) (j : Nat) (h : j < L.length) : cnt k (L.take (j + 1)) = cnt k (L.take j) + if L[j].kind = k then 1 else 0 := by
  unfold cnt
  rw [List.take_succ_eq_append_getElem h, List.filter_append, List.length_append]
  congr 1
  by_cases hk : L[j].kind = k <;> simp [hk]
theorem cnt_le (k : Int) (L : List ActD) : cnt k L ≤ L.length := List.length_filter_le _ _
end Go.Proofs.Ytnbopmpbgopafaa
