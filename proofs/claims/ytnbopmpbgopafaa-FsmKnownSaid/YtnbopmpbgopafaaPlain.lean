/- fsm: plain laws of Do. -/
import Derived.Test.YtnbopmpbgopafaaWorks
namespace Go.Proofs.Ytnbopmpbgopafaa

/-- A machine's state is one of the six. -/
def StOk (m : MachD) : Prop := 1 ≤ m.state ∧ m.state ≤ 6

/-- Behind each note stands a close. -/
def noteF : List ActD → Bool
  | [] => true
  | [x] => x.kind != 5
  | x :: y :: l => (x.kind != 5 || y.kind == 2) && noteF (y :: l)
def hasNote (L : List ActD) : Bool := L.any fun x => x.kind == 5
theorem noteF_at : ∀ {L : List ActD} {i : Nat} {x : ActD}, noteF L = true → L[i]? = some x → x.kind = 5 → ∃ y, L[i + 1]? = some y ∧ y.kind = 2
  | [], i, x, _, h, _ => by simp at h
  | [a], 0, x, hn, h, hk => by
    simp at h; subst h; simp [noteF, hk] at hn
  | [a], i + 1, x, hn, h, hk => by simp at h
  | a :: b :: l, 0, x, hn, h, hk => by
    simp at h; subst h
    simp [noteF, hk] at hn
    exact ⟨b, rfl, hn.1⟩
  | a :: b :: l, i + 1, x, hn, h, hk => by
    simp only [noteF, Bool.and_eq_true] at hn
    simp only [List.getElem?_cons_succ] at h ⊢
    exact noteF_at hn.2 h hk
theorem hasNote_at {L : List ActD} {i : Nat} {x : ActD} (h : L[i]? = some x) (hk : x.kind = 5) : hasNote L = true := by
  unfold hasNote
  exact List.any_eq_true.2 ⟨x, List.mem_of_getElem? h, by simp [hk]⟩

/-- How often a kind of acts stands in a list. -/
def cnt (k : Int) (L : List ActD) : Nat := (L.filter fun x => x.kind == k).length

/-- What is shown of one step. -/
structure StepOk (m : MachD) (r : MachD × List ActD) : Prop where
  st : StOk r.1
  note : noteF r.2 = true
  has : hasNote r.2 = true → 4 ≤ m.state ∧ r.1.state = 1
  ups : cnt 8 r.2 = if m.state ≠ 6 ∧ r.1.state = 6 then 1 else 0
  downs : cnt 9 r.2 = if m.state = 6 ∧ r.1.state ≠ 6 then 1 else 0
  len : r.2.length ≤ 6

theorem end_ok {m : MachD} {c s : Int} {closed : Bool} (hs : 4 ≤ m.state) (h6 : m.state ≤ 6) (hc : closed = true → c ≤ 0) : StepOk m (endM m, endL m c s closed) := by
  have hs2 : m.state = 4 ∨ m.state = 5 ∨ m.state = 6 := by omega
  have e1 : (endM m).state = 1 := rfl
  unfold endL noteL closeL downL againL actC actK actA
  refine ⟨⟨by simp [e1], by simp [e1]⟩, ?_, fun _ => ⟨hs, rfl⟩, ?_, ?_, ?_⟩
  · by_cases h1 : 0 < c
    · cases closed with
      | true => exact absurd (hc rfl) (by omega)
      | false => rcases hs2 with h | h | h <;> cases hw : m.wanted <;> simp [h, h1, noteF]
    · rcases hs2 with h | h | h <;> cases closed <;> cases hw : m.wanted <;> simp [h, h1, noteF]
  · rcases hs2 with h | h | h <;> cases closed <;> cases hw : m.wanted <;> by_cases h1 : 0 < c <;> simp [cnt, h, h1, e1]
  · rcases hs2 with h | h | h <;> cases closed <;> cases hw : m.wanted <;> by_cases h1 : 0 < c <;> simp [cnt, h, h1, e1]
  · rcases hs2 with h | h | h <;> cases closed <;> cases hw : m.wanted <;> by_cases h1 : 0 < c <;> simp [h, h1]

theorem StepOk.ite {m : MachD} {c : Prop} [Decidable c] {a b : MachD × List ActD} (ha : c → StepOk m a) (hb : ¬ c → StepOk m b) : StepOk m (if c then a else b) := by
  split
  · exact ha ‹_›
  · exact hb ‹_›

/-- A step with no note, no up and no down, that neither enters nor leaves the sixth state. -/
theorem StepOk.plain {m m' : MachD} {L : List ActD} (h' : StOk m') (hn : L.all (fun x => x.kind != 5 && x.kind != 8 && x.kind != 9) = true) (h6 : m.state = 6 ↔ m'.state = 6) (hl : L.length ≤ 6) : StepOk m (m', L) := by
  have hm : ∀ x ∈ L, x.kind ≠ 5 ∧ x.kind ≠ 8 ∧ x.kind ≠ 9 := fun x hx => by
    have := List.all_eq_true.1 hn x hx
    simpa [and_assoc] using this
  have hh : hasNote L = false := by
    unfold hasNote
    rw [List.any_eq_false]
    intro x hx; simpa using (hm x hx).1
  have hf : ∀ l : List ActD, (∀ x ∈ l, x.kind ≠ 5 ∧ x.kind ≠ 8 ∧ x.kind ≠ 9) → noteF l = true := by
    intro l
    induction l with
    | nil => intro _; rfl
    | cons a l ih =>
      intro h
      cases l with
      | nil => simpa [noteF] using (h a (by simp)).1
      | cons b l =>
        simp only [noteF, Bool.and_eq_true]
        exact ⟨by simp [(h a (by simp)).1], ih (fun x hx => h x (List.mem_cons_of_mem _ hx))⟩
  refine ⟨h', hf L hm, (fun h => by rw [hh] at h; cases h), ?_, ?_, hl⟩
  · have : cnt 8 L = 0 := by
      unfold cnt; rw [List.length_eq_zero_iff, List.filter_eq_nil_iff]; intro x hx; simpa using (hm x hx).2.1
    rw [this, if_neg]; rintro ⟨a, b⟩; exact a (h6.2 b)
  · have : cnt 9 L = 0 := by
      unfold cnt; rw [List.length_eq_zero_iff, List.filter_eq_nil_iff]; intro x hx; simpa using (hm x hx).2.2
    rw [this, if_neg]; rintro ⟨a, b⟩; exact b (h6.1 a)

theorem beg_all (p : Bool) (r : Int) : (begL p r).all (fun x => x.kind != 5 && x.kind != 8 && x.kind != 9) = true ∧ (begL p r).length ≤ 6 := by cases p <;> exact ⟨rfl, by simp [begL]⟩
theorem tick_all (h : Int) : (tickL h).all (fun x => x.kind != 5 && x.kind != 8 && x.kind != 9) = true ∧ (tickL h).length ≤ 6 := by unfold tickL; split <;> exact ⟨rfl, by simp⟩
theorem hold_all (h : Int) : (holdL h).all (fun x => x.kind != 5 && x.kind != 8 && x.kind != 9) = true ∧ (holdL h).length ≤ 6 := by unfold holdL; split <;> exact ⟨rfl, by simp⟩
theorem opened_all (h : Int) : (openedL h).all (fun x => x.kind != 5 && x.kind != 8 && x.kind != 9) = true ∧ (openedL h).length ≤ 6 := by unfold openedL; split <;> exact ⟨rfl, by simp⟩
theorem begS_ok (p : Bool) : begS p = 2 ∨ begS p = 3 := by cases p <;> simp [begS]

theorem opened_ok {m : MachD} {o : OpenD} (hs : m.state = 4) : StepOk m (openedD m o) := by
  unfold openedD
  refine .ite (fun _ => end_ok (by omega) (by omega) (by simp)) (fun _ => .ite (fun _ => end_ok (by omega) (by omega) (by simp)) (fun _ => .ite (fun _ => end_ok (by omega) (by omega) (by simp)) (fun _ => ?_)))
  exact .plain ⟨by simp, by simp⟩ (opened_all _).1 (by simp [hs]) (opened_all _).2

theorem tab_ok {m : MachD} {k : Int} {o : OpenD} (hs : StOk m) : StepOk m (tabD m k o) := by
  have hb := begS_ok m.passive
  have hs' := hs
  obtain ⟨h1, h2⟩ := hs'
  refine .ite (fun h => ?_) (fun _ => .ite (fun h => .ite (fun _ => ?_) (fun _ => ?_)) (fun _ => .ite (fun h => ?_) (fun _ => .ite (fun h => ?_) (fun _ => .ite (fun h => ?_) (fun _ => .ite (fun h => .ite (fun _ => ?_) (fun _ => ?_)) (fun _ => .ite (fun h => ?_) (fun _ => .ite (fun h => ?_)
    (fun _ => .ite (fun h => ?_) (fun _ => .ite (fun h => ?_) (fun _ => .ite (fun h => ?_) (fun _ => .ite (fun h => ?_) (fun _ => .ite (fun h => ?_) (fun _ => .ite (fun h => ?_) (fun _ => .ite (fun h => ?_) (fun _ => ?_)))))))))))))))
  · exact .plain ⟨by simp; omega, by simp; omega⟩ (beg_all _ _).1 (by simp; omega) (beg_all _ _).2
  · exact .plain ⟨by simp; omega, by simp; omega⟩ (beg_all _ _).1 (by simp; omega) (beg_all _ _).2
  · exact .plain hs rfl Iff.rfl (by simp)
  · exact .plain hs rfl Iff.rfl (by simp)
  · exact .plain ⟨by simp, by simp⟩ rfl (by simp; omega) (by simp)
  · exact .plain ⟨by simp, by simp⟩ rfl (by simp; omega) (by simp)
  · exact .plain hs rfl Iff.rfl (by simp)
  · exact .plain ⟨by simp, by simp⟩ rfl (by simp; omega) (by simp)
  · exact .plain ⟨by simp, by simp⟩ rfl (by simp; omega) (by simp)
  · exact opened_ok h.1
  · exact end_ok (by omega) (by omega) (by simp)
  · exact .plain ⟨by simp, by simp⟩ rfl (by simp; omega) (by simp)
  · have hu : m.state = 5 := h.1
    refine ⟨⟨by simp, by simp⟩, ?_, ?_, ?_, ?_, ?_⟩ <;> unfold holdL <;> split <;> simp [noteF, hasNote, cnt, actK, actA, hu]
  · exact end_ok (by omega) (by omega) (by simp)
  · exact .plain hs (tick_all _).1 Iff.rfl (tick_all _).2
  · exact .plain hs (hold_all _).1 Iff.rfl (hold_all _).2
  · exact end_ok (by omega) (by omega) (by simp)
  · exact .plain hs rfl Iff.rfl (by simp)

/-- One step. -/
theorem do_ok {m : MachD} {k : Int} {o : OpenD} {d : VerD} (hs : StOk m) : StepOk m (doD m k o d) := by
  have hw : StOk (doW m k) := hs
  have key : StepOk (doW m k) (doD m k o d) := by
    unfold doD
    cases he : doEnd m k d with
    | none => exact tab_ok hw
    | some x =>
      obtain ⟨v, c⟩ := x
      have h4 : 4 ≤ m.state ∧ (c = true → v.code ≤ 0) := by
        unfold doEnd at he
        by_cases h : 4 ≤ m.state
        · rw [if_pos h] at he
          refine ⟨h, ?_⟩
          split at he
          · cases he; simp
          split at he
          · cases he; simp
          split at he
          · cases he; simp
          split at he
          · cases he
          split at he
          · cases he; simp
          split at he
          · cases he; simp
          · cases he
        · rw [if_neg h] at he; cases he
      exact end_ok h4.1 hw.2 h4.2
  exact ⟨key.st, key.note, key.has, key.ups, key.downs, key.len⟩

/-- Stopped: idle, and not wanted. -/
theorem do_stop {m : MachD} {o : OpenD} {d : VerD} (hs : StOk m) : (doD m 2 o d).1.state = 1 ∧ (doD m 2 o d).1.wanted = false := by
  obtain ⟨h1, h2⟩ := hs
  by_cases h : 4 ≤ m.state
  · have he : doEnd m 2 d = some (if d.code = 0 then ⟨0, 6, 2⟩ else d, false) := by simp [doEnd, h]
    unfold doD
    rw [he]
    exact ⟨rfl, by simp [endM, doW]⟩
  · have he : doEnd m 2 d = none := by simp [doEnd, h]
    have hk : doK m 2 = 2 := by simp [doK]
    unfold doD
    rw [he]
    have : m.state = 1 ∨ m.state = 2 ∨ m.state = 3 := by omega
    rcases this with h | h | h <;> simp [tabD, doW, hk, h]
/-- Idle and not wanted, it stays so till it is started. -/
theorem do_idle {m : MachD} {k : Int} {o : OpenD} {d : VerD} (hs : m.state = 1) (hw : m.wanted = false) (hk : k ≠ 1) : (doD m k o d).1.state = 1 ∧ (doD m k o d).1.wanted = false ∧ ((doD m k o d).2 = [] ∨ (doD m k o d).2 = [actC 1]) := by
  have he : doEnd m k d = none := by simp [doEnd, hs]
  have hk2 : doK m k = k := by simp [doK, hs]
  unfold doD
  rw [he]
  simp only [hk2]
  by_cases h2 : k = 2
  · subst h2; simp [tabD, doW, hs, hw]
  · by_cases h11 : k = 11
    · subst h11; simp [tabD, doW, hs, hw]
    · simp [tabD, doW, hs, hw, hk, h2, h11]
/-- Started, it begins. -/
theorem do_start {m : MachD} {o : OpenD} {d : VerD} (hs : m.state = 1) : (doD m 1 o d).1.state = 2 ∨ (doD m 1 o d).1.state = 3 := by
  have he : doEnd m 1 d = none := by simp [doEnd, hs]
  have hk2 : doK m 1 = 1 := by simp [doK]
  unfold doD
  rw [he]
  simp only [hk2]
  have := begS_ok m.passive
  simpa [tabD, doW, hs] using this
end Go.Proofs.Ytnbopmpbgopafaa
