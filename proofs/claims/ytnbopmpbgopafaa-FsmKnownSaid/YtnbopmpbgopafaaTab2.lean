/- fsm: what the table's closures do, as one function of state and kind. -/
import Derived.Test.YtnbopmpbgopafaaTab
namespace Go.Proofs.Ytnbopmpbgopafaa
open Go.RowKit
variable {A B : Nat → Prop}

def tabD (m : MachD) (k : Int) (o : OpenD) : MachD × List ActD :=
  if m.state = 1 ∧ k = 1 then ({ m with wanted := true, state := begS m.passive }, begL m.passive m.retry)
  else if m.state = 1 ∧ k = 11 then (if m.wanted then ({ m with state := begS m.passive }, begL m.passive m.retry) else (m, []))
  else if m.state = 1 ∧ k = 2 then (m, [actC 1])
  else if (m.state = 2 ∨ m.state = 3) ∧ k = 3 then ({ m with state := 4 }, [actC 1, actK 3, actA 2 240])
  else if m.state = 2 ∧ (k = 4 ∨ k = 5) then ({ m with state := 3 }, [actA 1 m.retry])
  else if (m.state = 2 ∨ m.state = 3) ∧ k = 11 then (if m.passive then (m, []) else ({ m with state := 2 }, [actK 1, actA 1 m.retry]))
  else if (m.state = 2 ∨ m.state = 3) ∧ k = 2 then ({ m with state := 1 }, [actC 1, actK 2])
  else if m.state = 4 ∧ k = 6 then openedD m o
  else if m.state = 4 ∧ (k = 7 ∨ k = 8) then (endM m, endL m 5 1 false)
  else if m.state = 4 ∧ k = 5 then ({ m with state := 3 }, [actC 2, actA 1 m.retry])
  else if m.state = 5 ∧ k = 7 then ({ m with state := 6 }, holdL m.ses.hold ++ [actK 8])
  else if m.state = 5 ∧ (k = 6 ∨ k = 8) then (endM m, endL m 5 2 false)
  else if (m.state = 5 ∨ m.state = 6) ∧ k = 13 then (m, tickL m.ses.hold)
  else if m.state = 6 ∧ (k = 7 ∨ k = 8) then (m, holdL m.ses.hold)
  else if m.state = 6 ∧ k = 6 then (endM m, endL m 5 3 false)
  else (m, [])

theorem lookup_mem {α β : Type} [BEq α] [LawfulBEq α] {p : α} {v : β} : ∀ {l : List (α × β)}, l.lookup p = some v → (p, v) ∈ l
  | [], h => by simp at h
  | (q, u) :: l, h => by
    rw [List.lookup_cons] at h
    cases hpq : (p == q)
    · rw [hpq] at h; exact List.mem_cons_of_mem _ (lookup_mem h)
    · rw [hpq] at h
      simp only [Option.some.injEq] at h
      have := eq_of_beq hpq
      subst this
      subst h
      exact List.mem_cons_self
theorem lookup_of_mem {α β : Type} [BEq α] [LawfulBEq α] {p : α} {v : β} : ∀ {l : List (α × β)}, (l.map (·.1)).Nodup → (p, v) ∈ l → l.lookup p = some v
  | [], _, h => by simp at h
  | (q, u) :: l, hn, h => by
    simp only [List.map_cons, List.nodup_cons] at hn
    rw [List.lookup_cons]
    rcases List.mem_cons.1 h with h' | h'
    · simp only [Prod.mk.injEq] at h'
      rw [h'.1, h'.2]
      simp
    · have hne : (p == q) = false := by
        rw [beq_eq_false_iff_ne]
        rintro rfl
        exact hn.1 (List.mem_map.2 ⟨(p, v), h', rfl⟩)
      rw [hne]
      exact lookup_of_mem hn.2 h'
theorem lookup_perm {α β : Type} [BEq α] [LawfulBEq α] {l l' : List (α × β)} (h : l.Perm l') (hn : (l'.map (·.1)).Nodup) (p : α) : l.lookup p = l'.lookup p := by
  have hn' : (l.map (·.1)).Nodup := (h.map _).nodup_iff.2 hn
  cases h1 : l.lookup p with
  | some v => exact (lookup_of_mem hn (h.mem_iff.1 (lookup_mem h1))).symm
  | none =>
    cases h2 : l'.lookup p with
    | none => rfl
    | some v => rw [lookup_of_mem hn' (h.mem_iff.2 (lookup_mem h2))] at h1; cases h1

def rowsK : List (Int × Int) := insT.map (·.2.2.1)
theorem rowsT_keys (b3 b4 b5 b9 : Nat) (bc : Nat → Nat) : (rowsT b3 b4 b5 b9 bc).map (·.1) = rowsK := rfl
theorem rowsK_nodup : rowsK.Nodup := by decide

/-- All that a closure may need. -/
structure TabCx (A B : Nat → Prop) (w : World) (bm ba base : Nat) (m : MachD) (v : MV) (b3 b4 b5 b9 : Nat) (bc : Nat → Nat) (kd : Int) (o : OpenD) (qf qa qk : Value) (d : VerD) : Prop where
  clo : Clo A w bm ba base m v b3 b4
  nil : w.cell? ⟨ba, 0, none⟩ = some (.slice none 0 0)
  h5 : w.heap[b5]? = some (.cells (inCells kd o qf qa qk d) 46 (0, 0))
  ho : OpenAt B w o qf qa qk
  hB : ∀ k, B k → Out bm ba base k
  l1 : o.fams.length * 8 ≤ 140737488355328
  l2 : o.adds.length * 16 ≤ 140737488355328
  l3 : o.kept.length * 16 ≤ 140737488355328
  o9 : Out bm ba base b9
  c9 : w.cell? ⟨b9, 0, none⟩ = some (.func (.func 65) #[] #[.pointer (some ⟨b4, 0, none⟩), .pointer (some ⟨b3, 0, none⟩)])
  hc : ∀ c ∈ calT, Out bm ba base (bc c.1) ∧ w.cell? ⟨bc c.1, 0, none⟩ = some (.int .u8 c.2.2)
  hold : m.ses.hold ≤ 65535

theorem tab_none {m : MachD} {k : Int} {o : OpenD} (h : (m.state, k) ∉ rowsK) : tabD m k o = (m, []) := by
  have no : ∀ a b : Int, (a, b) ∈ rowsK → m.state = a → k = b → False := fun a b hm h1 h2 => h (by rw [h1, h2]; exact hm)
  unfold tabD
  rw [if_neg (fun hq => no 1 1 (by decide) hq.1 hq.2), if_neg (fun hq => no 1 11 (by decide) hq.1 hq.2), if_neg (fun hq => no 1 2 (by decide) hq.1 hq.2),
    if_neg (fun hq => hq.1.elim (fun h1 => no 2 3 (by decide) h1 hq.2) (fun h1 => no 3 3 (by decide) h1 hq.2)),
    if_neg (fun hq => hq.2.elim (fun h1 => no 2 4 (by decide) hq.1 h1) (fun h1 => no 2 5 (by decide) hq.1 h1)),
    if_neg (fun hq => hq.1.elim (fun h1 => no 2 11 (by decide) h1 hq.2) (fun h1 => no 3 11 (by decide) h1 hq.2)),
    if_neg (fun hq => hq.1.elim (fun h1 => no 2 2 (by decide) h1 hq.2) (fun h1 => no 3 2 (by decide) h1 hq.2)),
    if_neg (fun hq => no 4 6 (by decide) hq.1 hq.2), if_neg (fun hq => hq.2.elim (fun h1 => no 4 7 (by decide) hq.1 h1) (fun h1 => no 4 8 (by decide) hq.1 h1)),
    if_neg (fun hq => no 4 5 (by decide) hq.1 hq.2), if_neg (fun hq => no 5 7 (by decide) hq.1 hq.2),
    if_neg (fun hq => hq.2.elim (fun h1 => no 5 6 (by decide) hq.1 h1) (fun h1 => no 5 8 (by decide) hq.1 h1)),
    if_neg (fun hq => hq.1.elim (fun h1 => no 5 13 (by decide) h1 hq.2) (fun h1 => no 6 13 (by decide) h1 hq.2)),
    if_neg (fun hq => hq.2.elim (fun h1 => no 6 7 (by decide) hq.1 h1) (fun h1 => no 6 8 (by decide) hq.1 h1)),
    if_neg (fun hq => no 6 6 (by decide) hq.1 hq.2)]
theorem tab_runs {w : World} {bm ba base : Nat} {m : MachD} {v : MV} {b3 b4 b5 b9 : Nat} {bc : Nat → Nat} {kd : Int} {o : OpenD} {qf qa qk : Value} {d : VerD} (C : TabCx A B w bm ba base m v b3 b4 b5 b9 bc kd o qf qa qk d) (k : Int) :
    ((rowsT b3 b4 b5 b9 bc).lookup (m.state, k) = none ∧ tabD m k o = (m, [])) ∨
      ∃ n fr, (rowsT b3 b4 b5 b9 bc).lookup (m.state, k) = some (.func (.func n) #[] fr) ∧ (∀ W, (callFunc n fr).run Try.prog W = .ok (.enter n fr) W) ∧ Calls Try.prog n fr w fun e w' => e = .returned (.tuple #[]) ∧ StepTo A bm ba base w w' (tabD m k o).1 (tabD m k o).2 := by
  cases hl : (rowsT b3 b4 b5 b9 bc).lookup (m.state, k) with
  | none =>
    refine .inl ⟨rfl, tab_none (fun hm => ?_)⟩
    rw [← rowsT_keys b3 b4 b5 b9 bc] at hm
    obtain ⟨⟨p, u⟩, h1, h2⟩ := List.mem_map.1 hm
    simp only at h2
    subst h2
    rw [lookup_of_mem (by rw [rowsT_keys]; exact rowsK_nodup) h1] at hl
    cases hl
  | some u =>
    refine .inr ?_
    have hm := lookup_mem hl
    clear hl
    have hc := C.hc
    simp only [calT, List.forall_mem_cons] at hc
    obtain ⟨⟨o1, c1⟩, ⟨o2, c2⟩, ⟨o3, c3⟩, ⟨o4, c4⟩, ⟨o5, c5⟩, _⟩ := hc
    simp only [rowsT, List.mem_cons, List.not_mem_nil, or_false, Prod.mk.injEq] at hm
    have BC := C.clo
    rcases hm with ⟨⟨hs, rfl⟩, rfl⟩ | ⟨⟨hs, rfl⟩, rfl⟩ | ⟨⟨hs, rfl⟩, rfl⟩ | ⟨⟨hs, rfl⟩, rfl⟩ | ⟨⟨hs, rfl⟩, rfl⟩ | ⟨⟨hs, rfl⟩, rfl⟩ | ⟨⟨hs, rfl⟩, rfl⟩ | ⟨⟨hs, rfl⟩, rfl⟩ | ⟨⟨hs, rfl⟩, rfl⟩ | ⟨⟨hs, rfl⟩, rfl⟩ | ⟨⟨hs, rfl⟩, rfl⟩ | ⟨⟨hs, rfl⟩, rfl⟩ | ⟨⟨hs, rfl⟩, rfl⟩ | ⟨⟨hs, rfl⟩, rfl⟩ | ⟨⟨hs, rfl⟩, rfl⟩ | ⟨⟨hs, rfl⟩, rfl⟩ | ⟨⟨hs, rfl⟩, rfl⟩ | ⟨⟨hs, rfl⟩, rfl⟩ | ⟨⟨hs, rfl⟩, rfl⟩ | ⟨⟨hs, rfl⟩, rfl⟩ | ⟨⟨hs, rfl⟩, rfl⟩ | ⟨⟨hs, rfl⟩, rfl⟩ | ⟨⟨hs, rfl⟩, rfl⟩
    all_goals (refine ⟨_, _, rfl, (fun W => by go_simp), ?_⟩; simp only [tabD, hs]; simp only [Int.reduceEq, and_true, and_false, true_and, false_and, or_true, true_or, or_self, or_false, false_or, if_true, if_false, and_self])
    · exact k7 BC
    · by_cases hw : m.wanted = true
      · rw [if_pos hw]; exact k8b BC hw
      · rw [if_neg hw]; exact k8a BC (by simpa using hw)
    · exact k9 BC
    · exact k2 BC
    · exact k2 BC
    · exact k3 BC
    · exact k3 BC
    · by_cases hp : m.passive = true
      · rw [if_pos hp]; exact k1a BC hp
      · rw [if_neg hp]; exact k1b BC (by simpa using hp)
    · by_cases hp : m.passive = true
      · rw [if_pos hp]; exact k1a BC hp
      · rw [if_neg hp]; exact k1b BC (by simpa using hp)
    · exact k4 BC
    · exact k4 BC
    · exact k10 BC C.nil C.h5 C.ho C.hB C.l1 C.l2 C.l3
    · exact k5 BC 1 o1 c1
    · exact k5 BC 1 o2 c2
    · exact k11 BC C.o9 C.c9
    · exact k12 BC
    · exact k5 BC 2 o3 c3
    · exact k5 BC 2 o4 c4
    · exact k6 BC (by have := C.hold; omega)
    · exact k6 BC (by have := C.hold; omega)
    · exact k13 BC
    · exact k14 BC
    · exact k5 BC 3 o5 c5
end Go.Proofs.Ytnbopmpbgopafaa
