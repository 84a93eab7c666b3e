/- A map literal whose entries may be put in in any order: keys that are pairs of ints, values that are no data. -/
import Derived.Test.YtnbopmpbgopafaaOpened
import Derived.Laws.StructEq
namespace Go.Proofs.Ytnbopmpbgopafaa
open Go.RowKit

set_option maxRecDepth 100000
abbrev kv (p : Int × Int) : Value := .agg #[.int .i64 p.1, .int .i64 p.2]
theorem run_equalIn_kv (d : Nat) (w : World) (p q : Int × Int) : (Op.equalIn (d + 1 + 1) 86 (kv p) (kv q)).run Try.prog w = .ok (p == q) w := by
  have h : (p == q) = (p.1 == q.1 && p.2 == q.2) := by obtain ⟨a, b⟩ := p; obtain ⟨c, d⟩ := q; rfl
  rw [h]
  rw [run_equalIn_agg w (d + 1) 86 _ _ Try.underlying86 (by kernel_rfl)]
  cases hh : (p.1 == q.1) <;> cases hk : (p.2 == q.2) <;> go_simp <;> simp_all
theorem run_equal_kv (w : World) (p q : Int × Int) : (Op.equal 86 (kv p) (kv q)).run Try.prog w = .ok (p == q) w := run_equalIn_kv 9998 w p q
theorem run_checkIn_kv (d : Nat) (w : World) (e : Bool) (p : Int × Int) : (Instr.checkKey e (d + 1 + 1) 86 (kv p)).run Try.prog w = .ok () w := by
  unfold Instr.checkKey
  go_simp
  unfold Instr.checkKey
  go_simp
theorem run_check_kv (w : World) (e : Bool) (p : Int × Int) : (Instr.checkKey e 10000 86 (kv p)).run Try.prog w = .ok () w := run_checkIn_kv 9998 w e p

/-- What entries say. -/
def ents (es : List MapEntry) (l : List ((Int × Int) × Value)) : Prop := es.map (fun e => (e.key, e.val)) = l.map (fun p => (kv p.1, p.2))
theorem run_findAsking_kv (w : World) (p : Int × Int) : ∀ (es : List MapEntry) (l : List ((Int × Int) × Value)) (i : Nat), ents es l →
    ∃ r, (Instr.findAsking 86 (kv p) es i).run Try.prog w = .ok r w ∧ r.map (·.2) = l.lookup p
  | [], [], i, _ => ⟨none, by simp [Instr.findAsking], rfl⟩
  | [], _ :: _, _, h => by simp [ents] at h
  | _ :: _, [], _, h => by simp [ents] at h
  | e :: es, (q, v) :: l, i, h => by
    have h' : e.key = kv q ∧ e.val = v ∧ ents es l := by
      simp only [ents, List.map_cons, List.cons.injEq, Prod.mk.injEq] at h
      exact ⟨h.1.1, h.1.2, h.2⟩
    obtain ⟨hk, hv, hr⟩ := h'
    obtain ⟨r, h1, h2⟩ := run_findAsking_kv w p es l (i + 1) hr
    cases hpq : (p == q)
    · exact ⟨r, by simp [Instr.findAsking, hk, run_equal_kv, hpq, h1], by simp [List.lookup, hpq, h2]⟩
    · exact ⟨some (i, v), by simp [Instr.findAsking, hk, run_equal_kv, hpq, hv], by simp [List.lookup, hpq]⟩
theorem run_findKey_kv (w : World) (p : Int × Int) (es : List MapEntry) (l : List ((Int × Int) × Value)) (h : ents es l) :
    ∃ r, (Instr.findKey 86 (kv p) es).run Try.prog w = .ok r w ∧ r.map (·.2) = l.lookup p := by
  obtain ⟨r, h1, h2⟩ := run_findAsking_kv w p es l 0 h
  cases es with
  | nil =>
    cases l with
    | nil => exact ⟨none, by simp [Instr.findKey, Instr.findNow, run_underlying Try.underlying86], rfl⟩
    | cons _ _ => simp [ents] at h
  | cons e es =>
    refine ⟨r, ?_, h2⟩
    simp only [Instr.findKey, Sem.run_bind, run_underlying Try.underlying86, Result.andThen_ok, Instr.findNow, Instr.sameNow]
    exact h1
/-- A map in the heap. -/
def MapAt (w : World) (b : Nat) (l : List ((Int × Int) × Value)) : Prop := ∃ es clock, w.heap[b]? = some (.map es clock) ∧ ents es.toList l
theorem MapAt.lookup {w : World} {b : Nat} {l : List ((Int × Int) × Value)} (h : MapAt w b l) (p : Int × Int) :
    (Instr.lookup 83 (.map (some b)) (kv p) false).run Try.prog w = .ok ((l.lookup p).getD .nilFunc) w := by
  obtain ⟨es, clock, hb, he⟩ := h
  obtain ⟨r, h1, h2⟩ := run_findKey_kv w p es.toList l he
  rw [← h2]
  cases r with
  | none => simp [Instr.lookup, run_underlying Try.underlying83, MapKept.run_getObj_map hb, run_check_kv, h1, Result.andThen]
  | some r => simp [Instr.lookup, run_underlying Try.underlying83, MapKept.run_getObj_map hb, run_check_kv, h1, Result.andThen]
theorem MapAt.insert {w : World} {b : Nat} {l : List ((Int × Int) × Value)} (h : MapAt w b l) (p : Int × Int) (v : Value) (hn : l.lookup p = none) :
    ∃ w', (Instr.mapUpdate 83 (.map (some b)) (kv p) v).run Try.prog w = .ok () w' ∧ MapAt w' b (l ++ [(p, v)]) ∧ ∀ A : Nat → Prop, ¬ A b → Keeps A w w' := by
  obtain ⟨es, clock, hb, he⟩ := h
  obtain ⟨r, h1, h2⟩ := run_findKey_kv w p es.toList l he
  rw [hn] at h2
  cases r with
  | some r => simp at h2
  | none =>
    refine ⟨{ w with heap := w.heap.setIfInBounds b (.map (es.push ⟨kv p, v, clock⟩) (clock + 1)) }, ?_, ⟨es.push ⟨kv p, v, clock⟩, clock + 1, ?_, ?_⟩, ?_⟩
    · simp [Instr.mapUpdate, run_underlying Try.underlying83, MapKept.run_getObj_map hb, run_check_kv, h1, MapKept.run_setObj_map _ hb, Result.andThen]
    · have := (Array.getElem?_eq_some_iff.1 hb).1
      simp [this]
    · unfold ents at he ⊢
      simp [he]
    · intro A hA
      exact ⟨rfl, rfl, rfl, by simp, fun k _ hk => by
        have : b ≠ k := fun e => hA (e ▸ hk)
        simp [Array.getElem?_setIfInBounds, this]⟩
end Go.Proofs.Ytnbopmpbgopafaa
