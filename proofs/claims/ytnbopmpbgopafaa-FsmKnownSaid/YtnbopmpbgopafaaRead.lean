/- How an argument reads: from what a statement gives of it to the lists and structures of these proofs. -/
import Derived.Test.YtnbopmpbgopafaaPlain
import Derived.SizedLaws
import Derived.OpenShut
namespace Go.Proofs.Ytnbopmpbgopafaa
open Go.RowKit

section
variable {P : Program} {w : World} {t : TypeId} {cs : List Value}

/-- The cells read as a datum of the type, each part of which is of no great weight. -/
def Reads (P : Program) (w : World) (t : TypeId) (cs : List Value) : Prop :=
  ∃ (H : Type) (enc : TypeId × Value → H) (fuel : Nat) (d : DataW H) (p : List MemPlace), DataW.trod enc P w 0 (fun _ => true) true fuel t cs = some (d, p) ∧ ∀ n ∈ d.weights P t, n ≤ reachBytes

theorem mapM_at {α β : Type} {g : α → Option β} : ∀ {l : List α} {xs : List β}, l.mapM g = some xs → xs.length = l.length ∧ ∀ (i : Nat) (x : α), l[i]? = some x → ∃ y, xs[i]? = some y ∧ g x = some y
  | [], xs, h => by
    simp at h; subst h
    exact ⟨rfl, fun i x hx => by simp at hx⟩
  | a :: l, xs, h => by
    rw [List.mapM_cons] at h
    cases hg : g a with
    | none => rw [hg] at h; cases h
    | some y =>
      cases hl : l.mapM g with
      | none => rw [hg, hl] at h; cases h
      | some ys =>
        rw [hg, hl] at h
        simp at h
        subst h
        obtain ⟨h1, h2⟩ := mapM_at hl
        refine ⟨by simp [h1], fun i x hx => ?_⟩
        cases i with
        | zero => simp at hx; subst hx; exact ⟨y, rfl, hg⟩
        | succ i => simp at hx ⊢; exact h2 i x hx
theorem weights_all {H : Type} {e : TypeId} : ∀ {ds : List (DataW H)} {j : Nat} {d : DataW H}, ds[j]? = some d → ∀ n ∈ d.weights P e, n ∈ DataW.weightsAll P e ds
  | [], j, d, h, _, _ => by simp at h
  | a :: ds, 0, d, h, n, hn => by
    simp at h; subst h
    simp only [DataW.weightsAll, List.mem_append]; exact .inl hn
  | a :: ds, j + 1, d, h, n, hn => by
    simp at h
    simp only [DataW.weightsAll, List.mem_append]; exact .inr (weights_all h n hn)

theorem Reads.int {k : IntKind} (h : Reads P w t cs) (ht : P.underlying t = some (.int k)) : ∃ n, cs = [.int k n] ∧ (Lit.int k n).wf = true := by
  obtain ⟨H, enc, fuel, d, p, h, _⟩ := h
  cases fuel with
  | zero => simp [DataW.trod] at h
  | succ fuel =>
    simp only [DataW.trod, ht] at h
    split at h <;> simp_all
theorem Reads.bool (h : Reads P w t cs) (ht : P.underlying t = some .bool) : ∃ b, cs = [.bool b] := by
  obtain ⟨H, enc, fuel, d, p, h, _⟩ := h
  cases fuel with
  | zero => simp [DataW.trod] at h
  | succ fuel =>
    simp only [DataW.trod, ht] at h
    split at h <;> simp_all
theorem Reads.string (h : Reads P w t cs) (ht : P.underlying t = some .string) : ∃ s, cs = [.string s] ∧ s.size ≤ reachBytes := by
  obtain ⟨H, enc, fuel, d, p, h, hw⟩ := h
  cases fuel with
  | zero => simp [DataW.trod] at h
  | succ fuel =>
    simp only [DataW.trod, ht] at h
    split at h <;> simp_all
    rename_i s _
    obtain ⟨_, rfl, _⟩ := h
    simpa [DataW.weights] using hw
theorem Reads.struct {fs : Array Field} (h : Reads P w t cs) (ht : P.underlying t = some (.struct fs)) : cs.length = P.cellsOf t ∧ ∀ (i : Nat) (f : Field), fs.toList[i]? = some f → Reads P w f.type ((cs.drop f.offset).take (P.cellsOf f.type)) := by
  obtain ⟨H, enc, fuel, d, p, h, hw⟩ := h
  cases fuel with
  | zero => simp [DataW.trod] at h
  | succ fuel =>
    simp only [DataW.trod, ht] at h
    split at h
    · rename_i hl
      refine ⟨hl, fun i f hf => ?_⟩
      rw [Option.map_eq_some_iff] at h
      obtain ⟨xs, hm, he⟩ := h
      simp only [Prod.mk.injEq] at he
      obtain ⟨rfl, rfl⟩ := he
      obtain ⟨_, hm⟩ := mapM_at hm
      obtain ⟨y, hy, hg⟩ := hm i f hf
      refine ⟨H, enc, fuel, y.1, y.2, hg, fun n hn => hw n ?_⟩
      simp only [DataW.weights, ht]
      exact DataW.weights_mem_each (j := i) (t := f.type) (d := y.1) (by rw [List.getElem?_map, hf]; rfl) (by rw [List.getElem?_map, hy]; rfl) n hn
    · cases h
theorem Reads.array {m : Nat} {e : TypeId} (h : Reads P w t cs) (ht : P.underlying t = some (.array m e)) : cs.length = P.cellsOf t ∧ ∀ i, i < m → Reads P w e ((cs.drop (i * P.cellsOf e)).take (P.cellsOf e)) := by
  obtain ⟨H, enc, fuel, d, p, h, hw⟩ := h
  cases fuel with
  | zero => simp [DataW.trod] at h
  | succ fuel =>
    simp only [DataW.trod, ht] at h
    split at h
    · rename_i hl
      refine ⟨hl, fun i hi => ?_⟩
      rw [Option.map_eq_some_iff] at h
      obtain ⟨xs, hm, he⟩ := h
      simp only [Prod.mk.injEq] at he
      obtain ⟨rfl, rfl⟩ := he
      obtain ⟨_, hm⟩ := mapM_at hm
      obtain ⟨y, hy, hg⟩ := hm i i (by rw [List.getElem?_range hi])
      refine ⟨H, enc, fuel, y.1, y.2, hg, fun n hn => hw n ?_⟩
      simp only [DataW.weights, ht]
      exact weights_all (j := i) (d := y.1) (by rw [List.getElem?_map, hy]; rfl) n hn
    · cases h
theorem cells_at {ad : Addr} {n : Nat} {es : List Value} (h : w.cells? 0 ad n = some es) : es.length = n ∧ ∀ j u, es[j]? = some u → w.cell? (ad.add j) = some u := by
  unfold World.cells? at h
  rw [if_pos (Nat.zero_le _)] at h
  obtain ⟨h1, h2⟩ := mapM_at h
  rw [List.length_range] at h1
  refine ⟨h1, fun j u hu => ?_⟩
  have hj : j < n := by rw [← h1]; exact (List.getElem?_eq_some_iff.1 hu).1
  obtain ⟨y, hy, hg⟩ := h2 j j (by rw [List.getElem?_range hj])
  rw [hu] at hy
  cases hy
  exact hg
theorem Reads.slice {e : TypeId} (h : Reads P w t cs) (ht : P.underlying t = some (.slice e)) : ∃ a len cap, cs = [.slice a len cap] ∧ len * P.bytesOf e ≤ reachBytes ∧
    ((a = none ∧ len = 0 ∧ cap = 0) ∨ ∃ ad, a = some ad ∧ len ≤ cap ∧ cap ≤ maxLen ∧ (∀ i, i < len → ∃ es, w.cells? 0 (ad.add (i * P.cellsOf e)) (P.cellsOf e) = some es ∧ Reads P w e es) ∧
      (len < cap → ∃ es, w.cells? 0 (ad.add (len * P.cellsOf e)) (P.cellsOf e) = some es)) := by
  obtain ⟨H, enc, fuel, d, p, h, hw⟩ := h
  cases fuel with
  | zero => simp [DataW.trod] at h
  | succ fuel =>
    simp only [DataW.trod, ht] at h
    split at h <;> simp_all
    · exact ⟨none, 0, 0, ⟨rfl, rfl, rfl⟩, by simp, .inl ⟨rfl, rfl, rfl⟩⟩
    · rename_i e' ad len cap heq
      subst heq
      obtain ⟨⟨h0, h1⟩, h⟩ := h
      rw [Option.bind_eq_some_iff] at h
      obtain ⟨elems, he, h⟩ := h
      rw [Option.map_eq_some_iff] at h
      obtain ⟨rest, hr, hd⟩ := h
      simp only [Prod.mk.injEq] at hd
      obtain ⟨rfl, rfl⟩ := hd
      obtain ⟨hel, he⟩ := mapM_at he
      obtain ⟨hrl, hr⟩ := mapM_at hr
      simp only [List.length_range] at hel hrl
      refine ⟨_, _, _, ⟨rfl, rfl, rfl⟩, ?_, .inr ⟨_, rfl, h0, h1, fun i hi => ?_, fun hlt => ?_⟩⟩
      · have := hw _ (by simp only [DataW.weights, ht]; exact List.mem_cons_self)
        refine Nat.le_trans (Nat.mul_le_mul_right _ ?_) this
        simp [hel]
      · obtain ⟨y, hy, hg⟩ := he i i (by rw [List.getElem?_range hi])
        rw [Option.bind_eq_some_iff] at hg
        obtain ⟨es, hc, hg⟩ := hg
        refine ⟨es, hc, H, enc, fuel, y.1, y.2, hg, fun n hn => hw n ?_⟩
        simp only [DataW.weights, ht]
        exact List.mem_cons_of_mem _ (List.mem_append_left _ (weights_all (j := i) (d := y.1) (by rw [List.getElem?_map, hy]; rfl) n hn))
      · obtain ⟨y, hy, hg⟩ := hr 0 0 (by rw [List.getElem?_range (by omega)])
        rw [Option.bind_eq_some_iff] at hg
        obtain ⟨es, hc, hg⟩ := hg
        exact ⟨es, by simpa using hc⟩
end
end Go.Proofs.Ytnbopmpbgopafaa
