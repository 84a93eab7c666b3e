/- Base: how Go's slices read as lists; which blocks of memory stay. -/
import Derived.Test.YtnbopmpbgopafaaRows
import Derived.WalkKit
import Derived.ProofKit
import Derived.WalkSpells
import Derived.WalkLawsBesides
import Derived.LoopTactic
import Derived.Lib.Hide
import Derived.Outline
import Derived.Below
import Derived.OwnWalk
import Derived.Laws.ResultCell
import Derived.Deep.QuietTactic
import Derived.BigQuiet
import Derived.Deep.DeepMust
import Derived.Lib.MinMax
namespace Go.Proofs.Ytnbopmpbgopafaa
open Go.RowKit

/-- A slice value reads as the list l: each element x lies as the cells enc x (sz of them), in a block of which A speaks; an empty slice of no room may bear any address. -/
def Rd {τ : Type} (A : Nat → Prop) (w : World) (sz : Nat) (enc : τ → List Value) (v : Value) (l : List τ) : Prop :=
  (∃ a, v = .slice a 0 0 ∧ l = []) ∨
  ∃ b off c, v = .slice (some ⟨b, off, none⟩) l.length c ∧ l.length ≤ c ∧ c ≤ maxLen ∧ (l = [] ∨ A b) ∧
    ∀ i x, l[i]? = some x → ∀ j u, (enc x)[j]? = some u → w.cell? ⟨b, off + i * sz + j, none⟩ = some u

structure AddD where
  fam : Int
  send : Bool
  take : Bool
  deriving DecidableEq, Inhabited

structure RestD where
  fam : Int
  kept : Bool
  deriving DecidableEq, Inhabited

def cI (x : Int) : List Value := [.int .i64 x]
def cA (x : AddD) : List Value := [.int .i64 x.fam, .bool x.send, .bool x.take]
def cR (x : RestD) : List Value := [.int .i64 x.fam, .bool x.kept]

/-- What stood in the blocks of which S does not speak is as it was. -/
structure Keeps (A : Nat → Prop) (w w' : World) : Prop where
  os : w'.os = w.os
  tape : w'.tape = w.tape
  output : w'.output = w.output
  size : w.heap.size ≤ w'.heap.size
  block : ∀ k, k < w.heap.size → A k → w'.heap[k]? = w.heap[k]?

theorem Keeps.refl (A : Nat → Prop) (w : World) : Keeps A w w := ⟨rfl, rfl, rfl, Nat.le_refl _, fun _ _ _ => rfl⟩
theorem Keeps.trans {A : Nat → Prop} {a b c : World} (h : Keeps A a b) (k : Keeps A b c) : Keeps A a c :=
  ⟨k.os.trans h.os, k.tape.trans h.tape, k.output.trans h.output, Nat.le_trans h.size k.size,
   fun i hi hA => (k.block i (Nat.lt_of_lt_of_le hi h.size) hA).trans (h.block i hi hA)⟩
theorem Keeps.mono {A A' : Nat → Prop} {w w' : World} (h : Keeps A w w') (hA : ∀ k, A' k → A k) : Keeps A' w w' :=
  ⟨h.os, h.tape, h.output, h.size, fun k hk hk' => h.block k hk (hA k hk')⟩
theorem Keeps.of_below {A : Nat → Prop} {w w' : World} (h : Below w.heap.size w w') : Keeps A w w' :=
  ⟨h.os, h.tape, h.output, h.size, fun k hk _ => h.block k hk⟩
theorem Keeps.of_below' {A : Nat → Prop} {B : Nat} {w w' : World} (h : Below B w w') (hA : ∀ k, A k → k < B) : Keeps A w w' :=
  ⟨h.os, h.tape, h.output, h.size, fun k _ hk => h.block k (hA k hk)⟩
theorem Keeps.setCell {A : Nat → Prop} {a w : World} (h : Keeps A a w) {p : Addr} (hp : ¬ A p.block) (u : Value) : Keeps A a (w.setCell p u) :=
  h.trans ⟨rfl, rfl, rfl, by simp [World.setCell], fun k _ hk => Below.heap_setCell _ _ _ _ (fun e => hp (e ▸ hk))⟩
theorem Keeps.alloc {A : Nat → Prop} {a w : World} (h : Keeps A a w) (o : Obj) : Keeps A a (w.alloc o) :=
  h.trans (Keeps.of_below ((Below.refl _ _).alloc (Nat.le_refl _) _))
theorem Keeps.drew {A : Nat → Prop} {a w : World} (h : Keeps A a w) : Keeps A a w.drew := ⟨h.os, h.tape, h.output, h.size, h.block⟩
theorem Keeps.cell {A : Nat → Prop} {w w' : World} (h : Keeps A w w') {p : Addr} {v : Value} (hA : A p.block) (hc : w.cell? p = some v) : w'.cell? p = some v :=
  (World.cell?_of_block (w := w) (h.block p.block (World.block_lt_of_cell? w p hc) hA)).trans hc

theorem Rd.keeps {τ : Type} {A A' : Nat → Prop} {w w' : World} {sz : Nat} {enc : τ → List Value} {v : Value} {l : List τ}
    (h : Rd A w sz enc v l) (hk : Keeps A' w w') (hA : ∀ k, A k → A' k) : Rd A w' sz enc v l := by
  rcases h with h | ⟨b, off, c, h1, h2, h3, h4, h5⟩
  · exact .inl h
  · refine .inr ⟨b, off, c, h1, h2, h3, h4, fun i x hx j u hu => ?_⟩
    rcases h4 with rfl | h4
    · simp at hx
    · exact hk.cell (hA _ h4) (h5 i x hx j u hu)
theorem Rd.mono {τ : Type} {A A' : Nat → Prop} {w : World} {sz : Nat} {enc : τ → List Value} {v : Value} {l : List τ}
    (h : Rd A w sz enc v l) (hA : ∀ k, A k → A' k) : Rd A' w sz enc v l := by
  rcases h with h | ⟨b, off, c, h1, h2, h3, h4, h5⟩
  · exact .inl h
  · exact .inr ⟨b, off, c, h1, h2, h3, h4.imp id (hA _), h5⟩
theorem Rd.below {τ : Type} {A : Nat → Prop} {w w' : World} {sz : Nat} {enc : τ → List Value} {v : Value} {l : List τ}
    (h : Rd A w sz enc v l) (hk : Below w.heap.size w w') : Rd A w' sz enc v l := h.keeps (Keeps.of_below hk) (fun _ h => h)

/-- The slice, opened: its length is the list's. -/
theorem Rd.open {τ : Type} {A : Nat → Prop} {w : World} {sz : Nat} {enc : τ → List Value} {v : Value} {l : List τ} (h : Rd A w sz enc v l) :
    ∃ a c, v = .slice a l.length c ∧ l.length ≤ c ∧ c ≤ maxLen ∧ (a = none → l = []) := by
  rcases h with ⟨an, rfl, rfl⟩ | ⟨b, off, c, rfl, h2, h3, _⟩
  · exact ⟨an, 0, rfl, Nat.le_refl _, by simp [maxLen], fun _ => rfl⟩
  · exact ⟨_, _, rfl, h2, h3, by simp⟩

theorem below_of_alloc {w w1 : World} {o : Obj} {B : Nat} (h : Below B (w.alloc o) w1) (hB : w.heap.size ≤ B) : Below w.heap.size w w1 :=
  ((Below.refl _ _).alloc (Nat.le_refl _) o).trans (h.mono hB)
theorem bcell {W w1 : World} (hb : Below W.heap.size W w1) : (∀ b o, b < W.heap.size → w1.cell? ⟨b, o, none⟩ = W.cell? ⟨b, o, none⟩) ∧ (∀ b o, b < W.heap.size → w1.frozen? ⟨b, o, none⟩ = W.frozen? ⟨b, o, none⟩) :=
  ⟨fun b o h => hb.cell (p := ⟨b, o, none⟩) h, fun b o h => hb.frozen (p := ⟨b, o, none⟩) h⟩
theorem heap_new1 (w : World) (o : Obj) (k : Nat) (h : k = w.heap.size) : (w.alloc o).heap[k]? = some o := by subst h; exact _root_.Go.heap_alloc_new w o
theorem heap_old1 {w : World} {o u : Obj} {k : Nat} (h : w.heap[k]? = some u) : (w.alloc o).heap[k]? = some u := (Below.heap_alloc w o k (Array.getElem?_eq_some_iff.1 h).1).trans h
theorem cell_alloc_keep {w : World} {o : Obj} {p : Addr} {v : Value} (h : w.cell? p = some v) : (w.alloc o).cell? p = some v := by
  rw [((Below.refl w.heap.size w).alloc (Nat.le_refl _) o).cell (World.block_lt_of_cell? w _ h)]; exact h
theorem cell_drew_keep {w : World} {p : Addr} {v : Value} (h : w.cell? p = some v) : w.drew.cell? p = some v := h
/-- A block that is known whole. -/
theorem row_cell {w : World} {b : Nat} {cs : Array Value} {e : TypeId} (h : w.heap[b]? = some (.cells cs e (0, 0))) : ∀ o, w.cell? ⟨b, o, none⟩ = cs[o]? := fun o => cell_of_row w b o cs e (0, 0) h
theorem row_free {w : World} {b : Nat} {cs : Array Value} {e : TypeId} (h : w.heap[b]? = some (.cells cs e (0, 0))) : ∀ o, w.frozen? ⟨b, o, none⟩ = false := fun o => frozen_of_row w b o cs e h
theorem below_row {w w' : World} {b : Nat} {o : Obj} (hb : Below w.heap.size w w') (h : w.heap[b]? = some o) : w'.heap[b]? = some o :=
  (hb.block b (Array.getElem?_eq_some_iff.1 h).1).trans h
theorem row_setMany {b : Nat} {e : TypeId} : ∀ (l : List (Nat × Value)) {w : World} {cs : Array Value}, w.heap[b]? = some (.cells cs e (0, 0)) →
    (l.foldl (fun W p => W.setCell ⟨b, p.1, none⟩ p.2) w).heap[b]? = some (.cells (l.foldl (fun c p => c.setIfInBounds p.1 p.2) cs) e (0, 0))
  | [], _, _, h => h
  | p :: l, w, cs, h => row_setMany l (heap_setCell_same w b p.1 cs e p.2 h)
theorem row_setOther {w : World} {b : Nat} {o : Obj} {p : Addr} {u : Value} (h : w.heap[b]? = some o) (hp : b ≠ p.block) : (w.setCell p u).heap[b]? = some o := by
  rw [Below.heap_setCell _ _ _ _ hp]; exact h
theorem getD_of_lt {τ : Type} [Inhabited τ] {l : List τ} {i : Nat} (h : i < l.length) : l[i]? = some (l.getD i default) := by
  simp [h]
end Go.Proofs.Ytnbopmpbgopafaa
