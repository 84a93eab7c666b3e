/- Leaves: slices.Index, Contains, IndexFunc, ContainsFunc at what open uses; rising. -/
import Derived.Test.YtnbopmpbgopafaaBase
namespace Go.Proofs.Ytnbopmpbgopafaa
open Go.RowKit
variable {A : Nat → Prop}

def idxI (v : Int) : List Int → Nat → Int
  | [], _ => -1
  | x :: l, i => if v == x then i else idxI v l (i+1)
theorem idxI_drop (v : Int) (l : List Int) (k : Nat) (h : k < l.length) : idxI v (l.drop k) k = if v == l[k] then (k : Int) else idxI v (l.drop (k+1)) (k+1) := by
  rw [List.drop_eq_getElem_cons h]; simp [idxI]
theorem ret_i64 {a b : Int} (h : a = b) : Ending.returned (.int .i64 a) = .returned (.int .i64 b) := by rw [h]
theorem ret_bool {a b : Bool} (h : a = b) : Ending.returned (.bool a) = .returned (.bool b) := by rw [h]

theorem c_Index {w : World} {v : Value} {l : List Int} (hr : Rd A w 1 cI v l) (x : Int) :
    Calls Try.prog 96 #[v, .int .i64 x] w fun e w' => e = .returned (.int .i64 (idxI x l 0)) ∧ w = w' := by
  rcases hr with ⟨an, rfl, rfl⟩ | ⟨b, off, c, rfl, h2, h3, h4, h5⟩
  · go_enter Try.func96, Try.ntmps96
    go_wp2
    refine wp_loop_rounds 1 ?_
    rw [rounds_succ]
    go_wp2
    go_ret
    exact ⟨rfl, rfl⟩
  unfold maxLen at h3
  go_enter Try.func96, Try.ntmps96
  go_wp2
  go_loop [5, 8] (fun _ i => ∃ k : Nat, k ≤ l.length ∧ i = .int .i64 k ∧ idxI x l 0 = idxI x (l.drop k) k) (fun _ i => l.length - (intOf i).toNat)
  case atStart => exact ⟨0, Nat.zero_le _, rfl, by simp⟩
  case round =>
    obtain ⟨k, hk, rfl, hid⟩ := hrel
    have HID := Lib.hid hid
    by_cases hlt : k < l.length
    · have HS := Lib.hid (idxI_drop x l k hlt)
      have hcell : w.cell? ⟨b, off + k, none⟩ = some (.int .i64 l[k]) := by simpa [cI] using h5 k _ (List.getElem?_eq_getElem hlt) 0 _ rfl
      clear h5 hid
      go_wp2
      · go_ret
        have ht : (x == l[k]) = true := by assumption
        exact ⟨ret_i64 (by rw [HID.out, HS.out, if_pos ht]), rfl⟩
      · go_round
        case rel =>
          have ht : (x == l[k]) = false := by assumption
          exact ⟨k + 1, by omega, by go_num, by rw [HID.out, HS.out, if_neg (by simp [ht])]⟩
        case measure => simp [intOf]; omega
    · clear h5 hid
      go_wp2
      go_ret
      exact ⟨ret_i64 (by rw [HID.out, List.drop_eq_nil_of_le (by omega)]; rfl), rfl⟩

theorem c_Contains {w : World} {v : Value} {l : List Int} (hr : Rd A w 1 cI v l) (x : Int) :
    Calls Try.prog 92 #[v, .int .i64 x] w fun e w' => e = .returned (.bool (l.contains x)) ∧ w = w' := by
  obtain ⟨a, c, rfl, h2, h3, h4⟩ := hr.open
  go_enter Try.func92, Try.ntmps92
  go_wp2_with (go_at_call 96; refine (c_Index hr x).mono ?_; rintro e w1 ⟨rfl, rfl⟩)
  go_ret
  exact ⟨ret_bool (by
    have h : ∀ (l : List Int) (i : Nat), 0 ≤ idxI x l i ↔ x ∈ l := by
      intro l
      induction l with
      | nil => intro i; simp [idxI]
      | cons y l ih =>
        intro i
        by_cases hy : x = y
        · subst hy; simp [idxI]
        · have : (x == y) = false := by simpa using hy
          simp [idxI, this, ih, hy]
    rw [Bool.eq_iff_iff]; simp [h]), rfl⟩

/-- The first element of which p holds; -1. -/
def idxP {τ : Type} (p : τ → Bool) : List τ → Nat → Int
  | [], _ => -1
  | x :: l, i => if p x then i else idxP p l (i+1)
theorem idxP_drop {τ : Type} (p : τ → Bool) (l : List τ) (k : Nat) (h : k < l.length) : idxP p (l.drop k) k = if p l[k] then (k : Int) else idxP p (l.drop (k+1)) (k+1) := by
  rw [List.drop_eq_getElem_cons h]; simp [idxP]
theorem idxP_any {τ : Type} (p : τ → Bool) (l : List τ) : decide (0 ≤ idxP p l 0) = l.any p := by
  have h : ∀ (l : List τ) (i : Nat), 0 ≤ idxP p l i ↔ l.any p = true := by
    intro l
    induction l with
    | nil => intro i; simp [idxP]
    | cons y l ih =>
      intro i
      by_cases hy : p y = true
      · simp [idxP, hy]
      · simp [idxP, hy, ih]
  rw [Bool.eq_iff_iff]; simp only [decide_eq_true_eq, h]

def pNone (x : AddD) : Bool := !x.send && !x.take
def pSend (f : Int) (x : AddD) : Bool := x.fam == f && x.send
def pTake (f : Int) (x : AddD) : Bool := x.fam == f && x.take

theorem cellsA {w wr : World} {b off : Nat} {l : List AddD} (h : ∀ i x, l[i]? = some x → ∀ j u, (cA x)[j]? = some u → w.cell? ⟨b, off + i * 3 + j, none⟩ = some u)
    (hb : Below w.heap.size w wr) (k : Nat) (hk : k < l.length) :
    wr.cell? ⟨b, off + k * 3, none⟩ = some (.int .i64 l[k].fam) ∧ wr.cell? ⟨b, off + k * 3 + 1, none⟩ = some (.bool l[k].send) ∧ wr.cell? ⟨b, off + k * 3 + 2, none⟩ = some (.bool l[k].take) := by
  have g := h k _ (List.getElem?_eq_getElem hk)
  have f : ∀ j u, (cA l[k])[j]? = some u → wr.cell? ⟨b, off + k * 3 + j, none⟩ = some u := fun j u hu => by
    rw [hb.cell (p := ⟨b, off + k * 3 + j, none⟩) (World.block_lt_of_cell? w _ (g j u hu))]; exact g j u hu
  exact ⟨f 0 _ rfl, f 1 _ rfl, f 2 _ rfl⟩

/-- Families rise, each from 1 to 5, above last. -/
def risingL : List Int → Int → Bool
  | [], _ => true
  | f :: l, last => if f ≤ last ∨ 5 < f then false else risingL l f
/-- What the last one of the first k is. -/
def lastOf (l : List Int) (k : Nat) : Int := if k = 0 then 0 else l.getD (k - 1) 0
theorem risingL_drop (l : List Int) (k : Nat) (h : k < l.length) : risingL (l.drop k) (lastOf l k) = if l[k] ≤ lastOf l k ∨ 5 < l[k] then false else risingL (l.drop (k+1)) (lastOf l (k+1)) := by
  rw [List.drop_eq_getElem_cons h]; simp [risingL, lastOf, h]
theorem cellsI {w wr : World} {b off : Nat} {l : List Int} (h : ∀ i x, l[i]? = some x → ∀ j u, (cI x)[j]? = some u → w.cell? ⟨b, off + i * 1 + j, none⟩ = some u)
    (hb : Below w.heap.size w wr) (k : Nat) (hk : k < l.length) :
    wr.cell? ⟨b, off + k, none⟩ = some (.int .i64 l[k]) := by
  have g := h k _ (List.getElem?_eq_getElem hk) 0 _ rfl
  simp only [Nat.mul_one, Nat.add_zero] at g
  rw [hb.cell (p := ⟨b, off + k, none⟩) (World.block_lt_of_cell? w _ g)]; exact g
theorem cellsR {w wr : World} {b off : Nat} {l : List RestD} (h : ∀ i x, l[i]? = some x → ∀ j u, (cR x)[j]? = some u → w.cell? ⟨b, off + i * 2 + j, none⟩ = some u)
    (hb : Below w.heap.size w wr) (k : Nat) (hk : k < l.length) :
    wr.cell? ⟨b, off + k * 2, none⟩ = some (.int .i64 l[k].fam) ∧ wr.cell? ⟨b, off + k * 2 + 1, none⟩ = some (.bool l[k].kept) := by
  have g := h k _ (List.getElem?_eq_getElem hk)
  have f : ∀ j u, (cR l[k])[j]? = some u → wr.cell? ⟨b, off + k * 2 + j, none⟩ = some u := fun j u hu => by
    rw [hb.cell (p := ⟨b, off + k * 2 + j, none⟩) (World.block_lt_of_cell? w _ (g j u hu))]; exact g j u hu
  exact ⟨f 0 _ rfl, f 1 _ rfl⟩


theorem k_None (w : World) (x : AddD)  :
    Calls Try.prog 52 #[.agg #[.int .i64 x.fam, .bool x.send, .bool x.take]] w fun e w' => e = .returned (.bool (pNone x)) ∧ Below w.heap.size w w' := by
  obtain ⟨xf, xs, xt⟩ := x
  
  cases xs <;> cases xt <;> skip
  all_goals
    go_enter Try.func52, Try.ntmps52
    go_wp2
    go_ret
    exact ⟨ret_bool (by simp_all [pNone, pSend, pTake]), by repeat (first | exact Below.refl _ _ | refine Below.alloc ?_ (by simp) _)⟩

theorem c_IndexNone {w : World} {v : Value} {l : List AddD} (hr : Rd A w 3 cA v l)  :
    Calls Try.prog 85 #[v, .func (.func 52) #[] #[]] w fun e w' => e = .returned (.int .i64 (idxP pNone l 0)) ∧ Below w.heap.size w w' := by
  rcases hr with ⟨an, rfl, rfl⟩ | ⟨b, off, c, rfl, h2, h3, h4, h5⟩
  · go_enter Try.func85, Try.ntmps85
    go_wp2
    refine wp_loop_rounds 1 ?_
    rw [rounds_succ]
    go_wp2
    go_ret
    exact ⟨rfl, Below.refl _ _⟩
  unfold maxLen at h3
  go_enter Try.func85, Try.ntmps85
  go_wp2
  go_loopw [5, 8] (fun _ i wr => ∃ k : Nat, k ≤ l.length ∧ i = .int .i64 k ∧ idxP pNone l 0 = idxP pNone (l.drop k) k ∧ Below w.heap.size w wr) (fun _ i _ => l.length - (intOf i).toNat)
  case atStart => exact ⟨0, Nat.zero_le _, rfl, by simp, Below.refl _ _⟩
  case round =>
    obtain ⟨k, hk, rfl, hid, hbel⟩ := hrel
    have HID := Lib.hid hid
    have HB := Lib.hid hbel
    by_cases hlt : k < l.length
    · have HS := Lib.hid (idxP_drop pNone l k hlt)
      have cells := cellsA h5 hbel k hlt
      obtain ⟨hc0, hc1, hc2⟩ := cells
      
      
      clear h5 hid hbel 
      obtain ⟨xk, hxk⟩ : ∃ xk, xk = l[k] := ⟨_, rfl⟩
      rw [← hxk] at hc0 hc1 hc2
      have HX := Lib.hid hxk; clear hxk
      go_wp2_with (go_at_call 52; refine (k_None _ xk ).mono ?_; rintro e w1 ⟨rfl, hb1⟩)
      · go_ret
        have ht : pNone xk = true := by assumption
        exact ⟨ret_i64 (by rw [HID.out, HS.out, ← HX.out, if_pos ht]), HB.out.trans (hb1.mono HB.out.size)⟩
      · go_roundw
        case rel =>
          have ht : pNone xk = false := by assumption
          exact ⟨k + 1, by omega, by go_num, by rw [HID.out, HS.out, ← HX.out, if_neg (by rw [ht]; simp)], HB.out.trans (hb1.mono HB.out.size)⟩
        case measure => simp [intOf]; omega
    · clear h5 hid
      go_wp2
      go_ret
      exact ⟨ret_i64 (by rw [HID.out, List.drop_eq_nil_of_le (by omega)]; rfl), hbel⟩

theorem c_ContainsNone {w : World} {v : Value} {l : List AddD} (hr : Rd A w 3 cA v l)  :
    Calls Try.prog 51 #[v, .func (.func 52) #[] #[]] w fun e w' => e = .returned (.bool (l.any pNone)) ∧ Below w.heap.size w w' := by
  obtain ⟨a, c, rfl, h2, h3, h4⟩ := hr.open
  go_enter Try.func51, Try.ntmps51
  go_wp2_with (go_at_call 85; refine (c_IndexNone hr ).mono ?_; rintro e w1 ⟨rfl, hb1⟩)
  go_ret
  exact ⟨ret_bool (idxP_any _ _), hb1⟩


theorem k_Send (w : World) (x : AddD) (f : Int) (fb : Nat) (hfc : w.cell? ⟨fb, 0, none⟩ = some (.int .i64 f)) :
    Calls Try.prog 94 #[.agg #[.int .i64 x.fam, .bool x.send, .bool x.take], .pointer (some ⟨fb, 0, none⟩)] w fun e w' => e = .returned (.bool ((pSend f) x)) ∧ Below w.heap.size w w' := by
  obtain ⟨xf, xs, xt⟩ := x
  have hc := World.block_lt_of_cell? w _ hfc; simp only at hc; have hne : fb ≠ w.heap.size := by omega
  cases xs <;> skip <;> cases hq : (xf == f)
  all_goals
    go_enter Try.func94, Try.ntmps94
    go_wp2
    go_ret
    exact ⟨ret_bool (by simp_all [pNone, pSend, pTake]), by repeat (first | exact Below.refl _ _ | refine Below.alloc ?_ (by simp) _)⟩

theorem c_IndexSend {w : World} {v : Value} {l : List AddD} (hr : Rd A w 3 cA v l) (f : Int) (fb : Nat) (hfc : w.cell? ⟨fb, 0, none⟩ = some (.int .i64 f)) :
    Calls Try.prog 85 #[v, .func (.func 94) #[] #[.pointer (some ⟨fb, 0, none⟩)]] w fun e w' => e = .returned (.int .i64 (idxP (pSend f) l 0)) ∧ Below w.heap.size w w' := by
  rcases hr with ⟨an, rfl, rfl⟩ | ⟨b, off, c, rfl, h2, h3, h4, h5⟩
  · go_enter Try.func85, Try.ntmps85
    go_wp2
    refine wp_loop_rounds 1 ?_
    rw [rounds_succ]
    go_wp2
    go_ret
    exact ⟨rfl, Below.refl _ _⟩
  unfold maxLen at h3
  go_enter Try.func85, Try.ntmps85
  go_wp2
  go_loopw [5, 8] (fun _ i wr => ∃ k : Nat, k ≤ l.length ∧ i = .int .i64 k ∧ idxP (pSend f) l 0 = idxP (pSend f) (l.drop k) k ∧ Below w.heap.size w wr) (fun _ i _ => l.length - (intOf i).toNat)
  case atStart => exact ⟨0, Nat.zero_le _, rfl, by simp, Below.refl _ _⟩
  case round =>
    obtain ⟨k, hk, rfl, hid, hbel⟩ := hrel
    have HID := Lib.hid hid
    have HB := Lib.hid hbel
    by_cases hlt : k < l.length
    · have HS := Lib.hid (idxP_drop (pSend f) l k hlt)
      have cells := cellsA h5 hbel k hlt
      obtain ⟨hc0, hc1, hc2⟩ := cells
      have hfc2 := hbel.cell (p := ⟨fb, 0, none⟩) (World.block_lt_of_cell? w _ hfc); rw [hfc] at hfc2
      have hfl := World.block_lt_of_cell? _ _ hfc2; simp only at hfl
      clear h5 hid hbel hfc
      obtain ⟨xk, hxk⟩ : ∃ xk, xk = l[k] := ⟨_, rfl⟩
      rw [← hxk] at hc0 hc1 hc2
      have HX := Lib.hid hxk; clear hxk
      go_wp2_with (go_at_call 94; refine (k_Send _ xk f fb hfc2).mono ?_; rintro e w1 ⟨rfl, hb1⟩)
      · go_ret
        have ht : (pSend f) xk = true := by assumption
        exact ⟨ret_i64 (by rw [HID.out, HS.out, ← HX.out, if_pos ht]), HB.out.trans (hb1.mono HB.out.size)⟩
      · go_roundw
        case rel =>
          have ht : (pSend f) xk = false := by assumption
          exact ⟨k + 1, by omega, by go_num, by rw [HID.out, HS.out, ← HX.out, if_neg (by rw [ht]; simp)], HB.out.trans (hb1.mono HB.out.size)⟩
        case measure => simp [intOf]; omega
    · clear h5 hid
      go_wp2
      go_ret
      exact ⟨ret_i64 (by rw [HID.out, List.drop_eq_nil_of_le (by omega)]; rfl), hbel⟩

theorem c_ContainsSend {w : World} {v : Value} {l : List AddD} (hr : Rd A w 3 cA v l) (f : Int) (fb : Nat) (hfc : w.cell? ⟨fb, 0, none⟩ = some (.int .i64 f)) :
    Calls Try.prog 51 #[v, .func (.func 94) #[] #[.pointer (some ⟨fb, 0, none⟩)]] w fun e w' => e = .returned (.bool (l.any (pSend f))) ∧ Below w.heap.size w w' := by
  obtain ⟨a, c, rfl, h2, h3, h4⟩ := hr.open
  go_enter Try.func51, Try.ntmps51
  go_wp2_with (go_at_call 85; refine (c_IndexSend hr f fb hfc).mono ?_; rintro e w1 ⟨rfl, hb1⟩)
  go_ret
  exact ⟨ret_bool (idxP_any _ _), hb1⟩


theorem k_Take (w : World) (x : AddD) (f : Int) (fb : Nat) (hfc : w.cell? ⟨fb, 0, none⟩ = some (.int .i64 f)) :
    Calls Try.prog 95 #[.agg #[.int .i64 x.fam, .bool x.send, .bool x.take], .pointer (some ⟨fb, 0, none⟩)] w fun e w' => e = .returned (.bool ((pTake f) x)) ∧ Below w.heap.size w w' := by
  obtain ⟨xf, xs, xt⟩ := x
  have hc := World.block_lt_of_cell? w _ hfc; simp only at hc; have hne : fb ≠ w.heap.size := by omega
  skip <;> cases xt <;> cases hq : (xf == f)
  all_goals
    go_enter Try.func95, Try.ntmps95
    go_wp2
    go_ret
    exact ⟨ret_bool (by simp_all [pNone, pSend, pTake]), by repeat (first | exact Below.refl _ _ | refine Below.alloc ?_ (by simp) _)⟩

theorem c_IndexTake {w : World} {v : Value} {l : List AddD} (hr : Rd A w 3 cA v l) (f : Int) (fb : Nat) (hfc : w.cell? ⟨fb, 0, none⟩ = some (.int .i64 f)) :
    Calls Try.prog 85 #[v, .func (.func 95) #[] #[.pointer (some ⟨fb, 0, none⟩)]] w fun e w' => e = .returned (.int .i64 (idxP (pTake f) l 0)) ∧ Below w.heap.size w w' := by
  rcases hr with ⟨an, rfl, rfl⟩ | ⟨b, off, c, rfl, h2, h3, h4, h5⟩
  · go_enter Try.func85, Try.ntmps85
    go_wp2
    refine wp_loop_rounds 1 ?_
    rw [rounds_succ]
    go_wp2
    go_ret
    exact ⟨rfl, Below.refl _ _⟩
  unfold maxLen at h3
  go_enter Try.func85, Try.ntmps85
  go_wp2
  go_loopw [5, 8] (fun _ i wr => ∃ k : Nat, k ≤ l.length ∧ i = .int .i64 k ∧ idxP (pTake f) l 0 = idxP (pTake f) (l.drop k) k ∧ Below w.heap.size w wr) (fun _ i _ => l.length - (intOf i).toNat)
  case atStart => exact ⟨0, Nat.zero_le _, rfl, by simp, Below.refl _ _⟩
  case round =>
    obtain ⟨k, hk, rfl, hid, hbel⟩ := hrel
    have HID := Lib.hid hid
    have HB := Lib.hid hbel
    by_cases hlt : k < l.length
    · have HS := Lib.hid (idxP_drop (pTake f) l k hlt)
      have cells := cellsA h5 hbel k hlt
      obtain ⟨hc0, hc1, hc2⟩ := cells
      have hfc2 := hbel.cell (p := ⟨fb, 0, none⟩) (World.block_lt_of_cell? w _ hfc); rw [hfc] at hfc2
      have hfl := World.block_lt_of_cell? _ _ hfc2; simp only at hfl
      clear h5 hid hbel hfc
      obtain ⟨xk, hxk⟩ : ∃ xk, xk = l[k] := ⟨_, rfl⟩
      rw [← hxk] at hc0 hc1 hc2
      have HX := Lib.hid hxk; clear hxk
      go_wp2_with (go_at_call 95; refine (k_Take _ xk f fb hfc2).mono ?_; rintro e w1 ⟨rfl, hb1⟩)
      · go_ret
        have ht : (pTake f) xk = true := by assumption
        exact ⟨ret_i64 (by rw [HID.out, HS.out, ← HX.out, if_pos ht]), HB.out.trans (hb1.mono HB.out.size)⟩
      · go_roundw
        case rel =>
          have ht : (pTake f) xk = false := by assumption
          exact ⟨k + 1, by omega, by go_num, by rw [HID.out, HS.out, ← HX.out, if_neg (by rw [ht]; simp)], HB.out.trans (hb1.mono HB.out.size)⟩
        case measure => simp [intOf]; omega
    · clear h5 hid
      go_wp2
      go_ret
      exact ⟨ret_i64 (by rw [HID.out, List.drop_eq_nil_of_le (by omega)]; rfl), hbel⟩

theorem c_ContainsTake {w : World} {v : Value} {l : List AddD} (hr : Rd A w 3 cA v l) (f : Int) (fb : Nat) (hfc : w.cell? ⟨fb, 0, none⟩ = some (.int .i64 f)) :
    Calls Try.prog 51 #[v, .func (.func 95) #[] #[.pointer (some ⟨fb, 0, none⟩)]] w fun e w' => e = .returned (.bool (l.any (pTake f))) ∧ Below w.heap.size w w' := by
  obtain ⟨a, c, rfl, h2, h3, h4⟩ := hr.open
  go_enter Try.func51, Try.ntmps51
  go_wp2_with (go_at_call 85; refine (c_IndexTake hr f fb hfc).mono ?_; rintro e w1 ⟨rfl, hb1⟩)
  go_ret
  exact ⟨ret_bool (idxP_any _ _), hb1⟩


theorem k_famI (w : World) (x : Int) :
    Calls Try.prog 48 #[.int .i64 x] w fun e w' => e = .returned (.int .i64 x) ∧ Below w.heap.size w w' := by
  go_enter Try.func48, Try.ntmps48
  go_wp2
  go_ret
  exact ⟨rfl, by repeat (first | exact Below.refl _ _ | refine Below.alloc ?_ (by simp) _)⟩

theorem c_risingI {w : World} {v : Value} {l : List Int} (hr : Rd A w 1 cI v l) :
    Calls Try.prog 47 #[v, .func (.func 48) #[] #[]] w fun e w' => e = .returned (.bool (risingL (l.map id) 0)) ∧ Below w.heap.size w w' := by
  rcases hr with ⟨an, rfl, rfl⟩ | ⟨b, off, c, rfl, h2, h3, h4, h5⟩
  · go_enter Try.func47, Try.ntmps47
    go_wp2
    refine wp_loop_rounds 1 ?_
    rw [rounds_succ]
    go_wp2
    go_ret
    exact ⟨rfl, Below.refl _ _⟩
  unfold maxLen at h3
  go_enter Try.func47, Try.ntmps47
  go_wp2
  go_loopw [5, 11] (fun la i wr => ∃ k : Nat, k ≤ l.length ∧ i = .int .i64 k ∧ la = .int .i64 (lastOf (l.map id) k) ∧ risingL (l.map id) 0 = risingL ((l.map id).drop k) (lastOf (l.map id) k) ∧ Below w.heap.size w wr) (fun _ i _ => l.length - (intOf i).toNat)
  case atStart => exact ⟨0, Nat.zero_le _, rfl, rfl, by simp [lastOf], Below.refl _ _⟩
  case round =>
    obtain ⟨k, hk, rfl, rfl, hid, hbel⟩ := hrel
    have HID := Lib.hid hid
    have HB := Lib.hid hbel
    by_cases hlt : k < l.length
    · have HS := Lib.hid (risingL_drop (l.map id) k (by simpa using hlt))
      obtain hc0 := cellsI h5 hbel k hlt
      clear h5 hid hbel
      obtain ⟨xk, hxk⟩ : ∃ xk, xk = l[k] := ⟨_, rfl⟩
      rw [← hxk] at hc0 
      have HX := Lib.hid hxk; clear hxk
      have HL := Lib.hid (show lastOf (l.map id) (k+1) = xk by rw [HX.out]; simp [lastOf, hlt])
      obtain ⟨la, hla⟩ : ∃ la, la = lastOf (l.map id) k := ⟨_, rfl⟩
      rw [← hla]
      have HLA := Lib.hid hla; clear hla
      by_cases h1 : xk ≤ la
      case pos =>
        go_wp2_with (go_at_call 48; refine (k_famI _ xk).mono ?_; rintro e w1 ⟨rfl, hb1⟩)
        go_ret
        refine ⟨ret_bool ?_, HB.out.trans ((hb1).mono HB.out.size)⟩
        rw [HID.out, HS.out, if_pos (by left; rw [List.getElem_map, ← HX.out, ← HLA.out]; exact h1)]
      by_cases h2 : 5 < xk
      case pos =>
        go_wp2_with (go_at_call 48; refine (k_famI _ xk).mono ?_; rintro e w1 ⟨rfl, hb1⟩)
        go_ret
        refine ⟨ret_bool ?_, HB.out.trans ((hb1).mono HB.out.size)⟩
        rw [HID.out, HS.out, if_pos (by right; rw [List.getElem_map, ← HX.out]; exact h2)]
      go_wp2_with (go_at_call 48; refine (k_famI _ xk).mono ?_; rintro e w1 ⟨rfl, hb1⟩)
      go_roundw
      case rel =>
        refine ⟨k + 1, by omega, by go_num, by rw [HL.out], ?_, HB.out.trans ((hb1).mono HB.out.size)⟩
        rw [HID.out, HS.out, if_neg (by rw [List.getElem_map, ← HX.out, ← HLA.out]; first | omega | (simp only [id]; omega))]
      case measure => simp [intOf]; omega
    · clear h5 hid
      go_wp2
      go_ret
      exact ⟨ret_bool (by rw [HID.out, List.drop_eq_nil_of_le (by simp; omega)]; rfl), hbel⟩


theorem k_famA (w : World) (x : AddD) :
    Calls Try.prog 50 #[.agg #[.int .i64 x.fam, .bool x.send, .bool x.take]] w fun e w' => e = .returned (.int .i64 x.fam) ∧ Below w.heap.size w w' := by
  go_enter Try.func50, Try.ntmps50
  go_wp2
  go_ret
  exact ⟨rfl, by repeat (first | exact Below.refl _ _ | refine Below.alloc ?_ (by simp) _)⟩

theorem c_risingA {w : World} {v : Value} {l : List AddD} (hr : Rd A w 3 cA v l) :
    Calls Try.prog 49 #[v, .func (.func 50) #[] #[]] w fun e w' => e = .returned (.bool (risingL (l.map AddD.fam) 0)) ∧ Below w.heap.size w w' := by
  rcases hr with ⟨an, rfl, rfl⟩ | ⟨b, off, c, rfl, h2, h3, h4, h5⟩
  · go_enter Try.func49, Try.ntmps49
    go_wp2
    refine wp_loop_rounds 1 ?_
    rw [rounds_succ]
    go_wp2
    go_ret
    exact ⟨rfl, Below.refl _ _⟩
  unfold maxLen at h3
  go_enter Try.func49, Try.ntmps49
  go_wp2
  go_loopw [5, 11] (fun la i wr => ∃ k : Nat, k ≤ l.length ∧ i = .int .i64 k ∧ la = .int .i64 (lastOf (l.map AddD.fam) k) ∧ risingL (l.map AddD.fam) 0 = risingL ((l.map AddD.fam).drop k) (lastOf (l.map AddD.fam) k) ∧ Below w.heap.size w wr) (fun _ i _ => l.length - (intOf i).toNat)
  case atStart => exact ⟨0, Nat.zero_le _, rfl, rfl, by simp [lastOf], Below.refl _ _⟩
  case round =>
    obtain ⟨k, hk, rfl, rfl, hid, hbel⟩ := hrel
    have HID := Lib.hid hid
    have HB := Lib.hid hbel
    by_cases hlt : k < l.length
    · have HS := Lib.hid (risingL_drop (l.map AddD.fam) k (by simpa using hlt))
      obtain ⟨hc0, hc1, hc2⟩ := cellsA h5 hbel k hlt
      clear h5 hid hbel
      obtain ⟨xk, hxk⟩ : ∃ xk, xk = l[k] := ⟨_, rfl⟩
      rw [← hxk] at hc0 hc1 hc2
      have HX := Lib.hid hxk; clear hxk
      have HL := Lib.hid (show lastOf (l.map AddD.fam) (k+1) = xk.fam by rw [HX.out]; simp [lastOf, hlt])
      obtain ⟨la, hla⟩ : ∃ la, la = lastOf (l.map AddD.fam) k := ⟨_, rfl⟩
      rw [← hla]
      have HLA := Lib.hid hla; clear hla
      by_cases h1 : xk.fam ≤ la
      case pos =>
        go_wp2_with (go_at_call 50; refine (k_famA _ xk).mono ?_; rintro e w1 ⟨rfl, hb1⟩)
        go_ret
        refine ⟨ret_bool ?_, HB.out.trans ((below_of_alloc hb1 (by simp)).mono HB.out.size)⟩
        rw [HID.out, HS.out, if_pos (by left; rw [List.getElem_map, ← HX.out, ← HLA.out]; exact h1)]
      by_cases h2 : 5 < xk.fam
      case pos =>
        go_wp2_with (go_at_call 50; refine (k_famA _ xk).mono ?_; rintro e w1 ⟨rfl, hb1⟩)
        go_ret
        refine ⟨ret_bool ?_, HB.out.trans ((below_of_alloc hb1 (by simp)).mono HB.out.size)⟩
        rw [HID.out, HS.out, if_pos (by right; rw [List.getElem_map, ← HX.out]; exact h2)]
      go_wp2_with (go_at_call 50; refine (k_famA _ xk).mono ?_; rintro e w1 ⟨rfl, hb1⟩)
      go_roundw
      case rel =>
        refine ⟨k + 1, by omega, by go_num, by rw [HL.out], ?_, HB.out.trans ((below_of_alloc hb1 (by simp)).mono HB.out.size)⟩
        rw [HID.out, HS.out, if_neg (by rw [List.getElem_map, ← HX.out, ← HLA.out]; first | omega | (simp only [id]; omega))]
      case measure => simp [intOf]; omega
    · clear h5 hid
      go_wp2
      go_ret
      exact ⟨ret_bool (by rw [HID.out, List.drop_eq_nil_of_le (by simp; omega)]; rfl), hbel⟩


theorem k_famR (w : World) (x : RestD) :
    Calls Try.prog 54 #[.agg #[.int .i64 x.fam, .bool x.kept]] w fun e w' => e = .returned (.int .i64 x.fam) ∧ Below w.heap.size w w' := by
  go_enter Try.func54, Try.ntmps54
  go_wp2
  go_ret
  exact ⟨rfl, by repeat (first | exact Below.refl _ _ | refine Below.alloc ?_ (by simp) _)⟩

theorem c_risingR {w : World} {v : Value} {l : List RestD} (hr : Rd A w 2 cR v l) :
    Calls Try.prog 53 #[v, .func (.func 54) #[] #[]] w fun e w' => e = .returned (.bool (risingL (l.map RestD.fam) 0)) ∧ Below w.heap.size w w' := by
  rcases hr with ⟨an, rfl, rfl⟩ | ⟨b, off, c, rfl, h2, h3, h4, h5⟩
  · go_enter Try.func53, Try.ntmps53
    go_wp2
    refine wp_loop_rounds 1 ?_
    rw [rounds_succ]
    go_wp2
    go_ret
    exact ⟨rfl, Below.refl _ _⟩
  unfold maxLen at h3
  go_enter Try.func53, Try.ntmps53
  go_wp2
  go_loopw [5, 11] (fun la i wr => ∃ k : Nat, k ≤ l.length ∧ i = .int .i64 k ∧ la = .int .i64 (lastOf (l.map RestD.fam) k) ∧ risingL (l.map RestD.fam) 0 = risingL ((l.map RestD.fam).drop k) (lastOf (l.map RestD.fam) k) ∧ Below w.heap.size w wr) (fun _ i _ => l.length - (intOf i).toNat)
  case atStart => exact ⟨0, Nat.zero_le _, rfl, rfl, by simp [lastOf], Below.refl _ _⟩
  case round =>
    obtain ⟨k, hk, rfl, rfl, hid, hbel⟩ := hrel
    have HID := Lib.hid hid
    have HB := Lib.hid hbel
    by_cases hlt : k < l.length
    · have HS := Lib.hid (risingL_drop (l.map RestD.fam) k (by simpa using hlt))
      obtain ⟨hc0, hc1⟩ := cellsR h5 hbel k hlt
      clear h5 hid hbel
      obtain ⟨xk, hxk⟩ : ∃ xk, xk = l[k] := ⟨_, rfl⟩
      rw [← hxk] at hc0 hc1
      have HX := Lib.hid hxk; clear hxk
      have HL := Lib.hid (show lastOf (l.map RestD.fam) (k+1) = xk.fam by rw [HX.out]; simp [lastOf, hlt])
      obtain ⟨la, hla⟩ : ∃ la, la = lastOf (l.map RestD.fam) k := ⟨_, rfl⟩
      rw [← hla]
      have HLA := Lib.hid hla; clear hla
      by_cases h1 : xk.fam ≤ la
      case pos =>
        go_wp2_with (go_at_call 54; refine (k_famR _ xk).mono ?_; rintro e w1 ⟨rfl, hb1⟩)
        go_ret
        refine ⟨ret_bool ?_, HB.out.trans ((below_of_alloc hb1 (by simp)).mono HB.out.size)⟩
        rw [HID.out, HS.out, if_pos (by left; rw [List.getElem_map, ← HX.out, ← HLA.out]; exact h1)]
      by_cases h2 : 5 < xk.fam
      case pos =>
        go_wp2_with (go_at_call 54; refine (k_famR _ xk).mono ?_; rintro e w1 ⟨rfl, hb1⟩)
        go_ret
        refine ⟨ret_bool ?_, HB.out.trans ((below_of_alloc hb1 (by simp)).mono HB.out.size)⟩
        rw [HID.out, HS.out, if_pos (by right; rw [List.getElem_map, ← HX.out]; exact h2)]
      go_wp2_with (go_at_call 54; refine (k_famR _ xk).mono ?_; rintro e w1 ⟨rfl, hb1⟩)
      go_roundw
      case rel =>
        refine ⟨k + 1, by omega, by go_num, by rw [HL.out], ?_, HB.out.trans ((below_of_alloc hb1 (by simp)).mono HB.out.size)⟩
        rw [HID.out, HS.out, if_neg (by rw [List.getElem_map, ← HX.out, ← HLA.out]; first | omega | (simp only [id]; omega))]
      case measure => simp [intOf]; omega
    · clear h5 hid
      go_wp2
      go_ret
      exact ⟨ret_bool (by rw [HID.out, List.drop_eq_nil_of_le (by simp; omega)]; rfl), hbel⟩

end Go.Proofs.Ytnbopmpbgopafaa
