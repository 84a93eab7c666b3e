/- fsm.rows: its table of closures, put in in any order (printed by gen_tab.py). -/
import Derived.Test.YtnbopmpbgopafaaClo2
import Derived.Test.YtnbopmpbgopafaaInv
namespace Go.Proofs.Ytnbopmpbgopafaa
open Go.RowKit
variable {A : Nat → Prop}

/-- The entries: operation, the key's temporary, the key, the value's temporary. -/
def insT : List (Nat × Nat × (Int × Int) × Nat) := [(3, 20, (1, 1), 21), (6, 22, (1, 11), 23), (9, 24, (1, 2), 25), (12, 26, (2, 3), 27), (15, 28, (3, 3), 29), (18, 30, (2, 4), 31), (21, 32, (2, 5), 33), (24, 34, (2, 11), 35), (27, 36, (3, 11), 37), (30, 38, (2, 2), 39), (33, 40, (3, 2), 41), (36, 42, (4, 6), 43), (40, 44, (4, 7), 46), (44, 47, (4, 8), 49), (47, 50, (4, 5), 51), (50, 52, (5, 7), 53), (54, 54, (5, 6), 56), (58, 57, (5, 8), 59), (61, 60, (5, 13), 61), (64, 62, (6, 13), 63), (67, 64, (6, 7), 65), (70, 66, (6, 8), 67), (74, 68, (6, 6), 70)]
/-- The calls: operation, temporary, subcode. -/
def calT : List (Nat × Nat × Int) := [(39, 46, 1), (43, 49, 1), (53, 56, 2), (57, 59, 2), (73, 70, 3)]
def pureI : List Nat := [1, 2, 4, 5, 7, 8, 10, 11, 13, 14, 16, 17, 19, 20, 22, 23, 25, 26, 28, 29, 31, 32, 34, 35, 37, 38, 41, 42, 45, 46, 48, 49, 51, 52, 55, 56, 59, 60, 62, 63, 65, 66, 68, 69, 71, 72]
def envE (b3 b4 b5 b9 : Nat) : List (Nat × Value) := [(20, kv (1, 1)),
  (22, kv (1, 11)),
  (24, kv (1, 2)),
  (26, kv (2, 3)),
  (28, kv (3, 3)),
  (30, kv (2, 4)),
  (32, kv (2, 5)),
  (34, kv (2, 11)),
  (36, kv (3, 11)),
  (38, kv (2, 2)),
  (40, kv (3, 2)),
  (42, kv (4, 6)),
  (44, kv (4, 7)),
  (47, kv (4, 8)),
  (50, kv (4, 5)),
  (52, kv (5, 7)),
  (54, kv (5, 6)),
  (57, kv (5, 8)),
  (60, kv (5, 13)),
  (62, kv (6, 13)),
  (64, kv (6, 7)),
  (66, kv (6, 8)),
  (68, kv (6, 6)),
  (21, .func (.func 70) #[] #[.pointer (some ⟨b3, 0, none⟩), .pointer (some ⟨b4, 0, none⟩)]),
  (23, .func (.func 72) #[] #[.pointer (some ⟨b3, 0, none⟩), .pointer (some ⟨b4, 0, none⟩)]),
  (25, .func (.func 73) #[] #[.pointer (some ⟨b4, 0, none⟩)]),
  (27, .func (.func 64) #[] #[.pointer (some ⟨b4, 0, none⟩), .pointer (some ⟨b3, 0, none⟩)]),
  (29, .func (.func 64) #[] #[.pointer (some ⟨b4, 0, none⟩), .pointer (some ⟨b3, 0, none⟩)]),
  (31, .func (.func 65) #[] #[.pointer (some ⟨b4, 0, none⟩), .pointer (some ⟨b3, 0, none⟩)]),
  (33, .func (.func 65) #[] #[.pointer (some ⟨b4, 0, none⟩), .pointer (some ⟨b3, 0, none⟩)]),
  (35, .func (.func 62) #[] #[.pointer (some ⟨b3, 0, none⟩), .pointer (some ⟨b4, 0, none⟩)]),
  (37, .func (.func 62) #[] #[.pointer (some ⟨b3, 0, none⟩), .pointer (some ⟨b4, 0, none⟩)]),
  (39, .func (.func 66) #[] #[.pointer (some ⟨b4, 0, none⟩), .pointer (some ⟨b3, 0, none⟩)]),
  (41, .func (.func 66) #[] #[.pointer (some ⟨b4, 0, none⟩), .pointer (some ⟨b3, 0, none⟩)]),
  (43, .func (.func 74) #[] #[.pointer (some ⟨b3, 0, none⟩), .pointer (some ⟨b4, 0, none⟩), .pointer (some ⟨b5, 0, none⟩)]),
  (45, .func (.func 67) #[] #[.pointer (some ⟨b3, 0, none⟩), .pointer (some ⟨b4, 0, none⟩)]),
  (48, .func (.func 67) #[] #[.pointer (some ⟨b3, 0, none⟩), .pointer (some ⟨b4, 0, none⟩)]),
  (51, .func (.func 76) #[] #[.pointer (some ⟨b4, 0, none⟩), .pointer (some ⟨b9, 0, none⟩)]),
  (53, .func (.func 77) #[] #[.pointer (some ⟨b3, 0, none⟩), .pointer (some ⟨b4, 0, none⟩)]),
  (55, .func (.func 67) #[] #[.pointer (some ⟨b3, 0, none⟩), .pointer (some ⟨b4, 0, none⟩)]),
  (58, .func (.func 67) #[] #[.pointer (some ⟨b3, 0, none⟩), .pointer (some ⟨b4, 0, none⟩)]),
  (61, .func (.func 69) #[] #[.pointer (some ⟨b3, 0, none⟩), .pointer (some ⟨b4, 0, none⟩)]),
  (63, .func (.func 69) #[] #[.pointer (some ⟨b3, 0, none⟩), .pointer (some ⟨b4, 0, none⟩)]),
  (65, .func (.func 79) #[] #[.pointer (some ⟨b3, 0, none⟩), .pointer (some ⟨b4, 0, none⟩)]),
  (67, .func (.func 80) #[] #[.pointer (some ⟨b3, 0, none⟩), .pointer (some ⟨b4, 0, none⟩)]),
  (69, .func (.func 67) #[] #[.pointer (some ⟨b3, 0, none⟩), .pointer (some ⟨b4, 0, none⟩)])]
def closure5 (b3 b4 bc : Nat) : Value := .func (.func 68) #[] #[.pointer (some ⟨b3, 0, none⟩), .pointer (some ⟨b4, 0, none⟩), .pointer (some ⟨bc, 0, none⟩)]
/-- What the table holds. -/
def rowsT (b3 b4 b5 b9 : Nat) (bc : Nat → Nat) : List ((Int × Int) × Value) := [((1, 1), .func (.func 70) #[] #[.pointer (some ⟨b3, 0, none⟩), .pointer (some ⟨b4, 0, none⟩)]),
  ((1, 11), .func (.func 72) #[] #[.pointer (some ⟨b3, 0, none⟩), .pointer (some ⟨b4, 0, none⟩)]),
  ((1, 2), .func (.func 73) #[] #[.pointer (some ⟨b4, 0, none⟩)]),
  ((2, 3), .func (.func 64) #[] #[.pointer (some ⟨b4, 0, none⟩), .pointer (some ⟨b3, 0, none⟩)]),
  ((3, 3), .func (.func 64) #[] #[.pointer (some ⟨b4, 0, none⟩), .pointer (some ⟨b3, 0, none⟩)]),
  ((2, 4), .func (.func 65) #[] #[.pointer (some ⟨b4, 0, none⟩), .pointer (some ⟨b3, 0, none⟩)]),
  ((2, 5), .func (.func 65) #[] #[.pointer (some ⟨b4, 0, none⟩), .pointer (some ⟨b3, 0, none⟩)]),
  ((2, 11), .func (.func 62) #[] #[.pointer (some ⟨b3, 0, none⟩), .pointer (some ⟨b4, 0, none⟩)]),
  ((3, 11), .func (.func 62) #[] #[.pointer (some ⟨b3, 0, none⟩), .pointer (some ⟨b4, 0, none⟩)]),
  ((2, 2), .func (.func 66) #[] #[.pointer (some ⟨b4, 0, none⟩), .pointer (some ⟨b3, 0, none⟩)]),
  ((3, 2), .func (.func 66) #[] #[.pointer (some ⟨b4, 0, none⟩), .pointer (some ⟨b3, 0, none⟩)]),
  ((4, 6), .func (.func 74) #[] #[.pointer (some ⟨b3, 0, none⟩), .pointer (some ⟨b4, 0, none⟩), .pointer (some ⟨b5, 0, none⟩)]),
  ((4, 7), closure5 b3 b4 (bc 39)),
  ((4, 8), closure5 b3 b4 (bc 43)),
  ((4, 5), .func (.func 76) #[] #[.pointer (some ⟨b4, 0, none⟩), .pointer (some ⟨b9, 0, none⟩)]),
  ((5, 7), .func (.func 77) #[] #[.pointer (some ⟨b3, 0, none⟩), .pointer (some ⟨b4, 0, none⟩)]),
  ((5, 6), closure5 b3 b4 (bc 53)),
  ((5, 8), closure5 b3 b4 (bc 57)),
  ((5, 13), .func (.func 69) #[] #[.pointer (some ⟨b3, 0, none⟩), .pointer (some ⟨b4, 0, none⟩)]),
  ((6, 13), .func (.func 69) #[] #[.pointer (some ⟨b3, 0, none⟩), .pointer (some ⟨b4, 0, none⟩)]),
  ((6, 7), .func (.func 79) #[] #[.pointer (some ⟨b3, 0, none⟩), .pointer (some ⟨b4, 0, none⟩)]),
  ((6, 8), .func (.func 80) #[] #[.pointer (some ⟨b3, 0, none⟩), .pointer (some ⟨b4, 0, none⟩)]),
  ((6, 6), closure5 b3 b4 (bc 73))]

set_option maxRecDepth 100000
theorem eval_put_ne {a : Act} {d t : Nat} {v : Value} (h : d ≠ t) : (a.put (some d) v).eval (.tmp t) = a.eval (.tmp t) := by
  simp [Act.put, Act.eval, Array.getD_eq_getD_getElem?, Array.getElem?_setIfInBounds, h]
theorem eval_put_same {a : Act} {d : Nat} {v : Value} (h : d < a.tmps.size) : (a.put (some d) v).eval (.tmp d) = v := by
  simp [Act.put, Act.eval, Array.getD_eq_getD_getElem?, Array.getElem?_setIfInBounds, h]
theorem size_put (a : Act) (d : Option Tmp) (v : Value) : (a.put d v).tmps.size = a.tmps.size := by cases d <;> simp [Act.put]
theorem defers_put (a : Act) (d : Option Tmp) (v : Value) : (a.put d v).defers = a.defers := by cases d <;> rfl
theorem getD_ft {L : Array Bool} {j : Nat} (h : L.getD j false = true) : L.getD j true = true := by
  by_cases hj : j < L.size <;> simp [Array.getD, hj] at h ⊢
  exact h
theorem getD_tf {L : Array Bool} {j : Nat} (hj : j < L.size) (h : L.getD j false = true) : L.getD j true = true := getD_ft h
theorem filter_perm_add {α : Type} [DecidableEq α] {f g : α → Bool} {r : α} (hf : f r = false) (hg : g r = true) : ∀ (T : List α), T.Nodup → r ∈ T → (∀ x ∈ T, x ≠ r → g x = f x) → (T.filter g).Perm (T.filter f ++ [r])
  | [], _, h, _ => by cases h
  | x :: T, hn, hr, hx => by
    obtain ⟨hn1, hn2⟩ := List.nodup_cons.1 hn
    by_cases hxr : x = r
    · subst hxr
      have e : T.filter g = T.filter f := List.filter_congr (fun y hy => hx y (by simp [hy]) (fun e => hn1 (e ▸ hy)))
      simp only [List.filter_cons, hf, hg, if_true, Bool.false_eq_true, if_false, e]
      exact (List.perm_append_singleton _ _).symm
    · have hr' : r ∈ T := by
        rcases List.mem_cons.1 hr with h | h
        · exact absurd h.symm hxr
        · exact h
      have ih := filter_perm_add hf hg T hn2 hr' (fun y hy => hx y (by simp [hy]))
      have e := hx x (by simp) hxr
      simp only [List.filter_cons, e]
      split
      · exact ih.cons x
      · exact ih
theorem MapAt.below {w w' : World} {b : Nat} {l : List ((Int × Int) × Value)} (h : MapAt w b l) (hb : Below w.heap.size w w') : MapAt w' b l := by
  obtain ⟨es, clock, h1, h2⟩ := h
  exact ⟨es, clock, (hb.block b (Array.getElem?_eq_some_iff.1 h1).1).trans h1, h2⟩

def edgeB (o : Oper) (j : Nat) : Bool := o.after.any fun e => Region.binds .any e && e.on == j
theorem edge_of {L : Array Bool} {o : Oper} {j : Nat} (h : edgeB o j = true) (hall : ∀ e ∈ o.after, Region.binds .any e = true → L.getD e.on false = true) : L.getD j false = true := by
  obtain ⟨e, he, hb⟩ := Array.any_eq_true'.1 h
  simp only [Bool.and_eq_true, beq_iff_eq] at hb
  rw [← hb.2]
  exact hall e he hb.1

structure RowsOps (ops : Array Oper) : Prop where
  size : ops.size = 77
  ins : ∀ r ∈ insT, ∃ o, ops[r.1]? = some o ∧ o.op = .insert 83 (.tmp 19) (.tmp r.2.1) (.tmp r.2.2.2) ∧ o.dst = none ∧ o.guard = none ∧ edgeB o 0 = true ∧ ∀ c ∈ calT, c.2.1 = r.2.2.2 → edgeB o c.1 = true
  cal : ∀ c ∈ calT, ∃ o, ops[c.1]? = some o ∧ o.op = .call { callee := .value (.tmp (c.2.1 - 1)), args := #[.const (.int .u8 c.2.2)], argTypes := #[5] } ∧ o.dst = some c.2.1 ∧ o.guard = none
  mkm : ∃ o, ops[0]? = some o ∧ o.op = .makeMap 83 none ∧ o.dst = some 19 ∧ o.guard = none
  mv : ∃ o, ops[75]? = some o ∧ o.op = .move (.tmp 19) ∧ o.dst = some 71 ∧ o.guard = none ∧ edgeB o 0 = true
  asg : ∃ o, ops[76]? = some o ∧ o.op = .assign (.tmp 71) ∧ o.dst = some 6 ∧ o.guard = none ∧ edgeB o 75 = true

structure RJ (w0 : World) (b3 b4 b5 b9 : Nat) (L : Array Bool) (a : Act) (w : World) : Prop where
  size : a.tmps.size = 72
  defers : a.defers = []
  pure : ∀ i ∈ pureI, L.getD i true = true
  env : ∀ p ∈ envE b3 b4 b5 b9, a.eval (.tmp p.1) = p.2
  keep : Below w0.heap.size w0 w
  cal : ∀ c ∈ calT, L.getD c.1 true = true → ∃ bc, w0.heap.size ≤ bc ∧ a.eval (.tmp c.2.1) = closure5 b3 b4 bc ∧ w.heap[bc]? = some (.cells #[.int .u8 c.2.2] 5 (0, 0))
  mp : L.getD 0 true = true → ∃ mb l, w0.heap.size ≤ mb ∧ a.eval (.tmp 19) = .map (some mb) ∧ MapAt w mb l ∧ l.Perm ((insT.filter (fun r => L.getD r.1 true)).map (fun r => (r.2.2.1, a.eval (.tmp r.2.2.2))))
  r71 : L.getD 75 true = true → a.eval (.tmp 71) = a.eval (.tmp 19)
  r6 : L.getD 76 true = true → a.eval (.tmp 6) = a.eval (.tmp 19)

theorem c_rows5 (c : Int) (b3 b4 : Nat) (w : World) :
    Calls Try.prog 67 #[.int .u8 c, .pointer (some ⟨b3, 0, none⟩), .pointer (some ⟨b4, 0, none⟩)] w fun e w' => e = .returned (closure5 b3 b4 w.heap.size) ∧ Below w.heap.size w w' ∧ w'.heap[w.heap.size]? = some (.cells #[.int .u8 c] 5 (0, 0)) := by
  unfold closure5
  go_enter Try.func67, Try.ntmps67
  go_wp2
  go_ret
  exact ⟨rfl, (Below.refl _ _).alloc (Nat.le_refl _) _, heap_new1 _ _ _ rfl⟩

theorem rows_kinds : ∀ i, i < 77 → i ∈ pureI ∨ (∃ r ∈ insT, r.1 = i) ∨ (∃ c ∈ calT, c.1 = i) ∨ i = 0 ∨ i = 75 ∨ i = 76 := by decide
theorem insT_op : ∀ r ∈ insT, ∀ r' ∈ insT, r.1 = r'.1 → r = r' := by decide
theorem insT_key : ∀ r ∈ insT, ∀ r' ∈ insT, r.2.2.1 = r'.2.2.1 → r = r' := by decide
theorem insT_nodup : insT.Nodup := by decide
theorem insT_small : ∀ r ∈ insT, r.1 < 77 ∧ r.1 ≠ 0 ∧ r.1 ≠ 75 ∧ r.1 ≠ 76 ∧ r.2.2.2 ≠ 19 ∧ r.2.2.2 ≠ 71 ∧ r.2.2.2 ≠ 6 ∧ r.1 ∉ pureI := by decide
theorem calT_small : ∀ c ∈ calT, c.1 < 77 ∧ c.1 ≠ 0 ∧ c.1 ≠ 75 ∧ c.1 ≠ 76 ∧ c.2.1 ≠ 19 ∧ c.2.1 ≠ 71 ∧ c.2.1 ≠ 6 ∧ c.2.1 < 72 ∧ c.1 ∉ pureI := by decide
theorem calT_op : ∀ c ∈ calT, ∀ c' ∈ calT, c.1 ≠ c'.1 → c.2.1 ≠ c'.2.1 := by decide
theorem calT_inj : ∀ c ∈ calT, ∀ c' ∈ calT, c.1 = c'.1 → c = c' := by decide
theorem calT_ins : ∀ c ∈ calT, ∀ r ∈ insT, c.1 ≠ r.1 := by decide
theorem env_key (b3 b4 b5 b9 : Nat) : ∀ r ∈ insT, (r.2.1, kv r.2.2.1) ∈ envE b3 b4 b5 b9 := by
  simp [insT, envE]
theorem env_ne (b3 b4 b5 b9 : Nat) : ∀ p ∈ envE b3 b4 b5 b9, p.1 ≠ 19 ∧ p.1 ≠ 71 ∧ p.1 ≠ 6 ∧ ∀ c ∈ calT, p.1 ≠ c.2.1 := by
  simp [envE, calT]
theorem env_fun (b3 b4 b5 b9 : Nat) : ∀ c ∈ calT, (c.2.1 - 1, Value.func (.func 67) #[] #[.pointer (some ⟨b3, 0, none⟩), .pointer (some ⟨b4, 0, none⟩)]) ∈ envE b3 b4 b5 b9 := by
  simp [envE, calT]
theorem getD_of_set {L : Array Bool} {i j : Nat} (h : (L.setIfInBounds i true).getD j true = true) : j = i ∨ L.getD j true = true := by
  by_cases hij : i = j
  · exact .inl hij.symm
  · rw [getD_set_ne true hij] at h; exact .inr h
theorem getD_set' {L : Array Bool} {i j : Nat} (h : L.getD j true = true) : (L.setIfInBounds i true).getD j true = true := by
  by_cases hij : i = j
  · subst hij
    by_cases hj : i < L.size <;> simp [Array.getD, hj]
  · rw [getD_set_ne true hij]; exact h
theorem getD_self {L : Array Bool} {i : Nat} : (L.setIfInBounds i true).getD i true = true := by
  by_cases hj : i < L.size <;> simp [Array.getD, hj]

theorem wp_plain {P : Program} {ops : Array Oper} {Q : Exit → Act → World → Prop} {i : Nat} {o : Oper} {a : Act} {w : World} {R : Act → World → Prop} (hi : ops[i]? = some o) (hg : o.guard = none)
    (h : ∀ K' : Act → World → Prop, (∀ a' w', R a' w' → K' a' w') → o.wp P a w K' Q) : wpOp P ops Q i R a w :=
  wpOp_wanted hi (by simp [Region.wanted, hg]) h

variable {ops : Array Oper} {Q : Exit → Act → World → Prop} {w0 : World} {b3 b4 b5 b9 : Nat}
theorem step_ins (R : RowsOps ops) {L : Array Bool} {a : Act} {w : World} (hz : L.size = 77) (hcl : Closed ops L) {r : Nat × Nat × (Int × Int) × Nat} (hr : r ∈ insT) (hl : L.getD r.1 true = false)
    {o : Oper} (ho : ops[r.1]? = some o) (hall : ∀ e ∈ o.after, Region.binds .any e = true → L.getD e.on false = true) (hJ : RJ w0 b3 b4 b5 b9 L a w) :
    wpOp Try.prog ops Q r.1 (fun a' w' => RJ w0 b3 b4 b5 b9 (L.setIfInBounds r.1 true) a' w') a w := by
  obtain ⟨o', ho', hop, hdst, hg, he0, hec⟩ := R.ins r hr
  rw [ho] at ho'
  cases ho'
  obtain ⟨s1, s2, s3, s4, s5, s6, s7, s8⟩ := insT_small r hr
  have h0 := getD_ft (edge_of he0 hall)
  obtain ⟨mb, l, hmb, hm, hat, hperm⟩ := hJ.mp h0
  have hk := hJ.env _ (env_key b3 b4 b5 b9 r hr)
  have hmem : ∀ q ∈ l, q.1 ≠ r.2.2.1 := fun q hq e => by
    obtain ⟨r', hr', hq'⟩ := List.mem_map.1 (hperm.mem_iff.1 hq)
    obtain ⟨hr1, hr2⟩ := List.mem_filter.1 hr'
    have := insT_key r' hr1 r hr (by rw [← hq'] at e; exact e)
    subst this
    rw [hl] at hr2
    cases hr2
  have hnone : l.lookup r.2.2.1 = none := by
    rw [List.lookup_eq_none_iff]
    intro q hq
    have := hmem q hq
    simpa [beq_eq_false_iff_ne] using this.symm
  obtain ⟨w', hrun, hat', hkeep⟩ := hat.insert r.2.2.1 (a.eval (.tmp r.2.2.2)) hnone
  refine wp_plain ho hg (fun K' hK => ?_)
  unfold Oper.wp
  simp only [execOp, hop]
  simp [hm, hk, hrun, Result.andThen, Oper.upon, hdst, Act.put]
  refine hK _ _ ⟨hJ.size, hJ.defers, fun i hi => getD_set' (hJ.pure i hi), hJ.env, ?_, ?_, ?_, ?_, ?_⟩
  · have := hkeep (fun b => b < w0.heap.size) (by omega)
    exact ⟨this.os.trans hJ.keep.os, this.tape.trans hJ.keep.tape, this.output.trans hJ.keep.output, Nat.le_trans hJ.keep.size this.size, fun k hk => (this.block k (Nat.lt_of_lt_of_le hk hJ.keep.size) hk).trans (hJ.keep.block k hk)⟩
  · intro c hc hlc
    rcases getD_of_set hlc with h | h
    · exact absurd h (calT_ins c hc r hr)
    · obtain ⟨bc, q1, q2, q3⟩ := hJ.cal c hc h
      have hne : mb ≠ bc := fun e => by
        obtain ⟨es, clock, q4, _⟩ := hat
        rw [e, q3] at q4
        cases q4
      exact ⟨bc, q1, q2, ((hkeep (fun b => b ≠ mb) (by simp)).block bc (Array.getElem?_eq_some_iff.1 q3).1 (Ne.symm hne)).trans q3⟩
  · intro _
    refine ⟨mb, _, hmb, hm, hat', ?_⟩
    have hp := filter_perm_add (f := fun r => L.getD r.1 true) (g := fun x => (L.setIfInBounds r.1 true).getD x.1 true) (r := r) hl getD_self insT insT_nodup hr (fun x hx hne => by
      rw [getD_set_ne true (fun e => hne (insT_op x hx r hr e.symm))])
    have := hp.map (fun r => (r.2.2.1, a.eval (.tmp r.2.2.2)))
    refine (List.Perm.append_right _ hperm).trans ?_
    simpa using this.symm
  · intro h
    rcases getD_of_set h with h | h
    · exact absurd h.symm s3
    · exact hJ.r71 h
  · intro h
    rcases getD_of_set h with h | h
    · exact absurd h.symm s4
    · exact hJ.r6 h

theorem step_cal (R : RowsOps ops) {L : Array Bool} {a : Act} {w : World} (hz : L.size = 77) (hcl : Closed ops L) {c : Nat × Nat × Int} (hc : c ∈ calT) (hl : L.getD c.1 true = false)
    {o : Oper} (ho : ops[c.1]? = some o) (hJ : RJ w0 b3 b4 b5 b9 L a w) :
    wpOp Try.prog ops Q c.1 (fun a' w' => RJ w0 b3 b4 b5 b9 (L.setIfInBounds c.1 true) a' w') a w := by
  obtain ⟨o', ho', hop, hdst, hg⟩ := R.cal c hc
  rw [ho] at ho'
  cases ho'
  obtain ⟨s1, s2, s3, s4, s5, s6, s7, s8, s9⟩ := calT_small c hc
  have hf := hJ.env _ (env_fun b3 b4 b5 b9 c hc)
  refine wp_plain ho hg (fun K' hK => ?_)
  unfold Oper.wp
  simp only [execOp, hop, resolve]
  rw [hf]
  simp [go_sem, Result.andThen, Oper.upon, hdst]
  refine (c_rows5 c.2.2 b3 b4 w).mono ?_
  rintro e w' ⟨rfl, hb, hn⟩
  refine hK (a.put (some c.2.1) (closure5 b3 b4 w.heap.size)) _ ⟨by rw [size_put]; exact hJ.size, by rw [defers_put]; exact hJ.defers, fun i hi => getD_set' (hJ.pure i hi), ?_, hJ.keep.trans (hb.mono hJ.keep.size), ?_, ?_, ?_, ?_⟩
  · intro p hp
    rw [eval_put_ne (fun e => (env_ne b3 b4 b5 b9 p hp).2.2.2 c hc e.symm)]
    exact hJ.env p hp
  · intro c' hc' hlc
    by_cases hcc : c.1 = c'.1
    · have := calT_inj c hc c' hc' hcc
      subst this
      exact ⟨w.heap.size, hJ.keep.size, eval_put_same (by rw [hJ.size]; exact s8), hn⟩
    · rcases getD_of_set hlc with h | h
      · exact absurd h.symm hcc
      · obtain ⟨bc, q1, q2, q3⟩ := hJ.cal c' hc' h
        exact ⟨bc, q1, by rw [eval_put_ne (calT_op c hc c' hc' hcc)]; exact q2, (hb.block bc (Array.getElem?_eq_some_iff.1 q3).1).trans q3⟩
  · intro h
    rcases getD_of_set h with h | h
    · exact absurd h.symm s2
    · obtain ⟨mb, l, q1, q2, q3, q4⟩ := hJ.mp h
      refine ⟨mb, l, q1, by rw [eval_put_ne s5]; exact q2, q3.below hb, ?_⟩
      have ef : insT.filter (fun r => (L.setIfInBounds c.1 true).getD r.1 true) = insT.filter (fun r => L.getD r.1 true) :=
        List.filter_congr (fun r hr => by rw [getD_set_ne true (calT_ins c hc r hr)])
      rw [ef]
      refine q4.trans (List.Perm.of_eq (List.map_congr_left (fun r hr => ?_)))
      obtain ⟨hr1, hr2⟩ := List.mem_filter.1 hr
      obtain ⟨o2, ho2, _, _, _, _, hec⟩ := R.ins r hr1
      have hne : c.2.1 ≠ r.2.2.2 := fun e => by
        obtain ⟨ed, hed, hb2⟩ := Array.any_eq_true'.1 (hec c hc e)
        simp only [Bool.and_eq_true, beq_iff_eq] at hb2
        have := getD_ft (hcl r.1 o2 ho2 hr2 ed hed hb2.1)
        rw [hb2.2, hl] at this
        cases this
      rw [eval_put_ne hne]
  · intro h
    rcases getD_of_set h with h | h
    · exact absurd h.symm s3
    · rw [eval_put_ne s6, eval_put_ne s5]; exact hJ.r71 h
  · intro h
    rcases getD_of_set h with h | h
    · exact absurd h.symm s4
    · rw [eval_put_ne s7, eval_put_ne s5]; exact hJ.r6 h

theorem step_mk (R : RowsOps ops) {L : Array Bool} {a : Act} {w : World} (hz : L.size = 77) (hcl : Closed ops L) (hl : L.getD 0 true = false)
    {o : Oper} (ho : ops[0]? = some o) (hJ : RJ w0 b3 b4 b5 b9 L a w) :
    wpOp Try.prog ops Q 0 (fun a' w' => RJ w0 b3 b4 b5 b9 (L.setIfInBounds 0 true) a' w') a w := by
  obtain ⟨o', ho', hop, hdst, hg⟩ := R.mkm
  rw [ho] at ho'
  cases ho'
  have nol : ∀ j oj, ops[j]? = some oj → edgeB oj 0 = true → L.getD j true = false := fun j oj hj he => by
    cases h : L.getD j true with
    | false => rfl
    | true =>
      obtain ⟨ed, hed, hb2⟩ := Array.any_eq_true'.1 he
      simp only [Bool.and_eq_true, beq_iff_eq] at hb2
      have := getD_ft (hcl j oj hj h ed hed hb2.1)
      rw [hb2.2, hl] at this
      cases this
  have n75 : L.getD 75 true = false := by
    obtain ⟨o2, h2, _, _, _, he⟩ := R.mv
    exact nol 75 o2 h2 he
  have n76 : L.getD 76 true = false := by
    obtain ⟨o2, h2, _, _, _, he⟩ := R.asg
    cases h : L.getD 76 true with
    | false => rfl
    | true =>
      obtain ⟨ed, hed, hb2⟩ := Array.any_eq_true'.1 he
      simp only [Bool.and_eq_true, beq_iff_eq] at hb2
      have := getD_ft (hcl 76 o2 h2 h ed hed hb2.1)
      rw [hb2.2, n75] at this
      cases this
  refine wp_plain ho hg (fun K' hK => ?_)
  unfold Oper.wp
  simp only [execOp, hop]
  simp [go_sem, Result.andThen, Oper.upon, hdst]
  refine hK (a.put (some 19) (.map (some w.heap.size))) _ ⟨by rw [size_put]; exact hJ.size, by rw [defers_put]; exact hJ.defers, fun i hi => getD_set' (hJ.pure i hi), ?_, hJ.keep.trans ((Below.refl _ _).alloc hJ.keep.size _), ?_, ?_, ?_, ?_⟩
  · intro p hp
    rw [eval_put_ne (fun e => (env_ne b3 b4 b5 b9 p hp).1 e.symm)]
    exact hJ.env p hp
  · intro c hc hlc
    obtain ⟨s1, s2, s3, s4, s5, s6, s7, s8, s9⟩ := calT_small c hc
    rcases getD_of_set hlc with h | h
    · exact absurd h s2
    · obtain ⟨bc, q1, q2, q3⟩ := hJ.cal c hc h
      exact ⟨bc, q1, by rw [eval_put_ne (Ne.symm s5)]; exact q2, heap_old1 q3⟩
  · intro _
    refine ⟨w.heap.size, [], hJ.keep.size, eval_put_same (by rw [hJ.size]; decide), ⟨#[], 0, heap_new1 _ _ _ rfl, rfl⟩, ?_⟩
    have ef : insT.filter (fun r => (L.setIfInBounds 0 true).getD r.1 true) = [] := by
      rw [List.filter_eq_nil_iff]
      intro r hr
      obtain ⟨s1, s2, _⟩ := insT_small r hr
      obtain ⟨o2, h2, _, _, _, he, _⟩ := R.ins r hr
      rw [getD_set_ne true (Ne.symm s2), nol r.1 o2 h2 he]
      simp
    rw [ef]
    exact List.Perm.refl _
  · intro h
    rcases getD_of_set h with h | h
    · cases h
    · rw [n75] at h; cases h
  · intro h
    rcases getD_of_set h with h | h
    · cases h
    · rw [n76] at h; cases h

theorem step_mv (R : RowsOps ops) {L : Array Bool} {a : Act} {w : World} (hz : L.size = 77) (hcl : Closed ops L) (hl : L.getD 75 true = false)
    {o : Oper} (ho : ops[75]? = some o) (hJ : RJ w0 b3 b4 b5 b9 L a w) :
    wpOp Try.prog ops Q 75 (fun a' w' => RJ w0 b3 b4 b5 b9 (L.setIfInBounds 75 true) a' w') a w := by
  obtain ⟨o', ho', hop, hdst, hg, he⟩ := R.mv
  rw [ho] at ho'
  cases ho'
  have n76 : L.getD 76 true = false := by
    obtain ⟨o2, h2, _, _, _, he⟩ := R.asg
    cases h : L.getD 76 true with
    | false => rfl
    | true =>
      obtain ⟨ed, hed, hb2⟩ := Array.any_eq_true'.1 he
      simp only [Bool.and_eq_true, beq_iff_eq] at hb2
      have := getD_ft (hcl 76 o2 h2 h ed hed hb2.1)
      rw [hb2.2, hl] at this
      cases this
  refine wp_plain ho hg (fun K' hK => ?_)
  unfold Oper.wp
  simp only [execOp, hop]
  generalize hv : a.eval (.tmp 19) = vv
  simp [Result.andThen, Oper.upon, hdst]
  refine hK (a.put (some 71) vv) _ ⟨by rw [size_put]; exact hJ.size, by rw [defers_put]; exact hJ.defers, fun i hi => getD_set' (hJ.pure i hi), ?_, hJ.keep, ?_, ?_, ?_, ?_⟩
  · intro p hp
    rw [eval_put_ne (fun e => (env_ne b3 b4 b5 b9 p hp).2.1 e.symm)]
    exact hJ.env p hp
  · intro c hc hlc
    obtain ⟨s1, s2, s3, s4, s5, s6, s7, s8, s9⟩ := calT_small c hc
    rcases getD_of_set hlc with h | h
    · exact absurd h s3
    · obtain ⟨bc, q1, q2, q3⟩ := hJ.cal c hc h
      exact ⟨bc, q1, by rw [eval_put_ne (Ne.symm s6)]; exact q2, q3⟩
  · intro h
    rcases getD_of_set h with h | h
    · cases h
    · obtain ⟨mb, l, q1, q2, q3, q4⟩ := hJ.mp h
      refine ⟨mb, l, q1, by rw [eval_put_ne (by decide)]; exact q2, q3, ?_⟩
      have ef : insT.filter (fun r => (L.setIfInBounds 75 true).getD r.1 true) = insT.filter (fun r => L.getD r.1 true) :=
        List.filter_congr (fun r hr => by rw [getD_set_ne true (Ne.symm (insT_small r hr).2.2.1)])
      rw [ef]
      refine q4.trans (List.Perm.of_eq (List.map_congr_left (fun r hr => ?_)))
      rw [eval_put_ne (Ne.symm (insT_small r (List.mem_filter.1 hr).1).2.2.2.2.2.1)]
  · intro h
    rw [eval_put_same (by rw [hJ.size]; decide), eval_put_ne (by decide), hv]
  · intro h
    rcases getD_of_set h with h | h
    · cases h
    · rw [n76] at h; cases h

theorem step_asg (R : RowsOps ops) {L : Array Bool} {a : Act} {w : World} (hz : L.size = 77) (hl : L.getD 76 true = false)
    {o : Oper} (ho : ops[76]? = some o) (hall : ∀ e ∈ o.after, Region.binds .any e = true → L.getD e.on false = true) (hJ : RJ w0 b3 b4 b5 b9 L a w) :
    wpOp Try.prog ops Q 76 (fun a' w' => RJ w0 b3 b4 b5 b9 (L.setIfInBounds 76 true) a' w') a w := by
  obtain ⟨o', ho', hop, hdst, hg, he⟩ := R.asg
  rw [ho] at ho'
  cases ho'
  have h71 := hJ.r71 (getD_ft (edge_of he hall))
  refine wp_plain ho hg (fun K' hK => ?_)
  unfold Oper.wp
  simp only [execOp, hop]
  generalize hv : a.eval (.tmp 71) = vv
  simp [Result.andThen, Oper.upon, hdst]
  refine hK (a.put (some 6) vv) _ ⟨by rw [size_put]; exact hJ.size, by rw [defers_put]; exact hJ.defers, fun i hi => getD_set' (hJ.pure i hi), ?_, hJ.keep, ?_, ?_, ?_, ?_⟩
  · intro p hp
    rw [eval_put_ne (fun e => (env_ne b3 b4 b5 b9 p hp).2.2.1 e.symm)]
    exact hJ.env p hp
  · intro c hc hlc
    obtain ⟨s1, s2, s3, s4, s5, s6, s7, s8, s9⟩ := calT_small c hc
    rcases getD_of_set hlc with h | h
    · exact absurd h s4
    · obtain ⟨bc, q1, q2, q3⟩ := hJ.cal c hc h
      exact ⟨bc, q1, by rw [eval_put_ne (Ne.symm s7)]; exact q2, q3⟩
  · intro h
    rcases getD_of_set h with h | h
    · cases h
    · obtain ⟨mb, l, q1, q2, q3, q4⟩ := hJ.mp h
      refine ⟨mb, l, q1, by rw [eval_put_ne (by decide)]; exact q2, q3, ?_⟩
      have ef : insT.filter (fun r => (L.setIfInBounds 76 true).getD r.1 true) = insT.filter (fun r => L.getD r.1 true) :=
        List.filter_congr (fun r hr => by rw [getD_set_ne true (Ne.symm (insT_small r hr).2.2.2.1)])
      rw [ef]
      refine q4.trans (List.Perm.of_eq (List.map_congr_left (fun r hr => ?_)))
      rw [eval_put_ne (Ne.symm (insT_small r (List.mem_filter.1 hr).1).2.2.2.2.2.2.1)]
  · intro h
    rcases getD_of_set h with h | h
    · cases h
    · rw [eval_put_ne (by decide), eval_put_ne (by decide)]; exact hJ.r71 h
  · intro _
    rw [eval_put_same (by rw [hJ.size]; decide), eval_put_ne (by decide), ← hv]
    exact h71

theorem rows_step (R : RowsOps ops) : ∀ i o L a w, ops[i]? = some o → L.size = ops.size → Closed ops L → L.getD i true = false → (∀ e ∈ o.after, Region.binds .any e = true → L.getD e.on false = true) → RJ w0 b3 b4 b5 b9 L a w →
    wpOp Try.prog ops Q i (fun a' w' => RJ w0 b3 b4 b5 b9 (L.setIfInBounds i true) a' w') a w := by
  intro i o L a w ho hz hcl hl hall hJ
  have hi := (Array.getElem?_eq_some_iff.1 ho).1
  rw [R.size] at hi hz
  rcases rows_kinds i hi with h | ⟨r, hr, rfl⟩ | ⟨c, hc, rfl⟩ | rfl | rfl | rfl
  · rw [hJ.pure i h] at hl; cases hl
  · exact step_ins R hz hcl hr hl ho hall hJ
  · exact step_cal R hz hcl hc hl ho hJ
  · exact step_mk R hz hcl hl ho hJ
  · exact step_mv R hz hcl hl ho hJ
  · exact step_asg R hz hl ho hall hJ

/-- What is there when all have come up. -/
theorem rows_end (R : RowsOps ops) {L : Array Bool} {a : Act} {w : World} (hz : L.size = ops.size) (hall : ∀ i, i < ops.size → L.getD i true = true) (hJ : RJ w0 b3 b4 b5 b9 L a w) :
    ∃ (mb : Nat) (bc : Nat → Nat) (l : List ((Int × Int) × Value)), a.eval (.tmp 6) = .map (some mb) ∧ a.defers = [] ∧ w0.heap.size ≤ mb ∧ MapAt w mb l ∧ l.Perm (rowsT b3 b4 b5 b9 bc) ∧ Below w0.heap.size w0 w ∧
      ∀ c ∈ calT, w0.heap.size ≤ bc c.1 ∧ w.heap[bc c.1]? = some (.cells #[.int .u8 c.2.2] 5 (0, 0)) := by
  rw [R.size] at hall
  obtain ⟨mb, l, q1, q2, q3, q4⟩ := hJ.mp (hall 0 (by decide))
  have hc := fun c hc => hJ.cal c hc (hall c.1 (calT_small c hc).1)
  obtain ⟨c1, a1, a2, a3⟩ := hc _ (by simp [calT] : ((39, 46, 1) : Nat × Nat × Int) ∈ calT)
  obtain ⟨c2, b1, b2, b3'⟩ := hc _ (by simp [calT] : ((43, 49, 1) : Nat × Nat × Int) ∈ calT)
  obtain ⟨c3, e1, e2, e3⟩ := hc _ (by simp [calT] : ((53, 56, 2) : Nat × Nat × Int) ∈ calT)
  obtain ⟨c4, f1, f2, f3⟩ := hc _ (by simp [calT] : ((57, 59, 2) : Nat × Nat × Int) ∈ calT)
  obtain ⟨c5, g1, g2, g3⟩ := hc _ (by simp [calT] : ((73, 70, 3) : Nat × Nat × Int) ∈ calT)
  refine ⟨mb, fun i => if i = 39 then c1 else if i = 43 then c2 else if i = 53 then c3 else if i = 57 then c4 else c5, l, ?_, hJ.defers, q1, q3, ?_, hJ.keep, ?_⟩
  · rw [hJ.r6 (hall 76 (by decide)), q2]
  · refine q4.trans (List.Perm.of_eq ?_)
    have ef : insT.filter (fun r => L.getD r.1 true) = insT := List.filter_eq_self.2 (fun r hr => hall r.1 (insT_small r hr).1)
    rw [ef]
    have he := hJ.env
    simp only at a2 b2 e2 f2 g2
    simp only [envE, List.forall_mem_cons] at he
    simp only [insT, rowsT, List.map_cons, List.map_nil, a2, b2, e2, f2, g2, if_true]
    simp [he]
  · simp only [calT, List.forall_mem_cons]
    simp [a1, a3, b1, b3', e1, e3, f1, f3, g1, g3]

theorem rows_all (R : RowsOps ops) {S : World → Prop} (hd : downB ops = true) (hS : ∀ L a w, RJ w0 b3 b4 b5 b9 L a w → S w)
    (hend : ∀ a w (mb : Nat) (bc : Nat → Nat) (l : List ((Int × Int) × Value)), a.eval (.tmp 6) = .map (some mb) → a.defers = [] → w0.heap.size ≤ mb → MapAt w mb l → l.Perm (rowsT b3 b4 b5 b9 bc) → Below w0.heap.size w0 w →
      (∀ c ∈ calT, w0.heap.size ≤ bc c.1 ∧ w.heap[bc c.1]? = some (.cells #[.int .u8 c.2.2] 5 (0, 0))) → Q .normal a w)
    {n : Nat} {L : Array Bool} {a : Act} {w : World} (hz : L.size = ops.size) (hc : L.toList.count false ≤ n) (hcl : closedB ops L = true) (hJ : RJ w0 b3 b4 b5 b9 L a w) : wpAnyK Try.prog ops Q [] S n L a w :=
  wpAnyK_inv (RJ w0 b3 b4 b5 b9) hd hS (rows_step R) (fun L a w hz hall hJ => by
    obtain ⟨mb, bc, l, h6, hdf, hmb, hat, hperm, hbel, hcal⟩ := rows_end R hz hall hJ
    exact hend a w mb bc l h6 hdf hmb hat hperm hbel hcal) n L a w hz hc (.inl hcl) hJ

section
variable {P : Program} (w : World)
@[go_sem] theorem run_store_func (a : Addr) (m : Mode) (f : Fn) (x y : Array Value) : (store a (.func f x y) m).run P w = stored P w a (.func f x y) m := run_store P w a _ m rfl
end
theorem RJ.start {w0 : World} {b3 b4 b5 b9 : Nat} {L : Array Bool} {a : Act} (hs : a.tmps.size = 72) (hd : a.defers = []) (hL : (pureI.all (fun i => L.getD i true) && calT.all (fun c => !L.getD c.1 true) && !L.getD 0 true && !L.getD 75 true && !L.getD 76 true) = true)
    (he : ∀ p ∈ envE b3 b4 b5 b9, a.eval (.tmp p.1) = p.2) : RJ w0 b3 b4 b5 b9 L a w0 := by
  simp only [Bool.and_eq_true, Bool.not_eq_true', List.all_eq_true] at hL
  obtain ⟨⟨⟨⟨h1, h2⟩, h3⟩, h4⟩, h5⟩ := hL
  exact ⟨hs, hd, h1, he, Below.refl _ _, fun c hc h => (by rw [h2 c hc] at h; cases h), fun h => (by rw [h3] at h; cases h), fun h => (by rw [h4] at h; cases h), fun h => (by rw [h5] at h; cases h)⟩
set_option maxHeartbeats 8000000 in
theorem c_rows {w : World} (bm ba : Nat) (ic : Array Value) :
    Calls Try.prog 32 #[.pointer (some ⟨bm, 0, none⟩), .pointer (some ⟨ba, 0, none⟩), .agg ic] w fun e w' => ∃ (mb : Nat) (bc : Nat → Nat) (l : List ((Int × Int) × Value)), e = .returned (.map (some mb)) ∧ w.heap.size ≤ mb ∧ MapAt w' mb l ∧
      l.Perm (rowsT w.heap.size (w.heap.size + 1) (w.heap.size + 1 + 1) (w.heap.size + 1 + 1 + 1) bc) ∧ Below w.heap.size w w' ∧ (∀ c ∈ calT, w.heap.size ≤ bc c.1 ∧ w'.heap[bc c.1]? = some (.cells #[.int .u8 c.2.2] 5 (0, 0))) ∧
      w'.heap[w.heap.size]? = some (.cells #[.pointer (some ⟨bm, 0, none⟩)] 36 (0, 0)) ∧
      w'.heap[w.heap.size + 1]? = some (.cells #[.pointer (some ⟨ba, 0, none⟩)] 81 (0, 0)) ∧
      w'.heap[w.heap.size + 1 + 1]? = some (.cells ic 46 (0, 0)) ∧
      w'.heap[w.heap.size + 1 + 1 + 1]? = some (.cells #[.func (.func 65) #[] #[.pointer (some ⟨w.heap.size + 1, 0, none⟩), .pointer (some ⟨w.heap.size, 0, none⟩)]] 1 (0, 0)) := by
  go_enter Try.func32, Try.ntmps32
  go_wp2_with fail
  obtain ⟨w4, hw4⟩ : ∃ x, x = ((((w.alloc (.cells #[.pointer (some ⟨bm, 0, none⟩)] 36)).alloc (.cells #[.pointer (some ⟨ba, 0, none⟩)] 81)).alloc (.cells ic 46)).alloc
      (.cells #[.func (.func 65) #[] #[.pointer (some ⟨w.heap.size + 1, 0, none⟩), .pointer (some ⟨w.heap.size, 0, none⟩)]] 1)) := ⟨_, rfl⟩
  rw [← hw4]
  have hz4 : w4.heap.size = w.heap.size + 1 + 1 + 1 + 1 := by rw [hw4]; simp
  have q3 : w4.heap[w.heap.size]? = some (.cells #[.pointer (some ⟨bm, 0, none⟩)] 36 (0, 0)) := by rw [hw4]; exact heap_old1 (heap_old1 (heap_old1 (heap_new1 _ _ _ rfl)))
  have q4 : w4.heap[w.heap.size + 1]? = some (.cells #[.pointer (some ⟨ba, 0, none⟩)] 81 (0, 0)) := by rw [hw4]; exact heap_old1 (heap_old1 (heap_new1 _ _ _ (by simp)))
  have q5 : w4.heap[w.heap.size + 1 + 1]? = some (.cells ic 46 (0, 0)) := by rw [hw4]; exact heap_old1 (heap_new1 _ _ _ (by simp))
  have q9 : w4.heap[w.heap.size + 1 + 1 + 1]? = some (.cells #[.func (.func 65) #[] #[.pointer (some ⟨w.heap.size + 1, 0, none⟩), .pointer (some ⟨w.heap.size, 0, none⟩)]] 1 (0, 0)) := by rw [hw4]; exact heap_new1 _ _ _ (by simp)
  have qb : Below w.heap.size w w4 := by rw [hw4]; exact (((((Below.refl _ _).alloc (Nat.le_refl _) _).alloc (by simp) _).alloc (by simp; omega) _).alloc (by simp; omega) _)
  clear hw4
  have Q := Lib.hid (And.intro hz4 (And.intro q3 (And.intro q4 (And.intro q5 (And.intro q9 qb)))))
  have hs : w4.cell? ⟨w.heap.size + 1 + 1 + 1, 0, none⟩ = some (.func (.func 65) #[] #[.pointer (some ⟨w.heap.size + 1, 0, none⟩), .pointer (some ⟨w.heap.size, 0, none⟩)]) := by rw [row_cell q9]; rfl
  clear hz4 q3 q4 q5 q9 qb
  refine wp_region_K2 [] (fun W : World => W.cell? ⟨w.heap.size + 1 + 1 + 1, 0, none⟩ = some (.func (.func 65) #[] #[.pointer (some ⟨w.heap.size + 1, 0, none⟩), .pointer (some ⟨w.heap.size, 0, none⟩)])) (fun _ => True) rfl hs trivial (fun hS0 _ => ?_)
  have HS0 := Lib.hid hS0
  clear hS0 hs
  refine wpAnyK_take 1 (v := ?_) rfl (by kernel_rfl) (fun _ _ _ h => h) (.inl ⟨by rfl, ?_⟩) HS0.out ?_
  rotate_left
  · intro w hS; clear hS; go_simp; with_reducible rfl
  refine wpAnyK_take 2 (v := ?_) rfl (by kernel_rfl) (fun _ _ _ h => h) (.inl ⟨by rfl, ?_⟩) HS0.out ?_
  rotate_left
  · intro w hS; clear hS; go_simp; with_reducible rfl
  refine wpAnyK_take 4 (v := ?_) rfl (by kernel_rfl) (fun _ _ _ h => h) (.inl ⟨by rfl, ?_⟩) HS0.out ?_
  rotate_left
  · intro w hS; clear hS; go_simp; with_reducible rfl
  refine wpAnyK_take 5 (v := ?_) rfl (by kernel_rfl) (fun _ _ _ h => h) (.inl ⟨by rfl, ?_⟩) HS0.out ?_
  rotate_left
  · intro w hS; clear hS; go_simp; with_reducible rfl
  refine wpAnyK_take 7 (v := ?_) rfl (by kernel_rfl) (fun _ _ _ h => h) (.inl ⟨by rfl, ?_⟩) HS0.out ?_
  rotate_left
  · intro w hS; clear hS; go_simp; with_reducible rfl
  refine wpAnyK_take 8 (v := ?_) rfl (by kernel_rfl) (fun _ _ _ h => h) (.inl ⟨by rfl, ?_⟩) HS0.out ?_
  rotate_left
  · intro w hS; clear hS; go_simp; with_reducible rfl
  refine wpAnyK_take 10 (v := ?_) rfl (by kernel_rfl) (fun _ _ _ h => h) (.inl ⟨by rfl, ?_⟩) HS0.out ?_
  rotate_left
  · intro w hS; clear hS; go_simp; with_reducible rfl
  refine wpAnyK_take 11 (v := ?_) rfl (by kernel_rfl) (fun _ _ _ h => h) (.inl ⟨by rfl, ?_⟩) HS0.out ?_
  rotate_left
  · intro w hS; clear hS; go_simp; with_reducible rfl
  refine wpAnyK_take 13 (v := ?_) rfl (by kernel_rfl) (fun _ _ _ h => h) (.inl ⟨by rfl, ?_⟩) HS0.out ?_
  rotate_left
  · intro w hS; clear hS; go_simp; with_reducible rfl
  refine wpAnyK_take 14 (v := ?_) rfl (by kernel_rfl) (fun _ _ _ h => h) (.inl ⟨by rfl, ?_⟩) HS0.out ?_
  rotate_left
  · intro w hS; clear hS; go_simp; with_reducible rfl
  refine wpAnyK_take 16 (v := ?_) rfl (by kernel_rfl) (fun _ _ _ h => h) (.inl ⟨by rfl, ?_⟩) HS0.out ?_
  rotate_left
  · intro w hS; clear hS; go_simp; with_reducible rfl
  refine wpAnyK_take 17 (v := .func (.func 65) #[] #[.pointer (some ⟨(w.heap.size + 1), 0, none⟩), .pointer (some ⟨w.heap.size, 0, none⟩)]) rfl (by kernel_rfl) (fun _ _ _ h => h) (.inl ⟨by rfl, fun w hS => ?_⟩) HS0.out ?_
  · go_simp
  refine wpAnyK_take 19 (v := ?_) rfl (by kernel_rfl) (fun _ _ _ h => h) (.inl ⟨by rfl, ?_⟩) HS0.out ?_
  rotate_left
  · intro w hS; clear hS; go_simp; with_reducible rfl
  refine wpAnyK_take 20 (v := .func (.func 65) #[] #[.pointer (some ⟨(w.heap.size + 1), 0, none⟩), .pointer (some ⟨w.heap.size, 0, none⟩)]) rfl (by kernel_rfl) (fun _ _ _ h => h) (.inl ⟨by rfl, fun w hS => ?_⟩) HS0.out ?_
  · go_simp
  refine wpAnyK_take 22 (v := ?_) rfl (by kernel_rfl) (fun _ _ _ h => h) (.inl ⟨by rfl, ?_⟩) HS0.out ?_
  rotate_left
  · intro w hS; clear hS; go_simp; with_reducible rfl
  refine wpAnyK_take 23 (v := ?_) rfl (by kernel_rfl) (fun _ _ _ h => h) (.inl ⟨by rfl, ?_⟩) HS0.out ?_
  rotate_left
  · intro w hS; clear hS; go_simp; with_reducible rfl
  refine wpAnyK_take 25 (v := ?_) rfl (by kernel_rfl) (fun _ _ _ h => h) (.inl ⟨by rfl, ?_⟩) HS0.out ?_
  rotate_left
  · intro w hS; clear hS; go_simp; with_reducible rfl
  refine wpAnyK_take 26 (v := ?_) rfl (by kernel_rfl) (fun _ _ _ h => h) (.inl ⟨by rfl, ?_⟩) HS0.out ?_
  rotate_left
  · intro w hS; clear hS; go_simp; with_reducible rfl
  refine wpAnyK_take 28 (v := ?_) rfl (by kernel_rfl) (fun _ _ _ h => h) (.inl ⟨by rfl, ?_⟩) HS0.out ?_
  rotate_left
  · intro w hS; clear hS; go_simp; with_reducible rfl
  refine wpAnyK_take 29 (v := ?_) rfl (by kernel_rfl) (fun _ _ _ h => h) (.inl ⟨by rfl, ?_⟩) HS0.out ?_
  rotate_left
  · intro w hS; clear hS; go_simp; with_reducible rfl
  refine wpAnyK_take 31 (v := ?_) rfl (by kernel_rfl) (fun _ _ _ h => h) (.inl ⟨by rfl, ?_⟩) HS0.out ?_
  rotate_left
  · intro w hS; clear hS; go_simp; with_reducible rfl
  refine wpAnyK_take 32 (v := ?_) rfl (by kernel_rfl) (fun _ _ _ h => h) (.inl ⟨by rfl, ?_⟩) HS0.out ?_
  rotate_left
  · intro w hS; clear hS; go_simp; with_reducible rfl
  refine wpAnyK_take 34 (v := ?_) rfl (by kernel_rfl) (fun _ _ _ h => h) (.inl ⟨by rfl, ?_⟩) HS0.out ?_
  rotate_left
  · intro w hS; clear hS; go_simp; with_reducible rfl
  refine wpAnyK_take 35 (v := ?_) rfl (by kernel_rfl) (fun _ _ _ h => h) (.inl ⟨by rfl, ?_⟩) HS0.out ?_
  rotate_left
  · intro w hS; clear hS; go_simp; with_reducible rfl
  refine wpAnyK_take 37 (v := ?_) rfl (by kernel_rfl) (fun _ _ _ h => h) (.inl ⟨by rfl, ?_⟩) HS0.out ?_
  rotate_left
  · intro w hS; clear hS; go_simp; with_reducible rfl
  refine wpAnyK_take 38 (v := ?_) rfl (by kernel_rfl) (fun _ _ _ h => h) (.inl ⟨by rfl, ?_⟩) HS0.out ?_
  rotate_left
  · intro w hS; clear hS; go_simp; with_reducible rfl
  refine wpAnyK_take 41 (v := ?_) rfl (by kernel_rfl) (fun _ _ _ h => h) (.inl ⟨by rfl, ?_⟩) HS0.out ?_
  rotate_left
  · intro w hS; clear hS; go_simp; with_reducible rfl
  refine wpAnyK_take 42 (v := ?_) rfl (by kernel_rfl) (fun _ _ _ h => h) (.inl ⟨by rfl, ?_⟩) HS0.out ?_
  rotate_left
  · intro w hS; clear hS; go_simp; with_reducible rfl
  refine wpAnyK_take 45 (v := ?_) rfl (by kernel_rfl) (fun _ _ _ h => h) (.inl ⟨by rfl, ?_⟩) HS0.out ?_
  rotate_left
  · intro w hS; clear hS; go_simp; with_reducible rfl
  refine wpAnyK_take 46 (v := ?_) rfl (by kernel_rfl) (fun _ _ _ h => h) (.inl ⟨by rfl, ?_⟩) HS0.out ?_
  rotate_left
  · intro w hS; clear hS; go_simp; with_reducible rfl
  refine wpAnyK_take 48 (v := ?_) rfl (by kernel_rfl) (fun _ _ _ h => h) (.inl ⟨by rfl, ?_⟩) HS0.out ?_
  rotate_left
  · intro w hS; clear hS; go_simp; with_reducible rfl
  refine wpAnyK_take 49 (v := ?_) rfl (by kernel_rfl) (fun _ _ _ h => h) (.inl ⟨by rfl, ?_⟩) HS0.out ?_
  rotate_left
  · intro w hS; clear hS; go_simp; with_reducible rfl
  refine wpAnyK_take 51 (v := ?_) rfl (by kernel_rfl) (fun _ _ _ h => h) (.inl ⟨by rfl, ?_⟩) HS0.out ?_
  rotate_left
  · intro w hS; clear hS; go_simp; with_reducible rfl
  refine wpAnyK_take 52 (v := ?_) rfl (by kernel_rfl) (fun _ _ _ h => h) (.inl ⟨by rfl, ?_⟩) HS0.out ?_
  rotate_left
  · intro w hS; clear hS; go_simp; with_reducible rfl
  refine wpAnyK_take 55 (v := ?_) rfl (by kernel_rfl) (fun _ _ _ h => h) (.inl ⟨by rfl, ?_⟩) HS0.out ?_
  rotate_left
  · intro w hS; clear hS; go_simp; with_reducible rfl
  refine wpAnyK_take 56 (v := ?_) rfl (by kernel_rfl) (fun _ _ _ h => h) (.inl ⟨by rfl, ?_⟩) HS0.out ?_
  rotate_left
  · intro w hS; clear hS; go_simp; with_reducible rfl
  refine wpAnyK_take 59 (v := ?_) rfl (by kernel_rfl) (fun _ _ _ h => h) (.inl ⟨by rfl, ?_⟩) HS0.out ?_
  rotate_left
  · intro w hS; clear hS; go_simp; with_reducible rfl
  refine wpAnyK_take 60 (v := ?_) rfl (by kernel_rfl) (fun _ _ _ h => h) (.inl ⟨by rfl, ?_⟩) HS0.out ?_
  rotate_left
  · intro w hS; clear hS; go_simp; with_reducible rfl
  refine wpAnyK_take 62 (v := ?_) rfl (by kernel_rfl) (fun _ _ _ h => h) (.inl ⟨by rfl, ?_⟩) HS0.out ?_
  rotate_left
  · intro w hS; clear hS; go_simp; with_reducible rfl
  refine wpAnyK_take 63 (v := ?_) rfl (by kernel_rfl) (fun _ _ _ h => h) (.inl ⟨by rfl, ?_⟩) HS0.out ?_
  rotate_left
  · intro w hS; clear hS; go_simp; with_reducible rfl
  refine wpAnyK_take 65 (v := ?_) rfl (by kernel_rfl) (fun _ _ _ h => h) (.inl ⟨by rfl, ?_⟩) HS0.out ?_
  rotate_left
  · intro w hS; clear hS; go_simp; with_reducible rfl
  refine wpAnyK_take 66 (v := ?_) rfl (by kernel_rfl) (fun _ _ _ h => h) (.inl ⟨by rfl, ?_⟩) HS0.out ?_
  rotate_left
  · intro w hS; clear hS; go_simp; with_reducible rfl
  refine wpAnyK_take 68 (v := ?_) rfl (by kernel_rfl) (fun _ _ _ h => h) (.inl ⟨by rfl, ?_⟩) HS0.out ?_
  rotate_left
  · intro w hS; clear hS; go_simp; with_reducible rfl
  refine wpAnyK_take 69 (v := ?_) rfl (by kernel_rfl) (fun _ _ _ h => h) (.inl ⟨by rfl, ?_⟩) HS0.out ?_
  rotate_left
  · intro w hS; clear hS; go_simp; with_reducible rfl
  refine wpAnyK_take 71 (v := ?_) rfl (by kernel_rfl) (fun _ _ _ h => h) (.inl ⟨by rfl, ?_⟩) HS0.out ?_
  rotate_left
  · intro w hS; clear hS; go_simp; with_reducible rfl
  refine wpAnyK_take 72 (v := ?_) rfl (by kernel_rfl) (fun _ _ _ h => h) (.inl ⟨by rfl, ?_⟩) HS0.out ?_
  rotate_left
  · intro w hS; clear hS; go_simp; with_reducible rfl

  refine rows_all (w0 := w4.drew) (b3 := w.heap.size) (b4 := w.heap.size + 1) (b5 := w.heap.size + 1 + 1) (b9 := w.heap.size + 1 + 1 + 1) ?RR (by kernel_rfl) ?_ ?_ (by kernel_rfl) ?cnt (by kernel_rfl) (RJ.start (by kernel_rfl) (by kernel_rfl) (by kernel_rfl) ?env)
  case cnt => exact Nat.le_of_ble_eq_true (by kernel_rfl)
  case env =>
    simp only [envE, List.forall_mem_cons]
    refine ⟨?_, ?_, ?_, ?_, ?_, ?_, ?_, ?_, ?_, ?_, ?_, ?_, ?_, ?_, ?_, ?_, ?_, ?_, ?_, ?_, ?_, ?_, ?_, ?_, ?_, ?_, ?_, ?_, ?_, ?_, ?_, ?_, ?_, ?_, ?_, ?_, ?_, ?_, ?_, ?_, ?_, ?_, ?_, ?_, ?_, ?_, ?_⟩
    all_goals first | kernel_rfl | (intro p hp; cases hp)
  case RR =>
    refine ⟨by kernel_rfl, ?_, ?_, ⟨_, rfl, rfl, rfl, rfl⟩, ⟨_, rfl, rfl, rfl, rfl, by kernel_rfl⟩, ⟨_, rfl, rfl, rfl, rfl, by kernel_rfl⟩⟩
    · simp only [insT, List.forall_mem_cons]
      refine ⟨⟨_, rfl, rfl, rfl, rfl, by kernel_rfl, ?_⟩, ⟨_, rfl, rfl, rfl, rfl, by kernel_rfl, ?_⟩, ⟨_, rfl, rfl, rfl, rfl, by kernel_rfl, ?_⟩, ⟨_, rfl, rfl, rfl, rfl, by kernel_rfl, ?_⟩, ⟨_, rfl, rfl, rfl, rfl, by kernel_rfl, ?_⟩, ⟨_, rfl, rfl, rfl, rfl, by kernel_rfl, ?_⟩, ⟨_, rfl, rfl, rfl, rfl, by kernel_rfl, ?_⟩, ⟨_, rfl, rfl, rfl, rfl, by kernel_rfl, ?_⟩, ⟨_, rfl, rfl, rfl, rfl, by kernel_rfl, ?_⟩, ⟨_, rfl, rfl, rfl, rfl, by kernel_rfl, ?_⟩, ⟨_, rfl, rfl, rfl, rfl, by kernel_rfl, ?_⟩, ⟨_, rfl, rfl, rfl, rfl, by kernel_rfl, ?_⟩, ⟨_, rfl, rfl, rfl, rfl, by kernel_rfl, ?_⟩, ⟨_, rfl, rfl, rfl, rfl, by kernel_rfl, ?_⟩, ⟨_, rfl, rfl, rfl, rfl, by kernel_rfl, ?_⟩, ⟨_, rfl, rfl, rfl, rfl, by kernel_rfl, ?_⟩, ⟨_, rfl, rfl, rfl, rfl, by kernel_rfl, ?_⟩, ⟨_, rfl, rfl, rfl, rfl, by kernel_rfl, ?_⟩, ⟨_, rfl, rfl, rfl, rfl, by kernel_rfl, ?_⟩, ⟨_, rfl, rfl, rfl, rfl, by kernel_rfl, ?_⟩, ⟨_, rfl, rfl, rfl, rfl, by kernel_rfl, ?_⟩, ⟨_, rfl, rfl, rfl, rfl, by kernel_rfl, ?_⟩, ⟨_, rfl, rfl, rfl, rfl, by kernel_rfl, ?_⟩, ?_⟩
      all_goals first | (simp only [calT, List.forall_mem_cons]; refine ⟨?_, ?_, ?_, ?_, ?_, ?_⟩ <;> first | (intro h; cases h; done) | (intro _; kernel_rfl) | (intro p hp; cases hp)) | (intro p hp; cases hp)
    · simp only [calT, List.forall_mem_cons]
      refine ⟨⟨_, rfl, rfl, rfl, rfl⟩, ⟨_, rfl, rfl, rfl, rfl⟩, ⟨_, rfl, rfl, rfl, rfl⟩, ⟨_, rfl, rfl, rfl, rfl⟩, ⟨_, rfl, rfl, rfl, rfl⟩, ?_⟩
      intro p hp; cases hp
  · intro L a W hJ
    obtain ⟨hz4, q3, q4, q5, q9, qb⟩ := Q.out
    rw [row_cell (below_row hJ.keep q9)]
    rfl
  · intro a W mb bc l h6 hdf hmb hat hperm hbel hcal
    obtain ⟨hz4, q3, q4, q5, q9, qb⟩ := Q.out
    have hzd : w4.drew.heap.size = w.heap.size + 1 + 1 + 1 + 1 := hz4
    have hz' : w.heap.size ≤ w4.drew.heap.size := by omega
    have R := Lib.hid (And.intro (Nat.le_trans hz' hmb) (And.intro hat (And.intro hperm (And.intro (qb.drew.trans (hbel.mono hz')) (And.intro (fun c hc => And.intro (Nat.le_trans hz' (hcal c hc).1) (hcal c hc).2) (And.intro (below_row hbel q3) (And.intro (below_row hbel q4) (And.intro (below_row hbel q5) (below_row hbel q9)))))))))
    clear hat hperm hbel hcal q3 q4 q5 q9 qb
    go_wp2
    refine bodyPost_ret (v := .map (some mb)) (by unfold Act.eval at h6; simp [results, Try.results32, go_sem]; simpa using h6) hdf ⟨mb, bc, l, rfl, R.out.1, R.out.2.1, R.out.2.2.1, R.out.2.2.2.1, R.out.2.2.2.2.1, R.out.2.2.2.2.2.1, R.out.2.2.2.2.2.2.1, R.out.2.2.2.2.2.2.2.1, R.out.2.2.2.2.2.2.2.2⟩

end Go.Proofs.Ytnbopmpbgopafaa
