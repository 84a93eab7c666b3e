/- heraldlaw20: the small makers. -/
import Derived.Test.YtnbopmpbgopafaaNew
import Derived.Deep.WholeRow
namespace Go.Proofs.Ytnbopmpbgopafaa
open Go.RowKit
variable {A : Nat → Prop}

abbrev peer0 : Array Value :=
  #[.string ⟨#[]⟩, .string ⟨#[]⟩, .int .i64 0, .int .u64 0, .string ⟨#[]⟩, .int .i64 0, .int .u32 2, .int .i64 0, .int .i64 30, .bool false, .bool false, .bool false, .slice none 0 0,
    .int .i64 0, .bool false, .int .i64 0, .bool false, .int .i64 0, .int .i64 0, .string ⟨#[]⟩, .string ⟨#[]⟩, .string ⟨#[]⟩, .bool false]
def peerD0 : PeerD := ⟨2, 30, false⟩
theorem peer0_at : PeerAt peer0 peerD0 := ⟨rfl, rfl, rfl, rfl⟩
theorem wpList_store_new {P : Program} {ops : Array Oper} {rest : List Oper} {o : Oper} {a : Act} {Q : Exit → Act → World → Prop} {w : World} {c : Array Value} {t : TypeId} (hg : o.guard = none) (p x : Operand) (hop : o.op = .store t p x) (hdst : o.dst = none) (c' : Array Value)
    (hp : a.eval p = .pointer (some ⟨w.heap.size, 0, none⟩)) (hx : a.eval x = .agg c') (hi : (P.info? t).map (·.size) = some c'.size) (ho : c.size = c'.size) (h1 : c'.all (·.oneCell') = true)
    (hK : wpList P ops Q rest a (w.alloc (.cells c' t))) : wpList P ops Q (o :: rest) a (w.alloc (.cells c t)) := by
  refine wpList_plain hg fun K' hK' => ?_
  unfold Oper.wp
  have := run_storeAt_new (P := P) w t c c' hi ho h1
  simp only [execOp, hop, hp, hx]
  simp [this, Result.andThen, Oper.upon, hdst, Act.put]
  exact hK' _ _ hK
abbrev peerZ : Array Value :=
  #[.string ⟨#[]⟩, .string ⟨#[]⟩, .int .i64 0, .int .u64 0, .string ⟨#[]⟩, .int .i64 0, .int .u32 0, .int .i64 0, .int .i64 0, .bool false, .bool false, .bool false, .slice none 0 0,
    .int .i64 0, .bool false, .int .i64 0, .bool false, .int .i64 0, .int .i64 0, .string ⟨#[]⟩, .string ⟨#[]⟩, .string ⟨#[]⟩, .bool false]
set_option maxRecDepth 100000 in
theorem c_peer (w : World) : Calls Try.prog 21 #[] w fun e w' => e = .returned (.agg peer0) ∧ Below w.heap.size w w' := by
  go_enter Try.func21, Try.ntmps21
  go_upto_region 1 with fail
  refine wp_region_lit ?_
  refine wpList_plain rfl fun K1 hK1 => ?_
  go_simp
  refine hK1 _ _ ?_
  refine wpList_store_new (c := peerZ) rfl (.tmp 0) (.tmp 1) rfl rfl peer0 rfl rfl (by kernel_rfl) rfl (by kernel_rfl) ?_
  obtain ⟨c, hc⟩ : ∃ c, c = peer0 := ⟨_, rfl⟩
  rw [← hc]
  have hl := run_loadCellsFrom_new (P := Try.prog) w 28 c 23 (by rw [hc]; rfl)
  have HC := Lib.hid hc
  clear hc
  go_wp2
  refine bodyPost_ret (v := .agg c) (by simp [results, Try.results21, Try.isAgg28, Try.sizeOf28, hl, Act.eval, loadVar, asAddr, loadCells]) rfl ⟨by rw [HC.out], ?_⟩
  exact ((Below.refl _ _).alloc (Nat.le_refl _) _)
def openD1 (a id h : Int) : OpenD := ⟨a, h, id, [1], false, false, [], false, false, 0, []⟩
abbrev nilS : Value := .slice none 0 0
set_option maxRecDepth 100000 in
theorem c_open (w : World) (a id h : Int) : Calls Try.prog 22 #[.int .u32 a, .int .u32 id, .int .i64 h] w fun e w' =>
    ∃ fv, e = .returned (openV (openD1 a id h) fv nilS nilS) ∧ OpenAt (fun b => w.heap.size ≤ b ∧ b < w'.heap.size) w' (openD1 a id h) fv nilS nilS ∧ Below w.heap.size w w' := by
  go_enter Try.func22, Try.ntmps22
  go_wp2
  refine bodyPost_ret (v := openV (openD1 a id h) (.slice (some ⟨w.heap.size + 1, 0, none⟩) 1 1) nilS nilS) (by simp [results, Try.results22, go_sem, openD1]) rfl ⟨_, rfl, ⟨.inr ⟨w.heap.size + 1, 0, 1, rfl, by simp [openD1], by decide, .inr (by simp), ?_⟩, .inl ⟨_, rfl, rfl⟩, .inl ⟨_, rfl, rfl⟩⟩, ?_⟩
  · intro i x hi j u hu
    simp only [openD1] at hi
    match i, hi with
    | 0, hi =>
      simp only [List.getElem?_cons_zero, Option.some.injEq] at hi
      subst hi
      match j, hu with
      | 0, hu =>
        simp only [cI, List.getElem?_cons_zero, Option.some.injEq] at hu
        subst hu
        rw [row_cell (heap_new1 _ _ _ (by simp))]
        rfl
      | j + 1, hu => simp [cI] at hu
    | i + 1, hi => simp at hi
  · exact ((Below.refl _ _).alloc (Nat.le_refl _) _).alloc (by simp) _
theorem c_in (w : World) (k : Int) : Calls Try.prog 11 #[.int .i64 k] w fun e w' => e = .returned (.agg (inCells k openNone nilS nilS nilS ⟨0, 0, 0⟩)) ∧ Below w.heap.size w w' := by
  go_enter Try.func11, Try.ntmps11
  go_wp2
  refine bodyPost_ret (v := .agg (inCells k openNone nilS nilS nilS ⟨0, 0, 0⟩)) (by simp [results, Try.results11, go_sem, openNone]) rfl ⟨rfl, ?_⟩
  exact ((Below.refl _ _).alloc (Nat.le_refl _) _)
theorem c_mkarm (w : World) (t n : Int) : Calls Try.prog 24 #[.int .i64 t, .int .i64 n] w fun e w' => e = .returned (.agg (actCells (actA t n))) ∧ Below w.heap.size w w' := by
  go_enter Try.func24, Try.ntmps24
  go_wp2
  refine bodyPost_ret (v := .agg (actCells (actA t n))) (by simp [results, Try.results24, go_sem, actA]) rfl ⟨rfl, ?_⟩
  exact ((Below.refl _ _).alloc (Nat.le_refl _) _)
end Go.Proofs.Ytnbopmpbgopafaa
