/- fsm: acts are put together. -/
import Derived.Test.YtnbopmpbgopafaaOwn
import Derived.Test.YtnbopmpbgopafaaRegion
namespace Go.Proofs.Ytnbopmpbgopafaa
open Go.RowKit
variable {A : Nat → Prop}

/-- What is done, as data (no act bears a note's Data). -/
structure ActD where
  kind : Int
  timer : Int
  ticks : Int
  code : Int
  sub : Int
  deriving DecidableEq, Inhabited
def noText : ByteArray := ByteArray.empty
abbrev actCells (x : ActD) : Array Value := #[.int .i64 x.kind, .int .i64 x.timer, .int .i64 x.ticks, .int .u8 x.code, .int .u8 x.sub, .string ⟨#[]⟩]
def cT (x : ActD) : List Value := [.int .i64 x.kind, .int .i64 x.timer, .int .i64 x.ticks, .int .u8 x.code, .int .u8 x.sub, .string ⟨#[]⟩]
theorem cod_T : Cod 6 cT := ⟨fun _ => rfl, fun x u h => by simp [cT] at h; rcases h with rfl | rfl | rfl | rfl | rfl | rfl <;> rfl, by decide⟩

def actK (k : Int) : ActD := ⟨k, 0, 0, 0, 0⟩
def actC (t : Int) : ActD := ⟨7, t, 0, 0, 0⟩
def actA (t n : Int) : ActD := ⟨6, t, n, 0, 0⟩

/-- The acts that block ba holds: L; their row lies from block base on. -/
def ActsAt (w : World) (ba base : Nat) (L : List ActD) : Prop :=
  ba < base ∧ ∃ oa oc, w.heap[ba]? = some (.cells #[.slice oa L.length oc] 79 (0, 0)) ∧ Ow base w 50 6 cT (.slice oa L.length oc) L

theorem i_T : (Try.prog.info? 50).map (fun i => (i.zero, i.size, i.bytes)) = some (some (.agg #[.int .i64 0, .int .i64 0, .int .i64 0, .int .u8 0, .int .u8 0, .string ⟨#[]⟩]), 6, 48) := by kernel_rfl

theorem ActsAt.keeps {w w' : World} {ba base : Nat} {L : List ActD} {A' : Nat → Prop} (h : ActsAt w ba base L) (hk : Keeps A' w w') (h1 : A' ba) (h2 : ∀ b, base ≤ b → b < w.heap.size → A' b) : ActsAt w' ba base L := by
  obtain ⟨hlt, oa, oc, hr, ho⟩ := h
  exact ⟨hlt, oa, oc, (hk.block ba (Array.getElem?_eq_some_iff.1 hr).1 h1).trans hr, ho.keeps hk (fun b hb => h2 b (Ow.lt ho b hb).1 (Ow.lt ho b hb).2)⟩
theorem ActsAt.below {w w' : World} {ba base : Nat} {L : List ActD} (h : ActsAt w ba base L) (hk : Below w.heap.size w w') : ActsAt w' ba base L :=
  h.keeps (A' := fun _ => True) (Keeps.of_below hk) trivial (fun _ _ _ => trivial)

/-- Behind an append to the acts' row: the row's value stored into block ba. -/
theorem ActsAt.stored {w w3 : World} {ba base : Nat} {L : List ActD} {x : ActD} {oa : Option Addr} {oc : Nat} {v' : Value} {o : Obj} (hr : w.heap[ba]? = some (.cells #[.slice oa L.length oc] 79 (0, 0))) (hlt : ba < base)
    (ho : Ow base w 50 6 cT (.slice oa L.length oc) L) (hb : base ≤ w.heap.size)
    (hown : w3.ownsRow base 50 6 v' (L.length + 1) (L.flatMap cT ++ cT x)) (hgrow : (w.alloc o).grownBy w3 (Value.slice oa L.length oc).ownBlock) :
    ∃ oa' oc', v' = .slice oa' (L.length + 1) oc' ∧ w3.heap[ba]? = some (.cells #[.slice oa L.length oc] 79 (0, 0)) ∧
      ActsAt (w3.setCell ⟨ba, 0, none⟩ (.slice oa' (L.length + 1) oc')) ba base (L ++ [x]) ∧ Keeps (fun b => b < base ∧ b ≠ ba) w (w3.setCell ⟨ba, 0, none⟩ (.slice oa' (L.length + 1) oc')) := by
  have ho3 : Ow base w3 50 6 cT v' (L ++ [x]) := by unfold Ow; simpa using hown
  obtain ⟨oa', oc', hv⟩ := ho3.shape
  subst hv
  have hbg : Below base w w3 := below_grown hgrow (fun k hk => (Ow.lt ho k hk).1) hb
  have hr3 : w3.heap[ba]? = some (.cells #[.slice oa L.length oc] 79 (0, 0)) := (hbg.block ba hlt).trans hr
  refine ⟨oa', oc', by simp, hr3, ⟨hlt, oa', oc', ?_, ?_⟩, ?_⟩
  · rw [heap_setCell_same w3 ba 0 _ _ _ hr3]; simp
  · exact ho3.keeps (A' := fun b => b ≠ ba) ((Keeps.refl _ _).setCell (by simp) _) (fun b hb => by have := Ow.lt ho3 b hb; omega)
  · exact (Keeps.of_below' hbg (fun k hk => hk.1)).setCell (by simp) _

set_option maxRecDepth 100000 in
theorem c_do {w : World} {ba base : Nat} {L : List ActD} (h : ActsAt w ba base L) (hb : base ≤ w.heap.size) (hl : L.length ≤ 1000) (k : Int) :
    Calls Try.prog 59 #[.pointer (some ⟨ba, 0, none⟩), .int .i64 k] w fun e w' => e = .returned (.tuple #[]) ∧ ActsAt w' ba base (L ++ [actK k]) ∧ Keeps (fun b => b < base ∧ b ≠ ba) w w' := by
  obtain ⟨hlt, oa, oc, hr, ho⟩ := h
  have HL := Lib.hid hl
  have HO := Lib.hid ho
  have HR := Lib.hid hr
  have c0 := row_cell hr
  have hz := (Array.getElem?_eq_some_iff.1 hr).1
  obtain ⟨i0, hi, hi0, hi1, hi2⟩ := info_parts i_T
  clear hl hr ho
  go_enter Try.func59, Try.ntmps59
  go_wp2_with (at_builtin; go_must (refine wpList_append_own _ rfl _ _ 41 rfl base 50 i0 (.agg #[.int .i64 0, .int .i64 0, .int .i64 0, .int .u8 0, .int .u8 0, .string ⟨#[]⟩]) 6 48 Try.underlying41 hi hi0 hi1 hi2 rfl (by decide) _ L.length (L.flatMap cT) rfl ?own ⟨w.heap.size, 0, none⟩ 1 1 (cT (actK k)) rfl rfl ?hnews ?h1 ?h63 ?hbytes ?hbase ?_))
  case own => exact World.ownsRow.alloc HO.out _
  case hnews => exact news_new (cs := actCells (actK k)) (l := cT (actK k)) rfl
  case h1 => exact cod_T.one _
  case h63 => have := HL.out; simp only [maxLen]; omega
  case hbytes => have := HL.out; omega
  case hbase => simp; omega
  intro v' w3 hown3 hgrow3 _
  obtain ⟨oa', oc', hv, hr3, hacts, hkeep⟩ := ActsAt.stored HR.out hlt HO.out hb hown3 hgrow3
  have H1 := Lib.hid hacts
  have H2 := Lib.hid hkeep
  subst hv
  clear hown3 hgrow3 hacts hkeep c0
  have c3 := row_cell hr3
  have f3 := row_free hr3
  go_wp2
  go_end0
  exact ⟨rfl, H1.out, H2.out⟩

set_option maxRecDepth 100000 in
theorem c_cancel {w : World} {ba base : Nat} {L : List ActD} (h : ActsAt w ba base L) (hb : base ≤ w.heap.size) (hl : L.length ≤ 1000) (t : Int) :
    Calls Try.prog 60 #[.pointer (some ⟨ba, 0, none⟩), .int .i64 t] w fun e w' => e = .returned (.tuple #[]) ∧ ActsAt w' ba base (L ++ [actC t]) ∧ Keeps (fun b => b < base ∧ b ≠ ba) w w' := by
  obtain ⟨hlt, oa, oc, hr, ho⟩ := h
  have HL := Lib.hid hl
  have HO := Lib.hid ho
  have HR := Lib.hid hr
  have c0 := row_cell hr
  have hz := (Array.getElem?_eq_some_iff.1 hr).1
  obtain ⟨i0, hi, hi0, hi1, hi2⟩ := info_parts i_T
  clear hl hr ho
  go_enter Try.func60, Try.ntmps60
  go_wp2_with (at_builtin; go_must (refine wpList_append_own _ rfl _ _ 41 rfl base 50 i0 (.agg #[.int .i64 0, .int .i64 0, .int .i64 0, .int .u8 0, .int .u8 0, .string ⟨#[]⟩]) 6 48 Try.underlying41 hi hi0 hi1 hi2 rfl (by decide) _ L.length (L.flatMap cT) rfl ?own ⟨w.heap.size, 0, none⟩ 1 1 (cT (actC t)) rfl rfl ?hnews ?h1 ?h63 ?hbytes ?hbase ?_))
  case own => exact World.ownsRow.alloc HO.out _
  case hnews => exact news_new (cs := actCells (actC t)) (l := cT (actC t)) rfl
  case h1 => exact cod_T.one _
  case h63 => have := HL.out; simp only [maxLen]; omega
  case hbytes => have := HL.out; omega
  case hbase => simp; omega
  intro v' w3 hown3 hgrow3 _
  obtain ⟨oa', oc', hv, hr3, hacts, hkeep⟩ := ActsAt.stored HR.out hlt HO.out hb hown3 hgrow3
  have H1 := Lib.hid hacts
  have H2 := Lib.hid hkeep
  subst hv
  clear hown3 hgrow3 hacts hkeep c0
  have c3 := row_cell hr3
  have f3 := row_free hr3
  go_wp2
  go_end0
  exact ⟨rfl, H1.out, H2.out⟩

set_option maxRecDepth 100000 in
theorem c_arm {w : World} {ba base : Nat} {L : List ActD} (h : ActsAt w ba base L) (hb : base ≤ w.heap.size) (hl : L.length ≤ 1000) (t n : Int) :
    Calls Try.prog 61 #[.pointer (some ⟨ba, 0, none⟩), .int .i64 t, .int .i64 n] w fun e w' => e = .returned (.tuple #[]) ∧ ActsAt w' ba base (L ++ [actA t n]) ∧ Keeps (fun b => b < base ∧ b ≠ ba) w w' := by
  obtain ⟨hlt, oa, oc, hr, ho⟩ := h
  have HL := Lib.hid hl
  have HO := Lib.hid ho
  have HR := Lib.hid hr
  have c0 := row_cell hr
  have hz := (Array.getElem?_eq_some_iff.1 hr).1
  obtain ⟨i0, hi, hi0, hi1, hi2⟩ := info_parts i_T
  clear hl hr ho
  go_enter Try.func61, Try.ntmps61
  go_wp2_with (at_builtin; go_must (refine wpList_append_own _ rfl _ _ 41 rfl base 50 i0 (.agg #[.int .i64 0, .int .i64 0, .int .i64 0, .int .u8 0, .int .u8 0, .string ⟨#[]⟩]) 6 48 Try.underlying41 hi hi0 hi1 hi2 rfl (by decide) _ L.length (L.flatMap cT) rfl ?own ⟨w.heap.size, 0, none⟩ 1 1 (cT (actA t n)) rfl rfl ?hnews ?h1 ?h63 ?hbytes ?hbase ?_))
  case own => exact World.ownsRow.alloc HO.out _
  case hnews => exact news_new (cs := actCells (actA t n)) (l := cT (actA t n)) rfl
  case h1 => exact cod_T.one _
  case h63 => have := HL.out; simp only [maxLen]; omega
  case hbytes => have := HL.out; omega
  case hbase => simp; omega
  intro v' w3 hown3 hgrow3 _
  obtain ⟨oa', oc', hv, hr3, hacts, hkeep⟩ := ActsAt.stored HR.out hlt HO.out hb hown3 hgrow3
  have H1 := Lib.hid hacts
  have H2 := Lib.hid hkeep
  subst hv
  clear hown3 hgrow3 hacts hkeep c0
  have c3 := row_cell hr3
  have f3 := row_free hr3
  go_wp2
  go_end0
  exact ⟨rfl, H1.out, H2.out⟩
end Go.Proofs.Ytnbopmpbgopafaa
