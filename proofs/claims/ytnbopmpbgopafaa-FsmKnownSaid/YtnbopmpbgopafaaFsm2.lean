/- fsm: a machine's block; its small methods. -/
import Derived.Test.YtnbopmpbgopafaaAgree3
import Derived.Test.YtnbopmpbgopafaaFsm1
import Derived.Deep.DeepCutAuto
namespace Go.Proofs.Ytnbopmpbgopafaa
open Go.RowKit
variable {A : Nat → Prop}

structure MachD where
  asn : Int
  retry : Int
  passive : Bool
  mine : OpenD
  wanted : Bool
  state : Int
  ses : SesD
  theirs : OpenD
  deriving DecidableEq
/-- The values of a machine's slices: the own open's three, the session's four, the other one's three. -/
structure MV where
  mf : Value
  ma : Value
  mq : Value
  sf : Value
  ss : Value
  st : Value
  sk : Value
  tf : Value
  ta : Value
  tk : Value

abbrev machCells (m : MachD) (v : MV) : Array Value :=
  #[.string ⟨#[]⟩, .string ⟨#[]⟩, .int .i64 0, .int .u64 0, .string ⟨#[]⟩, .int .i64 0, .int .u32 m.asn, .int .i64 0, .int .i64 m.retry, .bool m.passive, .bool false, .bool false, .slice none 0 0,
    .int .i64 0, .bool false, .int .i64 0, .bool false, .int .i64 0, .int .i64 0, .string ⟨#[]⟩, .string ⟨#[]⟩, .string ⟨#[]⟩, .bool false,
    .int .u32 m.mine.asn, .int .i64 m.mine.hold, .int .u32 m.mine.id, v.mf, .bool m.mine.four, .bool m.mine.refresh, v.ma, .bool m.mine.hasGR, .bool m.mine.again, .int .i64 m.mine.time, v.mq,
    .bool m.wanted, .int .i64 m.state,
    .int .i64 m.ses.hold, v.sf, .bool m.ses.four, .bool m.ses.refresh, v.ss, v.st, .bool m.ses.hasGR, .bool m.ses.again, .int .i64 m.ses.time, v.sk,
    .int .u32 m.theirs.asn, .int .i64 m.theirs.hold, .int .u32 m.theirs.id, v.tf, .bool m.theirs.four, .bool m.theirs.refresh, v.ta, .bool m.theirs.hasGR, .bool m.theirs.again, .int .i64 m.theirs.time, v.tk]

theorem c_none {w : World} {bm : Nat} {st : Int} (h : w.cell? ⟨bm, 35, none⟩ = some (.int .i64 st)) :
    Calls Try.prog 29 #[.pointer (some ⟨bm, 0, none⟩)] w fun e w' => e = .returned (.bool (st == 0)) ∧ w = w' := by
  go_enter Try.func29, Try.ntmps29
  go_wp2
  go_ret
  exact ⟨rfl, rfl⟩
theorem c_none_nil (w : World) :
    Calls Try.prog 29 #[.pointer none] w fun e w' => e = .returned (.bool true) ∧ w = w' := by
  go_enter Try.func29, Try.ntmps29
  go_wp2
  go_ret
  exact ⟨rfl, rfl⟩
theorem c_code (c s : Int) (w : World) :
    Calls Try.prog 31 #[.int .u8 c, .int .u8 s] w fun e w' => e = .returned (verV ⟨0, c, s⟩) ∧ Below w.heap.size w w' := by
  unfold verV
  go_enter Try.func31, Try.ntmps31
  go_wp2
  refine bodyPost_ret (v := .agg #[.int .i64 0, .int .u8 c, .int .u8 s]) (by simp [results, Try.results31, go_sem]) rfl ⟨rfl, ?_⟩
  exact (Below.refl _ _).alloc (Nat.le_refl _) _
theorem c_Told (c s : Int) (w : World) :
    Calls Try.prog 58 #[verV ⟨3, c, s⟩] w fun e w' => e = .returned (.tuple #[.agg #[.int .u8 c, .int .u8 s, .string ⟨#[]⟩], .bool true]) ∧ Below w.heap.size w w' := by
  unfold verV
  go_enter Try.func58, Try.ntmps58
  go_wp2
  refine bodyPost_ret (v := .tuple #[.agg #[.int .u8 c, .int .u8 s, .string ⟨#[]⟩], .bool true]) (by simp [results, Try.results58, go_sem]) rfl ⟨rfl, ?_⟩
  exact ((Below.refl _ _).alloc (Nat.le_refl _) _).alloc (by simp) _

/-- A machine at block bm, the acts so far at block ba. -/
structure FC (w : World) (bm ba base : Nat) (m : MachD) (v : MV) (L : List ActD) : Prop where
  mach : w.heap[bm]? = some (.cells (machCells m v) 76 (0, 0))
  acts : ActsAt w ba base L
  lt : bm < base
  ne : bm ≠ ba
  hb : base ≤ w.heap.size
theorem FC.keeps {w w' : World} {bm ba base : Nat} {m : MachD} {v : MV} {L : List ActD} {A' : Nat → Prop} (h : FC w bm ba base m v L) (hk : Keeps A' w w') (h0 : A' bm) (h1 : A' ba) (h2 : ∀ b, base ≤ b → b < w.heap.size → A' b) : FC w' bm ba base m v L :=
  ⟨(hk.block bm (Array.getElem?_eq_some_iff.1 h.mach).1 h0).trans h.mach, h.acts.keeps hk h1 h2, h.lt, h.ne, Nat.le_trans h.hb hk.size⟩
theorem FC.below {w w' : World} {bm ba base : Nat} {m : MachD} {v : MV} {L : List ActD} (h : FC w bm ba base m v L) (hk : Below w.heap.size w w') : FC w' bm ba base m v L :=
  h.keeps (A' := fun _ => True) (Keeps.of_below hk) trivial trivial (fun _ _ _ => trivial)
theorem FC.set {w : World} {bm ba base : Nat} {m m' : MachD} {v v' : MV} {L : List ActD} (h : FC w bm ba base m v L) {j : Nat} {x : Value} (he : (machCells m v).setIfInBounds j x = machCells m' v') : FC (w.setCell ⟨bm, j, none⟩ x) bm ba base m' v' L := by
  refine ⟨by rw [heap_setCell_same w bm j _ _ x h.mach, he], ?_, h.lt, h.ne, by have := h.hb; simp; omega⟩
  have hne := h.ne
  have hlt := h.lt
  exact h.acts.keeps (A' := fun b => b ≠ bm) ((Keeps.refl _ _).setCell (by simp) _) (fun e => hne e.symm) (fun b hb _ => by omega)

/-- All but the machine's block and the acts'. -/
abbrev Out (bm ba base : Nat) : Nat → Prop := fun b => b < base ∧ b ≠ ba ∧ b ≠ bm

/-- The same, of whatever cells. -/
structure FR (w : World) (bm ba base : Nat) (cs : Array Value) (L : List ActD) : Prop where
  mach : w.heap[bm]? = some (.cells cs 76 (0, 0))
  acts : ActsAt w ba base L
  lt : bm < base
  ne : bm ≠ ba
  hb : base ≤ w.heap.size
theorem FC.raw {w : World} {bm ba base : Nat} {m : MachD} {v : MV} {L : List ActD} (h : FC w bm ba base m v L) : FR w bm ba base (machCells m v) L := ⟨h.mach, h.acts, h.lt, h.ne, h.hb⟩
theorem FR.done {w : World} {bm ba base : Nat} {m : MachD} {v : MV} {L : List ActD} {cs : Array Value} (h : FR w bm ba base cs L) (he : cs = machCells m v) : FC w bm ba base m v L := by subst he; exact ⟨h.mach, h.acts, h.lt, h.ne, h.hb⟩
theorem FR.set {w : World} {bm ba base : Nat} {cs : Array Value} {L : List ActD} (h : FR w bm ba base cs L) {j : Nat} {x : Value} : FR (w.setCell ⟨bm, j, none⟩ x) bm ba base (cs.setIfInBounds j x) L := by
  refine ⟨heap_setCell_same w bm j _ _ x h.mach, ?_, h.lt, h.ne, by have := h.hb; simp; omega⟩
  have hne := h.ne
  have hlt := h.lt
  exact h.acts.keeps (A' := fun b => b ≠ bm) ((Keeps.refl _ _).setCell (by simp) _) (fun e => hne e.symm) (fun b hb _ => by omega)

/-- Many stores into the machine's block. -/
theorem FR.setMany {bm ba base : Nat} {L : List ActD} : ∀ (l : List (Nat × Value)) {w : World} {cs : Array Value}, FR w bm ba base cs L →
    FR (l.foldl (fun W p => W.setCell ⟨bm, p.1, none⟩ p.2) w) bm ba base (l.foldl (fun c p => c.setIfInBounds p.1 p.2) cs) L
  | [], _, _, h => h
  | p :: l, _, _, h => FR.setMany l (h.set (j := p.1) (x := p.2))

theorem f_do {w : World} {bm ba base : Nat} {m : MachD} {v : MV} {L : List ActD} (h : FC w bm ba base m v L) (hl : L.length ≤ 1000) (k : Int) :
    Calls Try.prog 59 #[.pointer (some ⟨ba, 0, none⟩), .int .i64 k] w fun e w' => e = .returned (.tuple #[]) ∧ FC w' bm ba base m v (L ++ [actK k]) ∧ Keeps (Out bm ba base) w w' :=
  (c_do h.acts h.hb hl k).mono fun _ _ ⟨he, ha, hk⟩ =>
    ⟨he, ⟨(hk.block bm (Array.getElem?_eq_some_iff.1 h.mach).1 ⟨h.lt, h.ne⟩).trans h.mach, ha, h.lt, h.ne, Nat.le_trans h.hb hk.size⟩, hk.mono fun _ hb => ⟨hb.1, hb.2.1⟩⟩
theorem f_cancel {w : World} {bm ba base : Nat} {m : MachD} {v : MV} {L : List ActD} (h : FC w bm ba base m v L) (hl : L.length ≤ 1000) (t : Int) :
    Calls Try.prog 60 #[.pointer (some ⟨ba, 0, none⟩), .int .i64 t] w fun e w' => e = .returned (.tuple #[]) ∧ FC w' bm ba base m v (L ++ [actC t]) ∧ Keeps (Out bm ba base) w w' :=
  (c_cancel h.acts h.hb hl t).mono fun _ _ ⟨he, ha, hk⟩ =>
    ⟨he, ⟨(hk.block bm (Array.getElem?_eq_some_iff.1 h.mach).1 ⟨h.lt, h.ne⟩).trans h.mach, ha, h.lt, h.ne, Nat.le_trans h.hb hk.size⟩, hk.mono fun _ hb => ⟨hb.1, hb.2.1⟩⟩
theorem f_arm {w : World} {bm ba base : Nat} {m : MachD} {v : MV} {L : List ActD} (h : FC w bm ba base m v L) (hl : L.length ≤ 1000) (t n : Int) :
    Calls Try.prog 61 #[.pointer (some ⟨ba, 0, none⟩), .int .i64 t, .int .i64 n] w fun e w' => e = .returned (.tuple #[]) ∧ FC w' bm ba base m v (L ++ [actA t n]) ∧ Keeps (Out bm ba base) w w' :=
  (c_arm h.acts h.hb hl t n).mono fun _ _ ⟨he, ha, hk⟩ =>
    ⟨he, ⟨(hk.block bm (Array.getElem?_eq_some_iff.1 h.mach).1 ⟨h.lt, h.ne⟩).trans h.mach, ha, h.lt, h.ne, Nat.le_trans h.hb hk.size⟩, hk.mono fun _ hb => ⟨hb.1, hb.2.1⟩⟩

theorem f_hold {w : World} {bm ba base : Nat} {m : MachD} {v : MV} {L : List ActD} (h : FC w bm ba base m v L) (hl : L.length ≤ 900) :
    Calls Try.prog 78 #[.pointer (some ⟨bm, 0, none⟩), .pointer (some ⟨ba, 0, none⟩)] w fun e w' => e = .returned (.tuple #[]) ∧
      FC w' bm ba base m v (L ++ if 0 < m.ses.hold then [actA 2 m.ses.hold] else []) ∧ Keeps (Out bm ba base) w w' := by
  have H := Lib.hid h
  have c0 := row_cell h.mach
  clear h
  by_cases hh : 0 < m.ses.hold
  · rw [if_pos hh]
    go_enter Try.func78, Try.ntmps78
    go_wp2_with fail
    refine (f_arm H.out (by omega) 2 m.ses.hold).mono ?_
    rintro e w1 ⟨rfl, h1, k1⟩
    have H1 := Lib.hid h1
    have K1 := Lib.hid k1
    clear h1 k1 c0
    go_wp2
    go_end0
    exact ⟨rfl, H1.out, K1.out⟩
  · rw [if_neg hh, List.append_nil]
    go_enter Try.func78, Try.ntmps78
    go_wp2
    go_end0
    exact ⟨rfl, H.out, Keeps.refl _ _⟩

theorem f_connect {w : World} {bm ba base : Nat} {m : MachD} {v : MV} {L : List ActD} (h : FC w bm ba base m v L) (hl : L.length ≤ 900) :
    Calls Try.prog 63 #[.pointer (some ⟨bm, 0, none⟩), .pointer (some ⟨ba, 0, none⟩)] w fun e w' => e = .returned (.tuple #[]) ∧
      FC w' bm ba base { m with state := 2 } v (L ++ [actK 1, actA 1 m.retry]) ∧ Keeps (Out bm ba base) w w' := by
  have H := Lib.hid h
  clear h
  go_enter Try.func63, Try.ntmps63
  go_wp2_with fail
  refine (f_do H.out (by omega) 1).mono ?_
  rintro e w1 ⟨rfl, h1, k1⟩
  have H1 := Lib.hid h1
  have K1 := Lib.hid k1
  have c0 := row_cell h1.mach
  clear h1 k1
  go_wp2_with fail
  refine (f_arm H1.out (by simp; omega) 1 m.retry).mono ?_
  rintro e w2 ⟨rfl, h2, k2⟩
  have H2 := Lib.hid h2
  have K2 := Lib.hid k2
  clear c0
  have c0 := row_cell h2.mach
  have f0 := row_free h2.mach
  clear h2 k2
  go_wp2
  go_end0
  exact ⟨rfl, by have := H2.out.set (j := 35) (x := .int .i64 2) (m' := { m with state := 2 }) (v' := v) (by simp); simpa using this, (K1.out.trans K2.out).setCell (by simp) _⟩

theorem f_begin {w : World} {bm ba base : Nat} {m : MachD} {v : MV} {L : List ActD} (h : FC w bm ba base m v L) (hl : L.length ≤ 900) :
    Calls Try.prog 71 #[.pointer (some ⟨bm, 0, none⟩), .pointer (some ⟨ba, 0, none⟩)] w fun e w' => e = .returned (.tuple #[]) ∧
      FC w' bm ba base { m with state := if m.passive then 3 else 2 } v (L ++ if m.passive then [] else [actK 1, actA 1 m.retry]) ∧ Keeps (Out bm ba base) w w' := by
  have H := Lib.hid h
  have c0 := row_cell h.mach
  have f0 := row_free h.mach
  clear h
  cases hp : m.passive
  · simp only [Bool.false_eq_true, if_false]
    go_enter Try.func71, Try.ntmps71
    go_wp2_with fail
    refine (f_connect H.out hl).mono ?_
    rintro e w1 ⟨rfl, h1, k1⟩
    have H1 := Lib.hid h1
    have K1 := Lib.hid k1
    clear h1 k1 c0 f0
    go_wp2
    go_end0
    exact ⟨rfl, by have := H1.out; rw [hp] at this; exact this, K1.out⟩
  · simp only [if_true, List.append_nil]
    go_enter Try.func71, Try.ntmps71
    go_wp2
    refine bodyPost_ret (results_none rfl _ _ _) rfl ?_
    exact ⟨rfl, H.out.set (j := 35) (x := .int .i64 3) (by simp [hp]), (Keeps.refl _ _).setCell (by simp) _⟩
end Go.Proofs.Ytnbopmpbgopafaa
