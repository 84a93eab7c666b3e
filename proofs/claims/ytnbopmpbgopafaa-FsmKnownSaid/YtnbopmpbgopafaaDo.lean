/- fsm: Do. -/
import Derived.Test.YtnbopmpbgopafaaTab2
namespace Go.Proofs.Ytnbopmpbgopafaa
open Go.RowKit
variable {A B : Nat → Prop}

/-- How Do ends a machine ahead of the table, if it does. -/
def doEnd (m : MachD) (k : Int) (d : VerD) : Option (VerD × Bool) :=
  if 4 ≤ m.state then
    if k = 12 then some (⟨0, 4, 0⟩, false)
    else if k = 9 then some (⟨0, 0, 0⟩, false)
    else if k = 10 ∧ d.act = 3 then some (d, false)
    else if k = 10 then none
    else if k = 2 then some (if d.code = 0 then ⟨0, 6, 2⟩ else d, false)
    else if k = 5 ∧ 4 < m.state then some (⟨0, 0, 0⟩, true)
    else none
  else none
def doK (m : MachD) (k : Int) : Int := if 4 ≤ m.state ∧ k = 10 then 8 else k
def doW (m : MachD) (k : Int) : MachD := { m with wanted := m.wanted && !(k == 2) }
def doD (m : MachD) (k : Int) (o : OpenD) (d : VerD) : MachD × List ActD :=
  match doEnd m k d with
  | some (v, c) => (endM (doW m k), endL (doW m k) v.code v.sub c)
  | none => tabD (doW m k) (doK m k) o

/-- A machine in the heap. -/
structure MachAt (A : Nat → Prop) (w : World) (bm : Nat) (m : MachD) (v : MV) : Prop where
  row : w.heap[bm]? = some (.cells (machCells m v) 76 (0, 0))
  held : Held A w m v
  hA : ∀ k, A k → k < w.heap.size ∧ k ≠ bm
  hold : m.ses.hold ≤ 65535
  st : 1 ≤ m.state
def DoPost (A : Nat → Prop) (w : World) (bm : Nat) (m' : MachD) (L' : List ActD) (e : Ending) (w' : World) : Prop :=
  ∃ (v' : MV) (A2 : Nat → Prop) (ra : Option Addr) (rc : Nat), e = .returned (.slice ra L'.length rc) ∧ MachAt A2 w' bm m' v' ∧ Ow w.heap.size w' 50 6 cT (.slice ra L'.length rc) L' ∧
    Keeps (fun b => b < w.heap.size ∧ b ≠ bm) w w' ∧ (∀ k, A2 k → A k ∨ w.heap.size ≤ k) ∧ ∀ k, (Value.slice ra L'.length rc).ownBlock = some k → ¬ A2 k

theorem Do_done {w w5 w' : World} {bm ba base : Nat} {m' : MachD} {L' : List ActD} (hS : StepTo A bm ba base w5 w' m' L') (hK : Keeps (fun b => b < w.heap.size ∧ b ≠ bm) w w5) (hb : w.heap.size ≤ base) (hm : bm < w.heap.size) (ha : w.heap.size ≤ ba)
    (hA : ∀ k, A k → k < w.heap.size ∧ k ≠ bm) (hold : m'.ses.hold ≤ 65535) (hst : 1 ≤ m'.state) :
    ∃ ra rc, w'.cell? ⟨ba, 0, none⟩ = some (.slice ra L'.length rc) ∧ DoPost A w bm m' L' (.returned (.slice ra L'.length rc)) w' := by
  obtain ⟨v', A2, hf, hk, h2, hh⟩ := hS
  obtain ⟨hlt, oa, oc, hr, ho⟩ := hf.acts
  have hc := row_cell hr 0
  have hcell : w'.cell? ⟨ba, 0, none⟩ = some (.slice oa L'.length oc) := by rw [hc]; rfl
  refine ⟨oa, oc, hcell, v', A2, oa, oc, rfl, ⟨hf.mach, hh, ?_, hold, hst⟩, ho.mono hb, hK.trans (hk.mono ?_), ?_, ?_⟩
  · intro k hk2
    have := hK.size
    have := hk.size
    rcases h2 k hk2 with h | ⟨h, h', _⟩
    · have := hA k h; exact ⟨by omega, this.2⟩
    · exact ⟨h', by omega⟩
  · intro b hb2
    exact ⟨by omega, by omega, hb2.2⟩
  · intro k hk2
    have := hK.size
    rcases h2 k hk2 with h | ⟨h, h', _⟩
    · exact .inl h
    · exact .inr (by omega)
  · intro k hk2 hA2
    have hlt2 := (Ow.lt ho k hk2).1
    rcases h2 k hA2 with h | ⟨_, _, h⟩
    · have := (hA k h).1; omega
    · exact h (by unfold actsBlk; rw [hcell]; exact hk2)

theorem opened_hold {m : MachD} {o : OpenD} : (openedD m o).1.ses.hold ≤ 65535 ∧ 1 ≤ (openedD m o).1.state := by
  unfold openedD
  (repeat' split)
  · exact ⟨by simp [endM, sesNone], by simp [endM]⟩
  · exact ⟨by simp [endM, sesNone], by simp [endM]⟩
  · exact ⟨by simp [endM, sesNone], by simp [endM]⟩
  · rename_i _ h _
    exact ⟨agD_hold (by simpa using h), by simp⟩
def HoldOk (r : MachD × List ActD) : Prop := r.1.ses.hold ≤ 65535 ∧ 1 ≤ r.1.state
theorem HoldOk.ite {c : Prop} [Decidable c] {a b : MachD × List ActD} (ha : HoldOk a) (hb : HoldOk b) : HoldOk (if c then a else b) := by split <;> assumption
theorem tab_hold {m : MachD} {k : Int} {o : OpenD} (h : m.ses.hold ≤ 65535) (hs : 1 ≤ m.state) : (tabD m k o).1.ses.hold ≤ 65535 ∧ 1 ≤ (tabD m k o).1.state := by
  have hb : 1 ≤ begS m.passive := by unfold begS; split <;> omega
  have he : ∀ l, HoldOk (endM m, l) := fun l => ⟨by simp [endM, sesNone], by simp [endM]⟩
  exact HoldOk.ite ⟨h, hb⟩ (.ite (.ite ⟨h, hb⟩ ⟨h, hs⟩) (.ite ⟨h, hs⟩ (.ite ⟨h, by simp⟩ (.ite ⟨h, by simp⟩ (.ite (.ite ⟨h, hs⟩ ⟨h, by simp⟩) (.ite ⟨h, by simp⟩ (.ite opened_hold (.ite (he _) (.ite ⟨h, by simp⟩
    (.ite ⟨h, by simp⟩ (.ite (he _) (.ite ⟨h, hs⟩ (.ite ⟨h, hs⟩ (.ite (he _) ⟨h, hs⟩))))))))))))))
theorem do_hold {m : MachD} {k : Int} {o : OpenD} {d : VerD} (h : m.ses.hold ≤ 65535) (hs : 1 ≤ m.state) : (doD m k o d).1.ses.hold ≤ 65535 ∧ 1 ≤ (doD m k o d).1.state := by
  unfold doD
  split
  · exact ⟨by simp [endM, sesNone], by simp [endM]⟩
  · exact tab_hold (m := doW m k) h hs

theorem FC.start {w : World} {bm ba base : Nat} {m : MachD} {v : MV} (hm : w.heap[bm]? = some (.cells (machCells m v) 76 (0, 0))) (hr : w.heap[ba]? = some (.cells #[.slice none 0 0] 79 (0, 0)))
    (h1 : bm < base) (h2 : ba < base) (h3 : base ≤ w.heap.size) : FC w bm ba base m v [] :=
  ⟨hm, ⟨h2, none, 0, hr, World.ownsRow_nil _ _ _ _⟩, h1, row_ne hm hr (by decide), h3⟩

theorem run_equalIn_func (d : Nat) (f : Fn) (x y : Array Value) (w : World) : (Op.equalIn (d + 1) 1 (.func f x y) .nilFunc).run Try.prog w = .ok false w := by
  simp [Op.equalIn, run_underlying Try.underlying1]
theorem run_equalIn_nilFunc (d : Nat) (w : World) : (Op.equalIn (d + 1) 1 .nilFunc .nilFunc).run Try.prog w = .ok true w := by
  simp [Op.equalIn, run_underlying Try.underlying1]
@[go_sem] theorem run_neq_func (f : Fn) (x y : Array Value) (w : World) : (binOp .neq 1 (.func f x y) .nilFunc).run Try.prog w = .ok (.bool true) w := by
  simp only [binOp]
  simp [show (Op.equal 1 (.func f x y) .nilFunc).run Try.prog w = .ok false w from run_equalIn_func 9999 f x y w]
@[go_sem] theorem run_neq_nilFunc (w : World) : (binOp .neq 1 .nilFunc .nilFunc).run Try.prog w = .ok (.bool false) w := by
  simp only [binOp]
  simp [show (Op.equal 1 .nilFunc .nilFunc).run Try.prog w = .ok true w from run_equalIn_nilFunc 9999 w]

set_option maxRecDepth 100000 in
set_option maxHeartbeats 4000000 in
theorem f_Do {w : World} {bm : Nat} {m : MachD} {v : MV} (hm : MachAt A w bm m v) {kd : Int} {o : OpenD} {qf qa qk : Value} {d : VerD} (ho : OpenAt B w o qf qa qk) (hB : ∀ k, B k → k < w.heap.size ∧ k ≠ bm)
    (l1 : o.fams.length * 8 ≤ 140737488355328) (l2 : o.adds.length * 16 ≤ 140737488355328) (l3 : o.kept.length * 16 ≤ 140737488355328) :
    Calls Try.prog 10 #[.pointer (some ⟨bm, 0, none⟩), .agg (inCells kd o qf qa qk d)] w fun e w' => DoPost A w bm (doD m kd o d).1 (doD m kd o d).2 e w' := by
  have H := Lib.hid hm
  have HO := Lib.hid ho
  have HBB := Lib.hid hB
  clear hB
  have HL := Lib.hid (And.intro l1 (And.intro l2 l3))
  have hbm := (Array.getElem?_eq_some_iff.1 hm.row).1
  have hst : (m.state == 0) = false := by have := hm.st; simp; omega
  have cst : w.cell? ⟨bm, 35, none⟩ = some (.int .i64 m.state) := by rw [row_cell hm.row]; rfl
  clear hm ho l1 l2 l3
  go_enter Try.func10, Try.ntmps10
  go_wp2_with fail
  refine (c_none (st := m.state) (cell_alloc_keep cst)).mono ?_
  rintro e w1 ⟨rfl, rfl⟩
  clear cst
  go_upto_region 5 with fail
  have hw2 : (kd == 2) = true ∨ (kd == 2) = false := by cases (kd == 2) <;> simp
  have Fx := Lib.hid (FC.start (w := (w.alloc (.cells (inCells kd o qf qa qk d) 46)).alloc (.cells #[.slice none 0 0] 79)) (bm := bm) (ba := w.heap.size + 1) (base := w.heap.size + 1 + 1) (m := m) (v := v) (heap_old1 (heap_old1 H.out.row)) (heap_new1 _ _ _ (by simp)) (by omega) (by omega) (by simp))
  have Gx := Lib.hid (show ((w.alloc (.cells (inCells kd o qf qa qk d) 46)).alloc (.cells #[.slice none 0 0] 79)).heap[w.heap.size]? = some (.cells (inCells kd o qf qa qk d) 46 (0, 0)) ∧ Below w.heap.size w ((w.alloc (.cells (inCells kd o qf qa qk d) 46)).alloc (.cells #[.slice none 0 0] 79)) from
    ⟨heap_old1 (heap_new1 _ _ _ rfl), ((Below.refl _ _).alloc (Nat.le_refl _) _).alloc (by simp) _⟩)
  have c0 := row_cell Fx.out.mach
  have f0 := row_free Fx.out.mach
  obtain ⟨w2, hw2e⟩ : ∃ x, x = (w.alloc (.cells (inCells kd o qf qa qk d) 46)).alloc (.cells #[.slice none 0 0] 79) := ⟨_, rfl⟩
  rw [← hw2e] at Fx Gx c0 f0 ⊢
  have hz2 : w2.heap.size = w.heap.size + 1 + 1 := by rw [hw2e]; simp
  have hr2 : w2.heap[w.heap.size + 1]? = some (.cells #[.slice none 0 0] 79 (0, 0)) := by rw [hw2e]; exact heap_new1 _ _ _ (by simp)
  clear hw2e
  have HR2 := Lib.hid hr2
  clear hr2
  go_cut [] (fun W => W = w2.setCell ⟨bm, 34, none⟩ (.bool (m.wanted && !(kd == 2))))
  case first =>
    rcases hw2 with hk | hk <;> by_cases hw : m.wanted = true
    · go_wp2
      go_meet
      case rel => simp [bne, hk, hw]
    · go_wp2
      go_meet
      case rel => simp [bne, hk, hw]
    · go_wp2
      go_meet
      case rel => simp [bne, hk, hw]
    · go_wp2
      go_meet
      case rel => simp [bne, hk, hw]
  case rest =>
    obtain ⟨w3, h3e⟩ : ∃ x, x = wc := ⟨wc, rfl⟩
    rw [← h3e] at hcut ⊢
    clear h3e
    have hlt := (Array.getElem?_eq_some_iff.1 H.out.row).1
    have F3 : FC w3 bm (w.heap.size + 1) (w.heap.size + 1 + 1) (doW m kd) v [] := by rw [hcut]; exact Fx.out.set (m' := doW m kd) (v' := v) (by simp [doW])
    have K3 : Keeps (fun b => b < w.heap.size ∧ b ≠ bm) w w3 := by rw [hcut]; exact (Keeps.of_below' Gx.out.2 (fun k hk => hk.1)).setCell (by simp) _
    have R3 : w3.heap[w.heap.size]? = some (.cells (inCells kd o qf qa qk d) 46 (0, 0)) := by rw [hcut]; exact row_setOther Gx.out.1 (by simp; omega)
    have HR3 : w3.heap[w.heap.size + 1]? = some (.cells #[.slice none 0 0] 79 (0, 0)) := by rw [hcut]; exact row_setOther HR2.out (by simp; omega)
    have hz3 : w3.heap.size = w.heap.size + 1 + 1 := by rw [hcut]; simpa using hz2
    have HH3 : Held A w3 (doW m kd) v := ⟨H.out.held.mine.keeps K3 H.out.hA, H.out.held.ses.keeps K3 H.out.hA, H.out.held.theirs.keeps K3 H.out.hA⟩
    have HO3 : OpenAt B w3 o qf qa qk := HO.out.keeps K3 HBB.out
    clear hcut c0 f0
    have c0 := row_cell F3.mach
    have c5 := row_cell R3
    have ca : w3.cell? ⟨w.heap.size + 1, 0, none⟩ = some (.slice none 0 0) := by rw [row_cell HR3]; rfl
    have F3 := Lib.hid F3
    have K3 := Lib.hid K3
    have R3 := Lib.hid R3
    have HR3 := Lib.hid HR3
    have HH3 := Lib.hid HH3
    have HO3 := Lib.hid HO3
    have hAo : ∀ k, A k → Out bm (w.heap.size + 1) (w.heap.size + 1 + 1) k := fun k hk => ⟨by have := (H.out.hA k hk).1; omega, by have := (H.out.hA k hk).1; omega, (H.out.hA k hk).2⟩
    have done : ∀ (w' : World) (m' : MachD) (L' : List ActD), StepTo A bm (w.heap.size + 1) (w.heap.size + 1 + 1) w3 w' m' L' → m'.ses.hold ≤ 65535 → 1 ≤ m'.state →
        ∃ ra rc, w'.cell? ⟨w.heap.size + 1, 0, none⟩ = some (.slice ra L'.length rc) ∧ DoPost A w bm m' L' (.returned (.slice ra L'.length rc)) w' :=
      fun w' m' L' hS h1 h2 => Do_done hS K3.out (by omega) hlt (by omega) H.out.hA h1 h2
    have hms : (doW m kd).state = m.state := rfl
    have hAo := Lib.hid hAo
    have done := Lib.hid done
    go_upto_if 29 with fail
    go_cut [6] (fun v6 W => v6 = .int .i64 (doK m kd) ∧ W = w3 ∧ doEnd m kd d = none)
    case first =>
      by_cases hs : 4 ≤ m.state
      · have hge : m.state ≥ 4 := hs
        by_cases h12 : kd = 12
        · have e12 : (kd == 12) = true := by simp [h12]
          have hD := Lib.hid (show doD m kd o d = (endM (doW m kd), endL (doW m kd) 4 0 false) by unfold doD doEnd; rw [if_pos hs, if_pos h12])
          clear h12
          go_wp2_with fail
          refine (c_code 4 0 _).mono ?_
          rintro e w4 ⟨rfl, hb4⟩
          have F4 := Lib.hid (F3.out.below hb4)
          have K4 := Lib.hid ((Keeps.refl (Out bm (w.heap.size + 1) (w.heap.size + 1 + 1)) w3).trans (Keeps.of_below hb4))
          clear hb4 c0 c5 ca
          go_wp2_with fail
          refine (f_end F4.out (by simp) 0 4 0 false).mono ?_
          rintro e w5 ⟨rfl, h5, k5⟩
          obtain ⟨ra, rc, hcell, hpost⟩ := done.out w5 _ _ (StepTo.of hAo.out h5 (K4.out.trans k5) HH3.out.ended) (by simp [endM, sesNone]) (by simp [endM])
          have HP := Lib.hid hpost
          clear hpost h5 k5
          go_wp2
          refine bodyPost_ret (v := .slice ra _ rc) (by simp [results, Try.results10, go_sem]; rfl) rfl ?_
          rw [hD.out]
          exact HP.out
        have e12 : (kd == 12) = false := by simp [h12]
        by_cases h9 : kd = 9
        · have e9 : (kd == 9) = true := by simp [h9]
          have hD := Lib.hid (show doD m kd o d = (endM (doW m kd), endL (doW m kd) 0 0 false) by unfold doD doEnd; rw [if_pos hs, if_neg h12, if_pos h9])
          clear h9 h12
          go_wp2_with fail
          refine (c_code 0 0 _).mono ?_
          rintro e w4 ⟨rfl, hb4⟩
          have F4 := Lib.hid (F3.out.below hb4)
          have K4 := Lib.hid ((Keeps.refl (Out bm (w.heap.size + 1) (w.heap.size + 1 + 1)) w3).trans (Keeps.of_below hb4))
          clear hb4 c0 c5 ca
          go_wp2_with fail
          refine (f_end F4.out (by simp) 0 0 0 false).mono ?_
          rintro e w5 ⟨rfl, h5, k5⟩
          obtain ⟨ra, rc, hcell, hpost⟩ := done.out w5 _ _ (StepTo.of hAo.out h5 (K4.out.trans k5) HH3.out.ended) (by simp [endM, sesNone]) (by simp [endM])
          have HP := Lib.hid hpost
          clear hpost h5 k5
          go_wp2
          refine bodyPost_ret (v := .slice ra _ rc) (by simp [results, Try.results10, go_sem]; rfl) rfl ?_
          rw [hD.out]
          exact HP.out
        have e9 : (kd == 9) = false := by simp [h9]
        by_cases h10 : kd = 10
        · have e10 : (kd == 10) = true := by simp [h10]
          by_cases hd : d.act = 3
          · have ed : (d.act == 3) = true := by simp [hd]
            have hD := Lib.hid (show doD m kd o d = (endM (doW m kd), endL (doW m kd) d.code d.sub false) by unfold doD doEnd; rw [if_pos hs, if_neg h12, if_neg h9, if_pos ⟨h10, hd⟩])
            clear h9 h12 h10 hd
            have K4 := Lib.hid (Keeps.refl (Out bm (w.heap.size + 1) (w.heap.size + 1 + 1)) w3)
            go_wp2_with fail
            refine (f_end F3.out (by simp) d.act d.code d.sub false).mono ?_
            rintro e w5 ⟨rfl, h5, k5⟩
            obtain ⟨ra, rc, hcell, hpost⟩ := done.out w5 _ _ (StepTo.of hAo.out h5 (K4.out.trans k5) HH3.out.ended) (by simp [endM, sesNone]) (by simp [endM])
            have HP := Lib.hid hpost
            clear hpost h5 k5
            go_wp2
            refine bodyPost_ret (v := .slice ra _ rc) (by simp [results, Try.results10, go_sem]; rfl) rfl ?_
            rw [hD.out]
            exact HP.out
          · have ed : (d.act == 3) = false := by simp [hd]
            have hE : doEnd m kd d = none := by unfold doEnd; rw [if_pos hs, if_neg h12, if_neg h9, if_neg (fun h => hd h.2), if_pos h10]
            have hK : doK m kd = 8 := if_pos ⟨hs, h10⟩
            clear hd h9 h10 h12
            go_wp2
            go_meet
            case rel => exact ⟨by rw [hK], rfl, hE⟩
        have e10 : (kd == 10) = false := by simp [h10]
        have hK : doK m kd = kd := if_neg (fun h => h10 h.2)
        by_cases h2 : kd = 2
        · have e2 : (kd == 2) = true := by simp [h2]
          by_cases hc0 : d.code = 0
          · have ec : (d.code == 0) = true := by simp [hc0]
            have hD := Lib.hid (show doD m kd o d = (endM (doW m kd), endL (doW m kd) 6 2 false) by unfold doD doEnd; rw [if_pos hs, if_neg h12, if_neg h9, if_neg (fun h => h10 h.1), if_neg h10, if_pos h2, if_pos hc0])
            clear h2 h9 h10 h12 hc0
            go_wp2_with fail
            refine (c_code 6 2 _).mono ?_
            rintro e w4 ⟨rfl, hb4⟩
            have ne7 : bm ≠ w.heap.size + 1 + 1 := by omega
            have ne8 : w.heap.size + 1 ≠ w.heap.size + 1 + 1 := by omega
            have r7 := below_row hb4 (heap_new1 w3 (.cells #[.int .i64 d.act, .int .u8 d.code, .int .u8 d.sub] 44) (w.heap.size + 1 + 1) hz3.symm)
            have F5 := Lib.hid (FC.start (m := doW m kd) (v := v) (base := w.heap.size + 1 + 1) (w := ((w4.setCell ⟨w.heap.size + 1 + 1, 0, none⟩ (.int .i64 0)).setCell ⟨w.heap.size + 1 + 1, 1, none⟩ (.int .u8 6)).setCell ⟨w.heap.size + 1 + 1, 2, none⟩ (.int .u8 2))
              (row_setOther (p := ⟨w.heap.size + 1 + 1, 2, none⟩) (row_setOther (p := ⟨w.heap.size + 1 + 1, 1, none⟩) (row_setOther (p := ⟨w.heap.size + 1 + 1, 0, none⟩) (below_row hb4 (heap_old1 F3.out.mach)) ne7) ne7) ne7)
              (row_setOther (p := ⟨w.heap.size + 1 + 1, 2, none⟩) (row_setOther (p := ⟨w.heap.size + 1 + 1, 1, none⟩) (row_setOther (p := ⟨w.heap.size + 1 + 1, 0, none⟩) (below_row hb4 (heap_old1 HR3.out)) ne8) ne8) ne8)
              (by omega) (by omega) (by have := hb4.size; simp at this ⊢; omega))
            have K5 := Lib.hid (((((Keeps.refl (Out bm (w.heap.size + 1) (w.heap.size + 1 + 1)) w3).alloc (.cells #[.int .i64 d.act, .int .u8 d.code, .int .u8 d.sub] 44)).trans (Keeps.of_below hb4)).setCell (p := ⟨w.heap.size + 1 + 1, 0, none⟩) (by simp) (.int .i64 0)).setCell (p := ⟨w.heap.size + 1 + 1, 1, none⟩) (by simp) (.int .u8 6) |>.setCell (p := ⟨w.heap.size + 1 + 1, 2, none⟩) (by simp) (.int .u8 2))
            have c7 := row_cell r7
            have f7 := row_free r7
            clear hb4 r7 c0 c5 ca ne7 ne8
            unfold verV
            go_wp2_with fail
            refine (f_end F5.out (by simp) 0 6 2 false).mono ?_
            rintro e w5 ⟨rfl, h5, k5⟩
            obtain ⟨ra, rc, hcell, hpost⟩ := done.out w5 _ _ (StepTo.of hAo.out h5 (K5.out.trans k5) HH3.out.ended) (by simp [endM, sesNone]) (by simp [endM])
            have HP := Lib.hid hpost
            clear hpost h5 k5
            go_wp2
            refine bodyPost_ret (v := .slice ra _ rc) (by simp [results, Try.results10, go_sem]; rfl) rfl ?_
            rw [hD.out]
            exact HP.out
          · have ec : (d.code == 0) = false := by simp [hc0]
            have hD := Lib.hid (show doD m kd o d = (endM (doW m kd), endL (doW m kd) d.code d.sub false) by unfold doD doEnd; rw [if_pos hs, if_neg h12, if_neg h9, if_neg (fun h => h10 h.1), if_neg h10, if_pos h2, if_neg hc0])
            clear h2 h9 h10 h12 hc0
            have F4 := Lib.hid (F3.out.below ((Below.refl _ _).alloc (Nat.le_refl _) (.cells #[.int .i64 d.act, .int .u8 d.code, .int .u8 d.sub] 44)))
            go_wp2_with fail
            have K4 := Lib.hid ((Keeps.refl (Out bm (w.heap.size + 1) (w.heap.size + 1 + 1)) w3).alloc (.cells #[.int .i64 d.act, .int .u8 d.code, .int .u8 d.sub] 44))
            refine (f_end F4.out (by simp) d.act d.code d.sub false).mono ?_
            rintro e w5 ⟨rfl, h5, k5⟩
            obtain ⟨ra, rc, hcell, hpost⟩ := done.out w5 _ _ (StepTo.of hAo.out h5 (K4.out.trans k5) HH3.out.ended) (by simp [endM, sesNone]) (by simp [endM])
            have HP := Lib.hid hpost
            clear hpost h5 k5
            go_wp2
            refine bodyPost_ret (v := .slice ra _ rc) (by simp [results, Try.results10, go_sem]; rfl) rfl ?_
            rw [hD.out]
            exact HP.out
        have e2 : (kd == 2) = false := by simp [h2]
        by_cases h5 : kd = 5 ∧ 4 < m.state
        · have e5 : (kd == 5) = true := by simp [h5.1]
          have hgt : m.state > 4 := h5.2
          have hD := Lib.hid (show doD m kd o d = (endM (doW m kd), endL (doW m kd) 0 0 true) by unfold doD doEnd; rw [if_pos hs, if_neg h12, if_neg h9, if_neg (fun h => h10 h.1), if_neg h10, if_neg h2, if_pos h5])
          clear h5 h2 h9 h10 h12
          go_wp2_with fail
          refine (c_code 0 0 _).mono ?_
          rintro e w4 ⟨rfl, hb4⟩
          have F4 := Lib.hid (F3.out.below hb4)
          have K4 := Lib.hid ((Keeps.refl (Out bm (w.heap.size + 1) (w.heap.size + 1 + 1)) w3).trans (Keeps.of_below hb4))
          clear hb4 c0 c5 ca
          go_wp2_with fail
          refine (f_end F4.out (by simp) 0 0 0 true).mono ?_
          rintro e w5 ⟨rfl, h5, k5⟩
          obtain ⟨ra, rc, hcell, hpost⟩ := done.out w5 _ _ (StepTo.of hAo.out h5 (K4.out.trans k5) HH3.out.ended) (by simp [endM, sesNone]) (by simp [endM])
          have HP := Lib.hid hpost
          clear hpost h5 k5
          go_wp2
          refine bodyPost_ret (v := .slice ra _ rc) (by simp [results, Try.results10, go_sem]; rfl) rfl ?_
          rw [hD.out]
          exact HP.out
        · have hE : doEnd m kd d = none := by unfold doEnd; rw [if_pos hs, if_neg h12, if_neg h9, if_neg (fun h => h10 h.1), if_neg h10, if_neg h2, if_neg h5]
          by_cases h5a : kd = 5
          · have e5 : (kd == 5) = true := by simp [h5a]
            have hle : m.state ≤ 4 := by omega
            have hdec : decide (4 < m.state) = false := by simp; omega
            have hdec2 : decide (m.state > 4) = false := by simp; omega
            clear h5 h5a h2 h9 h10 h12
            go_wp2
            go_meet
            case rel => exact ⟨by rw [hK], rfl, hE⟩
          · have e5 : (kd == 5) = false := by simp [h5a]
            clear h5 h5a h2 h9 h10 h12
            go_wp2
            go_meet
            case rel => exact ⟨by rw [hK], rfl, hE⟩
      · have hlt : m.state < 4 := by omega
        have hE : doEnd m kd d = none := if_neg hs
        have hK : doK m kd = kd := if_neg (fun h => hs h.1)
        go_wp2
        go_meet
        case rel => exact ⟨by rw [hK], rfl, hE⟩
    case rest =>
      obtain ⟨rfl, rfl, hE⟩ := hcut
      have hD := Lib.hid (show doD m kd o d = tabD (doW m kd) (doK m kd) o by unfold doD; rw [hE])
      clear hE
      go_wp2_with fail
      refine (c_rows bm (w.heap.size + 1) (inCells kd o qf qa qk d)).mono ?_
      rintro e w4 ⟨mb, bc, l, rfl, hmb, hat, hperm, hbel, hcal, q3, q4, q5, q9⟩
      have hzw : wc.heap.size = w.heap.size + 1 + 1 := hz3
      have hz4 := hbel.size
      have hq9 := (Array.getElem?_eq_some_iff.1 q9).1
      have K4 : Keeps (fun b => b < w.heap.size ∧ b ≠ bm) w w4 := K3.out.trans (Keeps.of_below hbel)
      have HR4 := below_row hbel HR3.out
      have F4 := FC.start (base := w4.heap.size) (below_row hbel F3.out.mach) HR4 (by omega) (by omega) (Nat.le_refl _)
      have HH4 : Held A w4 (doW m kd) v := HH3.out.keeps (Keeps.of_below (A := fun _ => True) hbel) (fun _ _ => trivial)
      have HO4 : OpenAt B w4 o qf qa qk := HO3.out.below hbel
      have hA4 : ∀ k, A k → Out bm (w.heap.size + 1) w4.heap.size k := fun k hk => ⟨by have := (H.out.hA k hk).1; omega, by have := (H.out.hA k hk).1; omega, (H.out.hA k hk).2⟩
      have hB4 : ∀ k, B k → Out bm (w.heap.size + 1) w4.heap.size k := fun k hk => ⟨by have := (HBB.out k hk).1; omega, by have := (HBB.out k hk).1; omega, (HBB.out k hk).2⟩
      have C : TabCx A B w4 bm (w.heap.size + 1) w4.heap.size (doW m kd) v wc.heap.size (wc.heap.size + 1) (wc.heap.size + 1 + 1) (wc.heap.size + 1 + 1 + 1) bc kd o qf qa qk d :=
        { clo := ⟨F4, by rw [row_cell q3]; rfl, by rw [row_cell q4]; rfl, ⟨by omega, by omega, by omega⟩, ⟨by omega, by omega, by omega⟩, hA4, HH4⟩
          nil := by rw [row_cell HR4]; rfl
          h5 := q5
          ho := HO4
          hB := hB4
          l1 := HL.out.1
          l2 := HL.out.2.1
          l3 := HL.out.2.2
          o9 := ⟨by omega, by omega, by omega⟩
          c9 := by rw [row_cell q9]; rfl
          hc := fun c hc => by
            obtain ⟨g1, g2⟩ := hcal c hc
            have := (Array.getElem?_eq_some_iff.1 g2).1
            exact ⟨⟨by omega, by omega, by omega⟩, by rw [row_cell g2]; rfl⟩
          hold := H.out.hold }
      have hruns := tab_runs C (doK m kd)
      have hlook := hat.lookup (m.state, doK m kd)
      rw [lookup_perm hperm (by rw [rowsT_keys]; exact rowsK_nodup)] at hlook
      have done4 : ∀ (w' : World), StepTo A bm (w.heap.size + 1) w4.heap.size w4 w' (tabD (doW m kd) (doK m kd) o).1 (tabD (doW m kd) (doK m kd) o).2 →
          ∃ ra rc, w'.cell? ⟨w.heap.size + 1, 0, none⟩ = some (.slice ra (tabD (doW m kd) (doK m kd) o).2.length rc) ∧ DoPost A w bm (tabD (doW m kd) (doK m kd) o).1 (tabD (doW m kd) (doK m kd) o).2 (.returned (.slice ra (tabD (doW m kd) (doK m kd) o).2.length rc)) w' :=
        fun w' hS => Do_done hS K4 (by omega) hlt (by omega) H.out.hA (tab_hold (m := doW m kd) H.out.hold H.out.st).1 (tab_hold (m := doW m kd) H.out.hold H.out.st).2
      have c0 := row_cell F4.mach
      have F4 := Lib.hid F4
      have HH4 := Lib.hid HH4
      have done4 := Lib.hid done4
      have hA4 := Lib.hid hA4
      clear hat hperm hbel hcal q3 q4 q5 q9 K4 HR4 HO4 hB4 C c5 ca
      rcases hruns with ⟨h1, h2⟩ | ⟨n, fr, h1, hcall, h2⟩
      · rw [show (doW m kd).state = m.state from rfl] at h1
        rw [h1] at hlook
        simp only [Option.getD_none, kv] at hlook
        obtain ⟨ra, rc, hcell, hpost⟩ := done4.out w4 (by rw [h2]; exact StepTo.of hA4.out F4.out (Keeps.refl _ _) HH4.out)
        have HP := Lib.hid hpost
        clear hpost h1 h2 done
        go_wp2
        refine bodyPost_ret (v := .slice ra _ rc) (by simp [results, Try.results10, go_sem]; rfl) rfl ?_
        rw [hD.out]
        exact HP.out
      · rw [show (doW m kd).state = m.state from rfl] at h1
        rw [h1] at hlook
        simp only [Option.getD_some, kv] at hlook
        have h2 := Lib.hid h2
        clear h1 done
        go_wp2_with fail
        refine h2.out.mono ?_
        rintro e w5 ⟨rfl, hS⟩
        obtain ⟨ra, rc, hcell, hpost⟩ := done4.out w5 hS
        have HP := Lib.hid hpost
        clear hpost hS hlook c0
        go_wp2
        refine bodyPost_ret (v := .slice ra _ rc) (by simp [results, Try.results10, go_sem]; rfl) rfl ?_
        rw [hD.out]
        exact HP.out
end Go.Proofs.Ytnbopmpbgopafaa
