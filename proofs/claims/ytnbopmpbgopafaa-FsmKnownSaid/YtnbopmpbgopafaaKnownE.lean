/- heraldlaw20.FsmKnown: more of what its walk needs. -/
import Derived.Test.YtnbopmpbgopafaaKnown0
namespace Go.Proofs.Ytnbopmpbgopafaa
open Go.RowKit
variable {A B : Nat → Prop}

theorem On.switch {w0 wz w : World} {base bX bj : Nat} {S : Nat → Prop} {m mj : MachD} (h : On w0 base wz S w bX m) (hc : Mach base S w bj mj) : On w0 base w S w bj mj :=
  ⟨hc, h.below, Keeps.refl _ _, h.hS, h.hb⟩
theorem On.later {w0 wz w : World} {base bX bj : Nat} {S : Nat → Prop} {m mj : MachD} (h : On w0 base wz S w bX m) (hc : Mach base S wz bj mj) (hne : bj ≠ bX) (hS : S bX) : Mach base S w bj mj := hc.other h.keeps hne hS
/-- A machine whose blocks lie all behind bX. -/
theorem Mach.apart {base : Nat} {S : Nat → Prop} {w w' : World} {bj bX : Nat} {m : MachD} (h : Mach base S w bj m) (hk : Keeps (fun b => b < w.heap.size ∧ b ≠ bX) w w') (hlt : bX < base) : Mach base S w' bj m :=
  h.keeps hk ⟨h.lt.2, by have := h.lt.1; omega⟩ (fun k h1 h2 _ => ⟨h2, by omega⟩)
theorem On.of_up {w0 w w' : World} {b : Nat} {m : MachD} (hm : Mach w.heap.size (fun k => k = b) w' b m) (h0 : Below w0.heap.size w0 w) (hb : Below w.heap.size w w') : On w0 w.heap.size w' (fun k => k = b) w' b m :=
  ⟨hm, below_trans h0 hb (Nat.le_refl _), Keeps.refl _ _, fun k hk => hk ▸ hm.lt.2, h0.size⟩

/-- The law's closure note: the first act is that note, the second one closes. -/
theorem c_note {w : World} {ra : Option Addr} {rc : Nat} {L : List ActD} (hr : Rd A w 6 cT (.slice ra L.length rc) L) {c s : Int} {y : ActD} (h0 : L[0]? = some ⟨5, 0, 0, c, s⟩) (h1 : L[1]? = some y) (hy : y.kind = 2) :
    Calls Try.prog 25 #[.slice ra L.length rc, .int .u8 c, .int .u8 s] w fun e w' => e = .returned (.bool true) ∧ w = w' := by
  rcases hr with ⟨_, _, hnil⟩ | ⟨b, off, c', hv, _, _, _, h5⟩
  · rw [hnil] at h0; simp at h0
  · simp only [Value.slice.injEq] at hv
    obtain ⟨rfl, _, _⟩ := hv
    have hl : 1 < L.length := (List.getElem?_eq_some_iff.1 h1).1
    have hl' : L.length > 1 := hl
    have g0 := h5 0 _ h0 0 _ rfl
    have g1 := h5 0 _ h0 1 _ rfl
    have g2 := h5 0 _ h0 2 _ rfl
    have g3 := h5 0 _ h0 3 _ rfl
    have g4 := h5 0 _ h0 4 _ rfl
    have g5 := h5 0 _ h0 5 _ rfl
    have q := h5 1 _ h1 0 _ rfl
    rw [hy] at q
    simp only [Nat.zero_mul, Nat.add_zero, Nat.one_mul] at g0 g1 g2 g3 g4 g5 q
    clear h0 h1 h5 hy
    go_enter Try.func25, Try.ntmps25
    go_wp2
    go_ret
    exact ⟨rfl, rfl⟩
theorem On.of_mach {w0 w : World} {base b : Nat} {m : MachD} (hm : Mach base (fun k => k = b) w b m) (h0 : Below w0.heap.size w0 w) (hb : w0.heap.size ≤ base) : On w0 base w (fun k => k = b) w b m :=
  ⟨hm, h0, Keeps.refl _ _, fun k hk => hk ▸ hm.lt.2, hb⟩
def sixD : OpenD := ⟨2, 30, 9, [2], false, false, [], false, false, 0, []⟩
/-- The variable six and its list. -/
structure SixAt (b : Nat) (w : World) : Prop where
  row : w.heap[b]? = some (.cells (openCells sixD (.slice (some ⟨b + 1, 0, none⟩) 1 1) nilS nilS) 32 (0, 0))
  list : w.heap[b + 1]? = some (.cells #[.int .i64 2] 3 (0, 0))
theorem SixAt.below {b : Nat} {w w' : World} (h : SixAt b w) (hb : Below w.heap.size w w') : SixAt b w' := ⟨below_row hb h.row, below_row hb h.list⟩
theorem SixAt.did {b bX : Nat} {w w' : World} (h : SixAt b w) (hk : Keeps (fun k => k < w.heap.size ∧ k ≠ bX) w w') (hne : b ≠ bX ∧ b + 1 ≠ bX) : SixAt b w' :=
  ⟨(hk.block b (Array.getElem?_eq_some_iff.1 h.row).1 ⟨(Array.getElem?_eq_some_iff.1 h.row).1, hne.1⟩).trans h.row, (hk.block (b + 1) (Array.getElem?_eq_some_iff.1 h.list).1 ⟨(Array.getElem?_eq_some_iff.1 h.list).1, hne.2⟩).trans h.list⟩
theorem SixAt.openAt {b : Nat} {w : World} (h : SixAt b w) : OpenAt (fun k => k = b + 1) w sixD (.slice (some ⟨b + 1, 0, none⟩) 1 1) nilS nilS := by
  refine ⟨.inr ⟨b + 1, 0, 1, rfl, by simp [sixD], by decide, .inr rfl, fun i x hi j u hu => ?_⟩, .inl ⟨_, rfl, rfl⟩, .inl ⟨_, rfl, rfl⟩⟩
  match i, hi with
  | 0, hi =>
    simp only [sixD, List.getElem?_cons_zero, Option.some.injEq] at hi
    subst hi
    match j, hu with
    | 0, hu =>
      simp only [cI, List.getElem?_cons_zero, Option.some.injEq] at hu
      subst hu
      rw [row_cell h.list]
      rfl
    | j + 1, hu => simp [cI] at hu
  | i + 1, hi => simp [sixD] at hi
/-- peer's answer, its cells behind a letter. -/
def PeerTold (w : World) (e : Ending) (w' : World) : Prop := ∃ pc : Array Value, e = .returned (.agg pc) ∧ Hid (pc = peer0) ∧ pc.size = 23 ∧ Below w.heap.size w w'
theorem c_peerV (w : World) : Calls Try.prog 21 #[] w (PeerTold w) :=
  (c_peer w).mono fun _ _ ⟨h, hb⟩ => ⟨peer0, h, Lib.hid rfl, rfl, hb⟩
theorem peer_one {pc : Array Value} (h : pc = peer0) : pc.all (·.oneCell') = true := by subst h; kernel_rfl
theorem peer_at {pc : Array Value} (h : pc = peer0) : PeerAt pc peerD0 := by subst h; exact peer0_at
theorem peer_passive {pc : Array Value} (h : pc = peer0) : PeerAt (pc.setIfInBounds 9 (.bool true)) ⟨2, 30, true⟩ := by subst h; exact ⟨rfl, rfl, rfl, rfl⟩
theorem peer_nine {pc : Array Value} (h : pc = peer0) : pc[9]? = some (.bool false) := by subst h; rfl
theorem exec_load_row {P : Program} {ρ : Operand → Value} {o : Oper} {w : World} (ty : TypeId) (x : Operand) (ho : o.op = .load ty x) (g : Nat) (hx : ρ x = .pointer (some ⟨g, 0, none⟩)) (t : TypeId) (cs : Array Value) (d : TypeDesc) (hg : w.heap[g]? = some (.cells cs t (0, 0)))
    (hu : P.underlying ty = some d) (hd : (match d with | .struct _ | .array _ _ => true | _ => false) = true) (hi : (P.info? ty).map (·.size) = some cs.size) : (execOp ρ o).run P w = .ok (.value (.agg cs)) w := by
  simp only [execOp, ho, hx, Instr.loadAt, Instr.sureAddr, Sem.run_bind, Sem.run_pure, Result.andThen_ok, run_loadVar_row w g t ty cs (0, 0) d hg hu hd hi]
theorem c_has_no {w : World} {p : Option Addr} (h : p = none ∨ ∃ b, p = some ⟨b, 0, none⟩ ∧ w.cell? ⟨b, 35, none⟩ = some (.int .i64 0)) :
    Calls Try.prog 29 #[.pointer p] w fun e w' => e = .returned (.bool true) ∧ w = w' := by
  rcases h with rfl | ⟨b, rfl, h⟩
  · exact c_none_nil w
  · exact c_none h
theorem New_no {w w' : World} {p : PeerD} {o : OpenD} {e : Ending} (h : NewPost p o w e w') (hno : newOk p o = false) : e = .returned (.tuple #[.pointer none, .int .i64 2]) ∧ Below w.heap.size w w' := by
  unfold NewPost at h
  rw [if_neg (by rw [hno]; simp)] at h
  exact h
/-- A machine that is none: nil, or one that New and Copy did not make. -/
def NoMach (p : Option Addr) (w : World) : Prop := p = none ∨ ∃ b, p = some ⟨b, 0, none⟩ ∧ w.cell? ⟨b, 35, none⟩ = some (.int .i64 0)
theorem NoMach.below {p : Option Addr} {w w' : World} (h : NoMach p w) (hb : Below w.heap.size w w') : NoMach p w' := by
  rcases h with h | ⟨b, rfl, h⟩
  · exact .inl h
  · exact .inr ⟨b, rfl, by rw [hb.cell (p := ⟨b, 35, none⟩) (World.block_lt_of_cell? w _ h)]; exact h⟩
theorem n_none {p : Option Addr} {w : World} (h : NoMach p w) : Calls Try.prog 29 #[.pointer p] w fun e w' => e = .returned (.bool true) ∧ w = w' := c_has_no h
theorem n_State {p : Option Addr} {w : World} (h : NoMach p w) : Calls Try.prog 9 #[.pointer p] w fun e w' => e = .returned (.int .i64 0) ∧ w = w' := by
  go_enter Try.func9, Try.ntmps9
  go_wp2_with fail
  refine (n_none h).mono ?_
  rintro e w1 ⟨rfl, rfl⟩
  go_wp2
  go_ret
  exact ⟨rfl, rfl⟩
theorem n_Copy {p : Option Addr} {w : World} (h : NoMach p w) : Calls Try.prog 16 #[.pointer p] w fun e w' => e = .returned (.pointer none) ∧ w = w' := by
  go_enter Try.func16, Try.ntmps16
  go_wp2_with fail
  refine (n_none h).mono ?_
  rintro e w1 ⟨rfl, rfl⟩
  go_wp2
  go_ret
  exact ⟨rfl, rfl⟩
theorem n_has {p : Option Addr} {w : World} (h : NoMach p w) : Calls Try.prog 33 #[.pointer p] w fun e w' => e = .returned (.bool false) ∧ w = w' := by
  go_enter Try.func33, Try.ntmps33
  go_wp2_with fail
  refine (n_none h).mono ?_
  rintro e w1 ⟨rfl, rfl⟩
  go_wp2
  go_ret
  exact ⟨rfl, rfl⟩
theorem n_Do {p : Option Addr} {w : World} (h : NoMach p w) (kd : Int) : Calls Try.prog 10 #[.pointer p, .agg (inCells kd openNone nilS nilS nilS in0)] w fun e w' => e = .returned nilS ∧ Below w.heap.size w w' := by
  have h' := h.below ((Below.refl _ _).alloc (Nat.le_refl _) (.cells (inCells kd openNone nilS nilS nilS in0) 46))
  go_enter Try.func10, Try.ntmps10
  go_wp2_with fail
  refine (n_none h').mono ?_
  rintro e w1 ⟨rfl, rfl⟩
  go_wp2
  go_ret
  exact ⟨rfl, (Below.refl _ _).alloc (Nat.le_refl _) _⟩
theorem n_Session {p : Option Addr} {w : World} (h : NoMach p w) : Calls Try.prog 12 #[.pointer p] w fun e w' => e = .returned (.tuple #[sesV sesNone nilS nilS nilS nilS, .bool false]) ∧ Below w.heap.size w w' := by
  have h' := h.below ((Below.refl _ _).alloc (Nat.le_refl _) (.cells sesZero 54))
  go_enter Try.func12, Try.ntmps12
  go_wp2_with fail
  refine (n_has h').mono ?_
  rintro e w1 ⟨rfl, rfl⟩
  go_wp2
  exact bodyPost_ret (v := .tuple #[sesV sesNone nilS nilS nilS nilS, .bool false]) (by simp [results, Try.results12, go_sem, sesNone]) rfl ⟨rfl, (Below.refl _ _).alloc (Nat.le_refl _) _⟩
theorem n_Theirs {p : Option Addr} {w : World} (h : NoMach p w) : Calls Try.prog 13 #[.pointer p] w fun e w' => e = .returned (.tuple #[openV openNone nilS nilS nilS, .bool false]) ∧ Below w.heap.size w w' := by
  have h' := h.below ((Below.refl _ _).alloc (Nat.le_refl _) (.cells openZero 32))
  go_enter Try.func13, Try.ntmps13
  go_wp2_with fail
  refine (n_has h').mono ?_
  rintro e w1 ⟨rfl, rfl⟩
  go_wp2
  exact bodyPost_ret (v := .tuple #[openV openNone nilS nilS nilS, .bool false]) (by simp [results, Try.results13, go_sem, openNone]) rfl ⟨rfl, (Below.refl _ _).alloc (Nat.le_refl _) _⟩
end Go.Proofs.Ytnbopmpbgopafaa
