/- heraldlaw20: machines of the call's own; up. -/
import Derived.Test.YtnbopmpbgopafaaLaw2
namespace Go.Proofs.Ytnbopmpbgopafaa
open Go.RowKit
variable {A B : Nat → Prop}

/-- A machine of the call's own, from block base on; S: where machines stand. -/
def Mach (base : Nat) (S : Nat → Prop) (w : World) (bm : Nat) (m : MachD) : Prop :=
  base ≤ bm ∧ ∃ (A : Nat → Prop) (v : MV), MachAt A w bm m v ∧ ∀ k, A k → base ≤ k ∧ ¬ S k

theorem Mach.keeps {base : Nat} {S A' : Nat → Prop} {w w' : World} {bm : Nat} {m : MachD} (h : Mach base S w bm m) (hk : Keeps A' w w') (h0 : A' bm) (hA : ∀ k, base ≤ k → k < w.heap.size → ¬ S k → A' k) : Mach base S w' bm m := by
  obtain ⟨hb, A, v, hm, hs⟩ := h
  refine ⟨hb, A, v, ⟨(hk.block bm (Array.getElem?_eq_some_iff.1 hm.row).1 h0).trans hm.row, hm.held.keeps hk (fun k h => hA k (hs k h).1 (hm.hA k h).1 (hs k h).2), fun k h => ⟨Nat.lt_of_lt_of_le (hm.hA k h).1 hk.size, (hm.hA k h).2⟩, hm.hold, hm.st⟩, hs⟩
theorem Mach.below {base : Nat} {S : Nat → Prop} {w w' : World} {bm : Nat} {m : MachD} (h : Mach base S w bm m) (hk : Below w.heap.size w w') : Mach base S w' bm m :=
  h.keeps (A' := fun _ => True) (Keeps.of_below hk) trivial (fun _ _ _ _ => trivial)
theorem Mach.state {base : Nat} {S : Nat → Prop} {w : World} {bm : Nat} {m : MachD} (h : Mach base S w bm m) : w.cell? ⟨bm, 35, none⟩ = some (.int .i64 m.state) := by
  obtain ⟨_, A, v, hm, _⟩ := h
  rw [row_cell hm.row]; rfl
theorem Mach.lt {base : Nat} {S : Nat → Prop} {w : World} {bm : Nat} {m : MachD} (h : Mach base S w bm m) : base ≤ bm ∧ bm < w.heap.size := by
  obtain ⟨hb, A, v, hm, _⟩ := h
  exact ⟨hb, (Array.getElem?_eq_some_iff.1 hm.row).1⟩

theorem Mach.lower {base base' : Nat} {S : Nat → Prop} {w : World} {bm : Nat} {m : MachD} (h : Mach base S w bm m) (hb : base' ≤ base) : Mach base' S w bm m := by
  obtain ⟨h1, A, v, hm, hs⟩ := h
  exact ⟨by omega, A, v, hm, fun k hk => ⟨by have := (hs k hk).1; omega, (hs k hk).2⟩⟩

/-- What Do leaves. -/
def DidM (base : Nat) (S : Nat → Prop) (w : World) (bm : Nat) (m' : MachD) (L' : List ActD) (e : Ending) (w' : World) : Prop :=
  ∃ (ra : Option Addr) (rc : Nat), e = .returned (.slice ra L'.length rc) ∧ Mach base S w' bm m' ∧ Ow w.heap.size w' 50 6 cT (.slice ra L'.length rc) L' ∧ Keeps (fun b => b < w.heap.size ∧ b ≠ bm) w w'
theorem c_DoM {base : Nat} {S : Nat → Prop} {w : World} {bm : Nat} {m : MachD} (hm : Mach base S w bm m) (hS : ∀ k, S k → k < w.heap.size) {kd : Int} {o : OpenD} {qf qa qk : Value} {d : VerD} (ho : OpenAt B w o qf qa qk) (hB : ∀ k, B k → k < w.heap.size ∧ k ≠ bm)
    (l1 : o.fams.length * 8 ≤ 140737488355328) (l2 : o.adds.length * 16 ≤ 140737488355328) (l3 : o.kept.length * 16 ≤ 140737488355328) :
    Calls Try.prog 10 #[.pointer (some ⟨bm, 0, none⟩), .agg (inCells kd o qf qa qk d)] w (DidM base S w bm (doD m kd o d).1 (doD m kd o d).2) := by
  have hlt := hm.lt
  obtain ⟨hb, A, v, hma, hs⟩ := hm
  refine (f_Do hma ho hB l1 l2 l3).mono ?_
  rintro e w' ⟨v', A2, ra, rc, rfl, hm', ho', hk, hA2, _⟩
  refine ⟨ra, rc, rfl, ⟨hb, A2, v', hm', fun k hk2 => ?_⟩, ho', hk⟩
  rcases hA2 k hk2 with h | h
  · exact hs k h
  · exact ⟨by omega, fun h2 => by have := hS k h2; omega⟩

/-- Behind a step of the machine what is older than base stands as it did. -/
theorem below_did {base bm : Nat} {w0 w w' : World} (h0 : Below base w0 w) (h : Keeps (fun b => b < w.heap.size ∧ b ≠ bm) w w') (hb : base ≤ bm) (hs : base ≤ w.heap.size) : Below base w0 w' :=
  h0.trans ⟨h.os, h.tape, h.output, by have := h.size; omega, fun k hk => h.block k (by omega) ⟨by omega, by omega⟩⟩

theorem Mach.of_new {w w' : World} {p : PeerD} {o : OpenD} {e : Ending} (h : NewPost p o w e w') (hok : newOk p o = true) :
    ∃ bm, e = .returned (.tuple #[.pointer (some ⟨bm, 0, none⟩), .int .i64 0]) ∧ Mach w.heap.size (fun k => k = bm) w' bm (newD p o) ∧ Below w.heap.size w w' := by
  unfold NewPost at h
  rw [if_pos hok] at h
  obtain ⟨bm, v, A2, rfl, hle, hm, hb, hA2⟩ := h
  exact ⟨bm, rfl, ⟨hle, A2, v, hm, fun k hk => ⟨hA2 k hk, (hm.hA k hk).2⟩⟩, hb⟩
theorem below_trans {B : Nat} {w w1 w2 : World} (h : Below B w w1) (h2 : Below w1.heap.size w1 w2) (hB : B ≤ w.heap.size) : Below B w w2 := h.trans (h2.mono (Nat.le_trans hB h.size))

def upD : MachD := ⟨2, 30, false, openD1 1 7 90, true, 6, ⟨30, [1], false, false, [], [], false, false, 0, []⟩, openD1 2 9 30⟩
def in0 : VerD := ⟨0, 0, 0⟩
def up1 : MachD := (doD (newD peerD0 (openD1 1 7 90)) 1 openNone in0).1
def up2 : MachD := (doD up1 3 openNone in0).1
def up3 : MachD := (doD up2 6 (openD1 2 9 30) in0).1
theorem up_is : (doD up3 7 openNone in0).1 = upD := by decide +kernel

/-- The call in(kind), then Do. -/
theorem c_inDo {base : Nat} {S : Nat → Prop} {w : World} {bm : Nat} {m : MachD} (hm : Mach base S w bm m) (hS : ∀ k, S k → k < w.heap.size) (kd : Int) :
    Calls Try.prog 10 #[.pointer (some ⟨bm, 0, none⟩), .agg (inCells kd openNone nilS nilS nilS in0)] w (DidM base S w bm (doD m kd openNone in0).1 (doD m kd openNone in0).2) :=
  c_DoM (B := fun _ => False) hm hS (OpenAt.none _ _) (fun _ h => h.elim) (by decide) (by decide) (by decide)

set_option maxRecDepth 100000 in
set_option maxHeartbeats 1000000 in
theorem c_up (w : World) : Calls Try.prog 26 #[] w fun e w' => ∃ bm, e = .returned (.pointer (some ⟨bm, 0, none⟩)) ∧ Mach w.heap.size (fun k => k = bm) w' bm upD ∧ Below w.heap.size w w' := by
  go_enter Try.func26, Try.ntmps26
  go_wp2_with fail
  refine (c_peer _).mono ?_
  rintro e w1 ⟨rfl, hb1⟩
  have B1 := Lib.hid hb1
  clear hb1
  go_wp2_with fail
  refine (c_open _ 1 7 90).mono ?_
  rintro e w2 ⟨fv, rfl, ho, hb2⟩
  have HO := Lib.hid ho
  have B2 := Lib.hid (below_trans B1.out hb2 (Nat.le_refl _))
  clear ho hb2
  go_wp2_with fail
  refine (c_New peer0_at HO.out (by decide) (by decide) (by decide)).mono ?_
  rintro e w3 hn
  obtain ⟨bm, rfl, hm3, hb3⟩ := Mach.of_new hn (by decide)
  have h3 : Mach w.heap.size (fun k => k = bm) w3 bm (newD peerD0 (openD1 1 7 90)) := by
    obtain ⟨g1, A2, v, g2, g3⟩ := hm3
    have hz := B2.out.size
    exact ⟨by omega, A2, v, g2, fun k hk => ⟨by have := (g3 k hk).1; omega, (g3 k hk).2⟩⟩
  have B3 := Lib.hid (below_trans B2.out hb3 (Nat.le_refl _))
  have H3 := Lib.hid h3
  clear hn hm3 hb3 h3 HO
  go_wp2_with fail
  refine (c_in _ 1).mono ?_
  rintro e w4 ⟨rfl, hb4⟩
  have H4 := Lib.hid (H3.out.below hb4)
  have B4 := Lib.hid (below_trans B3.out hb4 (Nat.le_refl _))
  clear hb4
  go_wp2_with fail
  refine (c_inDo H4.out (fun k hk => hk ▸ H4.out.lt.2) 1).mono ?_
  rintro e w5 ⟨ra5, rc5, rfl, hm5, _, hk5⟩
  have H5 := Lib.hid (show Mach w.heap.size (fun k => k = bm) w5 bm up1 from hm5)
  have B5 := Lib.hid (below_did B4.out hk5 H4.out.lt.1 B4.out.size)
  clear hm5 hk5
  go_wp2_with fail
  refine (c_in _ 3).mono ?_
  rintro e w6 ⟨rfl, hb6⟩
  have H6 := Lib.hid (H5.out.below hb6)
  have B6 := Lib.hid (below_trans B5.out hb6 (Nat.le_refl _))
  clear hb6
  go_wp2_with fail
  refine (c_inDo H6.out (fun k hk => hk ▸ H6.out.lt.2) 3).mono ?_
  rintro e w7 ⟨ra7, rc7, rfl, hm7, _, hk7⟩
  have H7 := Lib.hid (show Mach w.heap.size (fun k => k = bm) w7 bm up2 from hm7)
  have B7 := Lib.hid (below_did B6.out hk7 H6.out.lt.1 B6.out.size)
  clear hm7 hk7
  go_wp2_with fail
  refine (c_open _ 2 9 30).mono ?_
  rintro e w8 ⟨fv8, rfl, ho8, hb8⟩
  have H8 := Lib.hid (H7.out.below hb8)
  have O8 := Lib.hid ho8
  have B8 := Lib.hid (below_trans B7.out hb8 (Nat.le_refl _))
  have N8 := Lib.hid (show bm < w7.heap.size from H7.out.lt.2)
  clear ho8 hb8
  unfold openV
  go_wp2_with fail
  have hz8 := H8.out.lt
  have hz7 := B8.out.size
  refine (c_DoM (kd := 6) (o := openD1 2 9 30) (qf := fv8) (qa := nilS) (qk := nilS) (d := in0) H8.out (fun k hk => hk ▸ H8.out.lt.2) O8.out (fun k hk => ⟨hk.2, by have := N8.out; omega⟩) (by decide) (by decide) (by decide)).mono ?_
  rintro e w9 ⟨ra9, rc9, rfl, hm9, _, hk9⟩
  have H9 := Lib.hid (show Mach w.heap.size (fun k => k = bm) w9 bm up3 from hm9)
  have B9 := Lib.hid (below_did B8.out hk9 H8.out.lt.1 B8.out.size)
  clear hm9 hk9
  go_wp2_with fail
  refine (c_in _ 7).mono ?_
  rintro e wa ⟨rfl, hba⟩
  have Ha := Lib.hid (H9.out.below hba)
  have Ba := Lib.hid (below_trans B9.out hba (Nat.le_refl _))
  clear hba
  go_wp2_with fail
  refine (c_inDo Ha.out (fun k hk => hk ▸ Ha.out.lt.2) 7).mono ?_
  rintro e wb ⟨rab, rcb, rfl, hmb, _, hkb⟩
  have Hb := Lib.hid (show Mach w.heap.size (fun k => k = bm) wb bm upD from up_is ▸ hmb)
  have Bb := Lib.hid (below_did Ba.out hkb Ha.out.lt.1 Ba.out.size)
  clear hmb hkb
  go_wp2
  go_ret
  exact ⟨bm, rfl, Hb.out, Bb.out⟩
end Go.Proofs.Ytnbopmpbgopafaa
