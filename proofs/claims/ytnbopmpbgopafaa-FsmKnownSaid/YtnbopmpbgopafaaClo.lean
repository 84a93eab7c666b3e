/- fsm: the closures of rows (printed by gen_clo.py). -/
import Derived.Test.YtnbopmpbgopafaaMap
import Derived.Lib.MinMax
namespace Go.Proofs.Ytnbopmpbgopafaa
open Go.RowKit
variable {A : Nat → Prop}

structure Held (A : Nat → Prop) (w : World) (m : MachD) (v : MV) : Prop where
  mine : OpenAt A w m.mine v.mf v.ma v.mq
  ses : SesAt A w m.ses v.sf v.ss v.st v.sk
  theirs : OpenAt A w m.theirs v.tf v.ta v.tk
theorem Held.keeps {A A' : Nat → Prop} {w w' : World} {m : MachD} {v : MV} (h : Held A w m v) (hk : Keeps A' w w') (hA : ∀ k, A k → A' k) : Held A w' m v :=
  ⟨h.mine.keeps hk hA, h.ses.keeps hk hA, h.theirs.keeps hk hA⟩
theorem Held.ended {A : Nat → Prop} {w : World} {m : MachD} {v : MV} (h : Held A w m v) : Held A w (endM m) (endV v) := ⟨h.mine, SesAt.none _ _, OpenAt.none _ _⟩
/-- What a step leaves. -/
def StepTo (A : Nat → Prop) (bm ba base : Nat) (w w' : World) (m' : MachD) (L' : List ActD) : Prop :=
  ∃ (v' : MV) (A2 : Nat → Prop), FC w' bm ba base m' v' L' ∧ Keeps (Out bm ba base) w w' ∧ (∀ k, A2 k → A k ∨ (w.heap.size ≤ k ∧ k < w'.heap.size ∧ actsBlk w' ba ≠ some k)) ∧ Held A2 w' m' v'
theorem StepTo.of {bm ba base : Nat} {w w' : World} {m' : MachD} {v' : MV} {L' : List ActD} (hA : ∀ k, A k → Out bm ba base k) (hf : FC w' bm ba base m' v' L') (hk : Keeps (Out bm ba base) w w') (hh : Held A w m' v') : StepTo A bm ba base w w' m' L' :=
  ⟨v', A, hf, hk, fun _ h => .inl h, hh.keeps hk hA⟩
def holdL (h : Int) : List ActD := if 0 < h then [actA 2 h] else []
def begS (p : Bool) : Int := if p then 3 else 2
def begL (p : Bool) (r : Int) : List ActD := if p then [] else [actK 1, actA 1 r]
structure Clo (A : Nat → Prop) (w : World) (bm ba base : Nat) (m : MachD) (v : MV) (b3 b4 : Nat) : Prop where
  fc : FC w bm ba base m v []
  c3 : w.cell? ⟨b3, 0, none⟩ = some (.pointer (some ⟨bm, 0, none⟩))
  c4 : w.cell? ⟨b4, 0, none⟩ = some (.pointer (some ⟨ba, 0, none⟩))
  o3 : Out bm ba base b3
  o4 : Out bm ba base b4
  hA : ∀ k, A k → Out bm ba base k
  held : Held A w m v

set_option maxRecDepth 100000 in
theorem k2 {w : World} {bm ba base b3 b4 : Nat} {m : MachD} {v : MV} (h : Clo A w bm ba base m v b3 b4) :
    Calls Try.prog 64 #[.pointer (some ⟨b4, 0, none⟩), .pointer (some ⟨b3, 0, none⟩)] w fun e w' => e = .returned (.tuple #[]) ∧ StepTo A bm ba base w w' { m with state := 4 } [actC 1, actK 3, actA 2 240] := by
  have H := Lib.hid h
  have c3 := h.c3
  have c4 := h.c4
  have c0 := row_cell h.fc.mach
  have f0 := row_free h.fc.mach
  have F0 := Lib.hid h.fc
  have K0 := Lib.hid (Keeps.refl (Out bm ba base) w)
  clear h
  go_enter Try.func64, Try.ntmps64
  go_wp2_with fail
  refine (f_cancel F0.out (by simp) 1).mono ?_
  rintro e w1 ⟨rfl, h1, k1⟩
  have F1 := Lib.hid h1
  have K1 := Lib.hid ((K0.out).trans k1)
  have c3 := (K1.out).cell (p := ⟨b3, 0, none⟩) H.out.o3 H.out.c3
  have c4 := (K1.out).cell (p := ⟨b4, 0, none⟩) H.out.o4 H.out.c4
  clear c0 f0
  have c0 := row_cell h1.mach
  have f0 := row_free h1.mach
  clear h1 k1
  go_wp2_with fail
  refine (f_do F1.out (by simp) 3).mono ?_
  rintro e w2 ⟨rfl, h1, k1⟩
  have F2 := Lib.hid h1
  have K2 := Lib.hid ((K1.out).trans k1)
  have c3 := (K2.out).cell (p := ⟨b3, 0, none⟩) H.out.o3 H.out.c3
  have c4 := (K2.out).cell (p := ⟨b4, 0, none⟩) H.out.o4 H.out.c4
  clear c0 f0
  have c0 := row_cell h1.mach
  have f0 := row_free h1.mach
  clear h1 k1
  go_wp2_with fail
  refine (f_arm F2.out (by simp) 2 240).mono ?_
  rintro e w3 ⟨rfl, h1, k1⟩
  have F3 := Lib.hid h1
  have K3 := Lib.hid ((K2.out).trans k1)
  have c3 := (K3.out).cell (p := ⟨b3, 0, none⟩) H.out.o3 H.out.c3
  have c4 := (K3.out).cell (p := ⟨b4, 0, none⟩) H.out.o4 H.out.c4
  clear c0 f0
  have c0 := row_cell h1.mach
  have f0 := row_free h1.mach
  clear h1 k1
  go_wp2
  go_end0
  exact ⟨rfl, StepTo.of H.out.hA (F3.out.set (j := 35) (x := .int .i64 4) (m' := { m with state := 4 }) (v' := v) (by simp)) (K3.out.setCell (by simp) _) ⟨H.out.held.mine, H.out.held.ses, H.out.held.theirs⟩⟩
set_option maxRecDepth 100000 in
theorem k4 {w : World} {bm ba base b3 b4 : Nat} {m : MachD} {v : MV} (h : Clo A w bm ba base m v b3 b4) :
    Calls Try.prog 66 #[.pointer (some ⟨b4, 0, none⟩), .pointer (some ⟨b3, 0, none⟩)] w fun e w' => e = .returned (.tuple #[]) ∧ StepTo A bm ba base w w' { m with state := 1 } [actC 1, actK 2] := by
  have H := Lib.hid h
  have c3 := h.c3
  have c4 := h.c4
  have c0 := row_cell h.fc.mach
  have f0 := row_free h.fc.mach
  have F0 := Lib.hid h.fc
  have K0 := Lib.hid (Keeps.refl (Out bm ba base) w)
  clear h
  go_enter Try.func66, Try.ntmps66
  go_wp2_with fail
  refine (f_cancel F0.out (by simp) 1).mono ?_
  rintro e w1 ⟨rfl, h1, k1⟩
  have F1 := Lib.hid h1
  have K1 := Lib.hid ((K0.out).trans k1)
  have c3 := (K1.out).cell (p := ⟨b3, 0, none⟩) H.out.o3 H.out.c3
  have c4 := (K1.out).cell (p := ⟨b4, 0, none⟩) H.out.o4 H.out.c4
  clear c0 f0
  have c0 := row_cell h1.mach
  have f0 := row_free h1.mach
  clear h1 k1
  go_wp2_with fail
  refine (f_do F1.out (by simp) 2).mono ?_
  rintro e w2 ⟨rfl, h1, k1⟩
  have F2 := Lib.hid h1
  have K2 := Lib.hid ((K1.out).trans k1)
  have c3 := (K2.out).cell (p := ⟨b3, 0, none⟩) H.out.o3 H.out.c3
  have c4 := (K2.out).cell (p := ⟨b4, 0, none⟩) H.out.o4 H.out.c4
  clear c0 f0
  have c0 := row_cell h1.mach
  have f0 := row_free h1.mach
  clear h1 k1
  go_wp2
  go_end0
  exact ⟨rfl, StepTo.of H.out.hA (F2.out.set (j := 35) (x := .int .i64 1) (m' := { m with state := 1 }) (v' := v) (by simp)) (K2.out.setCell (by simp) _) ⟨H.out.held.mine, H.out.held.ses, H.out.held.theirs⟩⟩
set_option maxRecDepth 100000 in
theorem k9 {w : World} {bm ba base b3 b4 : Nat} {m : MachD} {v : MV} (h : Clo A w bm ba base m v b3 b4) :
    Calls Try.prog 73 #[.pointer (some ⟨b4, 0, none⟩)] w fun e w' => e = .returned (.tuple #[]) ∧ StepTo A bm ba base w w' m [actC 1] := by
  have H := Lib.hid h
  have c3 := h.c3
  have c4 := h.c4
  have c0 := row_cell h.fc.mach
  have f0 := row_free h.fc.mach
  have F0 := Lib.hid h.fc
  have K0 := Lib.hid (Keeps.refl (Out bm ba base) w)
  clear h
  go_enter Try.func73, Try.ntmps73
  go_wp2_with fail
  refine (f_cancel F0.out (by simp) 1).mono ?_
  rintro e w1 ⟨rfl, h1, k1⟩
  have F1 := Lib.hid h1
  have K1 := Lib.hid ((K0.out).trans k1)
  have c3 := (K1.out).cell (p := ⟨b3, 0, none⟩) H.out.o3 H.out.c3
  have c4 := (K1.out).cell (p := ⟨b4, 0, none⟩) H.out.o4 H.out.c4
  clear c0 f0
  have c0 := row_cell h1.mach
  have f0 := row_free h1.mach
  clear h1 k1
  go_wp2
  go_end0
  exact ⟨rfl, StepTo.of H.out.hA F1.out K1.out H.out.held⟩
set_option maxRecDepth 100000 in
theorem k13 {w : World} {bm ba base b3 b4 : Nat} {m : MachD} {v : MV} (h : Clo A w bm ba base m v b3 b4) :
    Calls Try.prog 79 #[.pointer (some ⟨b3, 0, none⟩), .pointer (some ⟨b4, 0, none⟩)] w fun e w' => e = .returned (.tuple #[]) ∧ StepTo A bm ba base w w' m (holdL m.ses.hold) := by
  have H := Lib.hid h
  have c3 := h.c3
  have c4 := h.c4
  have c0 := row_cell h.fc.mach
  have f0 := row_free h.fc.mach
  have F0 := Lib.hid h.fc
  have K0 := Lib.hid (Keeps.refl (Out bm ba base) w)
  clear h
  go_enter Try.func79, Try.ntmps79
  go_wp2_with fail
  refine (f_hold F0.out (by simp)).mono ?_
  rintro e w1 ⟨rfl, h1, k1⟩
  have F1 := Lib.hid (show FC w1 bm ba base m v (holdL m.ses.hold) from h1)
  have K1 := Lib.hid ((K0.out).trans k1)
  have c3 := (K1.out).cell (p := ⟨b3, 0, none⟩) H.out.o3 H.out.c3
  have c4 := (K1.out).cell (p := ⟨b4, 0, none⟩) H.out.o4 H.out.c4
  clear c0 f0
  have c0 := row_cell h1.mach
  have f0 := row_free h1.mach
  clear h1 k1
  go_wp2
  go_end0
  exact ⟨rfl, StepTo.of H.out.hA F1.out K1.out H.out.held⟩
set_option maxRecDepth 100000 in
theorem k14 {w : World} {bm ba base b3 b4 : Nat} {m : MachD} {v : MV} (h : Clo A w bm ba base m v b3 b4) :
    Calls Try.prog 80 #[.pointer (some ⟨b3, 0, none⟩), .pointer (some ⟨b4, 0, none⟩)] w fun e w' => e = .returned (.tuple #[]) ∧ StepTo A bm ba base w w' m (holdL m.ses.hold) := by
  have H := Lib.hid h
  have c3 := h.c3
  have c4 := h.c4
  have c0 := row_cell h.fc.mach
  have f0 := row_free h.fc.mach
  have F0 := Lib.hid h.fc
  have K0 := Lib.hid (Keeps.refl (Out bm ba base) w)
  clear h
  go_enter Try.func80, Try.ntmps80
  go_wp2_with fail
  refine (f_hold F0.out (by simp)).mono ?_
  rintro e w1 ⟨rfl, h1, k1⟩
  have F1 := Lib.hid (show FC w1 bm ba base m v (holdL m.ses.hold) from h1)
  have K1 := Lib.hid ((K0.out).trans k1)
  have c3 := (K1.out).cell (p := ⟨b3, 0, none⟩) H.out.o3 H.out.c3
  have c4 := (K1.out).cell (p := ⟨b4, 0, none⟩) H.out.o4 H.out.c4
  clear c0 f0
  have c0 := row_cell h1.mach
  have f0 := row_free h1.mach
  clear h1 k1
  go_wp2
  go_end0
  exact ⟨rfl, StepTo.of H.out.hA F1.out K1.out H.out.held⟩
set_option maxRecDepth 100000 in
theorem k12 {w : World} {bm ba base b3 b4 : Nat} {m : MachD} {v : MV} (h : Clo A w bm ba base m v b3 b4) :
    Calls Try.prog 77 #[.pointer (some ⟨b3, 0, none⟩), .pointer (some ⟨b4, 0, none⟩)] w fun e w' => e = .returned (.tuple #[]) ∧ StepTo A bm ba base w w' { m with state := 6 } (holdL m.ses.hold ++ [actK 8]) := by
  have H := Lib.hid h
  have c3 := h.c3
  have c4 := h.c4
  have c0 := row_cell h.fc.mach
  have f0 := row_free h.fc.mach
  have F0 := Lib.hid h.fc
  have K0 := Lib.hid (Keeps.refl (Out bm ba base) w)
  clear h
  go_enter Try.func77, Try.ntmps77
  go_wp2_with fail
  refine (f_hold F0.out (by simp)).mono ?_
  rintro e w1 ⟨rfl, h1, k1⟩
  have F1 := Lib.hid (show FC w1 bm ba base m v (holdL m.ses.hold) from h1)
  have K1 := Lib.hid ((K0.out).trans k1)
  have c3 := (K1.out).cell (p := ⟨b3, 0, none⟩) H.out.o3 H.out.c3
  have c4 := (K1.out).cell (p := ⟨b4, 0, none⟩) H.out.o4 H.out.c4
  clear c0 f0
  have c0 := row_cell h1.mach
  have f0 := row_free h1.mach
  clear h1 k1
  go_wp2_with fail
  refine (f_do F1.out (by unfold holdL; split <;> simp) 8).mono ?_
  rintro e w2 ⟨rfl, h1, k1⟩
  have F2 := Lib.hid h1
  have K2 := Lib.hid ((K1.out).trans k1)
  have c3 := (K2.out).cell (p := ⟨b3, 0, none⟩) H.out.o3 H.out.c3
  have c4 := (K2.out).cell (p := ⟨b4, 0, none⟩) H.out.o4 H.out.c4
  clear c0 f0
  have c0 := row_cell h1.mach
  have f0 := row_free h1.mach
  clear h1 k1
  go_wp2
  go_end0
  exact ⟨rfl, StepTo.of H.out.hA (F2.out.set (j := 35) (x := .int .i64 6) (m' := { m with state := 6 }) (v' := v) (by simp)) (K2.out.setCell (by simp) _) ⟨H.out.held.mine, H.out.held.ses, H.out.held.theirs⟩⟩
set_option maxRecDepth 100000 in
theorem k1a {w : World} {bm ba base b3 b4 : Nat} {m : MachD} {v : MV} (h : Clo A w bm ba base m v b3 b4) (hp : m.passive = true) :
    Calls Try.prog 62 #[.pointer (some ⟨b3, 0, none⟩), .pointer (some ⟨b4, 0, none⟩)] w fun e w' => e = .returned (.tuple #[]) ∧ StepTo A bm ba base w w' m [] := by
  have H := Lib.hid h
  have c3 := h.c3
  have c4 := h.c4
  have c0 := row_cell h.fc.mach
  have f0 := row_free h.fc.mach
  have F0 := Lib.hid h.fc
  have K0 := Lib.hid (Keeps.refl (Out bm ba base) w)
  clear h
  go_enter Try.func62, Try.ntmps62
  go_wp2
  go_end0
  exact ⟨rfl, StepTo.of H.out.hA F0.out K0.out H.out.held⟩
set_option maxRecDepth 100000 in
theorem k1b {w : World} {bm ba base b3 b4 : Nat} {m : MachD} {v : MV} (h : Clo A w bm ba base m v b3 b4) (hp : m.passive = false) :
    Calls Try.prog 62 #[.pointer (some ⟨b3, 0, none⟩), .pointer (some ⟨b4, 0, none⟩)] w fun e w' => e = .returned (.tuple #[]) ∧ StepTo A bm ba base w w' { m with state := 2 } [actK 1, actA 1 m.retry] := by
  have H := Lib.hid h
  have c3 := h.c3
  have c4 := h.c4
  have c0 := row_cell h.fc.mach
  have f0 := row_free h.fc.mach
  have F0 := Lib.hid h.fc
  have K0 := Lib.hid (Keeps.refl (Out bm ba base) w)
  clear h
  go_enter Try.func62, Try.ntmps62
  go_wp2_with fail
  refine (f_connect F0.out (by simp)).mono ?_
  rintro e w1 ⟨rfl, h1, k1⟩
  have F1 := Lib.hid h1
  have K1 := Lib.hid ((K0.out).trans k1)
  have c3 := (K1.out).cell (p := ⟨b3, 0, none⟩) H.out.o3 H.out.c3
  have c4 := (K1.out).cell (p := ⟨b4, 0, none⟩) H.out.o4 H.out.c4
  clear c0 f0
  have c0 := row_cell h1.mach
  have f0 := row_free h1.mach
  clear h1 k1
  go_wp2
  go_end0
  exact ⟨rfl, StepTo.of H.out.hA F1.out K1.out ⟨H.out.held.mine, H.out.held.ses, H.out.held.theirs⟩⟩
set_option maxRecDepth 100000 in
theorem k8a {w : World} {bm ba base b3 b4 : Nat} {m : MachD} {v : MV} (h : Clo A w bm ba base m v b3 b4) (hp : m.wanted = false) :
    Calls Try.prog 72 #[.pointer (some ⟨b3, 0, none⟩), .pointer (some ⟨b4, 0, none⟩)] w fun e w' => e = .returned (.tuple #[]) ∧ StepTo A bm ba base w w' m [] := by
  have H := Lib.hid h
  have c3 := h.c3
  have c4 := h.c4
  have c0 := row_cell h.fc.mach
  have f0 := row_free h.fc.mach
  have F0 := Lib.hid h.fc
  have K0 := Lib.hid (Keeps.refl (Out bm ba base) w)
  clear h
  go_enter Try.func72, Try.ntmps72
  go_wp2
  go_end0
  exact ⟨rfl, StepTo.of H.out.hA F0.out K0.out H.out.held⟩
set_option maxRecDepth 100000 in
theorem k8b {w : World} {bm ba base b3 b4 : Nat} {m : MachD} {v : MV} (h : Clo A w bm ba base m v b3 b4) (hp : m.wanted = true) :
    Calls Try.prog 72 #[.pointer (some ⟨b3, 0, none⟩), .pointer (some ⟨b4, 0, none⟩)] w fun e w' => e = .returned (.tuple #[]) ∧ StepTo A bm ba base w w' { m with state := begS m.passive } (begL m.passive m.retry) := by
  have H := Lib.hid h
  have c3 := h.c3
  have c4 := h.c4
  have c0 := row_cell h.fc.mach
  have f0 := row_free h.fc.mach
  have F0 := Lib.hid h.fc
  have K0 := Lib.hid (Keeps.refl (Out bm ba base) w)
  clear h
  go_enter Try.func72, Try.ntmps72
  go_wp2_with fail
  refine (f_begin F0.out (by simp)).mono ?_
  rintro e w1 ⟨rfl, h1, k1⟩
  have F1 := Lib.hid h1
  have K1 := Lib.hid ((K0.out).trans k1)
  have c3 := (K1.out).cell (p := ⟨b3, 0, none⟩) H.out.o3 H.out.c3
  have c4 := (K1.out).cell (p := ⟨b4, 0, none⟩) H.out.o4 H.out.c4
  clear c0 f0
  have c0 := row_cell h1.mach
  have f0 := row_free h1.mach
  clear h1 k1
  go_wp2
  go_end0
  exact ⟨rfl, StepTo.of H.out.hA F1.out K1.out ⟨H.out.held.mine, H.out.held.ses, H.out.held.theirs⟩⟩
set_option maxRecDepth 100000 in
theorem k7 {w : World} {bm ba base b3 b4 : Nat} {m : MachD} {v : MV} (h : Clo A w bm ba base m v b3 b4) :
    Calls Try.prog 70 #[.pointer (some ⟨b3, 0, none⟩), .pointer (some ⟨b4, 0, none⟩)] w fun e w' => e = .returned (.tuple #[]) ∧ StepTo A bm ba base w w' { m with wanted := true, state := begS m.passive } (begL m.passive m.retry) := by
  have H := Lib.hid h
  have c3 := h.c3
  have c4 := h.c4
  have c0 := row_cell h.fc.mach
  have f0 := row_free h.fc.mach
  have F0 := Lib.hid h.fc
  have K0 := Lib.hid (Keeps.refl (Out bm ba base) w)
  clear h
  go_enter Try.func70, Try.ntmps70
  go_wp2_with fail
  refine (f_begin (m := { m with wanted := true }) (v := v) (F0.out.set (j := 34) (x := .bool true) (m' := { m with wanted := true }) (v' := v) (by simp)) (by simp)).mono ?_
  rintro e w1 ⟨rfl, h1, k1⟩
  have F1 := Lib.hid h1
  have K1 := Lib.hid ((K0.out.setCell (p := ⟨bm, 34, none⟩) (by simp) (.bool true)).trans k1)
  have c3 := (K1.out).cell (p := ⟨b3, 0, none⟩) H.out.o3 H.out.c3
  have c4 := (K1.out).cell (p := ⟨b4, 0, none⟩) H.out.o4 H.out.c4
  clear c0 f0
  have c0 := row_cell h1.mach
  have f0 := row_free h1.mach
  clear h1 k1
  go_wp2
  go_end0
  exact ⟨rfl, StepTo.of H.out.hA F1.out K1.out ⟨H.out.held.mine, H.out.held.ses, H.out.held.theirs⟩⟩
end Go.Proofs.Ytnbopmpbgopafaa
