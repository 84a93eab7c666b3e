/- heraldlaw20.FsmKnown: its states. -/
import Derived.Test.YtnbopmpbgopafaaKnown0
namespace Go.Proofs.Ytnbopmpbgopafaa
open Go.RowKit
variable {A B : Nat → Prop}

/-- A region of a function's body, by its number. -/
def regionOf (n : Nat) : Code → Option Code
  | .region i ops d => if i = n then some (.region i ops d) else none
  | .seq a b => match regionOf n a with
    | some c => some c
    | none => regionOf n b
  | .block _ c => regionOf n c
  | .cond _ a b => match regionOf n a with
    | some c => some c
    | none => regionOf n b
  | _ => none
def kM0 : MachD := newD peerD0 (openD1 1 7 90)
def kM1 : MachD := (doD kM0 11 (openNone) (in0)).1
def kL1 : List ActD := []
theorem kD1 : doD kM0 11 (openNone) (in0) = (kM1, kL1) := by decide +kernel
def kM2 : MachD := (doD kM1 1 (openNone) (in0)).1
def kL2 : List ActD := [actK 1, actA 1 30]
theorem kD2 : doD kM1 1 (openNone) (in0) = (kM2, kL2) := by decide +kernel
theorem kS3 : kM2.state = 2 := by decide +kernel
def kM4 : MachD := (doD kM2 3 (openNone) (in0)).1
def kL4 : List ActD := [actC 1, actK 3, actA 2 240]
theorem kD4 : doD kM2 3 (openNone) (in0) = (kM4, kL4) := by decide +kernel
theorem kS5 : kM4.state = 4 := by decide +kernel
def kM6 : MachD := (doD kM4 6 (openD1 2 9 30) (in0)).1
def kL6 : List ActD := [actK 4, actA 2 30, actA 3 10]
theorem kD6 : doD kM4 6 (openD1 2 9 30) (in0) = (kM6, kL6) := by decide +kernel
theorem kS7 : kM6.state = 5 := by decide +kernel
def kM8 : MachD := (doD kM6 7 (openNone) (in0)).1
def kL8 : List ActD := [actA 2 30, actK 8]
theorem kD8 : doD kM6 7 (openNone) (in0) = (kM8, kL8) := by decide +kernel
def kM9 : MachD := (doD kM8 8 (openNone) (in0)).1
def kL9 : List ActD := [actA 2 30]
theorem kD9 : doD kM8 8 (openNone) (in0) = (kM9, kL9) := by decide +kernel
def kM10 : MachD := (doD kM9 13 (openNone) (in0)).1
def kL10 : List ActD := [actK 4, actA 3 10]
theorem kD10 : doD kM9 13 (openNone) (in0) = (kM10, kL10) := by decide +kernel
theorem kO11 : sesOut kM10 = ⟨30, [1], false, false, [], [], false, false, 0, []⟩ := by decide +kernel
theorem kP11 : decide (5 ≤ kM10.state) = true := by decide +kernel
theorem kSm_kM10 : Small kM10 := by constructor <;> decide +kernel
def kM12 : MachD := (doD kM10 12 (openNone) (in0)).1
def kL12 : List ActD := [⟨5, 0, 0, 4, 0⟩, actK 2, actC 2, actC 3, actK 9, actA 1 30]
theorem kD12 : doD kM10 12 (openNone) (in0) = (kM12, kL12) := by decide +kernel
def kM13 : MachD := (doD kM12 11 (openNone) (in0)).1
def kL13 : List ActD := [actK 1, actA 1 30]
theorem kD13 : doD kM12 11 (openNone) (in0) = (kM13, kL13) := by decide +kernel
def kM14 : MachD := (doD kM13 4 (openNone) (in0)).1
def kL14 : List ActD := [actA 1 30]
theorem kD14 : doD kM13 4 (openNone) (in0) = (kM14, kL14) := by decide +kernel
theorem kS15 : kM14.state = 3 := by decide +kernel
def kM16 : MachD := (doD kM14 2 (openNone) (in0)).1
def kL16 : List ActD := [actC 1, actK 2]
theorem kD16 : doD kM14 2 (openNone) (in0) = (kM16, kL16) := by decide +kernel
theorem kS17 : kM16.state = 1 := by decide +kernel
def kM18 : MachD := (doD kM16 11 (openNone) (in0)).1
def kL18 : List ActD := []
theorem kD18 : doD kM16 11 (openNone) (in0) = (kM18, kL18) := by decide +kernel
def kMfin : MachD := kM18
theorem kS19 : kM18.state = 1 := by decide +kernel
end Go.Proofs.Ytnbopmpbgopafaa
