/- heraldlaw20.FsmKnown: more states. -/
import Derived.Test.YtnbopmpbgopafaaKnownE
import Derived.Test.YtnbopmpbgopafaaKnownD
namespace Go.Proofs.Ytnbopmpbgopafaa
open Go.RowKit
variable {A B : Nat → Prop}

def kM20 : MachD := (doD kM4 6 (openD1 3 9 30) (in0)).1
def kL20 : List ActD := [⟨5, 0, 0, 2, 2⟩, actK 2, actC 2, actC 3, actA 1 30]
theorem kD20 : doD kM4 6 (openD1 3 9 30) (in0) = (kM20, kL20) := by decide +kernel
def kM21 : MachD := (doD kM4 7 (openNone) (in0)).1
def kL21 : List ActD := [⟨5, 0, 0, 5, 1⟩, actK 2, actC 2, actC 3, actA 1 30]
theorem kD21 : doD kM4 7 (openNone) (in0) = (kM21, kL21) := by decide +kernel
def kM22 : MachD := (doD kM4 6 (openD1 2 7 30) (in0)).1
def kL22 : List ActD := [⟨5, 0, 0, 2, 3⟩, actK 2, actC 2, actC 3, actA 1 30]
theorem kD22 : doD kM4 6 (openD1 2 7 30) (in0) = (kM22, kL22) := by decide +kernel
def kM23 : MachD := (doD kM4 6 (sixD) (in0)).1
def kL23 : List ActD := [⟨5, 0, 0, 2, 7⟩, actK 2, actC 2, actC 3, actA 1 30]
theorem kD23 : doD kM4 6 (sixD) (in0) = (kM23, kL23) := by decide +kernel
def kM24 : MachD := (doD kM4 5 (openNone) (in0)).1
def kL24 : List ActD := [actC 2, actA 1 30]
theorem kD24 : doD kM4 5 (openNone) (in0) = (kM24, kL24) := by decide +kernel
theorem kS25 : kM24.state = 3 := by decide +kernel
def kM26 : MachD := (doD upD 2 (openNone) (⟨0, 6, 3⟩)).1
def kL26 : List ActD := [⟨5, 0, 0, 6, 3⟩, actK 2, actC 2, actC 3, actK 9]
theorem kD26 : doD upD 2 (openNone) (⟨0, 6, 3⟩) = (kM26, kL26) := by decide +kernel
def kM27 : MachD := (doD upD 6 (openNone) (in0)).1
def kL27 : List ActD := [⟨5, 0, 0, 5, 3⟩, actK 2, actC 2, actC 3, actK 9, actA 1 30]
theorem kD27 : doD upD 6 (openNone) (in0) = (kM27, kL27) := by decide +kernel
def kMp : MachD := newD ⟨2, 30, true⟩ (openD1 1 7 0)
def kM28 : MachD := (doD kMp 1 (openNone) (in0)).1
def kL28 : List ActD := []
theorem kD28 : doD kMp 1 (openNone) (in0) = (kM28, kL28) := by decide +kernel
theorem kS29 : kM28.state = 3 := by decide +kernel
def kM30 : MachD := (doD kM28 11 (openNone) (in0)).1
def kL30 : List ActD := []
theorem kD30 : doD kM28 11 (openNone) (in0) = (kM30, kL30) := by decide +kernel
def kM31 : MachD := (doD kM30 3 (openNone) (in0)).1
def kL31 : List ActD := [actC 1, actK 3, actA 2 240]
theorem kD31 : doD kM30 3 (openNone) (in0) = (kM31, kL31) := by decide +kernel
def kM32 : MachD := (doD kM31 6 (openD1 2 9 30) (in0)).1
def kL32 : List ActD := [actK 4, actC 2]
theorem kD32 : doD kM31 6 (openD1 2 9 30) (in0) = (kM32, kL32) := by decide +kernel
def kM33 : MachD := (doD kM32 7 (openNone) (in0)).1
def kL33 : List ActD := [actK 8]
theorem kD33 : doD kM32 7 (openNone) (in0) = (kM33, kL33) := by decide +kernel
def kM34 : MachD := (doD kM33 5 (openNone) (in0)).1
def kL34 : List ActD := [actC 2, actC 3, actK 9, actA 1 30]
theorem kD34 : doD kM33 5 (openNone) (in0) = (kM34, kL34) := by decide +kernel
end Go.Proofs.Ytnbopmpbgopafaa
