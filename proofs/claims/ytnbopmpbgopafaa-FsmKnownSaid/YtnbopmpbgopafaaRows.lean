/-
  No cell of these rows narrows 'for every input' (looked for: loops, veiled, ifaces, maps, wideKeys, modest, calm, conditions, laid).
  DERIVED. THE GIVEN ROWS OF THIS SEAT. 4 by the template 'for every input the law returns true; each argument reads behind the call as it read before'; 0 by the template 'total and deterministic' (their statements: YtnbopmpbgopafaaTotals.lean).
  GIVEN WITH THE SEED: the statements are not yours to turn. If you find one false, say at which input.
  Laid BY PROGRAM, IN A SANDBOX (cutbox-rows.mjs): the forced cells as the released guide's own fill.sh prints them over the translation bf98a0c7c7ae5a07… (all of the seat's roots in one cut). By AI agents, Wed Nov 11 2026. No macro, syntax, notation, axiom, sorry.
-/
import Derived.Test.YtnbopmpbgopafaaChecked
import GoSem.Claim
import GoSem.ClaimJoined
import GoSem.ClaimMapViews
import Derived.JoinedTies
import Derived.KernelRfl
namespace Go.Proofs.Ytnbopmpbgopafaa
/- THE CELL 'sum', in the pinned program and in every row, IS THE sha256 OF THE DUMP (.gsa) THAT YtnbopmpbgopafaaProg.lean LOADS. Nothing in Lean hashes anything: it is a label: what it is worth is what the hold of that sum in a sandbox is worth. -/
noncomputable def Try.pinned : Pinned := { name := "ytnbopmpbgopafaa", sum := "bf98a0c7c7ae5a076875f3ad1d398dc1ad3827449e46dbf08c8d521d15211b55", checked := Try.checked }
namespace Rows
def none {H : Type} : Left H := { results := [], args := [] }

/-- 'heraldlaw20.FsmStops': WHATEVER THE INPUT: true; the input reads as it did. -/
def fsmStopsSpec : ChangeSpec := { name := "fsmStops", fn := fun _ => fun
  | [d1, d2, d3] => { results := [.lit (.bool true)], args := [d1, d2, d3] }
  | _ => none }
def fsmStopsRow : OpenClaim := { program := "ytnbopmpbgopafaa", sum := "bf98a0c7c7ae5a076875f3ad1d398dc1ad3827449e46dbf08c8d521d15211b55", func := "herald/heraldlaw20.FsmStops", spec := "fsmStops", unfollowed := true, recurses := true, plainKeys := false, apart := false }
def FsmStopsSaid : Prop := fsmStopsRow.holds Try.pinned (OpenSpec.ofChange fsmStopsSpec)

/-- ITS FALSE NEIGHBOUR: 'it returns false'. Refute it at one input. -/
def fsmStopsWrong : ChangeSpec := { name := "fsmStops", fn := fun _ => fun
  | [d1, d2, d3] => { results := [.lit (.bool false)], args := [d1, d2, d3] }
  | _ => none }
def FsmStopsWrongFalsely : Prop := fsmStopsRow.holds Try.pinned (OpenSpec.ofChange fsmStopsWrong)

/-- 'heraldlaw20.FsmUpDown': WHATEVER THE INPUT: true; the input reads as it did. -/
def fsmUpDownSpec : ChangeSpec := { name := "fsmUpDown", fn := fun _ => fun
  | [d1, d2, d3] => { results := [.lit (.bool true)], args := [d1, d2, d3] }
  | _ => none }
def fsmUpDownRow : OpenClaim := { program := "ytnbopmpbgopafaa", sum := "bf98a0c7c7ae5a076875f3ad1d398dc1ad3827449e46dbf08c8d521d15211b55", func := "herald/heraldlaw20.FsmUpDown", spec := "fsmUpDown", unfollowed := true, recurses := true, plainKeys := false, apart := false }
def FsmUpDownSaid : Prop := fsmUpDownRow.holds Try.pinned (OpenSpec.ofChange fsmUpDownSpec)

/-- ITS FALSE NEIGHBOUR: 'it returns false'. Refute it at one input. -/
def fsmUpDownWrong : ChangeSpec := { name := "fsmUpDown", fn := fun _ => fun
  | [d1, d2, d3] => { results := [.lit (.bool false)], args := [d1, d2, d3] }
  | _ => none }
def FsmUpDownWrongFalsely : Prop := fsmUpDownRow.holds Try.pinned (OpenSpec.ofChange fsmUpDownWrong)

/-- 'heraldlaw20.FsmPlays': WHATEVER THE INPUT: true; the input reads as it did. -/
def fsmPlaysSpec : ChangeSpec := { name := "fsmPlays", fn := fun _ => fun
  | [d1, d2, d3] => { results := [.lit (.bool true)], args := [d1, d2, d3] }
  | _ => none }
def fsmPlaysRow : OpenClaim := { program := "ytnbopmpbgopafaa", sum := "bf98a0c7c7ae5a076875f3ad1d398dc1ad3827449e46dbf08c8d521d15211b55", func := "herald/heraldlaw20.FsmPlays", spec := "fsmPlays", unfollowed := true, recurses := true, plainKeys := false, apart := false }
def FsmPlaysSaid : Prop := fsmPlaysRow.holds Try.pinned (OpenSpec.ofChange fsmPlaysSpec)

/-- ITS FALSE NEIGHBOUR: 'it returns false'. Refute it at one input. -/
def fsmPlaysWrong : ChangeSpec := { name := "fsmPlays", fn := fun _ => fun
  | [d1, d2, d3] => { results := [.lit (.bool false)], args := [d1, d2, d3] }
  | _ => none }
def FsmPlaysWrongFalsely : Prop := fsmPlaysRow.holds Try.pinned (OpenSpec.ofChange fsmPlaysWrong)

/-- 'heraldlaw20.FsmKnown': WHATEVER THE INPUT: true; the input reads as it did. -/
def fsmKnownSpec : ChangeSpec := { name := "fsmKnown", fn := fun _ => fun
  | [] => { results := [.lit (.bool true)], args := [] }
  | _ => none }
def fsmKnownRow : OpenClaim := { program := "ytnbopmpbgopafaa", sum := "bf98a0c7c7ae5a076875f3ad1d398dc1ad3827449e46dbf08c8d521d15211b55", func := "herald/heraldlaw20.FsmKnown", spec := "fsmKnown", unfollowed := true, recurses := true, plainKeys := false, apart := false }
def FsmKnownSaid : Prop := fsmKnownRow.holds Try.pinned (OpenSpec.ofChange fsmKnownSpec)

/-- ITS FALSE NEIGHBOUR: 'it returns false'. Refute it at one input. -/
def fsmKnownWrong : ChangeSpec := { name := "fsmKnown", fn := fun _ => fun
  | [] => { results := [.lit (.bool false)], args := [] }
  | _ => none }
def FsmKnownWrongFalsely : Prop := fsmKnownRow.holds Try.pinned (OpenSpec.ofChange fsmKnownWrong)

/- THE SECOND FORM. 'bulk': how many values and letters a reading holds, each counted each time it is reached (what is shared counts as often as it is met; a slice's spare places count too). A statement '..UptoSaid' is the law's where the arguments, and the package variables that the reading takes, are together of bulk at most 1048576: NARROWER than '..Said'. Prove '..Said' where nothing that the law and all that it calls make is longer than what came in: it says more and counts as full. Else prove '..UptoSaid'. A law counts once. -/
mutual
def uptoBulk {H : Type} : DataW H → Nat
  | .lit (.string bytes) => bytes.length + 1
  | .lit _ => 1
  | .nil => 1
  | .ptr d => uptoBulk d + 1
  | .slice elems spare => uptoBulkAll elems + uptoBulkAll spare + 1
  | .agg parts => uptoBulkAll parts + 1
  | .iface _ d => uptoBulk d + 1
  | .map entries => uptoBulkEntries entries + 1
  | .held _ => 1
def uptoBulkAll {H : Type} : List (DataW H) → Nat
  | [] => 0
  | d :: r => uptoBulk d + uptoBulkAll r
def uptoBulkEntries {H : Type} : List (Lit × DataW H) → Nat
  | [] => 0
  | x :: r => uptoBulkEntry x + uptoBulkEntries r
def uptoBulkEntry {H : Type} : Lit × DataW H → Nat
  | (.string bytes, d) => bytes.length + uptoBulk d + 1
  | (_, d) => uptoBulk d + 1
 end
def uptoSmall : (H : Type) → List (DataW H) → Bool := fun _ ds => decide (uptoBulkAll ds ≤ 1048576)
def OpenSpec.upto (s : _root_.Go.ChangeSpec) : _root_.Go.OpenSpec := { _root_.Go.OpenSpec.ofChange s with cond := some uptoSmall }

/-- 'heraldlaw20.FsmStops', WHERE WHAT IT READS IS OF BULK AT MOST 1048576: true; the input reads as it did. -/
def fsmStopsUptoRow : OpenClaim := { program := "ytnbopmpbgopafaa", sum := "bf98a0c7c7ae5a076875f3ad1d398dc1ad3827449e46dbf08c8d521d15211b55", func := "herald/heraldlaw20.FsmStops", spec := "fsmStops", unfollowed := true, recurses := true, plainKeys := false, apart := false, narrowed := true }
def FsmStopsUptoSaid : Prop := fsmStopsUptoRow.holds Try.pinned (OpenSpec.upto fsmStopsSpec)

/-- 'heraldlaw20.FsmUpDown', WHERE WHAT IT READS IS OF BULK AT MOST 1048576: true; the input reads as it did. -/
def fsmUpDownUptoRow : OpenClaim := { program := "ytnbopmpbgopafaa", sum := "bf98a0c7c7ae5a076875f3ad1d398dc1ad3827449e46dbf08c8d521d15211b55", func := "herald/heraldlaw20.FsmUpDown", spec := "fsmUpDown", unfollowed := true, recurses := true, plainKeys := false, apart := false, narrowed := true }
def FsmUpDownUptoSaid : Prop := fsmUpDownUptoRow.holds Try.pinned (OpenSpec.upto fsmUpDownSpec)

/-- 'heraldlaw20.FsmPlays', WHERE WHAT IT READS IS OF BULK AT MOST 1048576: true; the input reads as it did. -/
def fsmPlaysUptoRow : OpenClaim := { program := "ytnbopmpbgopafaa", sum := "bf98a0c7c7ae5a076875f3ad1d398dc1ad3827449e46dbf08c8d521d15211b55", func := "herald/heraldlaw20.FsmPlays", spec := "fsmPlays", unfollowed := true, recurses := true, plainKeys := false, apart := false, narrowed := true }
def FsmPlaysUptoSaid : Prop := fsmPlaysUptoRow.holds Try.pinned (OpenSpec.upto fsmPlaysSpec)

/-- 'heraldlaw20.FsmKnown', WHERE WHAT IT READS IS OF BULK AT MOST 1048576: true; the input reads as it did. -/
def fsmKnownUptoRow : OpenClaim := { program := "ytnbopmpbgopafaa", sum := "bf98a0c7c7ae5a076875f3ad1d398dc1ad3827449e46dbf08c8d521d15211b55", func := "herald/heraldlaw20.FsmKnown", spec := "fsmKnown", unfollowed := true, recurses := true, plainKeys := false, apart := false, narrowed := true }
def FsmKnownUptoSaid : Prop := fsmKnownUptoRow.holds Try.pinned (OpenSpec.upto fsmKnownSpec)

end Rows
end Go.Proofs.Ytnbopmpbgopafaa
