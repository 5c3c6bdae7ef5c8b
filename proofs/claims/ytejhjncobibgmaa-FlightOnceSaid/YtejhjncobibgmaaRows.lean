/-
  No cell of these rows narrows 'for every input' (looked for: loops, veiled, ifaces, maps, wideKeys, modest, calm, conditions, laid).
  DERIVED. THE GIVEN ROWS OF THIS SEAT. 5 by the template 'for every input the law returns true; each argument reads behind the call as it read before'; 0 by the template 'total and deterministic' (their statements: YtejhjncobibgmaaTotals.lean).
  GIVEN WITH THE SEED: the statements are not yours to turn. If you find one false, say at which input.
  Laid BY PROGRAM, IN A SANDBOX (cutbox-rows.mjs): the forced cells as the released guide's own fill.sh prints them over the translation 11c53e661f7b4c94… (all of the seat's roots in one cut). By AI agents, Wed Nov 11 2026. No macro, syntax, notation, axiom, sorry.
-/
import Derived.Test.YtejhjncobibgmaaChecked
import GoSem.Claim
import GoSem.ClaimJoined
import GoSem.ClaimMapViews
import Derived.JoinedTies
import Derived.KernelRfl
namespace Go.Proofs.Ytejhjncobibgmaa
/- THE CELL 'sum', in the pinned program and in every row, IS THE sha256 OF THE DUMP (.gsa) THAT YtejhjncobibgmaaProg.lean LOADS. Nothing in Lean hashes anything: it is a label: what it is worth is what the hold of that sum in a sandbox is worth. -/
noncomputable def Try.pinned : Pinned := { name := "ytejhjncobibgmaa", sum := "11c53e661f7b4c94d9b164e6475c75af1881ed5ac642bdd3b2fee62c81b734af", checked := Try.checked }
namespace Rows
def none {H : Type} : Left H := { results := [], args := [] }

/-- 'storagebarterlaw27.FlightFull': WHATEVER THE INPUT: true; the input reads as it did. -/
def flightFullSpec : ChangeSpec := { name := "flightFull", fn := fun _ => fun
  | [d] => { results := [.lit (.bool true)], args := [d] }
  | _ => none }
def flightFullRow : OpenClaim := { program := "ytejhjncobibgmaa", sum := "11c53e661f7b4c94d9b164e6475c75af1881ed5ac642bdd3b2fee62c81b734af", func := "storagebarter/storagebarterlaw27.FlightFull", spec := "flightFull", inPlace := ["slices.overlaps[storagebarter/api.Parcel]"], unfollowed := true, recurses := true, apart := false }
def FlightFullSaid : Prop := flightFullRow.holds Try.pinned (OpenSpec.ofChange flightFullSpec)

/-- ITS FALSE NEIGHBOUR: 'it returns false'. Refute it at one input. -/
def flightFullWrong : ChangeSpec := { name := "flightFull", fn := fun _ => fun
  | [d] => { results := [.lit (.bool false)], args := [d] }
  | _ => none }
def FlightFullWrongFalsely : Prop := flightFullRow.holds Try.pinned (OpenSpec.ofChange flightFullWrong)

/-- 'storagebarterlaw27.FlightOnce': WHATEVER THE INPUT: true; the input reads as it did. -/
def flightOnceSpec : ChangeSpec := { name := "flightOnce", fn := fun _ => fun
  | [d] => { results := [.lit (.bool true)], args := [d] }
  | _ => none }
def flightOnceRow : OpenClaim := { program := "ytejhjncobibgmaa", sum := "11c53e661f7b4c94d9b164e6475c75af1881ed5ac642bdd3b2fee62c81b734af", func := "storagebarter/storagebarterlaw27.FlightOnce", spec := "flightOnce", inPlace := ["slices.overlaps[storagebarter/api.Parcel]"], unfollowed := true, recurses := true, apart := false }
def FlightOnceSaid : Prop := flightOnceRow.holds Try.pinned (OpenSpec.ofChange flightOnceSpec)

/-- ITS FALSE NEIGHBOUR: 'it returns false'. Refute it at one input. -/
def flightOnceWrong : ChangeSpec := { name := "flightOnce", fn := fun _ => fun
  | [d] => { results := [.lit (.bool false)], args := [d] }
  | _ => none }
def FlightOnceWrongFalsely : Prop := flightOnceRow.holds Try.pinned (OpenSpec.ofChange flightOnceWrong)

/-- 'storagebarterlaw27.FlightPending': WHATEVER THE INPUT: true; the input reads as it did. -/
def flightPendingSpec : ChangeSpec := { name := "flightPending", fn := fun _ => fun
  | [d] => { results := [.lit (.bool true)], args := [d] }
  | _ => none }
def flightPendingRow : OpenClaim := { program := "ytejhjncobibgmaa", sum := "11c53e661f7b4c94d9b164e6475c75af1881ed5ac642bdd3b2fee62c81b734af", func := "storagebarter/storagebarterlaw27.FlightPending", spec := "flightPending", inPlace := ["slices.overlaps[storagebarter/api.Parcel]"], unfollowed := true, recurses := true, apart := false }
def FlightPendingSaid : Prop := flightPendingRow.holds Try.pinned (OpenSpec.ofChange flightPendingSpec)

/-- ITS FALSE NEIGHBOUR: 'it returns false'. Refute it at one input. -/
def flightPendingWrong : ChangeSpec := { name := "flightPending", fn := fun _ => fun
  | [d] => { results := [.lit (.bool false)], args := [d] }
  | _ => none }
def FlightPendingWrongFalsely : Prop := flightPendingRow.holds Try.pinned (OpenSpec.ofChange flightPendingWrong)

/-- 'storagebarterlaw27.FlightApart': WHATEVER THE INPUT: true; the input reads as it did. -/
def flightApartSpec : ChangeSpec := { name := "flightApart", fn := fun _ => fun
  | [d] => { results := [.lit (.bool true)], args := [d] }
  | _ => none }
def flightApartRow : OpenClaim := { program := "ytejhjncobibgmaa", sum := "11c53e661f7b4c94d9b164e6475c75af1881ed5ac642bdd3b2fee62c81b734af", func := "storagebarter/storagebarterlaw27.FlightApart", spec := "flightApart", inPlace := ["slices.overlaps[storagebarter/api.Parcel]"], unfollowed := true, recurses := true, apart := false }
def FlightApartSaid : Prop := flightApartRow.holds Try.pinned (OpenSpec.ofChange flightApartSpec)

/-- ITS FALSE NEIGHBOUR: 'it returns false'. Refute it at one input. -/
def flightApartWrong : ChangeSpec := { name := "flightApart", fn := fun _ => fun
  | [d] => { results := [.lit (.bool false)], args := [d] }
  | _ => none }
def FlightApartWrongFalsely : Prop := flightApartRow.holds Try.pinned (OpenSpec.ofChange flightApartWrong)

/-- 'storagebarterlaw27.FlightSteps': WHATEVER THE INPUT: true; the input reads as it did. -/
def flightStepsSpec : ChangeSpec := { name := "flightSteps", fn := fun _ => fun
  | [d1, d2, d3, d4, d5, d6, d7] => { results := [.lit (.bool true)], args := [d1, d2, d3, d4, d5, d6, d7] }
  | _ => none }
def flightStepsRow : OpenClaim := { program := "ytejhjncobibgmaa", sum := "11c53e661f7b4c94d9b164e6475c75af1881ed5ac642bdd3b2fee62c81b734af", func := "storagebarter/storagebarterlaw27.FlightSteps", spec := "flightSteps", inPlace := ["slices.overlaps[storagebarter/api.Parcel]"], unfollowed := true, recurses := true, apart := false }
def FlightStepsSaid : Prop := flightStepsRow.holds Try.pinned (OpenSpec.ofChange flightStepsSpec)

/-- ITS FALSE NEIGHBOUR: 'it returns false'. Refute it at one input. -/
def flightStepsWrong : ChangeSpec := { name := "flightSteps", fn := fun _ => fun
  | [d1, d2, d3, d4, d5, d6, d7] => { results := [.lit (.bool false)], args := [d1, d2, d3, d4, d5, d6, d7] }
  | _ => none }
def FlightStepsWrongFalsely : Prop := flightStepsRow.holds Try.pinned (OpenSpec.ofChange flightStepsWrong)

/- THE SECOND FORM. 'bulk': how many values and letters a reading holds, each counted each time it is reached (what is shared counts as often as it is met; a slice's spare places count too). A statement '..UptoSaid' is the law's where the arguments, and the package variables that the reading takes, are together of bulk at most 1048576: NARROWER than '..Said'. Prove '..Said' where nothing that the law and all that it calls make is longer than what came in: it says more and counts as full. Else prove '..UptoSaid'. A law counts once. -/
mutual
def uptoBulk {H : Type} : DataW H → Nat
  | .lit (.string bytes) => bytes.length + 1
  | .lit _ => 1
  | .nil => 1
  | .ptr d => uptoBulk d + 1
  | .slice elems spare => uptoBulkAll elems + uptoBulkAll spare + 1
  | .agg parts => uptoBulkAll parts + 1
  | .iface _ d => uptoBulk d + 1
  | .map entries => uptoBulkEntries entries + 1
  | .held _ => 1
def uptoBulkAll {H : Type} : List (DataW H) → Nat
  | [] => 0
  | d :: r => uptoBulk d + uptoBulkAll r
def uptoBulkEntries {H : Type} : List (Lit × DataW H) → Nat
  | [] => 0
  | x :: r => uptoBulkEntry x + uptoBulkEntries r
def uptoBulkEntry {H : Type} : Lit × DataW H → Nat
  | (.string bytes, d) => bytes.length + uptoBulk d + 1
  | (_, d) => uptoBulk d + 1
 end
def uptoSmall : (H : Type) → List (DataW H) → Bool := fun _ ds => decide (uptoBulkAll ds ≤ 1048576)
def OpenSpec.upto (s : _root_.Go.ChangeSpec) : _root_.Go.OpenSpec := { _root_.Go.OpenSpec.ofChange s with cond := some uptoSmall }

/-- 'storagebarterlaw27.FlightFull', WHERE WHAT IT READS IS OF BULK AT MOST 1048576: true; the input reads as it did. -/
def flightFullUptoRow : OpenClaim := { program := "ytejhjncobibgmaa", sum := "11c53e661f7b4c94d9b164e6475c75af1881ed5ac642bdd3b2fee62c81b734af", func := "storagebarter/storagebarterlaw27.FlightFull", spec := "flightFull", inPlace := ["slices.overlaps[storagebarter/api.Parcel]"], unfollowed := true, recurses := true, apart := false, narrowed := true }
def FlightFullUptoSaid : Prop := flightFullUptoRow.holds Try.pinned (OpenSpec.upto flightFullSpec)

/-- 'storagebarterlaw27.FlightOnce', WHERE WHAT IT READS IS OF BULK AT MOST 1048576: true; the input reads as it did. -/
def flightOnceUptoRow : OpenClaim := { program := "ytejhjncobibgmaa", sum := "11c53e661f7b4c94d9b164e6475c75af1881ed5ac642bdd3b2fee62c81b734af", func := "storagebarter/storagebarterlaw27.FlightOnce", spec := "flightOnce", inPlace := ["slices.overlaps[storagebarter/api.Parcel]"], unfollowed := true, recurses := true, apart := false, narrowed := true }
def FlightOnceUptoSaid : Prop := flightOnceUptoRow.holds Try.pinned (OpenSpec.upto flightOnceSpec)

/-- 'storagebarterlaw27.FlightPending', WHERE WHAT IT READS IS OF BULK AT MOST 1048576: true; the input reads as it did. -/
def flightPendingUptoRow : OpenClaim := { program := "ytejhjncobibgmaa", sum := "11c53e661f7b4c94d9b164e6475c75af1881ed5ac642bdd3b2fee62c81b734af", func := "storagebarter/storagebarterlaw27.FlightPending", spec := "flightPending", inPlace := ["slices.overlaps[storagebarter/api.Parcel]"], unfollowed := true, recurses := true, apart := false, narrowed := true }
def FlightPendingUptoSaid : Prop := flightPendingUptoRow.holds Try.pinned (OpenSpec.upto flightPendingSpec)

/-- 'storagebarterlaw27.FlightApart', WHERE WHAT IT READS IS OF BULK AT MOST 1048576: true; the input reads as it did. -/
def flightApartUptoRow : OpenClaim := { program := "ytejhjncobibgmaa", sum := "11c53e661f7b4c94d9b164e6475c75af1881ed5ac642bdd3b2fee62c81b734af", func := "storagebarter/storagebarterlaw27.FlightApart", spec := "flightApart", inPlace := ["slices.overlaps[storagebarter/api.Parcel]"], unfollowed := true, recurses := true, apart := false, narrowed := true }
def FlightApartUptoSaid : Prop := flightApartUptoRow.holds Try.pinned (OpenSpec.upto flightApartSpec)

/-- 'storagebarterlaw27.FlightSteps', WHERE WHAT IT READS IS OF BULK AT MOST 1048576: true; the input reads as it did. -/
def flightStepsUptoRow : OpenClaim := { program := "ytejhjncobibgmaa", sum := "11c53e661f7b4c94d9b164e6475c75af1881ed5ac642bdd3b2fee62c81b734af", func := "storagebarter/storagebarterlaw27.FlightSteps", spec := "flightSteps", inPlace := ["slices.overlaps[storagebarter/api.Parcel]"], unfollowed := true, recurses := true, apart := false, narrowed := true }
def FlightStepsUptoSaid : Prop := flightStepsUptoRow.holds Try.pinned (OpenSpec.upto flightStepsSpec)

end Rows
end Go.Proofs.Ytejhjncobibgmaa
