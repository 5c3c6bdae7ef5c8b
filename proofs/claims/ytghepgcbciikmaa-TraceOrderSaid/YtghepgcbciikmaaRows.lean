/-
  No cell of these rows narrows 'for every input' (looked for: loops, veiled, ifaces, maps, wideKeys, modest, calm, conditions, laid).
  DERIVED. THE GIVEN ROWS OF THIS SEAT. 4 by the template 'for every input the law returns true; each argument reads behind the call as it read before'; 0 by the template 'total and deterministic' (their statements: YtghepgcbciikmaaTotals.lean).
  GIVEN WITH THE SEED: the statements are not yours to turn. If you find one false, say at which input.
  Laid BY PROGRAM, IN A SANDBOX (cutbox-rows.mjs): the forced cells as the released guide's own fill.sh prints them over the translation cdd3161f22e6b472… (all of the seat's roots in one cut). By AI agents, Wed Nov 11 2026. No macro, syntax, notation, axiom, sorry.
-/
import Derived.Test.YtghepgcbciikmaaChecked
import GoSem.Claim
import GoSem.ClaimJoined
import GoSem.ClaimMapViews
import Derived.JoinedTies
import Derived.KernelRfl
namespace Go.Proofs.Ytghepgcbciikmaa
/- THE CELL 'sum', in the pinned program and in every row, IS THE sha256 OF THE DUMP (.gsa) THAT YtghepgcbciikmaaProg.lean LOADS. Nothing in Lean hashes anything: it is a label: what it is worth is what the hold of that sum in a sandbox is worth. -/
noncomputable def Try.pinned : Pinned := { name := "ytghepgcbciikmaa", sum := "cdd3161f22e6b472c0de4f12c632abd9ecc8f70d0fef567787124a9f450a5454", checked := Try.checked }
namespace Rows
def none {H : Type} : Left H := { results := [], args := [] }

/-- 'storagebarterlaw19.TraceOrder': WHATEVER THE INPUT: true; the input reads as it did. -/
def traceOrderSpec : ChangeSpec := { name := "traceOrder", fn := fun _ => fun
  | [d] => { results := [.lit (.bool true)], args := [d] }
  | _ => none }
def traceOrderRow : OpenClaim := { program := "ytghepgcbciikmaa", sum := "cdd3161f22e6b472c0de4f12c632abd9ecc8f70d0fef567787124a9f450a5454", func := "storagebarter/storagebarterlaw19.TraceOrder", spec := "traceOrder", inPlace := ["slices.overlaps[storagebarter/api.Expectation]"], unfollowed := true, recurses := true, plainKeys := false, apart := false }
def TraceOrderSaid : Prop := traceOrderRow.holds Try.pinned (OpenSpec.ofChange traceOrderSpec)

/-- ITS FALSE NEIGHBOUR: 'it returns false'. Refute it at one input. -/
def traceOrderWrong : ChangeSpec := { name := "traceOrder", fn := fun _ => fun
  | [d] => { results := [.lit (.bool false)], args := [d] }
  | _ => none }
def TraceOrderWrongFalsely : Prop := traceOrderRow.holds Try.pinned (OpenSpec.ofChange traceOrderWrong)

/-- 'storagebarterlaw19.TraceCounts': WHATEVER THE INPUT: true; the input reads as it did. -/
def traceCountsSpec : ChangeSpec := { name := "traceCounts", fn := fun _ => fun
  | [d1, d2] => { results := [.lit (.bool true)], args := [d1, d2] }
  | _ => none }
def traceCountsRow : OpenClaim := { program := "ytghepgcbciikmaa", sum := "cdd3161f22e6b472c0de4f12c632abd9ecc8f70d0fef567787124a9f450a5454", func := "storagebarter/storagebarterlaw19.TraceCounts", spec := "traceCounts", inPlace := ["slices.overlaps[storagebarter/api.Expectation]"], unfollowed := true, recurses := true, plainKeys := false, apart := false }
def TraceCountsSaid : Prop := traceCountsRow.holds Try.pinned (OpenSpec.ofChange traceCountsSpec)

/-- ITS FALSE NEIGHBOUR: 'it returns false'. Refute it at one input. -/
def traceCountsWrong : ChangeSpec := { name := "traceCounts", fn := fun _ => fun
  | [d1, d2] => { results := [.lit (.bool false)], args := [d1, d2] }
  | _ => none }
def TraceCountsWrongFalsely : Prop := traceCountsRow.holds Try.pinned (OpenSpec.ofChange traceCountsWrong)

/-- 'storagebarterlaw19.TraceClears': WHATEVER THE INPUT: true; the input reads as it did. -/
def traceClearsSpec : ChangeSpec := { name := "traceClears", fn := fun _ => fun
  | [d1, d2] => { results := [.lit (.bool true)], args := [d1, d2] }
  | _ => none }
def traceClearsRow : OpenClaim := { program := "ytghepgcbciikmaa", sum := "cdd3161f22e6b472c0de4f12c632abd9ecc8f70d0fef567787124a9f450a5454", func := "storagebarter/storagebarterlaw19.TraceClears", spec := "traceClears", inPlace := ["slices.overlaps[storagebarter/api.Expectation]"], unfollowed := true, recurses := true, plainKeys := false, apart := false }
def TraceClearsSaid : Prop := traceClearsRow.holds Try.pinned (OpenSpec.ofChange traceClearsSpec)

/-- ITS FALSE NEIGHBOUR: 'it returns false'. Refute it at one input. -/
def traceClearsWrong : ChangeSpec := { name := "traceClears", fn := fun _ => fun
  | [d1, d2] => { results := [.lit (.bool false)], args := [d1, d2] }
  | _ => none }
def TraceClearsWrongFalsely : Prop := traceClearsRow.holds Try.pinned (OpenSpec.ofChange traceClearsWrong)

/-- 'storagebarterlaw19.TraceDoes': WHATEVER THE INPUT: true; the input reads as it did. -/
def traceDoesSpec : ChangeSpec := { name := "traceDoes", fn := fun _ => fun
  | [d1, d2, d3, d4] => { results := [.lit (.bool true)], args := [d1, d2, d3, d4] }
  | _ => none }
def traceDoesRow : OpenClaim := { program := "ytghepgcbciikmaa", sum := "cdd3161f22e6b472c0de4f12c632abd9ecc8f70d0fef567787124a9f450a5454", func := "storagebarter/storagebarterlaw19.TraceDoes", spec := "traceDoes", inPlace := ["slices.overlaps[storagebarter/api.Expectation]"], unfollowed := true, recurses := true, plainKeys := false, apart := false }
def TraceDoesSaid : Prop := traceDoesRow.holds Try.pinned (OpenSpec.ofChange traceDoesSpec)

/-- ITS FALSE NEIGHBOUR: 'it returns false'. Refute it at one input. -/
def traceDoesWrong : ChangeSpec := { name := "traceDoes", fn := fun _ => fun
  | [d1, d2, d3, d4] => { results := [.lit (.bool false)], args := [d1, d2, d3, d4] }
  | _ => none }
def TraceDoesWrongFalsely : Prop := traceDoesRow.holds Try.pinned (OpenSpec.ofChange traceDoesWrong)

/- THE SECOND FORM. 'bulk': how many values and letters a reading holds, each counted each time it is reached (what is shared counts as often as it is met; a slice's spare places count too). A statement '..UptoSaid' is the law's where the arguments, and the package variables that the reading takes, are together of bulk at most 1048576: NARROWER than '..Said'. Prove '..Said' where nothing that the law and all that it calls make is longer than what came in: it says more and counts as full. Else prove '..UptoSaid'. A law counts once. -/
mutual
def uptoBulk {H : Type} : DataW H → Nat
  | .lit (.string bytes) => bytes.length + 1
  | .lit _ => 1
  | .nil => 1
  | .ptr d => uptoBulk d + 1
  | .slice elems spare => uptoBulkAll elems + uptoBulkAll spare + 1
  | .agg parts => uptoBulkAll parts + 1
  | .iface _ d => uptoBulk d + 1
  | .map entries => uptoBulkEntries entries + 1
  | .held _ => 1
def uptoBulkAll {H : Type} : List (DataW H) → Nat
  | [] => 0
  | d :: r => uptoBulk d + uptoBulkAll r
def uptoBulkEntries {H : Type} : List (Lit × DataW H) → Nat
  | [] => 0
  | x :: r => uptoBulkEntry x + uptoBulkEntries r
def uptoBulkEntry {H : Type} : Lit × DataW H → Nat
  | (.string bytes, d) => bytes.length + uptoBulk d + 1
  | (_, d) => uptoBulk d + 1
 end
def uptoSmall : (H : Type) → List (DataW H) → Bool := fun _ ds => decide (uptoBulkAll ds ≤ 1048576)
def OpenSpec.upto (s : _root_.Go.ChangeSpec) : _root_.Go.OpenSpec := { _root_.Go.OpenSpec.ofChange s with cond := some uptoSmall }

/-- 'storagebarterlaw19.TraceOrder', WHERE WHAT IT READS IS OF BULK AT MOST 1048576: true; the input reads as it did. -/
def traceOrderUptoRow : OpenClaim := { program := "ytghepgcbciikmaa", sum := "cdd3161f22e6b472c0de4f12c632abd9ecc8f70d0fef567787124a9f450a5454", func := "storagebarter/storagebarterlaw19.TraceOrder", spec := "traceOrder", inPlace := ["slices.overlaps[storagebarter/api.Expectation]"], unfollowed := true, recurses := true, plainKeys := false, apart := false, narrowed := true }
def TraceOrderUptoSaid : Prop := traceOrderUptoRow.holds Try.pinned (OpenSpec.upto traceOrderSpec)

/-- 'storagebarterlaw19.TraceCounts', WHERE WHAT IT READS IS OF BULK AT MOST 1048576: true; the input reads as it did. -/
def traceCountsUptoRow : OpenClaim := { program := "ytghepgcbciikmaa", sum := "cdd3161f22e6b472c0de4f12c632abd9ecc8f70d0fef567787124a9f450a5454", func := "storagebarter/storagebarterlaw19.TraceCounts", spec := "traceCounts", inPlace := ["slices.overlaps[storagebarter/api.Expectation]"], unfollowed := true, recurses := true, plainKeys := false, apart := false, narrowed := true }
def TraceCountsUptoSaid : Prop := traceCountsUptoRow.holds Try.pinned (OpenSpec.upto traceCountsSpec)

/-- 'storagebarterlaw19.TraceClears', WHERE WHAT IT READS IS OF BULK AT MOST 1048576: true; the input reads as it did. -/
def traceClearsUptoRow : OpenClaim := { program := "ytghepgcbciikmaa", sum := "cdd3161f22e6b472c0de4f12c632abd9ecc8f70d0fef567787124a9f450a5454", func := "storagebarter/storagebarterlaw19.TraceClears", spec := "traceClears", inPlace := ["slices.overlaps[storagebarter/api.Expectation]"], unfollowed := true, recurses := true, plainKeys := false, apart := false, narrowed := true }
def TraceClearsUptoSaid : Prop := traceClearsUptoRow.holds Try.pinned (OpenSpec.upto traceClearsSpec)

/-- 'storagebarterlaw19.TraceDoes', WHERE WHAT IT READS IS OF BULK AT MOST 1048576: true; the input reads as it did. -/
def traceDoesUptoRow : OpenClaim := { program := "ytghepgcbciikmaa", sum := "cdd3161f22e6b472c0de4f12c632abd9ecc8f70d0fef567787124a9f450a5454", func := "storagebarter/storagebarterlaw19.TraceDoes", spec := "traceDoes", inPlace := ["slices.overlaps[storagebarter/api.Expectation]"], unfollowed := true, recurses := true, plainKeys := false, apart := false, narrowed := true }
def TraceDoesUptoSaid : Prop := traceDoesUptoRow.holds Try.pinned (OpenSpec.upto traceDoesSpec)

end Rows
end Go.Proofs.Ytghepgcbciikmaa
