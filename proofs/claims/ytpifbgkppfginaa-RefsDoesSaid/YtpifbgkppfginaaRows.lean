/-
  No cell of these rows narrows 'for every input' (looked for: loops, veiled, ifaces, maps, wideKeys, modest, calm, conditions, laid).
  DERIVED. THE GIVEN ROWS OF THIS SEAT. 5 by the template 'for every input the law returns true; each argument reads behind the call as it read before'; 0 by the template 'total and deterministic' (their statements: YtpifbgkppfginaaTotals.lean).
  GIVEN WITH THE SEED: the statements are not yours to turn. If you find one false, say at which input.
  Laid BY PROGRAM, IN A SANDBOX (cutbox-rows.mjs): the forced cells as the released guide's own fill.sh prints them over the translation 7577a72e2aafe692… (all of the seat's roots in one cut). By AI agents, Wed Nov 11 2026. No macro, syntax, notation, axiom, sorry.
-/
import Derived.Test.YtpifbgkppfginaaChecked
import GoSem.Claim
import GoSem.ClaimJoined
import GoSem.ClaimMapViews
import Derived.JoinedTies
import Derived.KernelRfl
namespace Go.Proofs.Ytpifbgkppfginaa
/- THE CELL 'sum', in the pinned program and in every row, IS THE sha256 OF THE DUMP (.gsa) THAT YtpifbgkppfginaaProg.lean LOADS. Nothing in Lean hashes anything: it is a label: what it is worth is what the hold of that sum in a sandbox is worth. -/
noncomputable def Try.pinned : Pinned := { name := "ytpifbgkppfginaa", sum := "7577a72e2aafe69252905219d1ba27e91a8c5516f5f1dce209a5dea761248878", checked := Try.checked }
namespace Rows
def none {H : Type} : Left H := { results := [], args := [] }

/-- 'storagebarterlaw09.RefsAgain': WHATEVER THE INPUT: true; the input reads as it did. -/
def refsAgainSpec : ChangeSpec := { name := "refsAgain", fn := fun _ => fun
  | [d1, d2] => { results := [.lit (.bool true)], args := [d1, d2] }
  | _ => none }
def refsAgainRow : OpenClaim := { program := "ytpifbgkppfginaa", sum := "7577a72e2aafe69252905219d1ba27e91a8c5516f5f1dce209a5dea761248878", func := "storagebarter/storagebarterlaw09.RefsAgain", spec := "refsAgain", inPlace := ["slices.overlaps[storagebarter/api.Row]"], unfollowed := true, recurses := true, apart := false }
def RefsAgainSaid : Prop := refsAgainRow.holds Try.pinned (OpenSpec.ofChange refsAgainSpec)

/-- ITS FALSE NEIGHBOUR: 'it returns false'. Refute it at one input. -/
def refsAgainWrong : ChangeSpec := { name := "refsAgain", fn := fun _ => fun
  | [d1, d2] => { results := [.lit (.bool false)], args := [d1, d2] }
  | _ => none }
def RefsAgainWrongFalsely : Prop := refsAgainRow.holds Try.pinned (OpenSpec.ofChange refsAgainWrong)

/-- 'storagebarterlaw09.RefsBack': WHATEVER THE INPUT: true; the input reads as it did. -/
def refsBackSpec : ChangeSpec := { name := "refsBack", fn := fun _ => fun
  | [d1, d2] => { results := [.lit (.bool true)], args := [d1, d2] }
  | _ => none }
def refsBackRow : OpenClaim := { program := "ytpifbgkppfginaa", sum := "7577a72e2aafe69252905219d1ba27e91a8c5516f5f1dce209a5dea761248878", func := "storagebarter/storagebarterlaw09.RefsBack", spec := "refsBack", inPlace := ["slices.overlaps[storagebarter/api.Row]"], unfollowed := true, recurses := true, apart := false }
def RefsBackSaid : Prop := refsBackRow.holds Try.pinned (OpenSpec.ofChange refsBackSpec)

/-- ITS FALSE NEIGHBOUR: 'it returns false'. Refute it at one input. -/
def refsBackWrong : ChangeSpec := { name := "refsBack", fn := fun _ => fun
  | [d1, d2] => { results := [.lit (.bool false)], args := [d1, d2] }
  | _ => none }
def RefsBackWrongFalsely : Prop := refsBackRow.holds Try.pinned (OpenSpec.ofChange refsBackWrong)

/-- 'storagebarterlaw09.RefsOrder': WHATEVER THE INPUT: true; the input reads as it did. -/
def refsOrderSpec : ChangeSpec := { name := "refsOrder", fn := fun _ => fun
  | [d] => { results := [.lit (.bool true)], args := [d] }
  | _ => none }
def refsOrderRow : OpenClaim := { program := "ytpifbgkppfginaa", sum := "7577a72e2aafe69252905219d1ba27e91a8c5516f5f1dce209a5dea761248878", func := "storagebarter/storagebarterlaw09.RefsOrder", spec := "refsOrder", inPlace := ["slices.overlaps[storagebarter/api.Row]"], unfollowed := true, recurses := true, apart := false }
def RefsOrderSaid : Prop := refsOrderRow.holds Try.pinned (OpenSpec.ofChange refsOrderSpec)

/-- ITS FALSE NEIGHBOUR: 'it returns false'. Refute it at one input. -/
def refsOrderWrong : ChangeSpec := { name := "refsOrder", fn := fun _ => fun
  | [d] => { results := [.lit (.bool false)], args := [d] }
  | _ => none }
def RefsOrderWrongFalsely : Prop := refsOrderRow.holds Try.pinned (OpenSpec.ofChange refsOrderWrong)

/-- 'storagebarterlaw09.RefsCounts': WHATEVER THE INPUT: true; the input reads as it did. -/
def refsCountsSpec : ChangeSpec := { name := "refsCounts", fn := fun _ => fun
  | [d] => { results := [.lit (.bool true)], args := [d] }
  | _ => none }
def refsCountsRow : OpenClaim := { program := "ytpifbgkppfginaa", sum := "7577a72e2aafe69252905219d1ba27e91a8c5516f5f1dce209a5dea761248878", func := "storagebarter/storagebarterlaw09.RefsCounts", spec := "refsCounts", inPlace := ["slices.overlaps[storagebarter/api.Row]"], unfollowed := true, recurses := true, apart := false }
def RefsCountsSaid : Prop := refsCountsRow.holds Try.pinned (OpenSpec.ofChange refsCountsSpec)

/-- ITS FALSE NEIGHBOUR: 'it returns false'. Refute it at one input. -/
def refsCountsWrong : ChangeSpec := { name := "refsCounts", fn := fun _ => fun
  | [d] => { results := [.lit (.bool false)], args := [d] }
  | _ => none }
def RefsCountsWrongFalsely : Prop := refsCountsRow.holds Try.pinned (OpenSpec.ofChange refsCountsWrong)

/-- 'storagebarterlaw09.RefsDoes': WHATEVER THE INPUT: true; the input reads as it did. -/
def refsDoesSpec : ChangeSpec := { name := "refsDoes", fn := fun _ => fun
  | [d1, d2, d3, d4, d5] => { results := [.lit (.bool true)], args := [d1, d2, d3, d4, d5] }
  | _ => none }
def refsDoesRow : OpenClaim := { program := "ytpifbgkppfginaa", sum := "7577a72e2aafe69252905219d1ba27e91a8c5516f5f1dce209a5dea761248878", func := "storagebarter/storagebarterlaw09.RefsDoes", spec := "refsDoes", inPlace := ["slices.overlaps[storagebarter/api.Row]"], unfollowed := true, recurses := true, apart := false }
def RefsDoesSaid : Prop := refsDoesRow.holds Try.pinned (OpenSpec.ofChange refsDoesSpec)

/-- ITS FALSE NEIGHBOUR: 'it returns false'. Refute it at one input. -/
def refsDoesWrong : ChangeSpec := { name := "refsDoes", fn := fun _ => fun
  | [d1, d2, d3, d4, d5] => { results := [.lit (.bool false)], args := [d1, d2, d3, d4, d5] }
  | _ => none }
def RefsDoesWrongFalsely : Prop := refsDoesRow.holds Try.pinned (OpenSpec.ofChange refsDoesWrong)

/- THE SECOND FORM. 'bulk': how many values and letters a reading holds, each counted each time it is reached (what is shared counts as often as it is met; a slice's spare places count too). A statement '..UptoSaid' is the law's where the arguments, and the package variables that the reading takes, are together of bulk at most 1048576: NARROWER than '..Said'. Prove '..Said' where nothing that the law and all that it calls make is longer than what came in: it says more and counts as full. Else prove '..UptoSaid'. A law counts once. -/
mutual
def uptoBulk {H : Type} : DataW H → Nat
  | .lit (.string bytes) => bytes.length + 1
  | .lit _ => 1
  | .nil => 1
  | .ptr d => uptoBulk d + 1
  | .slice elems spare => uptoBulkAll elems + uptoBulkAll spare + 1
  | .agg parts => uptoBulkAll parts + 1
  | .iface _ d => uptoBulk d + 1
  | .map entries => uptoBulkEntries entries + 1
  | .held _ => 1
def uptoBulkAll {H : Type} : List (DataW H) → Nat
  | [] => 0
  | d :: r => uptoBulk d + uptoBulkAll r
def uptoBulkEntries {H : Type} : List (Lit × DataW H) → Nat
  | [] => 0
  | x :: r => uptoBulkEntry x + uptoBulkEntries r
def uptoBulkEntry {H : Type} : Lit × DataW H → Nat
  | (.string bytes, d) => bytes.length + uptoBulk d + 1
  | (_, d) => uptoBulk d + 1
 end
def uptoSmall : (H : Type) → List (DataW H) → Bool := fun _ ds => decide (uptoBulkAll ds ≤ 1048576)
def OpenSpec.upto (s : _root_.Go.ChangeSpec) : _root_.Go.OpenSpec := { _root_.Go.OpenSpec.ofChange s with cond := some uptoSmall }

/-- 'storagebarterlaw09.RefsAgain', WHERE WHAT IT READS IS OF BULK AT MOST 1048576: true; the input reads as it did. -/
def refsAgainUptoRow : OpenClaim := { program := "ytpifbgkppfginaa", sum := "7577a72e2aafe69252905219d1ba27e91a8c5516f5f1dce209a5dea761248878", func := "storagebarter/storagebarterlaw09.RefsAgain", spec := "refsAgain", inPlace := ["slices.overlaps[storagebarter/api.Row]"], unfollowed := true, recurses := true, apart := false, narrowed := true }
def RefsAgainUptoSaid : Prop := refsAgainUptoRow.holds Try.pinned (OpenSpec.upto refsAgainSpec)

/-- 'storagebarterlaw09.RefsBack', WHERE WHAT IT READS IS OF BULK AT MOST 1048576: true; the input reads as it did. -/
def refsBackUptoRow : OpenClaim := { program := "ytpifbgkppfginaa", sum := "7577a72e2aafe69252905219d1ba27e91a8c5516f5f1dce209a5dea761248878", func := "storagebarter/storagebarterlaw09.RefsBack", spec := "refsBack", inPlace := ["slices.overlaps[storagebarter/api.Row]"], unfollowed := true, recurses := true, apart := false, narrowed := true }
def RefsBackUptoSaid : Prop := refsBackUptoRow.holds Try.pinned (OpenSpec.upto refsBackSpec)

/-- 'storagebarterlaw09.RefsOrder', WHERE WHAT IT READS IS OF BULK AT MOST 1048576: true; the input reads as it did. -/
def refsOrderUptoRow : OpenClaim := { program := "ytpifbgkppfginaa", sum := "7577a72e2aafe69252905219d1ba27e91a8c5516f5f1dce209a5dea761248878", func := "storagebarter/storagebarterlaw09.RefsOrder", spec := "refsOrder", inPlace := ["slices.overlaps[storagebarter/api.Row]"], unfollowed := true, recurses := true, apart := false, narrowed := true }
def RefsOrderUptoSaid : Prop := refsOrderUptoRow.holds Try.pinned (OpenSpec.upto refsOrderSpec)

/-- 'storagebarterlaw09.RefsCounts', WHERE WHAT IT READS IS OF BULK AT MOST 1048576: true; the input reads as it did. -/
def refsCountsUptoRow : OpenClaim := { program := "ytpifbgkppfginaa", sum := "7577a72e2aafe69252905219d1ba27e91a8c5516f5f1dce209a5dea761248878", func := "storagebarter/storagebarterlaw09.RefsCounts", spec := "refsCounts", inPlace := ["slices.overlaps[storagebarter/api.Row]"], unfollowed := true, recurses := true, apart := false, narrowed := true }
def RefsCountsUptoSaid : Prop := refsCountsUptoRow.holds Try.pinned (OpenSpec.upto refsCountsSpec)

/-- 'storagebarterlaw09.RefsDoes', WHERE WHAT IT READS IS OF BULK AT MOST 1048576: true; the input reads as it did. -/
def refsDoesUptoRow : OpenClaim := { program := "ytpifbgkppfginaa", sum := "7577a72e2aafe69252905219d1ba27e91a8c5516f5f1dce209a5dea761248878", func := "storagebarter/storagebarterlaw09.RefsDoes", spec := "refsDoes", inPlace := ["slices.overlaps[storagebarter/api.Row]"], unfollowed := true, recurses := true, apart := false, narrowed := true }
def RefsDoesUptoSaid : Prop := refsDoesUptoRow.holds Try.pinned (OpenSpec.upto refsDoesSpec)

end Rows
end Go.Proofs.Ytpifbgkppfginaa
