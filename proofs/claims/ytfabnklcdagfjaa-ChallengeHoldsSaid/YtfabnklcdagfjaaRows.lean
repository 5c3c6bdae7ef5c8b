/-
  No cell of these rows narrows 'for every input' (looked for: loops, veiled, ifaces, maps, wideKeys, modest, calm, conditions, laid).
  DERIVED. THE GIVEN ROWS OF THIS SEAT. 4 by the template 'for every input the law returns true; each argument reads behind the call as it read before'; 0 by the template 'total and deterministic' (their statements: YtfabnklcdagfjaaTotals.lean).
  GIVEN WITH THE SEED: the statements are not yours to turn. If you find one false, say at which input.
  Laid BY PROGRAM, IN A SANDBOX (cutbox-rows.mjs): the forced cells as the released guide's own fill.sh prints them over the translation e01a5550e2b9f7f9… (all of the seat's roots in one cut). By AI agents, Wed Nov 11 2026. No macro, syntax, notation, axiom, sorry.
-/
import Derived.Test.YtfabnklcdagfjaaChecked
import GoSem.Claim
import GoSem.ClaimJoined
import GoSem.ClaimMapViews
import Derived.JoinedTies
import Derived.KernelRfl
namespace Go.Proofs.Ytfabnklcdagfjaa
/- THE CELL 'sum', in the pinned program and in every row, IS THE sha256 OF THE DUMP (.gsa) THAT YtfabnklcdagfjaaProg.lean LOADS. Nothing in Lean hashes anything: it is a label: what it is worth is what the hold of that sum in a sandbox is worth. -/
noncomputable def Try.pinned : Pinned := { name := "ytfabnklcdagfjaa", sum := "e01a5550e2b9f7f98f88ff6116292e6486923ca693abe5634fdc9b5e65949ff5", checked := Try.checked }
namespace Rows
def none {H : Type} : Left H := { results := [], args := [] }

/-- 'storagebarterlaw20.ChallengeHolds': WHATEVER THE INPUT: true; the input reads as it did. -/
def challengeHoldsSpec : ChangeSpec := { name := "challengeHolds", fn := fun _ => fun
  | [d1, d2, d3, d4] => { results := [.lit (.bool true)], args := [d1, d2, d3, d4] }
  | _ => none }
def challengeHoldsRow : OpenClaim := { program := "ytfabnklcdagfjaa", sum := "e01a5550e2b9f7f98f88ff6116292e6486923ca693abe5634fdc9b5e65949ff5", func := "storagebarter/storagebarterlaw20.ChallengeHolds", spec := "challengeHolds", apart := false }
def ChallengeHoldsSaid : Prop := challengeHoldsRow.holds Try.pinned (OpenSpec.ofChange challengeHoldsSpec)

/-- ITS FALSE NEIGHBOUR: 'it returns false'. Refute it at one input. -/
def challengeHoldsWrong : ChangeSpec := { name := "challengeHolds", fn := fun _ => fun
  | [d1, d2, d3, d4] => { results := [.lit (.bool false)], args := [d1, d2, d3, d4] }
  | _ => none }
def ChallengeHoldsWrongFalsely : Prop := challengeHoldsRow.holds Try.pinned (OpenSpec.ofChange challengeHoldsWrong)

/-- 'storagebarterlaw20.ChallengeOnce': WHATEVER THE INPUT: true; the input reads as it did. -/
def challengeOnceSpec : ChangeSpec := { name := "challengeOnce", fn := fun _ => fun
  | [d] => { results := [.lit (.bool true)], args := [d] }
  | _ => none }
def challengeOnceRow : OpenClaim := { program := "ytfabnklcdagfjaa", sum := "e01a5550e2b9f7f98f88ff6116292e6486923ca693abe5634fdc9b5e65949ff5", func := "storagebarter/storagebarterlaw20.ChallengeOnce", spec := "challengeOnce", apart := false }
def ChallengeOnceSaid : Prop := challengeOnceRow.holds Try.pinned (OpenSpec.ofChange challengeOnceSpec)

/-- ITS FALSE NEIGHBOUR: 'it returns false'. Refute it at one input. -/
def challengeOnceWrong : ChangeSpec := { name := "challengeOnce", fn := fun _ => fun
  | [d] => { results := [.lit (.bool false)], args := [d] }
  | _ => none }
def ChallengeOnceWrongFalsely : Prop := challengeOnceRow.holds Try.pinned (OpenSpec.ofChange challengeOnceWrong)

/-- 'storagebarterlaw20.ChallengeWhole': WHATEVER THE INPUT: true; the input reads as it did. -/
def challengeWholeSpec : ChangeSpec := { name := "challengeWhole", fn := fun _ => fun
  | [d1, d2] => { results := [.lit (.bool true)], args := [d1, d2] }
  | _ => none }
def challengeWholeRow : OpenClaim := { program := "ytfabnklcdagfjaa", sum := "e01a5550e2b9f7f98f88ff6116292e6486923ca693abe5634fdc9b5e65949ff5", func := "storagebarter/storagebarterlaw20.ChallengeWhole", spec := "challengeWhole", apart := false }
def ChallengeWholeSaid : Prop := challengeWholeRow.holds Try.pinned (OpenSpec.ofChange challengeWholeSpec)

/-- ITS FALSE NEIGHBOUR: 'it returns false'. Refute it at one input. -/
def challengeWholeWrong : ChangeSpec := { name := "challengeWhole", fn := fun _ => fun
  | [d1, d2] => { results := [.lit (.bool false)], args := [d1, d2] }
  | _ => none }
def ChallengeWholeWrongFalsely : Prop := challengeWholeRow.holds Try.pinned (OpenSpec.ofChange challengeWholeWrong)

/-- 'storagebarterlaw20.ChallengeDoes': WHATEVER THE INPUT: true; the input reads as it did. -/
def challengeDoesSpec : ChangeSpec := { name := "challengeDoes", fn := fun _ => fun
  | [d1, d2, d3, d4, d5, d6, d7, d8] => { results := [.lit (.bool true)], args := [d1, d2, d3, d4, d5, d6, d7, d8] }
  | _ => none }
def challengeDoesRow : OpenClaim := { program := "ytfabnklcdagfjaa", sum := "e01a5550e2b9f7f98f88ff6116292e6486923ca693abe5634fdc9b5e65949ff5", func := "storagebarter/storagebarterlaw20.ChallengeDoes", spec := "challengeDoes", apart := false }
def ChallengeDoesSaid : Prop := challengeDoesRow.holds Try.pinned (OpenSpec.ofChange challengeDoesSpec)

/-- ITS FALSE NEIGHBOUR: 'it returns false'. Refute it at one input. -/
def challengeDoesWrong : ChangeSpec := { name := "challengeDoes", fn := fun _ => fun
  | [d1, d2, d3, d4, d5, d6, d7, d8] => { results := [.lit (.bool false)], args := [d1, d2, d3, d4, d5, d6, d7, d8] }
  | _ => none }
def ChallengeDoesWrongFalsely : Prop := challengeDoesRow.holds Try.pinned (OpenSpec.ofChange challengeDoesWrong)

/- THE SECOND FORM. 'bulk': how many values and letters a reading holds, each counted each time it is reached (what is shared counts as often as it is met; a slice's spare places count too). A statement '..UptoSaid' is the law's where the arguments, and the package variables that the reading takes, are together of bulk at most 1048576: NARROWER than '..Said'. Prove '..Said' where nothing that the law and all that it calls make is longer than what came in: it says more and counts as full. Else prove '..UptoSaid'. A law counts once. -/
mutual
def uptoBulk {H : Type} : DataW H → Nat
  | .lit (.string bytes) => bytes.length + 1
  | .lit _ => 1
  | .nil => 1
  | .ptr d => uptoBulk d + 1
  | .slice elems spare => uptoBulkAll elems + uptoBulkAll spare + 1
  | .agg parts => uptoBulkAll parts + 1
  | .iface _ d => uptoBulk d + 1
  | .map entries => uptoBulkEntries entries + 1
  | .held _ => 1
def uptoBulkAll {H : Type} : List (DataW H) → Nat
  | [] => 0
  | d :: r => uptoBulk d + uptoBulkAll r
def uptoBulkEntries {H : Type} : List (Lit × DataW H) → Nat
  | [] => 0
  | x :: r => uptoBulkEntry x + uptoBulkEntries r
def uptoBulkEntry {H : Type} : Lit × DataW H → Nat
  | (.string bytes, d) => bytes.length + uptoBulk d + 1
  | (_, d) => uptoBulk d + 1
 end
def uptoSmall : (H : Type) → List (DataW H) → Bool := fun _ ds => decide (uptoBulkAll ds ≤ 1048576)
def OpenSpec.upto (s : _root_.Go.ChangeSpec) : _root_.Go.OpenSpec := { _root_.Go.OpenSpec.ofChange s with cond := some uptoSmall }

/-- 'storagebarterlaw20.ChallengeHolds', WHERE WHAT IT READS IS OF BULK AT MOST 1048576: true; the input reads as it did. -/
def challengeHoldsUptoRow : OpenClaim := { program := "ytfabnklcdagfjaa", sum := "e01a5550e2b9f7f98f88ff6116292e6486923ca693abe5634fdc9b5e65949ff5", func := "storagebarter/storagebarterlaw20.ChallengeHolds", spec := "challengeHolds", apart := false, narrowed := true }
def ChallengeHoldsUptoSaid : Prop := challengeHoldsUptoRow.holds Try.pinned (OpenSpec.upto challengeHoldsSpec)

/-- 'storagebarterlaw20.ChallengeOnce', WHERE WHAT IT READS IS OF BULK AT MOST 1048576: true; the input reads as it did. -/
def challengeOnceUptoRow : OpenClaim := { program := "ytfabnklcdagfjaa", sum := "e01a5550e2b9f7f98f88ff6116292e6486923ca693abe5634fdc9b5e65949ff5", func := "storagebarter/storagebarterlaw20.ChallengeOnce", spec := "challengeOnce", apart := false, narrowed := true }
def ChallengeOnceUptoSaid : Prop := challengeOnceUptoRow.holds Try.pinned (OpenSpec.upto challengeOnceSpec)

/-- 'storagebarterlaw20.ChallengeWhole', WHERE WHAT IT READS IS OF BULK AT MOST 1048576: true; the input reads as it did. -/
def challengeWholeUptoRow : OpenClaim := { program := "ytfabnklcdagfjaa", sum := "e01a5550e2b9f7f98f88ff6116292e6486923ca693abe5634fdc9b5e65949ff5", func := "storagebarter/storagebarterlaw20.ChallengeWhole", spec := "challengeWhole", apart := false, narrowed := true }
def ChallengeWholeUptoSaid : Prop := challengeWholeUptoRow.holds Try.pinned (OpenSpec.upto challengeWholeSpec)

/-- 'storagebarterlaw20.ChallengeDoes', WHERE WHAT IT READS IS OF BULK AT MOST 1048576: true; the input reads as it did. -/
def challengeDoesUptoRow : OpenClaim := { program := "ytfabnklcdagfjaa", sum := "e01a5550e2b9f7f98f88ff6116292e6486923ca693abe5634fdc9b5e65949ff5", func := "storagebarter/storagebarterlaw20.ChallengeDoes", spec := "challengeDoes", apart := false, narrowed := true }
def ChallengeDoesUptoSaid : Prop := challengeDoesUptoRow.holds Try.pinned (OpenSpec.upto challengeDoesSpec)

end Rows
end Go.Proofs.Ytfabnklcdagfjaa
