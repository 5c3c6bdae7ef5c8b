/-
  No cell of these rows narrows 'for every input' (looked for: loops, veiled, ifaces, maps, wideKeys, modest, calm, conditions, laid).
  DERIVED. THE GIVEN ROWS OF THIS SEAT. 5 by the template 'for every input the law returns true; each argument reads behind the call as it read before'; 0 by the template 'total and deterministic' (their statements: YtkndnbliohkhhaaTotals.lean).
  GIVEN WITH THE SEED: the statements are not yours to turn. If you find one false, say at which input.
  Laid BY PROGRAM, IN A SANDBOX (cutbox-rows.mjs): the forced cells as the released guide's own fill.sh prints them over the translation e54fc5bfac9b2416… (all of the seat's roots in one cut). By AI agents, Wed Nov 11 2026. No macro, syntax, notation, axiom, sorry.
-/
import Derived.Test.YtkndnbliohkhhaaChecked
import GoSem.Claim
import GoSem.ClaimJoined
import GoSem.ClaimMapViews
import Derived.JoinedTies
import Derived.KernelRfl
namespace Go.Proofs.Ytkndnbliohkhhaa
/- THE CELL 'sum', in the pinned program and in every row, IS THE sha256 OF THE DUMP (.gsa) THAT YtkndnbliohkhhaaProg.lean LOADS. Nothing in Lean hashes anything: it is a label: what it is worth is what the hold of that sum in a sandbox is worth. -/
noncomputable def Try.pinned : Pinned := { name := "ytkndnbliohkhhaa", sum := "e54fc5bfac9b2416ac31755d3bf5d087d78499b1609c8e8eabf950d41d5169ba", checked := Try.checked }
namespace Rows
def none {H : Type} : Left H := { results := [], args := [] }

/-- 'storagebarterlaw02.DigestBytes': WHATEVER THE INPUT: true; the input reads as it did. -/
def digestBytesSpec : ChangeSpec := { name := "digestBytes", fn := fun _ => fun
  | [d1, d2, d3, d4] => { results := [.lit (.bool true)], args := [d1, d2, d3, d4] }
  | _ => none }
def digestBytesRow : OpenClaim := { program := "ytkndnbliohkhhaa", sum := "e54fc5bfac9b2416ac31755d3bf5d087d78499b1609c8e8eabf950d41d5169ba", func := "storagebarter/storagebarterlaw02.DigestBytes", spec := "digestBytes", apart := false }
def DigestBytesSaid : Prop := digestBytesRow.holds Try.pinned (OpenSpec.ofChange digestBytesSpec)

/-- ITS FALSE NEIGHBOUR: 'it returns false'. Refute it at one input. -/
def digestBytesWrong : ChangeSpec := { name := "digestBytes", fn := fun _ => fun
  | [d1, d2, d3, d4] => { results := [.lit (.bool false)], args := [d1, d2, d3, d4] }
  | _ => none }
def DigestBytesWrongFalsely : Prop := digestBytesRow.holds Try.pinned (OpenSpec.ofChange digestBytesWrong)

/-- 'storagebarterlaw02.DigestPoints': WHATEVER THE INPUT: true; the input reads as it did. -/
def digestPointsSpec : ChangeSpec := { name := "digestPoints", fn := fun _ => fun
  | [d1, d2, d3] => { results := [.lit (.bool true)], args := [d1, d2, d3] }
  | _ => none }
def digestPointsRow : OpenClaim := { program := "ytkndnbliohkhhaa", sum := "e54fc5bfac9b2416ac31755d3bf5d087d78499b1609c8e8eabf950d41d5169ba", func := "storagebarter/storagebarterlaw02.DigestPoints", spec := "digestPoints", apart := false }
def DigestPointsSaid : Prop := digestPointsRow.holds Try.pinned (OpenSpec.ofChange digestPointsSpec)

/-- ITS FALSE NEIGHBOUR: 'it returns false'. Refute it at one input. -/
def digestPointsWrong : ChangeSpec := { name := "digestPoints", fn := fun _ => fun
  | [d1, d2, d3] => { results := [.lit (.bool false)], args := [d1, d2, d3] }
  | _ => none }
def DigestPointsWrongFalsely : Prop := digestPointsRow.holds Try.pinned (OpenSpec.ofChange digestPointsWrong)

/-- 'storagebarterlaw02.DigestJoins': WHATEVER THE INPUT: true; the input reads as it did. -/
def digestJoinsSpec : ChangeSpec := { name := "digestJoins", fn := fun _ => fun
  | [d1, d2, d3] => { results := [.lit (.bool true)], args := [d1, d2, d3] }
  | _ => none }
def digestJoinsRow : OpenClaim := { program := "ytkndnbliohkhhaa", sum := "e54fc5bfac9b2416ac31755d3bf5d087d78499b1609c8e8eabf950d41d5169ba", func := "storagebarter/storagebarterlaw02.DigestJoins", spec := "digestJoins", apart := false }
def DigestJoinsSaid : Prop := digestJoinsRow.holds Try.pinned (OpenSpec.ofChange digestJoinsSpec)

/-- ITS FALSE NEIGHBOUR: 'it returns false'. Refute it at one input. -/
def digestJoinsWrong : ChangeSpec := { name := "digestJoins", fn := fun _ => fun
  | [d1, d2, d3] => { results := [.lit (.bool false)], args := [d1, d2, d3] }
  | _ => none }
def DigestJoinsWrongFalsely : Prop := digestJoinsRow.holds Try.pinned (OpenSpec.ofChange digestJoinsWrong)

/-- 'storagebarterlaw02.DigestPowers': WHATEVER THE INPUT: true; the input reads as it did. -/
def digestPowersSpec : ChangeSpec := { name := "digestPowers", fn := fun _ => fun
  | [d1, d2, d3, d4, d5, d6] => { results := [.lit (.bool true)], args := [d1, d2, d3, d4, d5, d6] }
  | _ => none }
def digestPowersRow : OpenClaim := { program := "ytkndnbliohkhhaa", sum := "e54fc5bfac9b2416ac31755d3bf5d087d78499b1609c8e8eabf950d41d5169ba", func := "storagebarter/storagebarterlaw02.DigestPowers", spec := "digestPowers", apart := false }
def DigestPowersSaid : Prop := digestPowersRow.holds Try.pinned (OpenSpec.ofChange digestPowersSpec)

/-- ITS FALSE NEIGHBOUR: 'it returns false'. Refute it at one input. -/
def digestPowersWrong : ChangeSpec := { name := "digestPowers", fn := fun _ => fun
  | [d1, d2, d3, d4, d5, d6] => { results := [.lit (.bool false)], args := [d1, d2, d3, d4, d5, d6] }
  | _ => none }
def DigestPowersWrongFalsely : Prop := digestPowersRow.holds Try.pinned (OpenSpec.ofChange digestPowersWrong)

/-- 'storagebarterlaw02.DigestSums': WHATEVER THE INPUT: true; the input reads as it did. -/
def digestSumsSpec : ChangeSpec := { name := "digestSums", fn := fun _ => fun
  | [d1, d2, d3, d4, d5, d6] => { results := [.lit (.bool true)], args := [d1, d2, d3, d4, d5, d6] }
  | _ => none }
def digestSumsRow : OpenClaim := { program := "ytkndnbliohkhhaa", sum := "e54fc5bfac9b2416ac31755d3bf5d087d78499b1609c8e8eabf950d41d5169ba", func := "storagebarter/storagebarterlaw02.DigestSums", spec := "digestSums", unfollowed := true, recurses := true, apart := false }
def DigestSumsSaid : Prop := digestSumsRow.holds Try.pinned (OpenSpec.ofChange digestSumsSpec)

/-- ITS FALSE NEIGHBOUR: 'it returns false'. Refute it at one input. -/
def digestSumsWrong : ChangeSpec := { name := "digestSums", fn := fun _ => fun
  | [d1, d2, d3, d4, d5, d6] => { results := [.lit (.bool false)], args := [d1, d2, d3, d4, d5, d6] }
  | _ => none }
def DigestSumsWrongFalsely : Prop := digestSumsRow.holds Try.pinned (OpenSpec.ofChange digestSumsWrong)

/- THE SECOND FORM. 'bulk': how many values and letters a reading holds, each counted each time it is reached (what is shared counts as often as it is met; a slice's spare places count too). A statement '..UptoSaid' is the law's where the arguments, and the package variables that the reading takes, are together of bulk at most 1048576: NARROWER than '..Said'. Prove '..Said' where nothing that the law and all that it calls make is longer than what came in: it says more and counts as full. Else prove '..UptoSaid'. A law counts once. -/
mutual
def uptoBulk {H : Type} : DataW H → Nat
  | .lit (.string bytes) => bytes.length + 1
  | .lit _ => 1
  | .nil => 1
  | .ptr d => uptoBulk d + 1
  | .slice elems spare => uptoBulkAll elems + uptoBulkAll spare + 1
  | .agg parts => uptoBulkAll parts + 1
  | .iface _ d => uptoBulk d + 1
  | .map entries => uptoBulkEntries entries + 1
  | .held _ => 1
def uptoBulkAll {H : Type} : List (DataW H) → Nat
  | [] => 0
  | d :: r => uptoBulk d + uptoBulkAll r
def uptoBulkEntries {H : Type} : List (Lit × DataW H) → Nat
  | [] => 0
  | x :: r => uptoBulkEntry x + uptoBulkEntries r
def uptoBulkEntry {H : Type} : Lit × DataW H → Nat
  | (.string bytes, d) => bytes.length + uptoBulk d + 1
  | (_, d) => uptoBulk d + 1
 end
def uptoSmall : (H : Type) → List (DataW H) → Bool := fun _ ds => decide (uptoBulkAll ds ≤ 1048576)
def OpenSpec.upto (s : _root_.Go.ChangeSpec) : _root_.Go.OpenSpec := { _root_.Go.OpenSpec.ofChange s with cond := some uptoSmall }

/-- 'storagebarterlaw02.DigestBytes', WHERE WHAT IT READS IS OF BULK AT MOST 1048576: true; the input reads as it did. -/
def digestBytesUptoRow : OpenClaim := { program := "ytkndnbliohkhhaa", sum := "e54fc5bfac9b2416ac31755d3bf5d087d78499b1609c8e8eabf950d41d5169ba", func := "storagebarter/storagebarterlaw02.DigestBytes", spec := "digestBytes", apart := false, narrowed := true }
def DigestBytesUptoSaid : Prop := digestBytesUptoRow.holds Try.pinned (OpenSpec.upto digestBytesSpec)

/-- 'storagebarterlaw02.DigestPoints', WHERE WHAT IT READS IS OF BULK AT MOST 1048576: true; the input reads as it did. -/
def digestPointsUptoRow : OpenClaim := { program := "ytkndnbliohkhhaa", sum := "e54fc5bfac9b2416ac31755d3bf5d087d78499b1609c8e8eabf950d41d5169ba", func := "storagebarter/storagebarterlaw02.DigestPoints", spec := "digestPoints", apart := false, narrowed := true }
def DigestPointsUptoSaid : Prop := digestPointsUptoRow.holds Try.pinned (OpenSpec.upto digestPointsSpec)

/-- 'storagebarterlaw02.DigestJoins', WHERE WHAT IT READS IS OF BULK AT MOST 1048576: true; the input reads as it did. -/
def digestJoinsUptoRow : OpenClaim := { program := "ytkndnbliohkhhaa", sum := "e54fc5bfac9b2416ac31755d3bf5d087d78499b1609c8e8eabf950d41d5169ba", func := "storagebarter/storagebarterlaw02.DigestJoins", spec := "digestJoins", apart := false, narrowed := true }
def DigestJoinsUptoSaid : Prop := digestJoinsUptoRow.holds Try.pinned (OpenSpec.upto digestJoinsSpec)

/-- 'storagebarterlaw02.DigestPowers', WHERE WHAT IT READS IS OF BULK AT MOST 1048576: true; the input reads as it did. -/
def digestPowersUptoRow : OpenClaim := { program := "ytkndnbliohkhhaa", sum := "e54fc5bfac9b2416ac31755d3bf5d087d78499b1609c8e8eabf950d41d5169ba", func := "storagebarter/storagebarterlaw02.DigestPowers", spec := "digestPowers", apart := false, narrowed := true }
def DigestPowersUptoSaid : Prop := digestPowersUptoRow.holds Try.pinned (OpenSpec.upto digestPowersSpec)

/-- 'storagebarterlaw02.DigestSums', WHERE WHAT IT READS IS OF BULK AT MOST 1048576: true; the input reads as it did. -/
def digestSumsUptoRow : OpenClaim := { program := "ytkndnbliohkhhaa", sum := "e54fc5bfac9b2416ac31755d3bf5d087d78499b1609c8e8eabf950d41d5169ba", func := "storagebarter/storagebarterlaw02.DigestSums", spec := "digestSums", unfollowed := true, recurses := true, apart := false, narrowed := true }
def DigestSumsUptoSaid : Prop := digestSumsUptoRow.holds Try.pinned (OpenSpec.upto digestSumsSpec)

end Rows
end Go.Proofs.Ytkndnbliohkhhaa
