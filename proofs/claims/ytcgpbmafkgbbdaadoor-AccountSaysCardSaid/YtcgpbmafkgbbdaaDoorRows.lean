/-
  NARROWER THAN 'FOR EVERY INPUT', by the rows' own cells (each row's printed sentence says how): AccountMirrors: laid · AccountEven: laid · AccountSteps: laid · AccountSays: laid · AccountEnds: laid · AccountTells: laid.
  DERIVED. THE GIVEN ROWS OF THIS SEAT. 6 by the template 'for every input the law returns true; each argument reads behind the call as it read before'; 0 by the template 'total and deterministic' (their statements: YtcgpbmafkgbbdaaDoorTotals.lean).
  GIVEN WITH THE SEED: the statements are not yours to turn. If you find one false, say at which input.
  Laid BY PROGRAM, IN A SANDBOX (cutbox-rows.mjs): the forced cells as the released guide's own fill.sh prints them over the translation 56b2707c49ea89b7… (all of the seat's roots in one cut). By AI agents, Wed Nov 11 2026. No macro, syntax, notation, axiom, sorry.
-/
import Derived.Test.YtcgpbmafkgbbdaaDoorChecked
import GoSem.Claim
import GoSem.ClaimJoined
import GoSem.ClaimMapViews
import Derived.JoinedTies
import Derived.KernelRfl
namespace Go.Proofs.YtcgpbmafkgbbdaaDoor
/- THE CELL 'sum', in the pinned program and in every row, IS THE sha256 OF THE DUMP (.gsa) THAT YtcgpbmafkgbbdaaDoorProg.lean LOADS. Nothing in Lean hashes anything: it is a label: what it is worth is what the hold of that sum in a sandbox is worth. -/
noncomputable def Tryd.pinned : Pinned := { name := "ytcgpbmafkgbbdaadoor", sum := "56b2707c49ea89b78bded53644de9c4b84fbe9138ab23233010b305f882b8445", checked := Tryd.checked }
namespace Rows
def none {H : Type} : Left H := { results := [], args := [] }

/- WHAT THE LISTED PACKAGE-LEVEL VARIABLES READ AS WHEN THE CALL BEGINS. Each datum BY PROGRAM (the guide's laid-datum.mjs) off the statement by which the dump's own 'gosem.cut.vars' lays the variable. In a bare row this is a premise. The card (YtcgpbmafkgbbdaaDoorCards.lean) ties it to the program's text. -/
def laid_storagebarter_statement_number {H : Type} : DataW H := .agg [.lit (.int .i64 0), .lit (.int .i64 2147483646)]
def laid_storagebarter_statement_person {H : Type} : DataW H := .agg [.lit (.int .i64 1), .lit (.int .i64 2147483646)]
def laid_storagebarter_statement_forms {H : Type} : DataW H := .agg [.agg [.agg [.lit (.int .i64 0), .lit (.int .i64 0)], .agg [.lit (.int .i64 0), .lit (.int .i64 0)], .agg [.lit (.int .i64 0), .lit (.int .i64 0)], .agg [.lit (.int .i64 0), .lit (.int .i64 0)], .lit (.bool false), .lit (.bool false)], .agg [.agg [.lit (.int .i64 0), .lit (.int .i64 63)], .agg [.lit (.int .i64 0), .lit (.int .i64 2147483646)], .agg [.lit (.int .i64 1), .lit (.int .i64 1024)], .agg [.lit (.int .i64 1), .lit (.int .i64 65536)], .lit (.bool true), .lit (.bool false)], .agg [.agg [.lit (.int .i64 0), .lit (.int .i64 63)], .agg [.lit (.int .i64 0), .lit (.int .i64 0)], .agg [.lit (.int .i64 0), .lit (.int .i64 0)], .agg [.lit (.int .i64 1), .lit (.int .i64 65536)], .lit (.bool true), .lit (.bool false)], .agg [.agg [.lit (.int .i64 0), .lit (.int .i64 63)], .agg [.lit (.int .i64 0), .lit (.int .i64 0)], .agg [.lit (.int .i64 0), .lit (.int .i64 0)], .agg [.lit (.int .i64 0), .lit (.int .i64 0)], .lit (.bool false), .lit (.bool false)], .agg [.agg [.lit (.int .i64 0), .lit (.int .i64 63)], .agg [.lit (.int .i64 0), .lit (.int .i64 2147483646)], .agg [.lit (.int .i64 1), .lit (.int .i64 1024)], .agg [.lit (.int .i64 0), .lit (.int .i64 0)], .lit (.bool false), .lit (.bool false)], .agg [.agg [.lit (.int .i64 0), .lit (.int .i64 63)], .agg [.lit (.int .i64 0), .lit (.int .i64 0)], .agg [.lit (.int .i64 0), .lit (.int .i64 0)], .agg [.lit (.int .i64 0), .lit (.int .i64 0)], .lit (.bool false), .lit (.bool false)], .agg [.agg [.lit (.int .i64 0), .lit (.int .i64 2147483646)], .agg [.lit (.int .i64 0), .lit (.int .i64 2147483646)], .agg [.lit (.int .i64 0), .lit (.int .i64 256)], .agg [.lit (.int .i64 0), .lit (.int .i64 0)], .lit (.bool false), .lit (.bool false)], .agg [.agg [.lit (.int .i64 0), .lit (.int .i64 2147483646)], .agg [.lit (.int .i64 0), .lit (.int .i64 2147483646)], .agg [.lit (.int .i64 1), .lit (.int .i64 1024)], .agg [.lit (.int .i64 0), .lit (.int .i64 4294967293)], .lit (.bool false), .lit (.bool true)], .agg [.agg [.lit (.int .i64 0), .lit (.int .i64 2147483646)], .agg [.lit (.int .i64 0), .lit (.int .i64 4294967293)], .agg [.lit (.int .i64 0), .lit (.int .i64 0)], .agg [.lit (.int .i64 0), .lit (.int .i64 0)], .lit (.bool false), .lit (.bool false)]]

/-- 'storagebarterlaw17.AccountMirrors': WHATEVER THE INPUT: true; the input reads as it did. -/
def accountMirrorsSpec : ChangeSpec := { name := "accountMirrors", fn := fun _ => fun
  | [d1, d2] => { results := [.lit (.bool true)], args := [d1, d2] }
  | _ => none }
def accountMirrorsRow : OpenClaim := { program := "ytcgpbmafkgbbdaadoor", sum := "56b2707c49ea89b78bded53644de9c4b84fbe9138ab23233010b305f882b8445", func := "storagebarter/storagebarterlaw17.AccountMirrors", spec := "accountMirrors", named := ["storagebarter/statement.person", "storagebarter/statement.number", "storagebarter/statement.forms"], apart := false, laid := [("storagebarter/statement.number", laid_storagebarter_statement_number), ("storagebarter/statement.person", laid_storagebarter_statement_person), ("storagebarter/statement.forms", laid_storagebarter_statement_forms)] }
def AccountMirrorsSaid : Prop := accountMirrorsRow.holds Tryd.pinned (OpenSpec.ofChange accountMirrorsSpec)

/-- ITS FALSE NEIGHBOUR: 'it returns false'. Refute it at one input. -/
def accountMirrorsWrong : ChangeSpec := { name := "accountMirrors", fn := fun _ => fun
  | [d1, d2] => { results := [.lit (.bool false)], args := [d1, d2] }
  | _ => none }
def AccountMirrorsWrongFalsely : Prop := accountMirrorsRow.holds Tryd.pinned (OpenSpec.ofChange accountMirrorsWrong)

/-- 'storagebarterlaw17.AccountEven': WHATEVER THE INPUT: true; the input reads as it did. -/
def accountEvenSpec : ChangeSpec := { name := "accountEven", fn := fun _ => fun
  | [d1, d2] => { results := [.lit (.bool true)], args := [d1, d2] }
  | _ => none }
def accountEvenRow : OpenClaim := { program := "ytcgpbmafkgbbdaadoor", sum := "56b2707c49ea89b78bded53644de9c4b84fbe9138ab23233010b305f882b8445", func := "storagebarter/storagebarterlaw17.AccountEven", spec := "accountEven", named := ["storagebarter/statement.person", "storagebarter/statement.number", "storagebarter/statement.forms"], apart := false, laid := [("storagebarter/statement.number", laid_storagebarter_statement_number), ("storagebarter/statement.person", laid_storagebarter_statement_person), ("storagebarter/statement.forms", laid_storagebarter_statement_forms)] }
def AccountEvenSaid : Prop := accountEvenRow.holds Tryd.pinned (OpenSpec.ofChange accountEvenSpec)

/-- ITS FALSE NEIGHBOUR: 'it returns false'. Refute it at one input. -/
def accountEvenWrong : ChangeSpec := { name := "accountEven", fn := fun _ => fun
  | [d1, d2] => { results := [.lit (.bool false)], args := [d1, d2] }
  | _ => none }
def AccountEvenWrongFalsely : Prop := accountEvenRow.holds Tryd.pinned (OpenSpec.ofChange accountEvenWrong)

/-- 'storagebarterlaw17.AccountSteps': WHATEVER THE INPUT: true; the input reads as it did. -/
def accountStepsSpec : ChangeSpec := { name := "accountSteps", fn := fun _ => fun
  | [d] => { results := [.lit (.bool true)], args := [d] }
  | _ => none }
def accountStepsRow : OpenClaim := { program := "ytcgpbmafkgbbdaadoor", sum := "56b2707c49ea89b78bded53644de9c4b84fbe9138ab23233010b305f882b8445", func := "storagebarter/storagebarterlaw17.AccountSteps", spec := "accountSteps", named := ["storagebarter/statement.person", "storagebarter/statement.number", "storagebarter/statement.forms"], apart := false, laid := [("storagebarter/statement.number", laid_storagebarter_statement_number), ("storagebarter/statement.person", laid_storagebarter_statement_person), ("storagebarter/statement.forms", laid_storagebarter_statement_forms)] }
def AccountStepsSaid : Prop := accountStepsRow.holds Tryd.pinned (OpenSpec.ofChange accountStepsSpec)

/-- ITS FALSE NEIGHBOUR: 'it returns false'. Refute it at one input. -/
def accountStepsWrong : ChangeSpec := { name := "accountSteps", fn := fun _ => fun
  | [d] => { results := [.lit (.bool false)], args := [d] }
  | _ => none }
def AccountStepsWrongFalsely : Prop := accountStepsRow.holds Tryd.pinned (OpenSpec.ofChange accountStepsWrong)

/-- 'storagebarterlaw17.AccountSays': WHATEVER THE INPUT: true; the input reads as it did. -/
def accountSaysSpec : ChangeSpec := { name := "accountSays", fn := fun _ => fun
  | [d1, d2] => { results := [.lit (.bool true)], args := [d1, d2] }
  | _ => none }
def accountSaysRow : OpenClaim := { program := "ytcgpbmafkgbbdaadoor", sum := "56b2707c49ea89b78bded53644de9c4b84fbe9138ab23233010b305f882b8445", func := "storagebarter/storagebarterlaw17.AccountSays", spec := "accountSays", unfollowed := true, recurses := true, named := ["storagebarter/statement.person", "storagebarter/statement.number", "storagebarter/statement.forms"], apart := false, laid := [("storagebarter/statement.number", laid_storagebarter_statement_number), ("storagebarter/statement.person", laid_storagebarter_statement_person), ("storagebarter/statement.forms", laid_storagebarter_statement_forms)] }
def AccountSaysSaid : Prop := accountSaysRow.holds Tryd.pinned (OpenSpec.ofChange accountSaysSpec)

/-- ITS FALSE NEIGHBOUR: 'it returns false'. Refute it at one input. -/
def accountSaysWrong : ChangeSpec := { name := "accountSays", fn := fun _ => fun
  | [d1, d2] => { results := [.lit (.bool false)], args := [d1, d2] }
  | _ => none }
def AccountSaysWrongFalsely : Prop := accountSaysRow.holds Tryd.pinned (OpenSpec.ofChange accountSaysWrong)

/-- 'storagebarterlaw17.AccountEnds': WHATEVER THE INPUT: true; the input reads as it did. -/
def accountEndsSpec : ChangeSpec := { name := "accountEnds", fn := fun _ => fun
  | [d] => { results := [.lit (.bool true)], args := [d] }
  | _ => none }
def accountEndsRow : OpenClaim := { program := "ytcgpbmafkgbbdaadoor", sum := "56b2707c49ea89b78bded53644de9c4b84fbe9138ab23233010b305f882b8445", func := "storagebarter/storagebarterlaw17.AccountEnds", spec := "accountEnds", unfollowed := true, recurses := true, named := ["storagebarter/statement.person", "storagebarter/statement.number", "storagebarter/statement.forms"], apart := false, laid := [("storagebarter/statement.number", laid_storagebarter_statement_number), ("storagebarter/statement.person", laid_storagebarter_statement_person), ("storagebarter/statement.forms", laid_storagebarter_statement_forms)] }
def AccountEndsSaid : Prop := accountEndsRow.holds Tryd.pinned (OpenSpec.ofChange accountEndsSpec)

/-- ITS FALSE NEIGHBOUR: 'it returns false'. Refute it at one input. -/
def accountEndsWrong : ChangeSpec := { name := "accountEnds", fn := fun _ => fun
  | [d] => { results := [.lit (.bool false)], args := [d] }
  | _ => none }
def AccountEndsWrongFalsely : Prop := accountEndsRow.holds Tryd.pinned (OpenSpec.ofChange accountEndsWrong)

/-- 'storagebarterlaw17.AccountTells': WHATEVER THE INPUT: true; the input reads as it did. -/
def accountTellsSpec : ChangeSpec := { name := "accountTells", fn := fun _ => fun
  | [d1, d2, d3, d4] => { results := [.lit (.bool true)], args := [d1, d2, d3, d4] }
  | _ => none }
def accountTellsRow : OpenClaim := { program := "ytcgpbmafkgbbdaadoor", sum := "56b2707c49ea89b78bded53644de9c4b84fbe9138ab23233010b305f882b8445", func := "storagebarter/storagebarterlaw17.AccountTells", spec := "accountTells", unfollowed := true, recurses := true, named := ["storagebarter/statement.person", "storagebarter/statement.number", "storagebarter/statement.forms"], apart := false, laid := [("storagebarter/statement.number", laid_storagebarter_statement_number), ("storagebarter/statement.person", laid_storagebarter_statement_person), ("storagebarter/statement.forms", laid_storagebarter_statement_forms)] }
def AccountTellsSaid : Prop := accountTellsRow.holds Tryd.pinned (OpenSpec.ofChange accountTellsSpec)

/-- ITS FALSE NEIGHBOUR: 'it returns false'. Refute it at one input. -/
def accountTellsWrong : ChangeSpec := { name := "accountTells", fn := fun _ => fun
  | [d1, d2, d3, d4] => { results := [.lit (.bool false)], args := [d1, d2, d3, d4] }
  | _ => none }
def AccountTellsWrongFalsely : Prop := accountTellsRow.holds Tryd.pinned (OpenSpec.ofChange accountTellsWrong)

/- THE SECOND FORM. 'bulk': how many values and letters a reading holds, each counted each time it is reached (what is shared counts as often as it is met; a slice's spare places count too). A statement '..UptoSaid' is the law's where the arguments, and the package variables that the reading takes, are together of bulk at most 1048576: NARROWER than '..Said'. Prove '..Said' where nothing that the law and all that it calls make is longer than what came in: it says more and counts as full. Else prove '..UptoSaid'. A law counts once. -/
mutual
def uptoBulk {H : Type} : DataW H → Nat
  | .lit (.string bytes) => bytes.length + 1
  | .lit _ => 1
  | .nil => 1
  | .ptr d => uptoBulk d + 1
  | .slice elems spare => uptoBulkAll elems + uptoBulkAll spare + 1
  | .agg parts => uptoBulkAll parts + 1
  | .iface _ d => uptoBulk d + 1
  | .map entries => uptoBulkEntries entries + 1
  | .held _ => 1
def uptoBulkAll {H : Type} : List (DataW H) → Nat
  | [] => 0
  | d :: r => uptoBulk d + uptoBulkAll r
def uptoBulkEntries {H : Type} : List (Lit × DataW H) → Nat
  | [] => 0
  | x :: r => uptoBulkEntry x + uptoBulkEntries r
def uptoBulkEntry {H : Type} : Lit × DataW H → Nat
  | (.string bytes, d) => bytes.length + uptoBulk d + 1
  | (_, d) => uptoBulk d + 1
 end
def uptoSmall : (H : Type) → List (DataW H) → Bool := fun _ ds => decide (uptoBulkAll ds ≤ 1048576)
def OpenSpec.upto (s : _root_.Go.ChangeSpec) : _root_.Go.OpenSpec := { _root_.Go.OpenSpec.ofChange s with cond := some uptoSmall }

/-- 'storagebarterlaw17.AccountMirrors', WHERE WHAT IT READS IS OF BULK AT MOST 1048576: true; the input reads as it did. -/
def accountMirrorsUptoRow : OpenClaim := { program := "ytcgpbmafkgbbdaadoor", sum := "56b2707c49ea89b78bded53644de9c4b84fbe9138ab23233010b305f882b8445", func := "storagebarter/storagebarterlaw17.AccountMirrors", spec := "accountMirrors", named := ["storagebarter/statement.person", "storagebarter/statement.number", "storagebarter/statement.forms"], apart := false, laid := [("storagebarter/statement.number", laid_storagebarter_statement_number), ("storagebarter/statement.person", laid_storagebarter_statement_person), ("storagebarter/statement.forms", laid_storagebarter_statement_forms)], narrowed := true }
def AccountMirrorsUptoSaid : Prop := accountMirrorsUptoRow.holds Tryd.pinned (OpenSpec.upto accountMirrorsSpec)

/-- 'storagebarterlaw17.AccountEven', WHERE WHAT IT READS IS OF BULK AT MOST 1048576: true; the input reads as it did. -/
def accountEvenUptoRow : OpenClaim := { program := "ytcgpbmafkgbbdaadoor", sum := "56b2707c49ea89b78bded53644de9c4b84fbe9138ab23233010b305f882b8445", func := "storagebarter/storagebarterlaw17.AccountEven", spec := "accountEven", named := ["storagebarter/statement.person", "storagebarter/statement.number", "storagebarter/statement.forms"], apart := false, laid := [("storagebarter/statement.number", laid_storagebarter_statement_number), ("storagebarter/statement.person", laid_storagebarter_statement_person), ("storagebarter/statement.forms", laid_storagebarter_statement_forms)], narrowed := true }
def AccountEvenUptoSaid : Prop := accountEvenUptoRow.holds Tryd.pinned (OpenSpec.upto accountEvenSpec)

/-- 'storagebarterlaw17.AccountSteps', WHERE WHAT IT READS IS OF BULK AT MOST 1048576: true; the input reads as it did. -/
def accountStepsUptoRow : OpenClaim := { program := "ytcgpbmafkgbbdaadoor", sum := "56b2707c49ea89b78bded53644de9c4b84fbe9138ab23233010b305f882b8445", func := "storagebarter/storagebarterlaw17.AccountSteps", spec := "accountSteps", named := ["storagebarter/statement.person", "storagebarter/statement.number", "storagebarter/statement.forms"], apart := false, laid := [("storagebarter/statement.number", laid_storagebarter_statement_number), ("storagebarter/statement.person", laid_storagebarter_statement_person), ("storagebarter/statement.forms", laid_storagebarter_statement_forms)], narrowed := true }
def AccountStepsUptoSaid : Prop := accountStepsUptoRow.holds Tryd.pinned (OpenSpec.upto accountStepsSpec)

/-- 'storagebarterlaw17.AccountSays', WHERE WHAT IT READS IS OF BULK AT MOST 1048576: true; the input reads as it did. -/
def accountSaysUptoRow : OpenClaim := { program := "ytcgpbmafkgbbdaadoor", sum := "56b2707c49ea89b78bded53644de9c4b84fbe9138ab23233010b305f882b8445", func := "storagebarter/storagebarterlaw17.AccountSays", spec := "accountSays", unfollowed := true, recurses := true, named := ["storagebarter/statement.person", "storagebarter/statement.number", "storagebarter/statement.forms"], apart := false, laid := [("storagebarter/statement.number", laid_storagebarter_statement_number), ("storagebarter/statement.person", laid_storagebarter_statement_person), ("storagebarter/statement.forms", laid_storagebarter_statement_forms)], narrowed := true }
def AccountSaysUptoSaid : Prop := accountSaysUptoRow.holds Tryd.pinned (OpenSpec.upto accountSaysSpec)

/-- 'storagebarterlaw17.AccountEnds', WHERE WHAT IT READS IS OF BULK AT MOST 1048576: true; the input reads as it did. -/
def accountEndsUptoRow : OpenClaim := { program := "ytcgpbmafkgbbdaadoor", sum := "56b2707c49ea89b78bded53644de9c4b84fbe9138ab23233010b305f882b8445", func := "storagebarter/storagebarterlaw17.AccountEnds", spec := "accountEnds", unfollowed := true, recurses := true, named := ["storagebarter/statement.person", "storagebarter/statement.number", "storagebarter/statement.forms"], apart := false, laid := [("storagebarter/statement.number", laid_storagebarter_statement_number), ("storagebarter/statement.person", laid_storagebarter_statement_person), ("storagebarter/statement.forms", laid_storagebarter_statement_forms)], narrowed := true }
def AccountEndsUptoSaid : Prop := accountEndsUptoRow.holds Tryd.pinned (OpenSpec.upto accountEndsSpec)

/-- 'storagebarterlaw17.AccountTells', WHERE WHAT IT READS IS OF BULK AT MOST 1048576: true; the input reads as it did. -/
def accountTellsUptoRow : OpenClaim := { program := "ytcgpbmafkgbbdaadoor", sum := "56b2707c49ea89b78bded53644de9c4b84fbe9138ab23233010b305f882b8445", func := "storagebarter/storagebarterlaw17.AccountTells", spec := "accountTells", unfollowed := true, recurses := true, named := ["storagebarter/statement.person", "storagebarter/statement.number", "storagebarter/statement.forms"], apart := false, laid := [("storagebarter/statement.number", laid_storagebarter_statement_number), ("storagebarter/statement.person", laid_storagebarter_statement_person), ("storagebarter/statement.forms", laid_storagebarter_statement_forms)], narrowed := true }
def AccountTellsUptoSaid : Prop := accountTellsUptoRow.holds Tryd.pinned (OpenSpec.upto accountTellsSpec)

end Rows
end Go.Proofs.YtcgpbmafkgbbdaaDoor
