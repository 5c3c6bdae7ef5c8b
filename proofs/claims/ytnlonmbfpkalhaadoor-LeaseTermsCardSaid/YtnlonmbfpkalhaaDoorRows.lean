/-
  NARROWER THAN 'FOR EVERY INPUT', by the rows' own cells (each row's printed sentence says how): LeaseForce: laid · LeaseLater: laid · LeaseOthers: laid · LeaseTells: laid · LeaseTerms: laid.
  DERIVED. THE GIVEN ROWS OF THIS SEAT. 5 by the template 'for every input the law returns true; each argument reads behind the call as it read before'; 0 by the template 'total and deterministic' (their statements: YtnlonmbfpkalhaaDoorTotals.lean).
  GIVEN WITH THE SEED: the statements are not yours to turn. If you find one false, say at which input.
  Laid BY PROGRAM, IN A SANDBOX (cutbox-rows.mjs): the forced cells as the released guide's own fill.sh prints them over the translation 9272ad403e1a52a1… (all of the seat's roots in one cut). By AI agents, Wed Nov 11 2026. No macro, syntax, notation, axiom, sorry.
-/
import Derived.Test.YtnlonmbfpkalhaaDoorChecked
import GoSem.Claim
import GoSem.ClaimJoined
import GoSem.ClaimMapViews
import Derived.JoinedTies
import Derived.KernelRfl
namespace Go.Proofs.YtnlonmbfpkalhaaDoor
/- THE CELL 'sum', in the pinned program and in every row, IS THE sha256 OF THE DUMP (.gsa) THAT YtnlonmbfpkalhaaDoorProg.lean LOADS. Nothing in Lean hashes anything: it is a label: what it is worth is what the hold of that sum in a sandbox is worth. -/
noncomputable def Tryd.pinned : Pinned := { name := "ytnlonmbfpkalhaadoor", sum := "9272ad403e1a52a1bc62f5b6393619d21338b13a0e0213e754c4c1a8c4ceee6b", checked := Tryd.checked }
namespace Rows
def none {H : Type} : Left H := { results := [], args := [] }

/- WHAT THE LISTED PACKAGE-LEVEL VARIABLES READ AS WHEN THE CALL BEGINS. Each datum BY PROGRAM (the guide's laid-datum.mjs) off the statement by which the dump's own 'gosem.cut.vars' lays the variable. In a bare row this is a premise. The card (YtnlonmbfpkalhaaDoorCards.lean) ties it to the program's text. -/
def laid_storagebarter_statement_number {H : Type} : DataW H := .agg [.lit (.int .i64 0), .lit (.int .i64 2147483646)]
def laid_storagebarter_statement_person {H : Type} : DataW H := .agg [.lit (.int .i64 1), .lit (.int .i64 2147483646)]
def laid_storagebarter_statement_forms {H : Type} : DataW H := .agg [.agg [.agg [.lit (.int .i64 0), .lit (.int .i64 0)], .agg [.lit (.int .i64 0), .lit (.int .i64 0)], .agg [.lit (.int .i64 0), .lit (.int .i64 0)], .agg [.lit (.int .i64 0), .lit (.int .i64 0)], .lit (.bool false), .lit (.bool false)], .agg [.agg [.lit (.int .i64 0), .lit (.int .i64 63)], .agg [.lit (.int .i64 0), .lit (.int .i64 2147483646)], .agg [.lit (.int .i64 1), .lit (.int .i64 1024)], .agg [.lit (.int .i64 1), .lit (.int .i64 65536)], .lit (.bool true), .lit (.bool false)], .agg [.agg [.lit (.int .i64 0), .lit (.int .i64 63)], .agg [.lit (.int .i64 0), .lit (.int .i64 0)], .agg [.lit (.int .i64 0), .lit (.int .i64 0)], .agg [.lit (.int .i64 1), .lit (.int .i64 65536)], .lit (.bool true), .lit (.bool false)], .agg [.agg [.lit (.int .i64 0), .lit (.int .i64 63)], .agg [.lit (.int .i64 0), .lit (.int .i64 0)], .agg [.lit (.int .i64 0), .lit (.int .i64 0)], .agg [.lit (.int .i64 0), .lit (.int .i64 0)], .lit (.bool false), .lit (.bool false)], .agg [.agg [.lit (.int .i64 0), .lit (.int .i64 63)], .agg [.lit (.int .i64 0), .lit (.int .i64 2147483646)], .agg [.lit (.int .i64 1), .lit (.int .i64 1024)], .agg [.lit (.int .i64 0), .lit (.int .i64 0)], .lit (.bool false), .lit (.bool false)], .agg [.agg [.lit (.int .i64 0), .lit (.int .i64 63)], .agg [.lit (.int .i64 0), .lit (.int .i64 0)], .agg [.lit (.int .i64 0), .lit (.int .i64 0)], .agg [.lit (.int .i64 0), .lit (.int .i64 0)], .lit (.bool false), .lit (.bool false)], .agg [.agg [.lit (.int .i64 0), .lit (.int .i64 2147483646)], .agg [.lit (.int .i64 0), .lit (.int .i64 2147483646)], .agg [.lit (.int .i64 0), .lit (.int .i64 256)], .agg [.lit (.int .i64 0), .lit (.int .i64 0)], .lit (.bool false), .lit (.bool false)], .agg [.agg [.lit (.int .i64 0), .lit (.int .i64 2147483646)], .agg [.lit (.int .i64 0), .lit (.int .i64 2147483646)], .agg [.lit (.int .i64 1), .lit (.int .i64 1024)], .agg [.lit (.int .i64 0), .lit (.int .i64 4294967293)], .lit (.bool false), .lit (.bool true)], .agg [.agg [.lit (.int .i64 0), .lit (.int .i64 2147483646)], .agg [.lit (.int .i64 0), .lit (.int .i64 4294967293)], .agg [.lit (.int .i64 0), .lit (.int .i64 0)], .agg [.lit (.int .i64 0), .lit (.int .i64 0)], .lit (.bool false), .lit (.bool false)]]

/-- 'storagebarterlaw16.LeaseForce': WHATEVER THE INPUT: true; the input reads as it did. -/
def leaseForceSpec : ChangeSpec := { name := "leaseForce", fn := fun _ => fun
  | [d1, d2] => { results := [.lit (.bool true)], args := [d1, d2] }
  | _ => none }
def leaseForceRow : OpenClaim := { program := "ytnlonmbfpkalhaadoor", sum := "9272ad403e1a52a1bc62f5b6393619d21338b13a0e0213e754c4c1a8c4ceee6b", func := "storagebarter/storagebarterlaw16.LeaseForce", spec := "leaseForce", named := ["storagebarter/statement.person", "storagebarter/statement.number", "storagebarter/statement.forms"], apart := false, laid := [("storagebarter/statement.number", laid_storagebarter_statement_number), ("storagebarter/statement.person", laid_storagebarter_statement_person), ("storagebarter/statement.forms", laid_storagebarter_statement_forms)] }
def LeaseForceSaid : Prop := leaseForceRow.holds Tryd.pinned (OpenSpec.ofChange leaseForceSpec)

/-- ITS FALSE NEIGHBOUR: 'it returns false'. Refute it at one input. -/
def leaseForceWrong : ChangeSpec := { name := "leaseForce", fn := fun _ => fun
  | [d1, d2] => { results := [.lit (.bool false)], args := [d1, d2] }
  | _ => none }
def LeaseForceWrongFalsely : Prop := leaseForceRow.holds Tryd.pinned (OpenSpec.ofChange leaseForceWrong)

/-- 'storagebarterlaw16.LeaseLater': WHATEVER THE INPUT: true; the input reads as it did. -/
def leaseLaterSpec : ChangeSpec := { name := "leaseLater", fn := fun _ => fun
  | [d1, d2, d3] => { results := [.lit (.bool true)], args := [d1, d2, d3] }
  | _ => none }
def leaseLaterRow : OpenClaim := { program := "ytnlonmbfpkalhaadoor", sum := "9272ad403e1a52a1bc62f5b6393619d21338b13a0e0213e754c4c1a8c4ceee6b", func := "storagebarter/storagebarterlaw16.LeaseLater", spec := "leaseLater", named := ["storagebarter/statement.person", "storagebarter/statement.number", "storagebarter/statement.forms"], apart := false, laid := [("storagebarter/statement.number", laid_storagebarter_statement_number), ("storagebarter/statement.person", laid_storagebarter_statement_person), ("storagebarter/statement.forms", laid_storagebarter_statement_forms)] }
def LeaseLaterSaid : Prop := leaseLaterRow.holds Tryd.pinned (OpenSpec.ofChange leaseLaterSpec)

/-- ITS FALSE NEIGHBOUR: 'it returns false'. Refute it at one input. -/
def leaseLaterWrong : ChangeSpec := { name := "leaseLater", fn := fun _ => fun
  | [d1, d2, d3] => { results := [.lit (.bool false)], args := [d1, d2, d3] }
  | _ => none }
def LeaseLaterWrongFalsely : Prop := leaseLaterRow.holds Tryd.pinned (OpenSpec.ofChange leaseLaterWrong)

/-- 'storagebarterlaw16.LeaseOthers': WHATEVER THE INPUT: true; the input reads as it did. -/
def leaseOthersSpec : ChangeSpec := { name := "leaseOthers", fn := fun _ => fun
  | [d1, d2] => { results := [.lit (.bool true)], args := [d1, d2] }
  | _ => none }
def leaseOthersRow : OpenClaim := { program := "ytnlonmbfpkalhaadoor", sum := "9272ad403e1a52a1bc62f5b6393619d21338b13a0e0213e754c4c1a8c4ceee6b", func := "storagebarter/storagebarterlaw16.LeaseOthers", spec := "leaseOthers", named := ["storagebarter/statement.person", "storagebarter/statement.number", "storagebarter/statement.forms"], apart := false, laid := [("storagebarter/statement.number", laid_storagebarter_statement_number), ("storagebarter/statement.person", laid_storagebarter_statement_person), ("storagebarter/statement.forms", laid_storagebarter_statement_forms)] }
def LeaseOthersSaid : Prop := leaseOthersRow.holds Tryd.pinned (OpenSpec.ofChange leaseOthersSpec)

/-- ITS FALSE NEIGHBOUR: 'it returns false'. Refute it at one input. -/
def leaseOthersWrong : ChangeSpec := { name := "leaseOthers", fn := fun _ => fun
  | [d1, d2] => { results := [.lit (.bool false)], args := [d1, d2] }
  | _ => none }
def LeaseOthersWrongFalsely : Prop := leaseOthersRow.holds Tryd.pinned (OpenSpec.ofChange leaseOthersWrong)

/-- 'storagebarterlaw16.LeaseTells': WHATEVER THE INPUT: true; the input reads as it did. -/
def leaseTellsSpec : ChangeSpec := { name := "leaseTells", fn := fun _ => fun
  | [d1, d2, d3, d4, d5] => { results := [.lit (.bool true)], args := [d1, d2, d3, d4, d5] }
  | _ => none }
def leaseTellsRow : OpenClaim := { program := "ytnlonmbfpkalhaadoor", sum := "9272ad403e1a52a1bc62f5b6393619d21338b13a0e0213e754c4c1a8c4ceee6b", func := "storagebarter/storagebarterlaw16.LeaseTells", spec := "leaseTells", named := ["storagebarter/statement.person", "storagebarter/statement.number", "storagebarter/statement.forms"], apart := false, laid := [("storagebarter/statement.number", laid_storagebarter_statement_number), ("storagebarter/statement.person", laid_storagebarter_statement_person), ("storagebarter/statement.forms", laid_storagebarter_statement_forms)] }
def LeaseTellsSaid : Prop := leaseTellsRow.holds Tryd.pinned (OpenSpec.ofChange leaseTellsSpec)

/-- ITS FALSE NEIGHBOUR: 'it returns false'. Refute it at one input. -/
def leaseTellsWrong : ChangeSpec := { name := "leaseTells", fn := fun _ => fun
  | [d1, d2, d3, d4, d5] => { results := [.lit (.bool false)], args := [d1, d2, d3, d4, d5] }
  | _ => none }
def LeaseTellsWrongFalsely : Prop := leaseTellsRow.holds Tryd.pinned (OpenSpec.ofChange leaseTellsWrong)

/-- 'storagebarterlaw16.LeaseTerms': WHATEVER THE INPUT: true; the input reads as it did. -/
def leaseTermsSpec : ChangeSpec := { name := "leaseTerms", fn := fun _ => fun
  | [d] => { results := [.lit (.bool true)], args := [d] }
  | _ => none }
def leaseTermsRow : OpenClaim := { program := "ytnlonmbfpkalhaadoor", sum := "9272ad403e1a52a1bc62f5b6393619d21338b13a0e0213e754c4c1a8c4ceee6b", func := "storagebarter/storagebarterlaw16.LeaseTerms", spec := "leaseTerms", named := ["storagebarter/statement.person", "storagebarter/statement.number", "storagebarter/statement.forms"], apart := false, laid := [("storagebarter/statement.number", laid_storagebarter_statement_number), ("storagebarter/statement.person", laid_storagebarter_statement_person), ("storagebarter/statement.forms", laid_storagebarter_statement_forms)] }
def LeaseTermsSaid : Prop := leaseTermsRow.holds Tryd.pinned (OpenSpec.ofChange leaseTermsSpec)

/-- ITS FALSE NEIGHBOUR: 'it returns false'. Refute it at one input. -/
def leaseTermsWrong : ChangeSpec := { name := "leaseTerms", fn := fun _ => fun
  | [d] => { results := [.lit (.bool false)], args := [d] }
  | _ => none }
def LeaseTermsWrongFalsely : Prop := leaseTermsRow.holds Tryd.pinned (OpenSpec.ofChange leaseTermsWrong)

/- THE SECOND FORM. 'bulk': how many values and letters a reading holds, each counted each time it is reached (what is shared counts as often as it is met; a slice's spare places count too). A statement '..UptoSaid' is the law's where the arguments, and the package variables that the reading takes, are together of bulk at most 1048576: NARROWER than '..Said'. Prove '..Said' where nothing that the law and all that it calls make is longer than what came in: it says more and counts as full. Else prove '..UptoSaid'. A law counts once. -/
mutual
def uptoBulk {H : Type} : DataW H → Nat
  | .lit (.string bytes) => bytes.length + 1
  | .lit _ => 1
  | .nil => 1
  | .ptr d => uptoBulk d + 1
  | .slice elems spare => uptoBulkAll elems + uptoBulkAll spare + 1
  | .agg parts => uptoBulkAll parts + 1
  | .iface _ d => uptoBulk d + 1
  | .map entries => uptoBulkEntries entries + 1
  | .held _ => 1
def uptoBulkAll {H : Type} : List (DataW H) → Nat
  | [] => 0
  | d :: r => uptoBulk d + uptoBulkAll r
def uptoBulkEntries {H : Type} : List (Lit × DataW H) → Nat
  | [] => 0
  | x :: r => uptoBulkEntry x + uptoBulkEntries r
def uptoBulkEntry {H : Type} : Lit × DataW H → Nat
  | (.string bytes, d) => bytes.length + uptoBulk d + 1
  | (_, d) => uptoBulk d + 1
 end
def uptoSmall : (H : Type) → List (DataW H) → Bool := fun _ ds => decide (uptoBulkAll ds ≤ 1048576)
def OpenSpec.upto (s : _root_.Go.ChangeSpec) : _root_.Go.OpenSpec := { _root_.Go.OpenSpec.ofChange s with cond := some uptoSmall }

/-- 'storagebarterlaw16.LeaseForce', WHERE WHAT IT READS IS OF BULK AT MOST 1048576: true; the input reads as it did. -/
def leaseForceUptoRow : OpenClaim := { program := "ytnlonmbfpkalhaadoor", sum := "9272ad403e1a52a1bc62f5b6393619d21338b13a0e0213e754c4c1a8c4ceee6b", func := "storagebarter/storagebarterlaw16.LeaseForce", spec := "leaseForce", named := ["storagebarter/statement.person", "storagebarter/statement.number", "storagebarter/statement.forms"], apart := false, laid := [("storagebarter/statement.number", laid_storagebarter_statement_number), ("storagebarter/statement.person", laid_storagebarter_statement_person), ("storagebarter/statement.forms", laid_storagebarter_statement_forms)], narrowed := true }
def LeaseForceUptoSaid : Prop := leaseForceUptoRow.holds Tryd.pinned (OpenSpec.upto leaseForceSpec)

/-- 'storagebarterlaw16.LeaseLater', WHERE WHAT IT READS IS OF BULK AT MOST 1048576: true; the input reads as it did. -/
def leaseLaterUptoRow : OpenClaim := { program := "ytnlonmbfpkalhaadoor", sum := "9272ad403e1a52a1bc62f5b6393619d21338b13a0e0213e754c4c1a8c4ceee6b", func := "storagebarter/storagebarterlaw16.LeaseLater", spec := "leaseLater", named := ["storagebarter/statement.person", "storagebarter/statement.number", "storagebarter/statement.forms"], apart := false, laid := [("storagebarter/statement.number", laid_storagebarter_statement_number), ("storagebarter/statement.person", laid_storagebarter_statement_person), ("storagebarter/statement.forms", laid_storagebarter_statement_forms)], narrowed := true }
def LeaseLaterUptoSaid : Prop := leaseLaterUptoRow.holds Tryd.pinned (OpenSpec.upto leaseLaterSpec)

/-- 'storagebarterlaw16.LeaseOthers', WHERE WHAT IT READS IS OF BULK AT MOST 1048576: true; the input reads as it did. -/
def leaseOthersUptoRow : OpenClaim := { program := "ytnlonmbfpkalhaadoor", sum := "9272ad403e1a52a1bc62f5b6393619d21338b13a0e0213e754c4c1a8c4ceee6b", func := "storagebarter/storagebarterlaw16.LeaseOthers", spec := "leaseOthers", named := ["storagebarter/statement.person", "storagebarter/statement.number", "storagebarter/statement.forms"], apart := false, laid := [("storagebarter/statement.number", laid_storagebarter_statement_number), ("storagebarter/statement.person", laid_storagebarter_statement_person), ("storagebarter/statement.forms", laid_storagebarter_statement_forms)], narrowed := true }
def LeaseOthersUptoSaid : Prop := leaseOthersUptoRow.holds Tryd.pinned (OpenSpec.upto leaseOthersSpec)

/-- 'storagebarterlaw16.LeaseTells', WHERE WHAT IT READS IS OF BULK AT MOST 1048576: true; the input reads as it did. -/
def leaseTellsUptoRow : OpenClaim := { program := "ytnlonmbfpkalhaadoor", sum := "9272ad403e1a52a1bc62f5b6393619d21338b13a0e0213e754c4c1a8c4ceee6b", func := "storagebarter/storagebarterlaw16.LeaseTells", spec := "leaseTells", named := ["storagebarter/statement.person", "storagebarter/statement.number", "storagebarter/statement.forms"], apart := false, laid := [("storagebarter/statement.number", laid_storagebarter_statement_number), ("storagebarter/statement.person", laid_storagebarter_statement_person), ("storagebarter/statement.forms", laid_storagebarter_statement_forms)], narrowed := true }
def LeaseTellsUptoSaid : Prop := leaseTellsUptoRow.holds Tryd.pinned (OpenSpec.upto leaseTellsSpec)

/-- 'storagebarterlaw16.LeaseTerms', WHERE WHAT IT READS IS OF BULK AT MOST 1048576: true; the input reads as it did. -/
def leaseTermsUptoRow : OpenClaim := { program := "ytnlonmbfpkalhaadoor", sum := "9272ad403e1a52a1bc62f5b6393619d21338b13a0e0213e754c4c1a8c4ceee6b", func := "storagebarter/storagebarterlaw16.LeaseTerms", spec := "leaseTerms", named := ["storagebarter/statement.person", "storagebarter/statement.number", "storagebarter/statement.forms"], apart := false, laid := [("storagebarter/statement.number", laid_storagebarter_statement_number), ("storagebarter/statement.person", laid_storagebarter_statement_person), ("storagebarter/statement.forms", laid_storagebarter_statement_forms)], narrowed := true }
def LeaseTermsUptoSaid : Prop := leaseTermsUptoRow.holds Tryd.pinned (OpenSpec.upto leaseTermsSpec)

end Rows
end Go.Proofs.YtnlonmbfpkalhaaDoor
