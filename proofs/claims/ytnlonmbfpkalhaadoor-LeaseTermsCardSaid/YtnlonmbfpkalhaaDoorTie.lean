/-
  DERIVED. GIVEN WITH THE SEED: THE PROGRAM's TIES (one call each: nine closed facts by the kernel) AND EACH ROW's TIE, after the 31st guide's Derived/Test/Toyas{Tie, Card}.lean. No idea stands in it: it is a product of the set-up. Laid BY PROGRAM, IN A SANDBOX (cutbox-door.mjs). By AI agents, Wed Nov 11 2026. No macro, syntax, notation, axiom, sorry.
-/
import Derived.Test.YtnlonmbfpkalhaaDoorRows
import Derived.LaidByTextLater
import Derived.SevenTiedAt
import Derived.LaidSub
import Derived.LaidOnce
namespace Go.Proofs.YtnlonmbfpkalhaaDoor
open Go
set_option maxRecDepth 100000
theorem seatTie1 : Tryd.prog.laidByTextLater [("storagebarter/statement.number", Rows.laid_storagebarter_statement_number), ("storagebarter/statement.person", Rows.laid_storagebarter_statement_person), ("storagebarter/statement.forms", Rows.laid_storagebarter_statement_forms)] [.wider, .wider, .data] true :=
  Program.laidByTextLater_by_one 52 8 91 (by kernel_rfl) (by kernel_rfl) (by kernel_rfl) (by kernel_rfl) (by kernel_rfl) (by kernel_rfl) (fun _ _ => by kernel_rfl)
theorem noOwnUnsafe : Tryd.pinned.checked.prog.headLifts.contains "ownunsafe" = false := by kernel_rfl
theorem tie : Tryd.prog.laidByTextLater [("storagebarter/statement.number", Rows.laid_storagebarter_statement_number), ("storagebarter/statement.person", Rows.laid_storagebarter_statement_person), ("storagebarter/statement.forms", Rows.laid_storagebarter_statement_forms)] [.wider, .wider, .data] true :=
  Program.laidByTextLater.sub seatTie1 ["storagebarter/statement.number", "storagebarter/statement.person", "storagebarter/statement.forms"] (by kernel_rfl) (by kernel_rfl)
theorem leaseForce_row_tie : Rows.leaseForceRow.laidByTextAt .later Tryd.pinned [.wider, .wider, .data] true :=
  OpenClaim.laidByTextAt_later rfl rfl tie noOwnUnsafe
theorem leaseLater_row_tie : Rows.leaseLaterRow.laidByTextAt .later Tryd.pinned [.wider, .wider, .data] true :=
  OpenClaim.laidByTextAt_later rfl rfl tie noOwnUnsafe
theorem leaseOthers_row_tie : Rows.leaseOthersRow.laidByTextAt .later Tryd.pinned [.wider, .wider, .data] true :=
  OpenClaim.laidByTextAt_later rfl rfl tie noOwnUnsafe
theorem leaseTells_row_tie : Rows.leaseTellsRow.laidByTextAt .later Tryd.pinned [.wider, .wider, .data] true :=
  OpenClaim.laidByTextAt_later rfl rfl tie noOwnUnsafe
theorem leaseTerms_row_tie : Rows.leaseTermsRow.laidByTextAt .later Tryd.pinned [.wider, .wider, .data] true :=
  OpenClaim.laidByTextAt_later rfl rfl tie noOwnUnsafe
theorem leaseForceUpto_row_tie : Rows.leaseForceUptoRow.laidByTextAt .later Tryd.pinned [.wider, .wider, .data] true :=
  OpenClaim.laidByTextAt_later rfl rfl tie noOwnUnsafe
theorem leaseLaterUpto_row_tie : Rows.leaseLaterUptoRow.laidByTextAt .later Tryd.pinned [.wider, .wider, .data] true :=
  OpenClaim.laidByTextAt_later rfl rfl tie noOwnUnsafe
theorem leaseOthersUpto_row_tie : Rows.leaseOthersUptoRow.laidByTextAt .later Tryd.pinned [.wider, .wider, .data] true :=
  OpenClaim.laidByTextAt_later rfl rfl tie noOwnUnsafe
theorem leaseTellsUpto_row_tie : Rows.leaseTellsUptoRow.laidByTextAt .later Tryd.pinned [.wider, .wider, .data] true :=
  OpenClaim.laidByTextAt_later rfl rfl tie noOwnUnsafe
theorem leaseTermsUpto_row_tie : Rows.leaseTermsUptoRow.laidByTextAt .later Tryd.pinned [.wider, .wider, .data] true :=
  OpenClaim.laidByTextAt_later rfl rfl tie noOwnUnsafe
end Go.Proofs.YtnlonmbfpkalhaaDoor
