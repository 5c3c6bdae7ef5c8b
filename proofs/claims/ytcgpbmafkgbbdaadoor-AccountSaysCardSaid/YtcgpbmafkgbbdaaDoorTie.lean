/-
  DERIVED. GIVEN WITH THE SEED: THE PROGRAM's TIES (one call each: nine closed facts by the kernel) AND EACH ROW's TIE, after the 31st guide's Derived/Test/Toyas{Tie, Card}.lean. No idea stands in it: it is a product of the set-up. Laid BY PROGRAM, IN A SANDBOX (cutbox-door.mjs). By AI agents, Wed Nov 11 2026. No macro, syntax, notation, axiom, sorry.
-/
import Derived.Test.YtcgpbmafkgbbdaaDoorRows
import Derived.LaidByTextLater
import Derived.SevenTiedAt
import Derived.LaidSub
import Derived.LaidOnce
namespace Go.Proofs.YtcgpbmafkgbbdaaDoor
open Go
set_option maxRecDepth 100000
theorem seatTie1 : Tryd.prog.laidByTextLater [("storagebarter/statement.number", Rows.laid_storagebarter_statement_number), ("storagebarter/statement.person", Rows.laid_storagebarter_statement_person), ("storagebarter/statement.forms", Rows.laid_storagebarter_statement_forms)] [.wider, .wider, .data] true :=
  Program.laidByTextLater_by_one 52 8 91 (by kernel_rfl) (by kernel_rfl) (by kernel_rfl) (by kernel_rfl) (by kernel_rfl) (by kernel_rfl) (fun _ _ => by kernel_rfl)
theorem noOwnUnsafe : Tryd.pinned.checked.prog.headLifts.contains "ownunsafe" = false := by kernel_rfl
theorem tie : Tryd.prog.laidByTextLater [("storagebarter/statement.number", Rows.laid_storagebarter_statement_number), ("storagebarter/statement.person", Rows.laid_storagebarter_statement_person), ("storagebarter/statement.forms", Rows.laid_storagebarter_statement_forms)] [.wider, .wider, .data] true :=
  Program.laidByTextLater.sub seatTie1 ["storagebarter/statement.number", "storagebarter/statement.person", "storagebarter/statement.forms"] (by kernel_rfl) (by kernel_rfl)
theorem accountMirrors_row_tie : Rows.accountMirrorsRow.laidByTextAt .later Tryd.pinned [.wider, .wider, .data] true :=
  OpenClaim.laidByTextAt_later rfl rfl tie noOwnUnsafe
theorem accountEven_row_tie : Rows.accountEvenRow.laidByTextAt .later Tryd.pinned [.wider, .wider, .data] true :=
  OpenClaim.laidByTextAt_later rfl rfl tie noOwnUnsafe
theorem accountSteps_row_tie : Rows.accountStepsRow.laidByTextAt .later Tryd.pinned [.wider, .wider, .data] true :=
  OpenClaim.laidByTextAt_later rfl rfl tie noOwnUnsafe
theorem accountSays_row_tie : Rows.accountSaysRow.laidByTextAt .later Tryd.pinned [.wider, .wider, .data] true :=
  OpenClaim.laidByTextAt_later rfl rfl tie noOwnUnsafe
theorem accountEnds_row_tie : Rows.accountEndsRow.laidByTextAt .later Tryd.pinned [.wider, .wider, .data] true :=
  OpenClaim.laidByTextAt_later rfl rfl tie noOwnUnsafe
theorem accountTells_row_tie : Rows.accountTellsRow.laidByTextAt .later Tryd.pinned [.wider, .wider, .data] true :=
  OpenClaim.laidByTextAt_later rfl rfl tie noOwnUnsafe
theorem accountMirrorsUpto_row_tie : Rows.accountMirrorsUptoRow.laidByTextAt .later Tryd.pinned [.wider, .wider, .data] true :=
  OpenClaim.laidByTextAt_later rfl rfl tie noOwnUnsafe
theorem accountEvenUpto_row_tie : Rows.accountEvenUptoRow.laidByTextAt .later Tryd.pinned [.wider, .wider, .data] true :=
  OpenClaim.laidByTextAt_later rfl rfl tie noOwnUnsafe
theorem accountStepsUpto_row_tie : Rows.accountStepsUptoRow.laidByTextAt .later Tryd.pinned [.wider, .wider, .data] true :=
  OpenClaim.laidByTextAt_later rfl rfl tie noOwnUnsafe
theorem accountSaysUpto_row_tie : Rows.accountSaysUptoRow.laidByTextAt .later Tryd.pinned [.wider, .wider, .data] true :=
  OpenClaim.laidByTextAt_later rfl rfl tie noOwnUnsafe
theorem accountEndsUpto_row_tie : Rows.accountEndsUptoRow.laidByTextAt .later Tryd.pinned [.wider, .wider, .data] true :=
  OpenClaim.laidByTextAt_later rfl rfl tie noOwnUnsafe
theorem accountTellsUpto_row_tie : Rows.accountTellsUptoRow.laidByTextAt .later Tryd.pinned [.wider, .wider, .data] true :=
  OpenClaim.laidByTextAt_later rfl rfl tie noOwnUnsafe
end Go.Proofs.YtcgpbmafkgbbdaaDoor
