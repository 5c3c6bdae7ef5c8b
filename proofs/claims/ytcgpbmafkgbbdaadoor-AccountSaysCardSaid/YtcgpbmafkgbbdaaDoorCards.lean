/-
  DERIVED. GIVEN WITH THE SEED: THE CARDS: each row of YtcgpbmafkgbbdaaDoorRows.lean that lists a variable, with what it lists TIED to the program's text (the seventh form; the later family's looks); each row that meets fmt, with fmt's text TOLD by the authors' own Lean function (tested against real Go, not proved from fmt's source: count such statements apart). THE CARD IS WHAT COUNTS. Prove the row's statement (the work); the ties are given (YtcgpbmafkgbbdaaDoorTie.lean); close each card by the builder's one call (the guide's Derived/Test/ToyasCard.lean, 'card_holds'). Laid BY PROGRAM, IN A SANDBOX (cutbox-door.mjs). By AI agents, Wed Nov 11 2026. No macro, syntax, notation, axiom, sorry.
-/
import Derived.Test.YtcgpbmafkgbbdaaDoorRows
import GoSem.ClaimSeven
namespace Go.Proofs.YtcgpbmafkgbbdaaDoor
namespace Rows

/-- THE TIED CARD OF 'storagebarterlaw17.AccountMirrors'. -/
def accountMirrorsCard : Claim7 := { stood := { row := accountMirrorsRow, standIns := [], harness := (true, "1c7594827f2391ac98796e8f53d62e20730de4b641059e30da98524a85e68df5"), looks := false }, kinds := [], alts := [], laidByText := true, laidKinds := [.wider, .wider, .data], laidTests := true, laidLooks := .later }
def AccountMirrorsCardSaid : Prop := Claim7.holds Tryd.pinned (.plain (OpenSpec.ofChange accountMirrorsSpec)) accountMirrorsCard

/-- THE TIED CARD OF 'storagebarterlaw17.AccountEven'. -/
def accountEvenCard : Claim7 := { stood := { row := accountEvenRow, standIns := [], harness := (true, "1c7594827f2391ac98796e8f53d62e20730de4b641059e30da98524a85e68df5"), looks := false }, kinds := [], alts := [], laidByText := true, laidKinds := [.wider, .wider, .data], laidTests := true, laidLooks := .later }
def AccountEvenCardSaid : Prop := Claim7.holds Tryd.pinned (.plain (OpenSpec.ofChange accountEvenSpec)) accountEvenCard

/-- THE TIED CARD OF 'storagebarterlaw17.AccountSteps'. -/
def accountStepsCard : Claim7 := { stood := { row := accountStepsRow, standIns := [], harness := (true, "1c7594827f2391ac98796e8f53d62e20730de4b641059e30da98524a85e68df5"), looks := false }, kinds := [], alts := [], laidByText := true, laidKinds := [.wider, .wider, .data], laidTests := true, laidLooks := .later }
def AccountStepsCardSaid : Prop := Claim7.holds Tryd.pinned (.plain (OpenSpec.ofChange accountStepsSpec)) accountStepsCard

/-- THE TIED CARD OF 'storagebarterlaw17.AccountSays'. -/
def accountSaysCard : Claim7 := { stood := { row := accountSaysRow, standIns := [], harness := (true, "1c7594827f2391ac98796e8f53d62e20730de4b641059e30da98524a85e68df5"), looks := false }, kinds := [], alts := [], laidByText := true, laidKinds := [.wider, .wider, .data], laidTests := true, laidLooks := .later }
def AccountSaysCardSaid : Prop := Claim7.holds Tryd.pinned (.plain (OpenSpec.ofChange accountSaysSpec)) accountSaysCard

/-- THE TIED CARD OF 'storagebarterlaw17.AccountEnds'. -/
def accountEndsCard : Claim7 := { stood := { row := accountEndsRow, standIns := [], harness := (true, "1c7594827f2391ac98796e8f53d62e20730de4b641059e30da98524a85e68df5"), looks := false }, kinds := [], alts := [], laidByText := true, laidKinds := [.wider, .wider, .data], laidTests := true, laidLooks := .later }
def AccountEndsCardSaid : Prop := Claim7.holds Tryd.pinned (.plain (OpenSpec.ofChange accountEndsSpec)) accountEndsCard

/-- THE TIED CARD OF 'storagebarterlaw17.AccountTells'. -/
def accountTellsCard : Claim7 := { stood := { row := accountTellsRow, standIns := [], harness := (true, "1c7594827f2391ac98796e8f53d62e20730de4b641059e30da98524a85e68df5"), looks := false }, kinds := [], alts := [], laidByText := true, laidKinds := [.wider, .wider, .data], laidTests := true, laidLooks := .later }
def AccountTellsCardSaid : Prop := Claim7.holds Tryd.pinned (.plain (OpenSpec.ofChange accountTellsSpec)) accountTellsCard

/-- THE SECOND FORM's CARD OF 'storagebarterlaw17.AccountMirrors'. -/
def accountMirrorsUptoCard : Claim7 := { stood := { row := accountMirrorsUptoRow, standIns := [], harness := (true, "1c7594827f2391ac98796e8f53d62e20730de4b641059e30da98524a85e68df5"), looks := false }, kinds := [], alts := [], laidByText := true, laidKinds := [.wider, .wider, .data], laidTests := true, laidLooks := .later }
def AccountMirrorsUptoCardSaid : Prop := Claim7.holds Tryd.pinned (.plain (OpenSpec.upto accountMirrorsSpec)) accountMirrorsUptoCard

/-- THE SECOND FORM's CARD OF 'storagebarterlaw17.AccountEven'. -/
def accountEvenUptoCard : Claim7 := { stood := { row := accountEvenUptoRow, standIns := [], harness := (true, "1c7594827f2391ac98796e8f53d62e20730de4b641059e30da98524a85e68df5"), looks := false }, kinds := [], alts := [], laidByText := true, laidKinds := [.wider, .wider, .data], laidTests := true, laidLooks := .later }
def AccountEvenUptoCardSaid : Prop := Claim7.holds Tryd.pinned (.plain (OpenSpec.upto accountEvenSpec)) accountEvenUptoCard

/-- THE SECOND FORM's CARD OF 'storagebarterlaw17.AccountSteps'. -/
def accountStepsUptoCard : Claim7 := { stood := { row := accountStepsUptoRow, standIns := [], harness := (true, "1c7594827f2391ac98796e8f53d62e20730de4b641059e30da98524a85e68df5"), looks := false }, kinds := [], alts := [], laidByText := true, laidKinds := [.wider, .wider, .data], laidTests := true, laidLooks := .later }
def AccountStepsUptoCardSaid : Prop := Claim7.holds Tryd.pinned (.plain (OpenSpec.upto accountStepsSpec)) accountStepsUptoCard

/-- THE SECOND FORM's CARD OF 'storagebarterlaw17.AccountSays'. -/
def accountSaysUptoCard : Claim7 := { stood := { row := accountSaysUptoRow, standIns := [], harness := (true, "1c7594827f2391ac98796e8f53d62e20730de4b641059e30da98524a85e68df5"), looks := false }, kinds := [], alts := [], laidByText := true, laidKinds := [.wider, .wider, .data], laidTests := true, laidLooks := .later }
def AccountSaysUptoCardSaid : Prop := Claim7.holds Tryd.pinned (.plain (OpenSpec.upto accountSaysSpec)) accountSaysUptoCard

/-- THE SECOND FORM's CARD OF 'storagebarterlaw17.AccountEnds'. -/
def accountEndsUptoCard : Claim7 := { stood := { row := accountEndsUptoRow, standIns := [], harness := (true, "1c7594827f2391ac98796e8f53d62e20730de4b641059e30da98524a85e68df5"), looks := false }, kinds := [], alts := [], laidByText := true, laidKinds := [.wider, .wider, .data], laidTests := true, laidLooks := .later }
def AccountEndsUptoCardSaid : Prop := Claim7.holds Tryd.pinned (.plain (OpenSpec.upto accountEndsSpec)) accountEndsUptoCard

/-- THE SECOND FORM's CARD OF 'storagebarterlaw17.AccountTells'. -/
def accountTellsUptoCard : Claim7 := { stood := { row := accountTellsUptoRow, standIns := [], harness := (true, "1c7594827f2391ac98796e8f53d62e20730de4b641059e30da98524a85e68df5"), looks := false }, kinds := [], alts := [], laidByText := true, laidKinds := [.wider, .wider, .data], laidTests := true, laidLooks := .later }
def AccountTellsUptoCardSaid : Prop := Claim7.holds Tryd.pinned (.plain (OpenSpec.upto accountTellsSpec)) accountTellsUptoCard
end Rows
end Go.Proofs.YtcgpbmafkgbbdaaDoor
