/-
  DERIVED. GIVEN WITH THE SEED: THE CARDS: each row of YtnlonmbfpkalhaaDoorRows.lean that lists a variable, with what it lists TIED to the program's text (the seventh form; the later family's looks); each row that meets fmt, with fmt's text TOLD by the authors' own Lean function (tested against real Go, not proved from fmt's source: count such statements apart). THE CARD IS WHAT COUNTS. Prove the row's statement (the work); the ties are given (YtnlonmbfpkalhaaDoorTie.lean); close each card by the builder's one call (the guide's Derived/Test/ToyasCard.lean, 'card_holds'). Laid BY PROGRAM, IN A SANDBOX (cutbox-door.mjs). By AI agents, Wed Nov 11 2026. No macro, syntax, notation, axiom, sorry.
-/
import Derived.Test.YtnlonmbfpkalhaaDoorRows
import GoSem.ClaimSeven
namespace Go.Proofs.YtnlonmbfpkalhaaDoor
namespace Rows

/-- THE TIED CARD OF 'storagebarterlaw16.LeaseForce'. -/
def leaseForceCard : Claim7 := { stood := { row := leaseForceRow, standIns := [], harness := (true, "f682765cfce8715096f351e4baf675383990e0c273d41881a6fe436bbadaa252"), looks := false }, kinds := [], alts := [], laidByText := true, laidKinds := [.wider, .wider, .data], laidTests := true, laidLooks := .later }
def LeaseForceCardSaid : Prop := Claim7.holds Tryd.pinned (.plain (OpenSpec.ofChange leaseForceSpec)) leaseForceCard

/-- THE TIED CARD OF 'storagebarterlaw16.LeaseLater'. -/
def leaseLaterCard : Claim7 := { stood := { row := leaseLaterRow, standIns := [], harness := (true, "f682765cfce8715096f351e4baf675383990e0c273d41881a6fe436bbadaa252"), looks := false }, kinds := [], alts := [], laidByText := true, laidKinds := [.wider, .wider, .data], laidTests := true, laidLooks := .later }
def LeaseLaterCardSaid : Prop := Claim7.holds Tryd.pinned (.plain (OpenSpec.ofChange leaseLaterSpec)) leaseLaterCard

/-- THE TIED CARD OF 'storagebarterlaw16.LeaseOthers'. -/
def leaseOthersCard : Claim7 := { stood := { row := leaseOthersRow, standIns := [], harness := (true, "f682765cfce8715096f351e4baf675383990e0c273d41881a6fe436bbadaa252"), looks := false }, kinds := [], alts := [], laidByText := true, laidKinds := [.wider, .wider, .data], laidTests := true, laidLooks := .later }
def LeaseOthersCardSaid : Prop := Claim7.holds Tryd.pinned (.plain (OpenSpec.ofChange leaseOthersSpec)) leaseOthersCard

/-- THE TIED CARD OF 'storagebarterlaw16.LeaseTells'. -/
def leaseTellsCard : Claim7 := { stood := { row := leaseTellsRow, standIns := [], harness := (true, "f682765cfce8715096f351e4baf675383990e0c273d41881a6fe436bbadaa252"), looks := false }, kinds := [], alts := [], laidByText := true, laidKinds := [.wider, .wider, .data], laidTests := true, laidLooks := .later }
def LeaseTellsCardSaid : Prop := Claim7.holds Tryd.pinned (.plain (OpenSpec.ofChange leaseTellsSpec)) leaseTellsCard

/-- THE TIED CARD OF 'storagebarterlaw16.LeaseTerms'. -/
def leaseTermsCard : Claim7 := { stood := { row := leaseTermsRow, standIns := [], harness := (true, "f682765cfce8715096f351e4baf675383990e0c273d41881a6fe436bbadaa252"), looks := false }, kinds := [], alts := [], laidByText := true, laidKinds := [.wider, .wider, .data], laidTests := true, laidLooks := .later }
def LeaseTermsCardSaid : Prop := Claim7.holds Tryd.pinned (.plain (OpenSpec.ofChange leaseTermsSpec)) leaseTermsCard

/-- THE SECOND FORM's CARD OF 'storagebarterlaw16.LeaseForce'. -/
def leaseForceUptoCard : Claim7 := { stood := { row := leaseForceUptoRow, standIns := [], harness := (true, "f682765cfce8715096f351e4baf675383990e0c273d41881a6fe436bbadaa252"), looks := false }, kinds := [], alts := [], laidByText := true, laidKinds := [.wider, .wider, .data], laidTests := true, laidLooks := .later }
def LeaseForceUptoCardSaid : Prop := Claim7.holds Tryd.pinned (.plain (OpenSpec.upto leaseForceSpec)) leaseForceUptoCard

/-- THE SECOND FORM's CARD OF 'storagebarterlaw16.LeaseLater'. -/
def leaseLaterUptoCard : Claim7 := { stood := { row := leaseLaterUptoRow, standIns := [], harness := (true, "f682765cfce8715096f351e4baf675383990e0c273d41881a6fe436bbadaa252"), looks := false }, kinds := [], alts := [], laidByText := true, laidKinds := [.wider, .wider, .data], laidTests := true, laidLooks := .later }
def LeaseLaterUptoCardSaid : Prop := Claim7.holds Tryd.pinned (.plain (OpenSpec.upto leaseLaterSpec)) leaseLaterUptoCard

/-- THE SECOND FORM's CARD OF 'storagebarterlaw16.LeaseOthers'. -/
def leaseOthersUptoCard : Claim7 := { stood := { row := leaseOthersUptoRow, standIns := [], harness := (true, "f682765cfce8715096f351e4baf675383990e0c273d41881a6fe436bbadaa252"), looks := false }, kinds := [], alts := [], laidByText := true, laidKinds := [.wider, .wider, .data], laidTests := true, laidLooks := .later }
def LeaseOthersUptoCardSaid : Prop := Claim7.holds Tryd.pinned (.plain (OpenSpec.upto leaseOthersSpec)) leaseOthersUptoCard

/-- THE SECOND FORM's CARD OF 'storagebarterlaw16.LeaseTells'. -/
def leaseTellsUptoCard : Claim7 := { stood := { row := leaseTellsUptoRow, standIns := [], harness := (true, "f682765cfce8715096f351e4baf675383990e0c273d41881a6fe436bbadaa252"), looks := false }, kinds := [], alts := [], laidByText := true, laidKinds := [.wider, .wider, .data], laidTests := true, laidLooks := .later }
def LeaseTellsUptoCardSaid : Prop := Claim7.holds Tryd.pinned (.plain (OpenSpec.upto leaseTellsSpec)) leaseTellsUptoCard

/-- THE SECOND FORM's CARD OF 'storagebarterlaw16.LeaseTerms'. -/
def leaseTermsUptoCard : Claim7 := { stood := { row := leaseTermsUptoRow, standIns := [], harness := (true, "f682765cfce8715096f351e4baf675383990e0c273d41881a6fe436bbadaa252"), looks := false }, kinds := [], alts := [], laidByText := true, laidKinds := [.wider, .wider, .data], laidTests := true, laidLooks := .later }
def LeaseTermsUptoCardSaid : Prop := Claim7.holds Tryd.pinned (.plain (OpenSpec.upto leaseTermsSpec)) leaseTermsUptoCard
end Rows
end Go.Proofs.YtnlonmbfpkalhaaDoor
