/-
  DERIVED. GIVEN WITH THE SEED: THE CARDS: each row of YtcdnbdphakhilaaGreatDoorRows.lean that lists a variable, with what it lists TIED to the program's text (the seventh form; the later family's looks); each row that meets fmt, with fmt's text TOLD by the authors' own Lean function (tested against real Go, not proved from fmt's source: count such statements apart). THE CARD IS WHAT COUNTS. Prove the row's statement (the work); the ties are given (YtcdnbdphakhilaaGreatDoorTie.lean); close each card by the builder's one call (the guide's Derived/Test/ToyasCard.lean, 'card_holds'). Laid BY PROGRAM, IN A SANDBOX (cutbox-door.mjs). By AI agents, Wed Nov 11 2026. No macro, syntax, notation, axiom, sorry.
-/
import Derived.Test.YtcdnbdphakhilaaGreatDoorRows
import GoSem.ClaimSeven
namespace Go.Proofs.YtcdnbdphakhilaaGreatDoor
namespace Rows

/-- THE TIED CARD OF 'calquelaw13.IrDoes'. -/
def irDoesCard : Claim7 := { stood := { row := irDoesRow, standIns := [], harness := (true, "57298eda3b8054ed97aca11d4a80f356bce3e16a4cd755fad7eff0edadf6a154"), looks := false }, kinds := [], alts := [], laidByText := true, laidKinds := [.data, .data, .data, .data, .pinned], laidTests := true, laidLooks := .later }
def IrDoesCardSaid : Prop := Claim7.holds Tryz.pinned (.plain (OpenSpec.ofChange irDoesSpec)) irDoesCard

/-- THE TIED CARD OF 'calquelaw13.IrMay'. -/
def irMayCard : Claim7 := { stood := { row := irMayRow, standIns := [], harness := (true, "57298eda3b8054ed97aca11d4a80f356bce3e16a4cd755fad7eff0edadf6a154"), looks := false }, kinds := [], alts := [], laidByText := true, laidKinds := [.data, .data, .data, .data, .pinned], laidTests := true, laidLooks := .later }
def IrMayCardSaid : Prop := Claim7.holds Tryz.pinned (.plain (OpenSpec.ofChange irMaySpec)) irMayCard

/-- THE TIED CARD OF 'calquelaw13.IrRuns'. -/
def irRunsCard : Claim7 := { stood := { row := irRunsRow, standIns := [], harness := (true, "57298eda3b8054ed97aca11d4a80f356bce3e16a4cd755fad7eff0edadf6a154"), looks := false }, kinds := [], alts := [], laidByText := true, laidKinds := [.data, .data, .data, .data, .pinned], laidTests := true, laidLooks := .later }
def IrRunsCardSaid : Prop := Claim7.holds Tryz.pinned (.plain (OpenSpec.ofChange irRunsSpec)) irRunsCard

/-- THE TIED CARD OF 'calquelaw13.IrPure'. -/
def irPureCard : Claim7 := { stood := { row := irPureRow, standIns := [], harness := (true, "57298eda3b8054ed97aca11d4a80f356bce3e16a4cd755fad7eff0edadf6a154"), looks := false }, kinds := [], alts := [], laidByText := true, laidKinds := [.data, .data, .data, .data, .pinned], laidTests := true, laidLooks := .later }
def IrPureCardSaid : Prop := Claim7.holds Tryz.pinned (.plain (OpenSpec.ofChange irPureSpec)) irPureCard

/-- THE TIED CARD OF 'calquelaw23.SelConst'. -/
def selConstCard : Claim7 := { stood := { row := selConstRow, standIns := [], harness := (true, "57298eda3b8054ed97aca11d4a80f356bce3e16a4cd755fad7eff0edadf6a154"), looks := false }, kinds := [], alts := [], laidByText := true, laidKinds := [.data, .data, .data, .data, .pinned], laidTests := true, laidLooks := .later }
def SelConstCardSaid : Prop := Claim7.holds Tryz.pinned (.plain (OpenSpec.ofChange selConstSpec)) selConstCard

/-- THE TIED CARD OF 'calquelaw23.SelPlaces'. -/
def selPlacesCard : Claim7 := { stood := { row := selPlacesRow, standIns := [], harness := (true, "57298eda3b8054ed97aca11d4a80f356bce3e16a4cd755fad7eff0edadf6a154"), looks := false }, kinds := [], alts := [], laidByText := true, laidKinds := [.data, .data, .data, .data, .pinned], laidTests := true, laidLooks := .later }
def SelPlacesCardSaid : Prop := Claim7.holds Tryz.pinned (.plain (OpenSpec.ofChange selPlacesSpec)) selPlacesCard

/-- THE TIED CARD OF 'calquelaw23.SelSteps'. -/
def selStepsCard : Claim7 := { stood := { row := selStepsRow, standIns := [], harness := (true, "57298eda3b8054ed97aca11d4a80f356bce3e16a4cd755fad7eff0edadf6a154"), looks := false }, kinds := [], alts := [], laidByText := true, laidKinds := [.data, .data, .data, .data, .pinned], laidTests := true, laidLooks := .later }
def SelStepsCardSaid : Prop := Claim7.holds Tryz.pinned (.plain (OpenSpec.ofChange selStepsSpec)) selStepsCard

/-- THE SECOND FORM's CARD OF 'calquelaw13.IrDoes'. -/
def irDoesUptoCard : Claim7 := { stood := { row := irDoesUptoRow, standIns := [], harness := (true, "57298eda3b8054ed97aca11d4a80f356bce3e16a4cd755fad7eff0edadf6a154"), looks := false }, kinds := [], alts := [], laidByText := true, laidKinds := [.data, .data, .data, .data, .pinned], laidTests := true, laidLooks := .later }
def IrDoesUptoCardSaid : Prop := Claim7.holds Tryz.pinned (.plain (OpenSpec.upto irDoesSpec)) irDoesUptoCard

/-- THE SECOND FORM's CARD OF 'calquelaw13.IrMay'. -/
def irMayUptoCard : Claim7 := { stood := { row := irMayUptoRow, standIns := [], harness := (true, "57298eda3b8054ed97aca11d4a80f356bce3e16a4cd755fad7eff0edadf6a154"), looks := false }, kinds := [], alts := [], laidByText := true, laidKinds := [.data, .data, .data, .data, .pinned], laidTests := true, laidLooks := .later }
def IrMayUptoCardSaid : Prop := Claim7.holds Tryz.pinned (.plain (OpenSpec.upto irMaySpec)) irMayUptoCard

/-- THE SECOND FORM's CARD OF 'calquelaw13.IrRuns'. -/
def irRunsUptoCard : Claim7 := { stood := { row := irRunsUptoRow, standIns := [], harness := (true, "57298eda3b8054ed97aca11d4a80f356bce3e16a4cd755fad7eff0edadf6a154"), looks := false }, kinds := [], alts := [], laidByText := true, laidKinds := [.data, .data, .data, .data, .pinned], laidTests := true, laidLooks := .later }
def IrRunsUptoCardSaid : Prop := Claim7.holds Tryz.pinned (.plain (OpenSpec.upto irRunsSpec)) irRunsUptoCard

/-- THE SECOND FORM's CARD OF 'calquelaw13.IrPure'. -/
def irPureUptoCard : Claim7 := { stood := { row := irPureUptoRow, standIns := [], harness := (true, "57298eda3b8054ed97aca11d4a80f356bce3e16a4cd755fad7eff0edadf6a154"), looks := false }, kinds := [], alts := [], laidByText := true, laidKinds := [.data, .data, .data, .data, .pinned], laidTests := true, laidLooks := .later }
def IrPureUptoCardSaid : Prop := Claim7.holds Tryz.pinned (.plain (OpenSpec.upto irPureSpec)) irPureUptoCard

/-- THE SECOND FORM's CARD OF 'calquelaw23.SelConst'. -/
def selConstUptoCard : Claim7 := { stood := { row := selConstUptoRow, standIns := [], harness := (true, "57298eda3b8054ed97aca11d4a80f356bce3e16a4cd755fad7eff0edadf6a154"), looks := false }, kinds := [], alts := [], laidByText := true, laidKinds := [.data, .data, .data, .data, .pinned], laidTests := true, laidLooks := .later }
def SelConstUptoCardSaid : Prop := Claim7.holds Tryz.pinned (.plain (OpenSpec.upto selConstSpec)) selConstUptoCard

/-- THE SECOND FORM's CARD OF 'calquelaw23.SelPlaces'. -/
def selPlacesUptoCard : Claim7 := { stood := { row := selPlacesUptoRow, standIns := [], harness := (true, "57298eda3b8054ed97aca11d4a80f356bce3e16a4cd755fad7eff0edadf6a154"), looks := false }, kinds := [], alts := [], laidByText := true, laidKinds := [.data, .data, .data, .data, .pinned], laidTests := true, laidLooks := .later }
def SelPlacesUptoCardSaid : Prop := Claim7.holds Tryz.pinned (.plain (OpenSpec.upto selPlacesSpec)) selPlacesUptoCard

/-- THE SECOND FORM's CARD OF 'calquelaw23.SelSteps'. -/
def selStepsUptoCard : Claim7 := { stood := { row := selStepsUptoRow, standIns := [], harness := (true, "57298eda3b8054ed97aca11d4a80f356bce3e16a4cd755fad7eff0edadf6a154"), looks := false }, kinds := [], alts := [], laidByText := true, laidKinds := [.data, .data, .data, .data, .pinned], laidTests := true, laidLooks := .later }
def SelStepsUptoCardSaid : Prop := Claim7.holds Tryz.pinned (.plain (OpenSpec.upto selStepsSpec)) selStepsUptoCard
end Rows
end Go.Proofs.YtcdnbdphakhilaaGreatDoor
