/-
  DERIVED. GIVEN WITH THE SEED: THE CARDS: each row of YtcdnbdphakhilaaDoorRows.lean that lists a variable, with what it lists TIED to the program's text (the seventh form; the later family's looks); each row that meets fmt, with fmt's text TOLD by the authors' own Lean function (tested against real Go, not proved from fmt's source: count such statements apart). THE CARD IS WHAT COUNTS. Prove the row's statement (the work); the ties are given (YtcdnbdphakhilaaDoorTie.lean); close each card by the builder's one call (the guide's Derived/Test/ToyasCard.lean, 'card_holds'). Laid BY PROGRAM, IN A SANDBOX (cutbox-door.mjs). By AI agents, Wed Nov 11 2026. No macro, syntax, notation, axiom, sorry.
-/
import Derived.Test.YtcdnbdphakhilaaDoorRows
import GoSem.ClaimSeven
namespace Go.Proofs.YtcdnbdphakhilaaDoor
namespace Rows

/-- THE TIED CARD OF 'calquelaw13.IrMakes'. -/
def irMakesCard : Claim7 := { stood := { row := irMakesRow, standIns := [], harness := (true, "f9d34cc89f063903f7e8f4471bdaddd5252ab38d943da4477a716dbef36e1616"), looks := false }, kinds := [], alts := [], laidByText := true, laidKinds := [.data, .data, .data, .data, .pinned], laidTests := true, laidLooks := .later }
def IrMakesCardSaid : Prop := Claim7.holds Tryd.pinned (.plain (OpenSpec.ofChange irMakesSpec)) irMakesCard

/-- THE SECOND FORM's CARD OF 'calquelaw13.IrMakes'. -/
def irMakesUptoCard : Claim7 := { stood := { row := irMakesUptoRow, standIns := [], harness := (true, "f9d34cc89f063903f7e8f4471bdaddd5252ab38d943da4477a716dbef36e1616"), looks := false }, kinds := [], alts := [], laidByText := true, laidKinds := [.data, .data, .data, .data, .pinned], laidTests := true, laidLooks := .later }
def IrMakesUptoCardSaid : Prop := Claim7.holds Tryd.pinned (.plain (OpenSpec.upto irMakesSpec)) irMakesUptoCard
end Rows
end Go.Proofs.YtcdnbdphakhilaaDoor
