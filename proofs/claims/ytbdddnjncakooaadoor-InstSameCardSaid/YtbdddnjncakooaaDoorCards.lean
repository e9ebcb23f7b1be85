/-
  DERIVED. GIVEN WITH THE SEED: THE CARDS: each row of YtbdddnjncakooaaDoorRows.lean that lists a variable, with what it lists TIED to the program's text (the seventh form; the later family's looks); each row that meets fmt, with fmt's text TOLD by the authors' own Lean function (tested against real Go, not proved from fmt's source: count such statements apart). THE CARD IS WHAT COUNTS. Prove the row's statement (the work); the ties are given (YtbdddnjncakooaaDoorTie.lean); close each card by the builder's one call (the guide's Derived/Test/ToyasCard.lean, 'card_holds'). Laid BY PROGRAM, IN A SANDBOX (cutbox-door.mjs). By AI agents, Wed Nov 11 2026. No macro, syntax, notation, axiom, sorry.
-/
import Derived.Test.YtbdddnjncakooaaDoorRows
import GoSem.ClaimSeven
namespace Go.Proofs.YtbdddnjncakooaaDoor
namespace Rows

/-- THE TIED CARD OF 'calquelaw05.InstSame'. -/
def instSameCard : Claim7 := { stood := { row := instSameRow, standIns := [], harness := (true, "a33c6a6cb8306bd99be6fe12940117d4c49bd8ba446983ce81b2dc382412c800"), looks := false }, kinds := [], alts := [], laidByText := true, laidKinds := [.data, .data, .data, .data, .pinned], laidTests := true, laidLooks := .later }
def InstSameCardSaid : Prop := Claim7.holds Tryd.pinned (.plain (OpenSpec.ofChange instSameSpec)) instSameCard

/-- THE TIED CARD OF 'calquelaw05.InstDoes'. -/
def instDoesCard : Claim7 := { stood := { row := instDoesRow, standIns := [], harness := (true, "a33c6a6cb8306bd99be6fe12940117d4c49bd8ba446983ce81b2dc382412c800"), looks := false }, kinds := [], alts := [], laidByText := true, laidKinds := [.data, .data, .data, .data, .pinned], laidTests := true, laidLooks := .later }
def InstDoesCardSaid : Prop := Claim7.holds Tryd.pinned (.plain (OpenSpec.ofChange instDoesSpec)) instDoesCard

/-- THE SECOND FORM's CARD OF 'calquelaw05.InstSame'. -/
def instSameUptoCard : Claim7 := { stood := { row := instSameUptoRow, standIns := [], harness := (true, "a33c6a6cb8306bd99be6fe12940117d4c49bd8ba446983ce81b2dc382412c800"), looks := false }, kinds := [], alts := [], laidByText := true, laidKinds := [.data, .data, .data, .data, .pinned], laidTests := true, laidLooks := .later }
def InstSameUptoCardSaid : Prop := Claim7.holds Tryd.pinned (.plain (OpenSpec.upto instSameSpec)) instSameUptoCard

/-- THE SECOND FORM's CARD OF 'calquelaw05.InstDoes'. -/
def instDoesUptoCard : Claim7 := { stood := { row := instDoesUptoRow, standIns := [], harness := (true, "a33c6a6cb8306bd99be6fe12940117d4c49bd8ba446983ce81b2dc382412c800"), looks := false }, kinds := [], alts := [], laidByText := true, laidKinds := [.data, .data, .data, .data, .pinned], laidTests := true, laidLooks := .later }
def InstDoesUptoCardSaid : Prop := Claim7.holds Tryd.pinned (.plain (OpenSpec.upto instDoesSpec)) instDoesUptoCard
end Rows
end Go.Proofs.YtbdddnjncakooaaDoor
