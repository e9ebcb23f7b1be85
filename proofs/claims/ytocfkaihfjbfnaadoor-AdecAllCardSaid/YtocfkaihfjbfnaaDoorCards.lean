/-
  DERIVED. GIVEN WITH THE SEED: THE CARDS: each row of YtocfkaihfjbfnaaDoorRows.lean that lists a variable, with what it lists TIED to the program's text (the seventh form; the later family's looks); each row that meets fmt, with fmt's text TOLD by the authors' own Lean function (tested against real Go, not proved from fmt's source: count such statements apart). THE CARD IS WHAT COUNTS. Prove the row's statement (the work); the ties are given (YtocfkaihfjbfnaaDoorTie.lean); close each card by the builder's one call (the guide's Derived/Test/ToyasCard.lean, 'card_holds'). Laid BY PROGRAM, IN A SANDBOX (cutbox-door.mjs). By AI agents, Wed Nov 11 2026. No macro, syntax, notation, axiom, sorry.
-/
import Derived.Test.YtocfkaihfjbfnaaDoorRows
import GoSem.ClaimSeven
namespace Go.Proofs.YtocfkaihfjbfnaaDoor
namespace Rows

/-- THE TIED CARD OF 'calquelaw20.A64Encodes'. -/
def a64EncodesCard : Claim7 := { stood := { row := a64EncodesRow, standIns := [], harness := (true, "117a81bef5143330e499dab6dc7ae7dcf373ce13b00fa4afddb498658ad87976"), looks := false }, kinds := [], alts := [], laidByText := true, laidKinds := [.data, .data, .data, .data, .pinned], laidTests := true, laidLooks := .later }
def A64EncodesCardSaid : Prop := Claim7.holds Tryd.pinned (.plain (OpenSpec.ofChange a64EncodesSpec)) a64EncodesCard

/-- THE TIED CARD OF 'calquelaw20.A64Apart'. -/
def a64ApartCard : Claim7 := { stood := { row := a64ApartRow, standIns := [], harness := (true, "117a81bef5143330e499dab6dc7ae7dcf373ce13b00fa4afddb498658ad87976"), looks := false }, kinds := [], alts := [], laidByText := true, laidKinds := [.data, .data, .data, .data, .pinned], laidTests := true, laidLooks := .later }
def A64ApartCardSaid : Prop := Claim7.holds Tryd.pinned (.plain (OpenSpec.ofChange a64ApartSpec)) a64ApartCard

/-- THE TIED CARD OF 'calquelaw20.A64All'. -/
def a64AllCard : Claim7 := { stood := { row := a64AllRow, standIns := [], harness := (true, "117a81bef5143330e499dab6dc7ae7dcf373ce13b00fa4afddb498658ad87976"), looks := false }, kinds := [], alts := [], laidByText := true, laidKinds := [.data, .data, .data, .data, .pinned], laidTests := true, laidLooks := .later }
def A64AllCardSaid : Prop := Claim7.holds Tryd.pinned (.plain (OpenSpec.ofChange a64AllSpec)) a64AllCard

/-- THE TIED CARD OF 'calquelaw21.AdecWords'. -/
def adecWordsCard : Claim7 := { stood := { row := adecWordsRow, standIns := [], harness := (true, "117a81bef5143330e499dab6dc7ae7dcf373ce13b00fa4afddb498658ad87976"), looks := false }, kinds := [], alts := [], laidByText := true, laidKinds := [.data, .data, .data, .data, .pinned], laidTests := true, laidLooks := .later }
def AdecWordsCardSaid : Prop := Claim7.holds Tryd.pinned (.plain (OpenSpec.ofChange adecWordsSpec)) adecWordsCard

/-- THE TIED CARD OF 'calquelaw21.AdecBack'. -/
def adecBackCard : Claim7 := { stood := { row := adecBackRow, standIns := [], harness := (true, "117a81bef5143330e499dab6dc7ae7dcf373ce13b00fa4afddb498658ad87976"), looks := false }, kinds := [], alts := [], laidByText := true, laidKinds := [.data, .data, .data, .data, .pinned], laidTests := true, laidLooks := .later }
def AdecBackCardSaid : Prop := Claim7.holds Tryd.pinned (.plain (OpenSpec.ofChange adecBackSpec)) adecBackCard

/-- THE TIED CARD OF 'calquelaw21.AdecAll'. -/
def adecAllCard : Claim7 := { stood := { row := adecAllRow, standIns := [], harness := (true, "117a81bef5143330e499dab6dc7ae7dcf373ce13b00fa4afddb498658ad87976"), looks := false }, kinds := [], alts := [], laidByText := true, laidKinds := [.data, .data, .data, .data, .pinned], laidTests := true, laidLooks := .later }
def AdecAllCardSaid : Prop := Claim7.holds Tryd.pinned (.plain (OpenSpec.ofChange adecAllSpec)) adecAllCard

/-- THE SECOND FORM's CARD OF 'calquelaw20.A64Encodes'. -/
def a64EncodesUptoCard : Claim7 := { stood := { row := a64EncodesUptoRow, standIns := [], harness := (true, "117a81bef5143330e499dab6dc7ae7dcf373ce13b00fa4afddb498658ad87976"), looks := false }, kinds := [], alts := [], laidByText := true, laidKinds := [.data, .data, .data, .data, .pinned], laidTests := true, laidLooks := .later }
def A64EncodesUptoCardSaid : Prop := Claim7.holds Tryd.pinned (.plain (OpenSpec.upto a64EncodesSpec)) a64EncodesUptoCard

/-- THE SECOND FORM's CARD OF 'calquelaw20.A64Apart'. -/
def a64ApartUptoCard : Claim7 := { stood := { row := a64ApartUptoRow, standIns := [], harness := (true, "117a81bef5143330e499dab6dc7ae7dcf373ce13b00fa4afddb498658ad87976"), looks := false }, kinds := [], alts := [], laidByText := true, laidKinds := [.data, .data, .data, .data, .pinned], laidTests := true, laidLooks := .later }
def A64ApartUptoCardSaid : Prop := Claim7.holds Tryd.pinned (.plain (OpenSpec.upto a64ApartSpec)) a64ApartUptoCard

/-- THE SECOND FORM's CARD OF 'calquelaw20.A64All'. -/
def a64AllUptoCard : Claim7 := { stood := { row := a64AllUptoRow, standIns := [], harness := (true, "117a81bef5143330e499dab6dc7ae7dcf373ce13b00fa4afddb498658ad87976"), looks := false }, kinds := [], alts := [], laidByText := true, laidKinds := [.data, .data, .data, .data, .pinned], laidTests := true, laidLooks := .later }
def A64AllUptoCardSaid : Prop := Claim7.holds Tryd.pinned (.plain (OpenSpec.upto a64AllSpec)) a64AllUptoCard

/-- THE SECOND FORM's CARD OF 'calquelaw21.AdecWords'. -/
def adecWordsUptoCard : Claim7 := { stood := { row := adecWordsUptoRow, standIns := [], harness := (true, "117a81bef5143330e499dab6dc7ae7dcf373ce13b00fa4afddb498658ad87976"), looks := false }, kinds := [], alts := [], laidByText := true, laidKinds := [.data, .data, .data, .data, .pinned], laidTests := true, laidLooks := .later }
def AdecWordsUptoCardSaid : Prop := Claim7.holds Tryd.pinned (.plain (OpenSpec.upto adecWordsSpec)) adecWordsUptoCard

/-- THE SECOND FORM's CARD OF 'calquelaw21.AdecBack'. -/
def adecBackUptoCard : Claim7 := { stood := { row := adecBackUptoRow, standIns := [], harness := (true, "117a81bef5143330e499dab6dc7ae7dcf373ce13b00fa4afddb498658ad87976"), looks := false }, kinds := [], alts := [], laidByText := true, laidKinds := [.data, .data, .data, .data, .pinned], laidTests := true, laidLooks := .later }
def AdecBackUptoCardSaid : Prop := Claim7.holds Tryd.pinned (.plain (OpenSpec.upto adecBackSpec)) adecBackUptoCard

/-- THE SECOND FORM's CARD OF 'calquelaw21.AdecAll'. -/
def adecAllUptoCard : Claim7 := { stood := { row := adecAllUptoRow, standIns := [], harness := (true, "117a81bef5143330e499dab6dc7ae7dcf373ce13b00fa4afddb498658ad87976"), looks := false }, kinds := [], alts := [], laidByText := true, laidKinds := [.data, .data, .data, .data, .pinned], laidTests := true, laidLooks := .later }
def AdecAllUptoCardSaid : Prop := Claim7.holds Tryd.pinned (.plain (OpenSpec.upto adecAllSpec)) adecAllUptoCard
end Rows
end Go.Proofs.YtocfkaihfjbfnaaDoor
