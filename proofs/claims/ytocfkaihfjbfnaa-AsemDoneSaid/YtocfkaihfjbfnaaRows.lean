/-
  No cell of these rows narrows 'for every input' (looked for: loops, veiled, ifaces, maps, wideKeys, modest, calm, conditions, laid).
  DERIVED. THE GIVEN ROWS OF THIS SEAT. 4 by the template 'for every input the law returns true; each argument reads behind the call as it read before'; 0 by the template 'total and deterministic' (their statements: YtocfkaihfjbfnaaTotals.lean).
  GIVEN WITH THE SEED: the statements are not yours to turn. If you find one false, say at which input.
  Laid BY PROGRAM, IN A SANDBOX (cutbox-rows.mjs): the forced cells as the released guide's own fill.sh prints them over the translation b4a67644cdb7389e… (all of the seat's roots in one cut). By AI agents, Wed Nov 11 2026. No macro, syntax, notation, axiom, sorry.
-/
import Derived.Test.YtocfkaihfjbfnaaChecked
import GoSem.Claim
import GoSem.ClaimJoined
import GoSem.ClaimMapViews
import Derived.JoinedTies
import Derived.KernelRfl
namespace Go.Proofs.Ytocfkaihfjbfnaa
/- THE CELL 'sum', in the pinned program and in every row, IS THE sha256 OF THE DUMP (.gsa) THAT YtocfkaihfjbfnaaProg.lean LOADS. Nothing in Lean hashes anything: it is a label: what it is worth is what the hold of that sum in a sandbox is worth. -/
noncomputable def Try.pinned : Pinned := { name := "ytocfkaihfjbfnaa", sum := "b4a67644cdb7389e0ff777cb164660a7d2645fce5ea059ec0f76ad969249f77d", checked := Try.checked }
namespace Rows
def none {H : Type} : Left H := { results := [], args := [] }

/-- 'calquelaw22.AsemDone': WHATEVER THE INPUT: true; the input reads as it did. -/
def asemDoneSpec : ChangeSpec := { name := "asemDone", fn := fun _ => fun
  | [d1, d2, d3, d4] => { results := [.lit (.bool true)], args := [d1, d2, d3, d4] }
  | _ => none }
def asemDoneRow : OpenClaim := { program := "ytocfkaihfjbfnaa", sum := "b4a67644cdb7389e0ff777cb164660a7d2645fce5ea059ec0f76ad969249f77d", func := "calque/calquelaw22.AsemDone", spec := "asemDone", inPlace := ["math/bits.Add64", "math/bits.Sub64"], apart := false }
def AsemDoneSaid : Prop := asemDoneRow.holds Try.pinned (OpenSpec.ofChange asemDoneSpec)

/-- ITS FALSE NEIGHBOUR: 'it returns false'. Refute it at one input. -/
def asemDoneWrong : ChangeSpec := { name := "asemDone", fn := fun _ => fun
  | [d1, d2, d3, d4] => { results := [.lit (.bool false)], args := [d1, d2, d3, d4] }
  | _ => none }
def AsemDoneWrongFalsely : Prop := asemDoneRow.holds Try.pinned (OpenSpec.ofChange asemDoneWrong)

/-- 'calquelaw22.AsemKeeps': WHATEVER THE INPUT: true; the input reads as it did. -/
def asemKeepsSpec : ChangeSpec := { name := "asemKeeps", fn := fun _ => fun
  | [d1, d2, d3] => { results := [.lit (.bool true)], args := [d1, d2, d3] }
  | _ => none }
def asemKeepsRow : OpenClaim := { program := "ytocfkaihfjbfnaa", sum := "b4a67644cdb7389e0ff777cb164660a7d2645fce5ea059ec0f76ad969249f77d", func := "calque/calquelaw22.AsemKeeps", spec := "asemKeeps", inPlace := ["math/bits.Add64", "math/bits.Sub64"], apart := false }
def AsemKeepsSaid : Prop := asemKeepsRow.holds Try.pinned (OpenSpec.ofChange asemKeepsSpec)

/-- ITS FALSE NEIGHBOUR: 'it returns false'. Refute it at one input. -/
def asemKeepsWrong : ChangeSpec := { name := "asemKeeps", fn := fun _ => fun
  | [d1, d2, d3] => { results := [.lit (.bool false)], args := [d1, d2, d3] }
  | _ => none }
def AsemKeepsWrongFalsely : Prop := asemKeepsRow.holds Try.pinned (OpenSpec.ofChange asemKeepsWrong)

/-- 'calquelaw22.AsemBits': WHATEVER THE INPUT: true; the input reads as it did. -/
def asemBitsSpec : ChangeSpec := { name := "asemBits", fn := fun _ => fun
  | [d1, d2, d3, d4] => { results := [.lit (.bool true)], args := [d1, d2, d3, d4] }
  | _ => none }
def asemBitsRow : OpenClaim := { program := "ytocfkaihfjbfnaa", sum := "b4a67644cdb7389e0ff777cb164660a7d2645fce5ea059ec0f76ad969249f77d", func := "calque/calquelaw22.AsemBits", spec := "asemBits", inPlace := ["math/bits.Add64", "math/bits.Sub64"], apart := false }
def AsemBitsSaid : Prop := asemBitsRow.holds Try.pinned (OpenSpec.ofChange asemBitsSpec)

/-- ITS FALSE NEIGHBOUR: 'it returns false'. Refute it at one input. -/
def asemBitsWrong : ChangeSpec := { name := "asemBits", fn := fun _ => fun
  | [d1, d2, d3, d4] => { results := [.lit (.bool false)], args := [d1, d2, d3, d4] }
  | _ => none }
def AsemBitsWrongFalsely : Prop := asemBitsRow.holds Try.pinned (OpenSpec.ofChange asemBitsWrong)

/-- 'calquelaw22.AsemRegs': WHATEVER THE INPUT: true; the input reads as it did. -/
def asemRegsSpec : ChangeSpec := { name := "asemRegs", fn := fun _ => fun
  | [d1, d2, d3, d4] => { results := [.lit (.bool true)], args := [d1, d2, d3, d4] }
  | _ => none }
def asemRegsRow : OpenClaim := { program := "ytocfkaihfjbfnaa", sum := "b4a67644cdb7389e0ff777cb164660a7d2645fce5ea059ec0f76ad969249f77d", func := "calque/calquelaw22.AsemRegs", spec := "asemRegs", inPlace := ["math/bits.Add64", "math/bits.Sub64"], unfollowed := true, recurses := true, apart := false }
def AsemRegsSaid : Prop := asemRegsRow.holds Try.pinned (OpenSpec.ofChange asemRegsSpec)

/-- ITS FALSE NEIGHBOUR: 'it returns false'. Refute it at one input. -/
def asemRegsWrong : ChangeSpec := { name := "asemRegs", fn := fun _ => fun
  | [d1, d2, d3, d4] => { results := [.lit (.bool false)], args := [d1, d2, d3, d4] }
  | _ => none }
def AsemRegsWrongFalsely : Prop := asemRegsRow.holds Try.pinned (OpenSpec.ofChange asemRegsWrong)

/- THE SECOND FORM. 'bulk': how many values and letters a reading holds, each counted each time it is reached (what is shared counts as often as it is met; a slice's spare places count too). A statement '..UptoSaid' is the law's where the arguments, and the package variables that the reading takes, are together of bulk at most 1048576: NARROWER than '..Said'. Prove '..Said' where nothing that the law and all that it calls make is longer than what came in: it says more and counts as full. Else prove '..UptoSaid'. A law counts once. -/
mutual
def uptoBulk {H : Type} : DataW H → Nat
  | .lit (.string bytes) => bytes.length + 1
  | .lit _ => 1
  | .nil => 1
  | .ptr d => uptoBulk d + 1
  | .slice elems spare => uptoBulkAll elems + uptoBulkAll spare + 1
  | .agg parts => uptoBulkAll parts + 1
  | .iface _ d => uptoBulk d + 1
  | .map entries => uptoBulkEntries entries + 1
  | .held _ => 1
def uptoBulkAll {H : Type} : List (DataW H) → Nat
  | [] => 0
  | d :: r => uptoBulk d + uptoBulkAll r
def uptoBulkEntries {H : Type} : List (Lit × DataW H) → Nat
  | [] => 0
  | x :: r => uptoBulkEntry x + uptoBulkEntries r
def uptoBulkEntry {H : Type} : Lit × DataW H → Nat
  | (.string bytes, d) => bytes.length + uptoBulk d + 1
  | (_, d) => uptoBulk d + 1
 end
def uptoSmall : (H : Type) → List (DataW H) → Bool := fun _ ds => decide (uptoBulkAll ds ≤ 1048576)
def OpenSpec.upto (s : _root_.Go.ChangeSpec) : _root_.Go.OpenSpec := { _root_.Go.OpenSpec.ofChange s with cond := some uptoSmall }

/-- 'calquelaw22.AsemDone', WHERE WHAT IT READS IS OF BULK AT MOST 1048576: true; the input reads as it did. -/
def asemDoneUptoRow : OpenClaim := { program := "ytocfkaihfjbfnaa", sum := "b4a67644cdb7389e0ff777cb164660a7d2645fce5ea059ec0f76ad969249f77d", func := "calque/calquelaw22.AsemDone", spec := "asemDone", inPlace := ["math/bits.Add64", "math/bits.Sub64"], apart := false, narrowed := true }
def AsemDoneUptoSaid : Prop := asemDoneUptoRow.holds Try.pinned (OpenSpec.upto asemDoneSpec)

/-- 'calquelaw22.AsemKeeps', WHERE WHAT IT READS IS OF BULK AT MOST 1048576: true; the input reads as it did. -/
def asemKeepsUptoRow : OpenClaim := { program := "ytocfkaihfjbfnaa", sum := "b4a67644cdb7389e0ff777cb164660a7d2645fce5ea059ec0f76ad969249f77d", func := "calque/calquelaw22.AsemKeeps", spec := "asemKeeps", inPlace := ["math/bits.Add64", "math/bits.Sub64"], apart := false, narrowed := true }
def AsemKeepsUptoSaid : Prop := asemKeepsUptoRow.holds Try.pinned (OpenSpec.upto asemKeepsSpec)

/-- 'calquelaw22.AsemBits', WHERE WHAT IT READS IS OF BULK AT MOST 1048576: true; the input reads as it did. -/
def asemBitsUptoRow : OpenClaim := { program := "ytocfkaihfjbfnaa", sum := "b4a67644cdb7389e0ff777cb164660a7d2645fce5ea059ec0f76ad969249f77d", func := "calque/calquelaw22.AsemBits", spec := "asemBits", inPlace := ["math/bits.Add64", "math/bits.Sub64"], apart := false, narrowed := true }
def AsemBitsUptoSaid : Prop := asemBitsUptoRow.holds Try.pinned (OpenSpec.upto asemBitsSpec)

/-- 'calquelaw22.AsemRegs', WHERE WHAT IT READS IS OF BULK AT MOST 1048576: true; the input reads as it did. -/
def asemRegsUptoRow : OpenClaim := { program := "ytocfkaihfjbfnaa", sum := "b4a67644cdb7389e0ff777cb164660a7d2645fce5ea059ec0f76ad969249f77d", func := "calque/calquelaw22.AsemRegs", spec := "asemRegs", inPlace := ["math/bits.Add64", "math/bits.Sub64"], unfollowed := true, recurses := true, apart := false, narrowed := true }
def AsemRegsUptoSaid : Prop := asemRegsUptoRow.holds Try.pinned (OpenSpec.upto asemRegsSpec)

end Rows
end Go.Proofs.Ytocfkaihfjbfnaa
