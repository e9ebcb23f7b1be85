/-
  No cell of these rows narrows 'for every input' (looked for: loops, veiled, ifaces, maps, wideKeys, modest, calm, conditions, laid).
  DERIVED. THE GIVEN ROWS OF THIS SEAT. 11 by the template 'for every input the law returns true; each argument reads behind the call as it read before'; 0 by the template 'total and deterministic' (their statements: YtffihbfmdmlbcaaTotals.lean).
  GIVEN WITH THE SEED: the statements are not yours to turn. If you find one false, say at which input.
  Laid BY PROGRAM, IN A SANDBOX (cutbox-rows.mjs): the forced cells as the released guide's own fill.sh prints them over the translation 33c09df04771bace… (all of the seat's roots in one cut). By AI agents, Wed Nov 11 2026. No macro, syntax, notation, axiom, sorry.
-/
import Derived.Test.YtffihbfmdmlbcaaChecked
import GoSem.Claim
import GoSem.ClaimJoined
import GoSem.ClaimMapViews
import Derived.JoinedTies
import Derived.KernelRfl
namespace Go.Proofs.Ytffihbfmdmlbcaa
/- THE CELL 'sum', in the pinned program and in every row, IS THE sha256 OF THE DUMP (.gsa) THAT YtffihbfmdmlbcaaProg.lean LOADS. Nothing in Lean hashes anything: it is a label: what it is worth is what the hold of that sum in a sandbox is worth. -/
noncomputable def Try.pinned : Pinned := { name := "ytffihbfmdmlbcaa", sum := "33c09df04771bace3b0d8f20e57956e5c5db03526c61c7181bf0a0d21145b697", checked := Try.checked }
namespace Rows
def none {H : Type} : Left H := { results := [], args := [] }

/-- 'calquelaw01.BitsWidths': WHATEVER THE INPUT: true; the input reads as it did. -/
def bitsWidthsSpec : ChangeSpec := { name := "bitsWidths", fn := fun _ => fun
  | [d1, d2] => { results := [.lit (.bool true)], args := [d1, d2] }
  | _ => none }
def bitsWidthsRow : OpenClaim := { program := "ytffihbfmdmlbcaa", sum := "33c09df04771bace3b0d8f20e57956e5c5db03526c61c7181bf0a0d21145b697", func := "calque/calquelaw01.BitsWidths", spec := "bitsWidths", inPlace := ["math/bits.Add64", "math/bits.Sub64"], apart := false }
def BitsWidthsSaid : Prop := bitsWidthsRow.holds Try.pinned (OpenSpec.ofChange bitsWidthsSpec)

/-- ITS FALSE NEIGHBOUR: 'it returns false'. Refute it at one input. -/
def bitsWidthsWrong : ChangeSpec := { name := "bitsWidths", fn := fun _ => fun
  | [d1, d2] => { results := [.lit (.bool false)], args := [d1, d2] }
  | _ => none }
def BitsWidthsWrongFalsely : Prop := bitsWidthsRow.holds Try.pinned (OpenSpec.ofChange bitsWidthsWrong)

/-- 'calquelaw01.BitsSums': WHATEVER THE INPUT: true; the input reads as it did. -/
def bitsSumsSpec : ChangeSpec := { name := "bitsSums", fn := fun _ => fun
  | [d1, d2, d3, d4] => { results := [.lit (.bool true)], args := [d1, d2, d3, d4] }
  | _ => none }
def bitsSumsRow : OpenClaim := { program := "ytffihbfmdmlbcaa", sum := "33c09df04771bace3b0d8f20e57956e5c5db03526c61c7181bf0a0d21145b697", func := "calque/calquelaw01.BitsSums", spec := "bitsSums", inPlace := ["math/bits.Add64", "math/bits.Sub64"], apart := false }
def BitsSumsSaid : Prop := bitsSumsRow.holds Try.pinned (OpenSpec.ofChange bitsSumsSpec)

/-- ITS FALSE NEIGHBOUR: 'it returns false'. Refute it at one input. -/
def bitsSumsWrong : ChangeSpec := { name := "bitsSums", fn := fun _ => fun
  | [d1, d2, d3, d4] => { results := [.lit (.bool false)], args := [d1, d2, d3, d4] }
  | _ => none }
def BitsSumsWrongFalsely : Prop := bitsSumsRow.holds Try.pinned (OpenSpec.ofChange bitsSumsWrong)

/-- 'calquelaw01.BitsBack': WHATEVER THE INPUT: true; the input reads as it did. -/
def bitsBackSpec : ChangeSpec := { name := "bitsBack", fn := fun _ => fun
  | [d1, d2, d3] => { results := [.lit (.bool true)], args := [d1, d2, d3] }
  | _ => none }
def bitsBackRow : OpenClaim := { program := "ytffihbfmdmlbcaa", sum := "33c09df04771bace3b0d8f20e57956e5c5db03526c61c7181bf0a0d21145b697", func := "calque/calquelaw01.BitsBack", spec := "bitsBack", inPlace := ["math/bits.Add64", "math/bits.Sub64"], apart := false }
def BitsBackSaid : Prop := bitsBackRow.holds Try.pinned (OpenSpec.ofChange bitsBackSpec)

/-- ITS FALSE NEIGHBOUR: 'it returns false'. Refute it at one input. -/
def bitsBackWrong : ChangeSpec := { name := "bitsBack", fn := fun _ => fun
  | [d1, d2, d3] => { results := [.lit (.bool false)], args := [d1, d2, d3] }
  | _ => none }
def BitsBackWrongFalsely : Prop := bitsBackRow.holds Try.pinned (OpenSpec.ofChange bitsBackWrong)

/-- 'calquelaw01.BitsTurns': WHATEVER THE INPUT: true; the input reads as it did. -/
def bitsTurnsSpec : ChangeSpec := { name := "bitsTurns", fn := fun _ => fun
  | [d1, d2, d3] => { results := [.lit (.bool true)], args := [d1, d2, d3] }
  | _ => none }
def bitsTurnsRow : OpenClaim := { program := "ytffihbfmdmlbcaa", sum := "33c09df04771bace3b0d8f20e57956e5c5db03526c61c7181bf0a0d21145b697", func := "calque/calquelaw01.BitsTurns", spec := "bitsTurns", inPlace := ["math/bits.Add64", "math/bits.Sub64"], apart := false }
def BitsTurnsSaid : Prop := bitsTurnsRow.holds Try.pinned (OpenSpec.ofChange bitsTurnsSpec)

/-- ITS FALSE NEIGHBOUR: 'it returns false'. Refute it at one input. -/
def bitsTurnsWrong : ChangeSpec := { name := "bitsTurns", fn := fun _ => fun
  | [d1, d2, d3] => { results := [.lit (.bool false)], args := [d1, d2, d3] }
  | _ => none }
def BitsTurnsWrongFalsely : Prop := bitsTurnsRow.holds Try.pinned (OpenSpec.ofChange bitsTurnsWrong)

/-- 'calquelaw19.LogimTurned': WHATEVER THE INPUT: true; the input reads as it did. -/
def logimTurnedSpec : ChangeSpec := { name := "logimTurned", fn := fun _ => fun
  | [d1, d2, d3] => { results := [.lit (.bool true)], args := [d1, d2, d3] }
  | _ => none }
def logimTurnedRow : OpenClaim := { program := "ytffihbfmdmlbcaa", sum := "33c09df04771bace3b0d8f20e57956e5c5db03526c61c7181bf0a0d21145b697", func := "calque/calquelaw19.LogimTurned", spec := "logimTurned", apart := false }
def LogimTurnedSaid : Prop := logimTurnedRow.holds Try.pinned (OpenSpec.ofChange logimTurnedSpec)

/-- ITS FALSE NEIGHBOUR: 'it returns false'. Refute it at one input. -/
def logimTurnedWrong : ChangeSpec := { name := "logimTurned", fn := fun _ => fun
  | [d1, d2, d3] => { results := [.lit (.bool false)], args := [d1, d2, d3] }
  | _ => none }
def LogimTurnedWrongFalsely : Prop := logimTurnedRow.holds Try.pinned (OpenSpec.ofChange logimTurnedWrong)

/-- 'calquelaw19.LogimAlike': WHATEVER THE INPUT: true; the input reads as it did. -/
def logimAlikeSpec : ChangeSpec := { name := "logimAlike", fn := fun _ => fun
  | [d] => { results := [.lit (.bool true)], args := [d] }
  | _ => none }
def logimAlikeRow : OpenClaim := { program := "ytffihbfmdmlbcaa", sum := "33c09df04771bace3b0d8f20e57956e5c5db03526c61c7181bf0a0d21145b697", func := "calque/calquelaw19.LogimAlike", spec := "logimAlike", apart := false }
def LogimAlikeSaid : Prop := logimAlikeRow.holds Try.pinned (OpenSpec.ofChange logimAlikeSpec)

/-- ITS FALSE NEIGHBOUR: 'it returns false'. Refute it at one input. -/
def logimAlikeWrong : ChangeSpec := { name := "logimAlike", fn := fun _ => fun
  | [d] => { results := [.lit (.bool false)], args := [d] }
  | _ => none }
def LogimAlikeWrongFalsely : Prop := logimAlikeRow.holds Try.pinned (OpenSpec.ofChange logimAlikeWrong)

/-- 'calquelaw01.BitsFields': WHATEVER THE INPUT: true; the input reads as it did. -/
def bitsFieldsSpec : ChangeSpec := { name := "bitsFields", fn := fun _ => fun
  | [d1, d2, d3, d4] => { results := [.lit (.bool true)], args := [d1, d2, d3, d4] }
  | _ => none }
def bitsFieldsRow : OpenClaim := { program := "ytffihbfmdmlbcaa", sum := "33c09df04771bace3b0d8f20e57956e5c5db03526c61c7181bf0a0d21145b697", func := "calque/calquelaw01.BitsFields", spec := "bitsFields", inPlace := ["math/bits.Add64", "math/bits.Sub64"], apart := false }
def BitsFieldsSaid : Prop := bitsFieldsRow.holds Try.pinned (OpenSpec.ofChange bitsFieldsSpec)

/-- ITS FALSE NEIGHBOUR: 'it returns false'. Refute it at one input. -/
def bitsFieldsWrong : ChangeSpec := { name := "bitsFields", fn := fun _ => fun
  | [d1, d2, d3, d4] => { results := [.lit (.bool false)], args := [d1, d2, d3, d4] }
  | _ => none }
def BitsFieldsWrongFalsely : Prop := bitsFieldsRow.holds Try.pinned (OpenSpec.ofChange bitsFieldsWrong)

/-- 'calquelaw01.BitsProducts': WHATEVER THE INPUT: true; the input reads as it did. -/
def bitsProductsSpec : ChangeSpec := { name := "bitsProducts", fn := fun _ => fun
  | [d1, d2] => { results := [.lit (.bool true)], args := [d1, d2] }
  | _ => none }
def bitsProductsRow : OpenClaim := { program := "ytffihbfmdmlbcaa", sum := "33c09df04771bace3b0d8f20e57956e5c5db03526c61c7181bf0a0d21145b697", func := "calque/calquelaw01.BitsProducts", spec := "bitsProducts", inPlace := ["math/bits.Add64", "math/bits.Sub64"], apart := false }
def BitsProductsSaid : Prop := bitsProductsRow.holds Try.pinned (OpenSpec.ofChange bitsProductsSpec)

/-- ITS FALSE NEIGHBOUR: 'it returns false'. Refute it at one input. -/
def bitsProductsWrong : ChangeSpec := { name := "bitsProducts", fn := fun _ => fun
  | [d1, d2] => { results := [.lit (.bool false)], args := [d1, d2] }
  | _ => none }
def BitsProductsWrongFalsely : Prop := bitsProductsRow.holds Try.pinned (OpenSpec.ofChange bitsProductsWrong)

/-- 'calquelaw19.LogimDecodes': WHATEVER THE INPUT: true; the input reads as it did. -/
def logimDecodesSpec : ChangeSpec := { name := "logimDecodes", fn := fun _ => fun
  | [d] => { results := [.lit (.bool true)], args := [d] }
  | _ => none }
def logimDecodesRow : OpenClaim := { program := "ytffihbfmdmlbcaa", sum := "33c09df04771bace3b0d8f20e57956e5c5db03526c61c7181bf0a0d21145b697", func := "calque/calquelaw19.LogimDecodes", spec := "logimDecodes", apart := false }
def LogimDecodesSaid : Prop := logimDecodesRow.holds Try.pinned (OpenSpec.ofChange logimDecodesSpec)

/-- ITS FALSE NEIGHBOUR: 'it returns false'. Refute it at one input. -/
def logimDecodesWrong : ChangeSpec := { name := "logimDecodes", fn := fun _ => fun
  | [d] => { results := [.lit (.bool false)], args := [d] }
  | _ => none }
def LogimDecodesWrongFalsely : Prop := logimDecodesRow.holds Try.pinned (OpenSpec.ofChange logimDecodesWrong)

/-- 'calquelaw19.LogimEncodes': WHATEVER THE INPUT: true; the input reads as it did. -/
def logimEncodesSpec : ChangeSpec := { name := "logimEncodes", fn := fun _ => fun
  | [d] => { results := [.lit (.bool true)], args := [d] }
  | _ => none }
def logimEncodesRow : OpenClaim := { program := "ytffihbfmdmlbcaa", sum := "33c09df04771bace3b0d8f20e57956e5c5db03526c61c7181bf0a0d21145b697", func := "calque/calquelaw19.LogimEncodes", spec := "logimEncodes", apart := false }
def LogimEncodesSaid : Prop := logimEncodesRow.holds Try.pinned (OpenSpec.ofChange logimEncodesSpec)

/-- ITS FALSE NEIGHBOUR: 'it returns false'. Refute it at one input. -/
def logimEncodesWrong : ChangeSpec := { name := "logimEncodes", fn := fun _ => fun
  | [d] => { results := [.lit (.bool false)], args := [d] }
  | _ => none }
def LogimEncodesWrongFalsely : Prop := logimEncodesRow.holds Try.pinned (OpenSpec.ofChange logimEncodesWrong)

/-- 'calquelaw01.BitsFits': WHATEVER THE INPUT: true; the input reads as it did. -/
def bitsFitsSpec : ChangeSpec := { name := "bitsFits", fn := fun _ => fun
  | [d1, d2, d3] => { results := [.lit (.bool true)], args := [d1, d2, d3] }
  | _ => none }
def bitsFitsRow : OpenClaim := { program := "ytffihbfmdmlbcaa", sum := "33c09df04771bace3b0d8f20e57956e5c5db03526c61c7181bf0a0d21145b697", func := "calque/calquelaw01.BitsFits", spec := "bitsFits", inPlace := ["math/bits.Add64", "math/bits.Sub64"], apart := false }
def BitsFitsSaid : Prop := bitsFitsRow.holds Try.pinned (OpenSpec.ofChange bitsFitsSpec)

/-- ITS FALSE NEIGHBOUR: 'it returns false'. Refute it at one input. -/
def bitsFitsWrong : ChangeSpec := { name := "bitsFits", fn := fun _ => fun
  | [d1, d2, d3] => { results := [.lit (.bool false)], args := [d1, d2, d3] }
  | _ => none }
def BitsFitsWrongFalsely : Prop := bitsFitsRow.holds Try.pinned (OpenSpec.ofChange bitsFitsWrong)

/- THE SECOND FORM. 'bulk': how many values and letters a reading holds, each counted each time it is reached (what is shared counts as often as it is met; a slice's spare places count too). A statement '..UptoSaid' is the law's where the arguments, and the package variables that the reading takes, are together of bulk at most 1048576: NARROWER than '..Said'. Prove '..Said' where nothing that the law and all that it calls make is longer than what came in: it says more and counts as full. Else prove '..UptoSaid'. A law counts once. -/
mutual
def uptoBulk {H : Type} : DataW H → Nat
  | .lit (.string bytes) => bytes.length + 1
  | .lit _ => 1
  | .nil => 1
  | .ptr d => uptoBulk d + 1
  | .slice elems spare => uptoBulkAll elems + uptoBulkAll spare + 1
  | .agg parts => uptoBulkAll parts + 1
  | .iface _ d => uptoBulk d + 1
  | .map entries => uptoBulkEntries entries + 1
  | .held _ => 1
def uptoBulkAll {H : Type} : List (DataW H) → Nat
  | [] => 0
  | d :: r => uptoBulk d + uptoBulkAll r
def uptoBulkEntries {H : Type} : List (Lit × DataW H) → Nat
  | [] => 0
  | x :: r => uptoBulkEntry x + uptoBulkEntries r
def uptoBulkEntry {H : Type} : Lit × DataW H → Nat
  | (.string bytes, d) => bytes.length + uptoBulk d + 1
  | (_, d) => uptoBulk d + 1
 end
def uptoSmall : (H : Type) → List (DataW H) → Bool := fun _ ds => decide (uptoBulkAll ds ≤ 1048576)
def OpenSpec.upto (s : _root_.Go.ChangeSpec) : _root_.Go.OpenSpec := { _root_.Go.OpenSpec.ofChange s with cond := some uptoSmall }

/-- 'calquelaw01.BitsWidths', WHERE WHAT IT READS IS OF BULK AT MOST 1048576: true; the input reads as it did. -/
def bitsWidthsUptoRow : OpenClaim := { program := "ytffihbfmdmlbcaa", sum := "33c09df04771bace3b0d8f20e57956e5c5db03526c61c7181bf0a0d21145b697", func := "calque/calquelaw01.BitsWidths", spec := "bitsWidths", inPlace := ["math/bits.Add64", "math/bits.Sub64"], apart := false, narrowed := true }
def BitsWidthsUptoSaid : Prop := bitsWidthsUptoRow.holds Try.pinned (OpenSpec.upto bitsWidthsSpec)

/-- 'calquelaw01.BitsSums', WHERE WHAT IT READS IS OF BULK AT MOST 1048576: true; the input reads as it did. -/
def bitsSumsUptoRow : OpenClaim := { program := "ytffihbfmdmlbcaa", sum := "33c09df04771bace3b0d8f20e57956e5c5db03526c61c7181bf0a0d21145b697", func := "calque/calquelaw01.BitsSums", spec := "bitsSums", inPlace := ["math/bits.Add64", "math/bits.Sub64"], apart := false, narrowed := true }
def BitsSumsUptoSaid : Prop := bitsSumsUptoRow.holds Try.pinned (OpenSpec.upto bitsSumsSpec)

/-- 'calquelaw01.BitsBack', WHERE WHAT IT READS IS OF BULK AT MOST 1048576: true; the input reads as it did. -/
def bitsBackUptoRow : OpenClaim := { program := "ytffihbfmdmlbcaa", sum := "33c09df04771bace3b0d8f20e57956e5c5db03526c61c7181bf0a0d21145b697", func := "calque/calquelaw01.BitsBack", spec := "bitsBack", inPlace := ["math/bits.Add64", "math/bits.Sub64"], apart := false, narrowed := true }
def BitsBackUptoSaid : Prop := bitsBackUptoRow.holds Try.pinned (OpenSpec.upto bitsBackSpec)

/-- 'calquelaw01.BitsTurns', WHERE WHAT IT READS IS OF BULK AT MOST 1048576: true; the input reads as it did. -/
def bitsTurnsUptoRow : OpenClaim := { program := "ytffihbfmdmlbcaa", sum := "33c09df04771bace3b0d8f20e57956e5c5db03526c61c7181bf0a0d21145b697", func := "calque/calquelaw01.BitsTurns", spec := "bitsTurns", inPlace := ["math/bits.Add64", "math/bits.Sub64"], apart := false, narrowed := true }
def BitsTurnsUptoSaid : Prop := bitsTurnsUptoRow.holds Try.pinned (OpenSpec.upto bitsTurnsSpec)

/-- 'calquelaw19.LogimTurned', WHERE WHAT IT READS IS OF BULK AT MOST 1048576: true; the input reads as it did. -/
def logimTurnedUptoRow : OpenClaim := { program := "ytffihbfmdmlbcaa", sum := "33c09df04771bace3b0d8f20e57956e5c5db03526c61c7181bf0a0d21145b697", func := "calque/calquelaw19.LogimTurned", spec := "logimTurned", apart := false, narrowed := true }
def LogimTurnedUptoSaid : Prop := logimTurnedUptoRow.holds Try.pinned (OpenSpec.upto logimTurnedSpec)

/-- 'calquelaw19.LogimAlike', WHERE WHAT IT READS IS OF BULK AT MOST 1048576: true; the input reads as it did. -/
def logimAlikeUptoRow : OpenClaim := { program := "ytffihbfmdmlbcaa", sum := "33c09df04771bace3b0d8f20e57956e5c5db03526c61c7181bf0a0d21145b697", func := "calque/calquelaw19.LogimAlike", spec := "logimAlike", apart := false, narrowed := true }
def LogimAlikeUptoSaid : Prop := logimAlikeUptoRow.holds Try.pinned (OpenSpec.upto logimAlikeSpec)

/-- 'calquelaw01.BitsFields', WHERE WHAT IT READS IS OF BULK AT MOST 1048576: true; the input reads as it did. -/
def bitsFieldsUptoRow : OpenClaim := { program := "ytffihbfmdmlbcaa", sum := "33c09df04771bace3b0d8f20e57956e5c5db03526c61c7181bf0a0d21145b697", func := "calque/calquelaw01.BitsFields", spec := "bitsFields", inPlace := ["math/bits.Add64", "math/bits.Sub64"], apart := false, narrowed := true }
def BitsFieldsUptoSaid : Prop := bitsFieldsUptoRow.holds Try.pinned (OpenSpec.upto bitsFieldsSpec)

/-- 'calquelaw01.BitsProducts', WHERE WHAT IT READS IS OF BULK AT MOST 1048576: true; the input reads as it did. -/
def bitsProductsUptoRow : OpenClaim := { program := "ytffihbfmdmlbcaa", sum := "33c09df04771bace3b0d8f20e57956e5c5db03526c61c7181bf0a0d21145b697", func := "calque/calquelaw01.BitsProducts", spec := "bitsProducts", inPlace := ["math/bits.Add64", "math/bits.Sub64"], apart := false, narrowed := true }
def BitsProductsUptoSaid : Prop := bitsProductsUptoRow.holds Try.pinned (OpenSpec.upto bitsProductsSpec)

/-- 'calquelaw19.LogimDecodes', WHERE WHAT IT READS IS OF BULK AT MOST 1048576: true; the input reads as it did. -/
def logimDecodesUptoRow : OpenClaim := { program := "ytffihbfmdmlbcaa", sum := "33c09df04771bace3b0d8f20e57956e5c5db03526c61c7181bf0a0d21145b697", func := "calque/calquelaw19.LogimDecodes", spec := "logimDecodes", apart := false, narrowed := true }
def LogimDecodesUptoSaid : Prop := logimDecodesUptoRow.holds Try.pinned (OpenSpec.upto logimDecodesSpec)

/-- 'calquelaw19.LogimEncodes', WHERE WHAT IT READS IS OF BULK AT MOST 1048576: true; the input reads as it did. -/
def logimEncodesUptoRow : OpenClaim := { program := "ytffihbfmdmlbcaa", sum := "33c09df04771bace3b0d8f20e57956e5c5db03526c61c7181bf0a0d21145b697", func := "calque/calquelaw19.LogimEncodes", spec := "logimEncodes", apart := false, narrowed := true }
def LogimEncodesUptoSaid : Prop := logimEncodesUptoRow.holds Try.pinned (OpenSpec.upto logimEncodesSpec)

/-- 'calquelaw01.BitsFits', WHERE WHAT IT READS IS OF BULK AT MOST 1048576: true; the input reads as it did. -/
def bitsFitsUptoRow : OpenClaim := { program := "ytffihbfmdmlbcaa", sum := "33c09df04771bace3b0d8f20e57956e5c5db03526c61c7181bf0a0d21145b697", func := "calque/calquelaw01.BitsFits", spec := "bitsFits", inPlace := ["math/bits.Add64", "math/bits.Sub64"], apart := false, narrowed := true }
def BitsFitsUptoSaid : Prop := bitsFitsUptoRow.holds Try.pinned (OpenSpec.upto bitsFitsSpec)

end Rows
end Go.Proofs.Ytffihbfmdmlbcaa
