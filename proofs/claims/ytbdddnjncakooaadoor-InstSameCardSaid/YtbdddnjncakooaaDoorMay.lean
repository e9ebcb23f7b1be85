/- Lemmas: which instructions there may be, by the program and by the reference, each function shown by the evaluator. No condition. -/
import Derived.Test.YtbdddnjncakooaaDoorDoes
set_option linter.unusedVariables false
set_option linter.unusedSimpArgs false
set_option maxRecDepth 100000
namespace Go.Proofs.YtbdddnjncakooaaDoor
open Go.Proofs.YtbdddnjncakooaaDoor.Ev Go.RowKit
/- Numbers, widths; parts of May. -/
def fitR (v n : Int) : Bool := if (if decide (64 ≤ n) = true then true else if decide (0 ≤ v) = true then decide ((BitVec.ofInt 64 v).toNat < (BitVec.ofInt 64 1 <<< (BitVec.ofInt 64 (IntKind.i64.wrap (n - 1))).toNat).toNat) else false) = true then true
  else if decide (v < 0) = true then decide ((BitVec.ofInt 64 (IntKind.i64.wrap (-IntKind.i64.wrap (v + 1)))).toNat < (BitVec.ofInt 64 1 <<< (BitVec.ofInt 64 (IntKind.i64.wrap (n - 1))).toNat).toNat) else false
def s42 : CSpec | [.i .i64 v, .i .i64 n] => some ⟨[], .b (fitR v n)⟩ | _ => none
theorem ok42 : FnOk Tryd.prog 42 s42 := okBy SB3_ok Tryd.func42 (by kernel_rfl) (by kernel_rfl) 1 <| by
  intro xs r hs
  unfold s42 at hs; split at hs <;> cases hs
  rename_i v n
  intro hp _
  show (evFn T SB3 noL 1 Tryd.f42 [.i .i64 v, .i .i64 n]).run = some (.b (fitR v n))
  kernel_rfl
def fitA (v n : Int) : Bool := if (if decide (n < 1) = true then true else decide (64 < n)) = true then false else IntKind.i64.wrap (v * 2 ^ (IntKind.i64.wrap (64 - n)).toNat) / 2 ^ (IntKind.i64.wrap (64 - n)).toNat == v
def s67 : CSpec | [.i .i64 v, .i .i64 n] => some ⟨[], .b (fitA v n)⟩ | _ => none
theorem ok67 : FnOk Tryd.prog 67 s67 := okBy SB3_ok Tryd.func67 (by kernel_rfl) (by kernel_rfl) 1 <| by
  intro xs r hs
  unfold s67 at hs; split at hs <;> cases hs
  rename_i v n
  intro hp _
  have e : (evFn T SB3 noL 1 Tryd.f67 [.i .i64 v, .i .i64 n]).run = if (if decide (n < 1) = true then true else decide (64 < n)) = true then some (.b false) else
    if decide (0 ≤ IntKind.i64.wrap (64 - n)) = true then if decide (0 ≤ IntKind.i64.wrap (64 - n)) = true then some (.b (IntKind.i64.wrap (v * 2 ^ (IntKind.i64.wrap (64 - n)).toNat) / 2 ^ (IntKind.i64.wrap (64 - n)).toNat == v)) else none else none := by kernel_rfl
  show _ = some (AV.b (fitA v n))
  rw [e]
  unfold fitA
  cases hc : (if decide (n < 1) = true then true else decide (64 < n)) with
  | true => rfl
  | false =>
    have h1 : 1 ≤ n ∧ n ≤ 64 := by
      split at hc
      · cases hc
      · rename_i h1
        simp at h1 hc
        omega
    rw [wrap_small (64 - n) (by omega) (by omega)]
    have d : decide (0 ≤ 64 - n) = true := by simp; omega
    rw [d]
    rfl
def isW (w : Int) : Bool := if (if (if (w == 1) = true then true else w == 2) = true then true else w == 4) = true then true else w == 8
def s57 : CSpec | [.i .i64 w] => some ⟨[], .b (isW w)⟩ | _ => none
theorem ok57 : FnOk Tryd.prog 57 s57 := okBy SB3_ok Tryd.func57 (by kernel_rfl) (by kernel_rfl) 1 <| by
  intro xs r hs
  unfold s57 at hs; split at hs <;> cases hs
  rename_i w
  intro hp _
  show (evFn T SB3 noL 1 Tryd.f57 [.i .i64 w]).run = some (.b (isW w))
  kernel_rfl
def hasB (op ak bk : Int) : Bool := if (if (if (ak == 3) = true then true else bk == 3) = true then true else isA op tIi) = true then true else if isA op tJl = true then ak == 0 else false
def s43 : CSpec | [.agg (cI op w v ak ar ab ai ac ad bk br bb bi bc bd im cc lk rp ln)] => some ⟨[], .b (hasB op ak bk)⟩ | _ => none
theorem ok43 : FnOk Tryd.prog 43 s43 := okBy SB3_ok Tryd.func43 (by kernel_rfl) (by kernel_rfl) 1 <| by
  intro xs r hs
  unfold s43 at hs; split at hs <;> cases hs
  rename_i op w v ak ar ab ai ac ad bk br bb bi bc bd im cc lk rp ln
  intro hp _
  show (evFn T SB3 noL 1 Tryd.f43 [.agg (cI op w v ak ar ab ai ac ad bk br bb bi bc bd im cc lk rp ln)]).run = some (.b (hasB op ak bk))
  kernel_rfl
def lockB (op ak : Int) (lk rp : Bool) (ln : Int) : Bool := if (if (if (if rp = true then !inB 42 op 43 else false) = true then true else decide (ln < 0)) = true then true else decide (15 < ln)) = true then false else
  if (!lk) = true then true else if (ak == 2) = true then if (if inB 1 op 7 = true then true else inB 16 op 19) = true then true else inB 31 op 33 else false
def s45 : CSpec | [.agg (cI op w v ak ar ab ai ac ad bk br bb bi bc bd im cc lk rp ln)] => some ⟨[], .b (lockB op ak lk rp ln)⟩ | _ => none
theorem ok45 : FnOk Tryd.prog 45 s45 := okBy SB3_ok Tryd.func45 (by kernel_rfl) (by kernel_rfl) 1 <| by
  intro xs r hs
  unfold s45 at hs; split at hs <;> cases hs
  rename_i op w v ak ar ab ai ac ad bk br bb bi bc bd im cc lk rp ln
  intro hp _
  show _ = some (AV.b _)
  unfold lockB
  rw [← iteB]
  kernel_rfl
def plainB (v im cc : Int) (a b c : Bool) : Bool := if (if (if a = true then true else im == 0) = true then if (if (if b = true then decide (0 ≤ cc) else false) = true then decide (cc ≤ 15) else false) = true then true else cc == 0 else false) = true then if c = true then true else v == 0 else false
def s46 : CSpec | [.agg (cI op w v ak ar ab ai ac ad bk br bb bi bc bd im cc lk rp ln), .b a, .b b, .b c] => some ⟨[], .b (plainB v im cc a b c)⟩ | _ => none
theorem ok46 : FnOk Tryd.prog 46 s46 := okBy SB3_ok Tryd.func46 (by kernel_rfl) (by kernel_rfl) 1 <| by
  intro xs r hs
  unfold s46 at hs; split at hs <;> cases hs
  rename_i op w v ak ar ab ai ac ad bk br bb bi bc bd im cc lk rp ln a b c
  intro hp _
  show (evFn T SB3 noL 1 Tryd.f46 [.agg (cI op w v ak ar ab ai ac ad bk br bb bi bc bd im cc lk rp ln), .b a, .b b, .b c]).run = some (.b (plainB v im cc a b c))
  kernel_rfl
def wideB (w : Int) : Bool := if (if (w == 2) = true then true else w == 4) = true then true else w == 8
def s60 : CSpec | [.agg (cI op w v ak ar ab ai ac ad bk br bb bi bc bd im cc lk rp ln)] => some ⟨[], .b (wideB w)⟩ | _ => none
theorem ok60 : FnOk Tryd.prog 60 s60 := okBy SB3_ok Tryd.func60 (by kernel_rfl) (by kernel_rfl) 1 <| by
  intro xs r hs
  unfold s60 at hs; split at hs <;> cases hs
  rename_i op w v ak ar ab ai ac ad bk br bb bi bc bd im cc lk rp ln
  intro hp _
  show (evFn T SB3 noL 1 Tryd.f60 [.agg (cI op w v ak ar ab ai ac ad bk br bb bi bc bd im cc lk rp ln)]).run = some (.b (wideB w))
  kernel_rfl
noncomputable abbrev SC0 : FuncId → CSpec := withS (withS (withS (withS (withS (withS (withS SB3 42 s42) 67 s67) 57 s57) 43 s43) 45 s45) 46 s46) 60 s60
theorem SC0_ok : ∀ f, FnOk Tryd.prog f (SC0 f) := withS_ok (withS_ok (withS_ok (withS_ok (withS_ok (withS_ok (withS_ok SB3_ok ok42) ok67) ok57) ok43) ok45) ok46) ok60
end Go.Proofs.YtbdddnjncakooaaDoor
set_option maxRecDepth 100000
namespace Go.Proofs.YtbdddnjncakooaaDoor
open Go.Proofs.YtbdddnjncakooaaDoor.Ev Go.RowKit
/- Operands and immediates, as they may be. -/
def adrA (ab ai ac ad : Int) : Bool := if (if (if (if (if (if decide (ab < -1) = true then true else decide (16 < ab)) = true then true else decide (ai < -1)) = true then true else decide (15 < ai)) = true then true else ai == 4) = true then true else !fitA ad 32) = true then false else
  if (ai == -1) = true then ac == 1 else if (ab != 16) = true then isW ac else false
def s77 : CSpec | [.agg [.i .i64 ab, .i .i64 ai, .i .i64 ac, .i .i64 ad]] => some ⟨[], .b (adrA ab ai ac ad)⟩ | _ => none
theorem ok77 : FnOk Tryd.prog 77 s77 := okBy SC0_ok Tryd.func77 (by kernel_rfl) (by kernel_rfl) 1 <| by
  intro xs r hs
  unfold s77 at hs; split at hs <;> cases hs
  rename_i ab ai ac ad
  intro hp _
  show _ = some (AV.b _)
  unfold adrA
  rw [← iteB, ← iteB]
  kernel_rfl
def s61 : CSpec | [.agg (cI op w v ak ar ab ai ac ad bk br bb bi bc bd im cc lk rp ln)] => some ⟨[], .b (fitA im (IntKind.i64.wrap (8 * if decide (4 < w) = true then 4 else w)))⟩ | _ => none
theorem ok61 : FnOk Tryd.prog 61 s61 := okBy SC0_ok Tryd.func61 (by kernel_rfl) (by kernel_rfl) 1 <| by
  intro xs r hs
  unfold s61 at hs; split at hs <;> cases hs
  rename_i op w v ak ar ab ai ac ad bk br bb bi bc bd im cc lk rp ln
  intro hp _
  show (evFn T SC0 noL 1 Tryd.f61 [.agg (cI op w v ak ar ab ai ac ad bk br bb bi bc bd im cc lk rp ln)]).run = some (.b (fitA im (IntKind.i64.wrap (8 * if decide (4 < w) = true then 4 else w))))
  kernel_rfl
noncomputable abbrev SC1 : FuncId → CSpec := withS (withS SC0 77 s77) 61 s61
theorem SC1_ok : ∀ f, FnOk Tryd.prog f (SC1 f) := withS_ok (withS_ok SC0_ok ok77) ok61
def zA (ab ai ac ad : Int) : Bool := ab == 0 && (ai == 0 && (ac == 0 && (ad == 0 && true)))
def opdA (ak ar ab ai ac ad : Int) : Bool := if (ak == 1) = true then (if (if decide (0 ≤ ar) = true then decide (ar ≤ 15) else false) = true then zA ab ai ac ad else false) else
  if (ak == 2) = true then (if (ar == 0) = true then adrA ab ai ac ad else false) else
  if (if (ak == 0) = true then ak == 0 else ak == 3) = true then ak == ak && (ar == 0 && zA ab ai ac ad) else false
def s66 : CSpec | [.agg (cO ak ar ab ai ac ad)] => some ⟨[], .b (opdA ak ar ab ai ac ad)⟩ | _ => none
theorem ok66 : FnOk Tryd.prog 66 s66 := okBy SC1_ok Tryd.func66 (by kernel_rfl) (by kernel_rfl) 1 <| by
  intro xs r hs
  unfold s66 at hs; split at hs <;> cases hs
  rename_i ak ar ab ai ac ad
  intro hp _
  have e : (evFn T SC1 noL 1 Tryd.f66 [.agg (cO ak ar ab ai ac ad)]).run = if (ak == 1) = true then some (.b (if (if decide (0 ≤ ar) = true then decide (ar ≤ 15) else false) = true then zA ab ai ac ad else false)) else
    if (ak == 2) = true then some (.b (if (ar == 0) = true then adrA ab ai ac ad else false)) else
    if (if (ak == 0) = true then ak == 0 else ak == 3) = true then some (.b (ak == ak && (ar == 0 && zA ab ai ac ad))) else some (.b false) := by kernel_rfl
  show _ = some (AV.b _)
  rw [e]
  unfold opdA
  simp only [iteB]
def immIs (w im : Int) : Bool := fitA im (IntKind.i64.wrap (8 * if decide (4 < w) = true then 4 else w))
def immBB (w bk im : Int) : Bool := if (if (bk == 3) = true then immIs w im else false) = true then true else if (bk != 3) = true then im == 0 else false
def s59 : CSpec | [.agg (cI op w v ak ar ab ai ac ad bk br bb bi bc bd im cc lk rp ln)] => some ⟨[], .b (immBB w bk im)⟩ | _ => none
theorem ok59 : FnOk Tryd.prog 59 s59 := okBy SC1_ok Tryd.func59 (by kernel_rfl) (by kernel_rfl) 1 <| by
  intro xs r hs
  unfold s59 at hs; split at hs <;> cases hs
  rename_i op w v ak ar ab ai ac ad bk br bb bi bc bd im cc lk rp ln
  intro hp _
  show (evFn T SC1 noL 1 Tryd.f59 [.agg (cI op w v ak ar ab ai ac ad bk br bb bi bc bd im cc lk rp ln)]).run = some (.b (immBB w bk im))
  kernel_rfl
noncomputable abbrev SC2 : FuncId → CSpec := withS (withS SC1 66 s66) 59 s59
theorem SC2_ok : ∀ f, FnOk Tryd.prog f (SC2 f) := withS_ok (withS_ok SC1_ok ok66) ok59
/-- Is an operand one of some kinds, and as it may be? -/
def isK (ak : Int) : List Int → Bool
  | [] => false
  | k :: ks => if (ak == k) = true then true else isK ak ks
def isKC (ak : Int) (p : Bool) : List Int → Option AV
  | [] => some (.b false)
  | k :: ks => if (ak == k) = true then some (.b p) else isKC ak p ks
theorem isKC_is (ak : Int) (p : Bool) : ∀ ks, isKC ak p ks = some (.b (isK ak ks && p))
  | [] => rfl
  | k :: ks => by
    simp only [isKC, isK]
    cases (ak == k) with
    | true => rfl
    | false => exact isKC_is ak p ks
def L58 : Nat → Live := fun _ => ⟨[2, 4, 7, 8, 9], [(2, 0), (2, 1), (2, 2), (2, 3), (2, 4), (2, 5)], [2], none⟩
def s58v : CSpec
  | [.agg (cO ak ar ab ai ac ad), .vw 2 [k]] => some ⟨[], .b (isK ak [k] && opdA ak ar ab ai ac ad)⟩
  | [.agg (cO ak ar ab ai ac ad), .vw 2 [k, l]] => some ⟨[], .b (isK ak [k, l] && opdA ak ar ab ai ac ad)⟩
  | [.agg (cO ak ar ab ai ac ad), .vw 2 [k, l, m]] => some ⟨[], .b (isK ak [k, l, m] && opdA ak ar ab ai ac ad)⟩
  | _ => none
theorem ok58v : FnOk Tryd.prog 58 s58v := FnOk.of tyOk SC2_ok mixed (L := L58) Tryd.func58 (by kernel_rfl) (by kernel_rfl) (fun xs r hs hp W R us hus => by
  refine ⟨5, FnLoops.no (by kernel_rfl), ?_⟩
  unfold s58v at hs
  split at hs <;> cases hs
  · rename_i ak ar ab ai ac ad k
    exact (show (evFn T SC2 L58 5 Tryd.f58 [.agg (cO ak ar ab ai ac ad), .vw 2 [k]]).run = isKC ak (opdA ak ar ab ai ac ad) [k] by kernel_rfl).trans (isKC_is ..)
  · rename_i ak ar ab ai ac ad k l
    exact (show (evFn T SC2 L58 5 Tryd.f58 [.agg (cO ak ar ab ai ac ad), .vw 2 [k, l]]).run = isKC ak (opdA ak ar ab ai ac ad) [k, l] by kernel_rfl).trans (isKC_is ..)
  · rename_i ak ar ab ai ac ad k l m
    exact (show (evFn T SC2 L58 5 Tryd.f58 [.agg (cO ak ar ab ai ac ad), .vw 2 [k, l, m]]).run = isKC ak (opdA ak ar ab ai ac ad) [k, l, m] by kernel_rfl).trans (isKC_is ..))
/-- The same, of a row that was built. -/
def s58 : CSpec
  | [a, .ro 1 n get] => (match decN 2 get n 0 with
    | some ks => s58v [a, .vw 2 ks]
    | none => none)
  | _ => none
theorem ok58 : FnOk Tryd.prog 58 s58 := by
  refine ⟨fun hlt => ?_, fun h => absurd h (by decide)⟩
  intro es r hs hp w R vs hR hG hvs
  unfold s58 at hs
  split at hs
  · rename_i a n get
    split at hs
    · rename_i ks hk
      refine (ok58v.1 hlt) _ r hs hp w R vs hR hG ?_
      cases hvs with
      | cons h1 h2 =>
      cases h2 with
      | cons h2 h3 =>
      cases h3
      obtain ⟨hl, he⟩ := decN_spec hk
      refine .cons h1 (.cons (.vw ?_) .nil)
      rw [hl]
      exact ro_congr (fun i hi => by rw [he i hi, Nat.zero_add]) h2
    · cases hs
  · cases hs
noncomputable abbrev SC3 : FuncId → CSpec := withS SC2 58 s58
theorem SC3_ok : ∀ f, FnOk Tryd.prog f (SC3 f) := withS_ok SC2_ok ok58
/-- The reference's. -/
def opdR (ak ar ab ai ac ad : Int) : Bool := if (ak == 2) = true then
    (if (if (if (if (if (if (if (ar != 0) = true then true else decide (ab < -1)) = true then true else decide (16 < ab)) = true then true else decide (ai < -1)) = true then true else decide (15 < ai)) = true then true else ai == 4) = true then true else !fitR ad 32) = true then false else
      if (ai == -1) = true then ac == 1 else if (ab != 16) = true then if (if (if (ac == 1) = true then true else ac == 2) = true then true else ac == 4) = true then true else ac == 8 else false)
  else if (if (0 == 0 && (0 == 0 && (ab == 0 && (ai == 0 && (ac == 0 && (ad == 0 && true)))))) = true then if (if (ak == 0) = true then true else ak == 3) = true then true else ak == 1 else false) = true then
    if (ar == 0) = true then true else if (if (ak == 1) = true then decide (0 < ar) else false) = true then decide (ar < 16) else false else false
def s28 : CSpec | [.agg (cO ak ar ab ai ac ad)] => some ⟨[], .b (opdR ak ar ab ai ac ad)⟩ | _ => none
theorem ok28 : FnOk Tryd.prog 28 s28 := okBy SC3_ok Tryd.func28 (by kernel_rfl) (by kernel_rfl) 1 <| by
  intro xs r hs
  unfold s28 at hs; split at hs <;> cases hs
  rename_i ak ar ab ai ac ad
  intro hp _
  have e : (evFn T SC3 noL 1 Tryd.f28 [.agg (cO ak ar ab ai ac ad)]).run = if (ak == 2) = true then
    (if (if (if (if (if (if (if (ar != 0) = true then true else decide (ab < -1)) = true then true else decide (16 < ab)) = true then true else decide (ai < -1)) = true then true else decide (15 < ai)) = true then true else ai == 4) = true then true else !fitR ad 32) = true then some (.b false) else
      if (ai == -1) = true then some (.b (ac == 1)) else some (.b (if (ab != 16) = true then if (if (if (ac == 1) = true then true else ac == 2) = true then true else ac == 4) = true then true else ac == 8 else false)))
    else some (.b (if (if (0 == 0 && (0 == 0 && (ab == 0 && (ai == 0 && (ac == 0 && (ad == 0 && true)))))) = true then if (if (ak == 0) = true then true else ak == 3) = true then true else ak == 1 else false) = true then
    if (ar == 0) = true then true else if (if (ak == 1) = true then decide (0 < ar) else false) = true then decide (ar < 16) else false else false)) := by kernel_rfl
  show _ = some (AV.b _)
  rw [e]
  unfold opdR
  simp only [iteB]
def immR (op w ak bk im : Int) : Bool := if (!hasB op ak bk) = true then im == 0 else if isA op tS9 = true then (if decide (0 ≤ im) = true then decide (im ≤ 255) else false) else
  if (if (if isA op tMv = true then w == 8 else false) = true then ak == 1 else false) = true then true else fitR im (if decide (32 < IntKind.i64.wrap (8 * w)) = true then 32 else IntKind.i64.wrap (8 * w))
def s29 : CSpec | [.agg (cI op w v ak ar ab ai ac ad bk br bb bi bc bd im cc lk rp ln)] => some ⟨[], .b (immR op w ak bk im)⟩ | _ => none
theorem ok29 : FnOk Tryd.prog 29 s29 := okBy SC3_ok Tryd.func29 (by kernel_rfl) (by kernel_rfl) 1 <| by
  intro xs r hs
  unfold s29 at hs; split at hs <;> cases hs
  rename_i op w v ak ar ab ai ac ad bk br bb bi bc bd im cc lk rp ln
  intro hp _
  have e : (evFn T SC3 noL 1 Tryd.f29 [.agg (cI op w v ak ar ab ai ac ad bk br bb bi bc bd im cc lk rp ln)]).run = if (!hasB op ak bk) = true then some (.b (im == 0)) else if isA op tS9 = true then some (.b (if decide (0 ≤ im) = true then decide (im ≤ 255) else false)) else
    if (if (if isA op tMv = true then w == 8 else false) = true then ak == 1 else false) = true then some (.b true) else some (.b (fitR im (if decide (32 < IntKind.i64.wrap (8 * w)) = true then 32 else IntKind.i64.wrap (8 * w)))) := by kernel_rfl
  show _ = some (AV.b _)
  rw [e]
  unfold immR
  simp only [iteB]
noncomputable abbrev SC4 : FuncId → CSpec := withS (withS SC3 28 s28) 29 s29
theorem SC4_ok : ∀ f, FnOk Tryd.prog f (SC4 f) := withS_ok (withS_ok SC3_ok ok28) ok29
end Go.Proofs.YtbdddnjncakooaaDoor
set_option maxRecDepth 100000
namespace Go.Proofs.YtbdddnjncakooaaDoor
open Go.Proofs.YtbdddnjncakooaaDoor.Ev Go.RowKit
/- May an instruction be? The reference's shape; the program's two and one. -/
theorem andI (a b : Bool) : (if a = true then b else false) = (a && b) := by cases a <;> rfl
theorem orI (a b : Bool) : (if a = true then true else b) = (a || b) := by cases a <;> rfl
theorem nandI (a b : Bool) : (if a = true then false else b) = (!a && b) := by cases a <;> rfl
theorem iteA (c : Bool) (p q : AV) : (if c = true then some p else some q) = some (if c = true then p else q) := by cases c <;> rfl
def wk (w ak bk : Int) (s a b : List UInt8) : Bool := if (if widA w s = true then kinA ak a else false) = true then kinA bk b else false
abbrev w0 : List UInt8 := [49, 50, 52, 56]
abbrev w1 : List UInt8 := [50, 52, 56]
abbrev w2 : List UInt8 := [56]
abbrev w3 : List UInt8 := [49, 50, 52]
abbrev w4 : List UInt8 := [49]
def shapeB (op w ak bk br : Int) : Bool :=
  if isA op tS1 = true then (if wk w ak bk w0 [114, 109] [114, 109, 105] = true then if (ak != 2) = true then true else bk != 2 else false) else
  if isA op tS2 = true then wk w ak bk w0 [114, 109] [114, 105] else
  if isA op tS3 = true then wk w ak bk w1 [114] [114, 109] else
  if isA op tS4 = true then wk w ak bk w1 [114] [109] else
  if isA op tS5 = true then wk w ak bk w2 [114, 109, 105] [110] else
  if isA op tS6 = true then wk w ak bk w2 [114, 109] [110] else
  if isA op tS7 = true then wk w ak bk w0 [114, 109] [110] else
  if isA op tS8 = true then wk w ak bk w3 [114, 109] [110] else
  if isA op tS9 = true then (if (if widA w w0 = true then kinA ak [114, 109] else false) = true then if kinA bk [105] = true then true else if (bk == 1) = true then br == 1 else false else false) else
  if isA op tSa = true then wk w ak bk w0 [114, 109] [114] else
  if isA op tSb = true then wk w ak bk w4 [114, 109] [110] else
  if isA op tJl = true then wk w ak bk w2 [110, 114, 109] [110] else
  if isA op tSc = true then wk w ak bk w1 [110] [110] else
  if isA op tMs = true then wk w ak bk w0 [110] [110] else
  if (if (if isA op tSd = true then widA w w2 else false) = true then kinA ak [110] else false) = true then kinA bk [110] else false
def s27 : CSpec | [.agg (cI op w v ak ar ab ai ac ad bk br bb bi bc bd im cc lk rp ln)] => some ⟨[], .b (shapeB op w ak bk br)⟩ | _ => none
theorem ok27 : FnOk Tryd.prog 27 s27 := okBy SC4_ok Tryd.func27 (by kernel_rfl) (by kernel_rfl) 1 <| by
  intro xs r hs
  unfold s27 at hs; split at hs <;> cases hs
  rename_i op w v ak ar ab ai ac ad bk br bb bi bc bd im cc lk rp ln
  intro hp _
  have e : (evFn T SC4 noL 1 Tryd.f27 [.agg (cI op w v ak ar ab ai ac ad bk br bb bi bc bd im cc lk rp ln)]).run =
  if isA op tS1 = true then some (.b (if wk w ak bk w0 [114, 109] [114, 109, 105] = true then if (ak != 2) = true then true else bk != 2 else false)) else
  if isA op tS2 = true then some (.b (wk w ak bk w0 [114, 109] [114, 105])) else
  if isA op tS3 = true then some (.b (wk w ak bk w1 [114] [114, 109])) else
  if isA op tS4 = true then some (.b (wk w ak bk w1 [114] [109])) else
  if isA op tS5 = true then some (.b (wk w ak bk w2 [114, 109, 105] [110])) else
  if isA op tS6 = true then some (.b (wk w ak bk w2 [114, 109] [110])) else
  if isA op tS7 = true then some (.b (wk w ak bk w0 [114, 109] [110])) else
  if isA op tS8 = true then some (.b (wk w ak bk w3 [114, 109] [110])) else
  if isA op tS9 = true then some (.b (if (if widA w w0 = true then kinA ak [114, 109] else false) = true then if kinA bk [105] = true then true else if (bk == 1) = true then br == 1 else false else false)) else
  if isA op tSa = true then some (.b (wk w ak bk w0 [114, 109] [114])) else
  if isA op tSb = true then some (.b (wk w ak bk w4 [114, 109] [110])) else
  if isA op tJl = true then some (.b (wk w ak bk w2 [110, 114, 109] [110])) else
  if isA op tSc = true then some (.b (wk w ak bk w1 [110] [110])) else
  if isA op tMs = true then some (.b (wk w ak bk w0 [110] [110])) else
  some (.b (if (if (if isA op tSd = true then widA w w2 else false) = true then kinA ak [110] else false) = true then kinA bk [110] else false)) := by kernel_rfl
  show _ = some (AV.b _)
  rw [e]
  unfold shapeB
  simp only [iteB]
def s32 : CSpec | [.i .i64 x] => some ⟨[], .agg (cO 1 x 0 0 0 0)⟩ | _ => none
theorem ok32 : FnOk Tryd.prog 32 s32 := okBy SC4_ok Tryd.func32 (by kernel_rfl) (by kernel_rfl) 1 <| by
  intro xs r hs
  unfold s32 at hs; split at hs <;> cases hs
  rename_i x
  intro hp _
  show (evFn T SC4 noL 1 Tryd.f32 [.i .i64 x]).run = some (.agg (cO 1 x 0 0 0 0))
  kernel_rfl
noncomputable abbrev SC5 : FuncId → CSpec := withS (withS SC4 27 s27) 32 s32
theorem SC5_ok : ∀ f, FnOk Tryd.prog f (SC5 f) := withS_ok (withS_ok SC4_ok ok27) ok32
def opK (ak ar ab ai ac ad : Int) (l : List Int) : Bool := isK ak l && opdA ak ar ab ai ac ad
def mmB (ak bk : Int) : Bool := if (ak == 2) = true then bk == 2 else false
def two1 (w ak ar ab ai ac ad bk br bb bi bc bd im : Int) : Bool := if (if (if (if isW w = true then opK ak ar ab ai ac ad [1, 2] else false) = true then opK bk br bb bi bc bd [1, 2, 3] else false) = true then !mmB ak bk else false) = true then immBB w bk im else false
def two2 (w ak ar ab ai ac ad bk br bb bi bc bd im : Int) : Bool := if (if (if isW w = true then opK ak ar ab ai ac ad [1, 2] else false) = true then opK bk br bb bi bc bd [1, 3] else false) = true then immBB w bk im else false
def two3 (w ak ar ab ai ac ad bk br bb bi bc bd im : Int) : Bool := if (if (if (if isW w = true then opK ak ar ab ai ac ad [1, 2] else false) = true then opK bk br bb bi bc bd [1, 2, 3] else false) = true then !mmB ak bk else false) = true then if immBB w bk im = true then true else if (if (w == 8) = true then ak == 1 else false) = true then bk == 3 else false else false
def w2B (op w v : Int) : Bool := if (if (v == 1) = true then true else if (v == 2) = true then decide (2 < w) else false) = true then true else if (if (v == 4) = true then w == 8 else false) = true then op == 12 else false
def two4 (op w v ak ar ab ai ac ad bk br bb bi bc bd : Int) : Bool := if (if (if wideB w = true then opK ak ar ab ai ac ad [1] else false) = true then opK bk br bb bi bc bd [1, 2] else false) = true then w2B op w v else false
def two5 (w ak ar ab ai ac ad bk br bb bi bc bd : Int) : Bool := if (if wideB w = true then opK ak ar ab ai ac ad [1] else false) = true then opK bk br bb bi bc bd [2] else false
def two6 (w ak ar ab ai ac ad bk br bb bi bc bd im : Int) : Bool := if (if (if wideB w = true then opK ak ar ab ai ac ad [1] else false) = true then opK bk br bb bi bc bd [1, 2] else false) = true then immIs w im else false
def two7 (w ak ar ab ai ac ad bk br bb bi bc bd im : Int) : Bool := if (if isW w = true then opK ak ar ab ai ac ad [1, 2] else false) = true then (if (if (bk == 1 && (br == 1 && (bb == 0 && (bi == 0 && (bc == 0 && (bd == 0 && true)))))) = true then im == 0 else false) = true then true else if (if opK bk br bb bi bc bd [3] = true then decide (0 ≤ im) else false) = true then decide (im ≤ 255) else false) else false
def two8 (w ak ar ab ai ac ad bk br bb bi bc bd : Int) : Bool := if (if isW w = true then opK ak ar ab ai ac ad [1, 2] else false) = true then opK bk br bb bi bc bd [1] else false
def two9 (op w ak ar ab ai ac ad bk br bb bi bc bd : Int) : Bool := if (if (if (op == 34) = true then wideB w else false) = true then opK ak ar ab ai ac ad [1] else false) = true then opK bk br bb bi bc bd [1, 2] else false
def twoB (op w v ak ar ab ai ac ad bk br bb bi bc bd im : Int) : Bool :=
  if inB 1 op 8 = true then two1 w ak ar ab ai ac ad bk br bb bi bc bd im else if (op == 9) = true then two2 w ak ar ab ai ac ad bk br bb bi bc bd im else if (op == 10) = true then two3 w ak ar ab ai ac ad bk br bb bi bc bd im else
  if inB 11 op 12 = true then two4 op w v ak ar ab ai ac ad bk br bb bi bc bd else if (op == 13) = true then two5 w ak ar ab ai ac ad bk br bb bi bc bd else if inB 24 op 25 = true then two6 w ak ar ab ai ac ad bk br bb bi bc bd im else
  if inB 26 op 30 = true then two7 w ak ar ab ai ac ad bk br bb bi bc bd im else if inB 31 op 33 = true then two8 w ak ar ab ai ac ad bk br bb bi bc bd else two9 op w ak ar ab ai ac ad bk br bb bi bc bd
def s47 : CSpec | [.agg (cI op w v ak ar ab ai ac ad bk br bb bi bc bd im cc lk rp ln)] => some ⟨[], .b (twoB op w v ak ar ab ai ac ad bk br bb bi bc bd im)⟩ | _ => none
theorem ok47 : FnOk Tryd.prog 47 s47 := okBy SC5_ok Tryd.func47 (by kernel_rfl) (by kernel_rfl) 1 <| by
  intro xs r hs
  unfold s47 at hs; split at hs <;> cases hs
  rename_i op w v ak ar ab ai ac ad bk br bb bi bc bd im cc lk rp ln
  intro hp _
  have e : (evFn T SC5 noL 1 Tryd.f47 [.agg (cI op w v ak ar ab ai ac ad bk br bb bi bc bd im cc lk rp ln)]).run =
  if inB 1 op 8 = true then some (.b (two1 w ak ar ab ai ac ad bk br bb bi bc bd im)) else if (op == 9) = true then some (.b (two2 w ak ar ab ai ac ad bk br bb bi bc bd im)) else if (op == 10) = true then some (.b (two3 w ak ar ab ai ac ad bk br bb bi bc bd im)) else
  if inB 11 op 12 = true then some (.b (two4 op w v ak ar ab ai ac ad bk br bb bi bc bd)) else if (op == 13) = true then some (.b (two5 w ak ar ab ai ac ad bk br bb bi bc bd)) else if inB 24 op 25 = true then some (.b (two6 w ak ar ab ai ac ad bk br bb bi bc bd im)) else
  if inB 26 op 30 = true then some (.b (two7 w ak ar ab ai ac ad bk br bb bi bc bd im)) else if inB 31 op 33 = true then some (.b (two8 w ak ar ab ai ac ad bk br bb bi bc bd)) else some (.b (two9 op w ak ar ab ai ac ad bk br bb bi bc bd)) := by kernel_rfl
  show _ = some (AV.b _)
  rw [e]
  unfold twoB
  simp only [iteB]
def one1 (w ak ar ab ai ac ad im : Int) : Bool := if (if (w == 8) = true then opK ak ar ab ai ac ad [1, 2, 3] else false) = true then if (if (ak == 3) = true then immIs w im else false) = true then true else im == 0 else false
def one2 (w ak ar ab ai ac ad : Int) : Bool := if (w == 8) = true then opK ak ar ab ai ac ad [1, 2] else false
def one3 (w ak ar ab ai ac ad : Int) : Bool := if isW w = true then opK ak ar ab ai ac ad [1, 2] else false
def one4 (w ak ar ab ai ac ad : Int) : Bool := if (if isW w = true then decide (w < 8) else false) = true then opK ak ar ab ai ac ad [1, 2] else false
def one5 (w ak ar ab ai ac ad : Int) : Bool := if (w == 1) = true then opK ak ar ab ai ac ad [1, 2] else false
def one6 (w ak ar ab ai ac ad im : Int) : Bool := if (w == 8) = true then if (if opK ak ar ab ai ac ad [0] = true then immIs w im else false) = true then true else if opK ak ar ab ai ac ad [1, 2] = true then im == 0 else false else false
def one7 (w ak ar ab ai ac ad im : Int) : Bool := if (if (w == 8) = true then opK ak ar ab ai ac ad [0] else false) = true then immIs w im else false
def one8 (w ak ar ab ai ac ad : Int) : Bool := if wideB w = true then opK ak ar ab ai ac ad [0] else false
def one9 (w ak ar ab ai ac ad : Int) : Bool := if isW w = true then opK ak ar ab ai ac ad [0] else false
def onea (op w ak ar ab ai ac ad : Int) : Bool := if (if (if (op == 39) = true then true else inB 44 op 47) = true then w == 8 else false) = true then opK ak ar ab ai ac ad [0] else false
def zO (ak ar ab ai ac ad : Int) : Bool := ak == 0 && (ar == 0 && (ab == 0 && (ai == 0 && (ac == 0 && (ad == 0 && true)))))
def oneB (op w ak ar ab ai ac ad bk br bb bi bc bd im : Int) : Bool :=
  if (!zO bk br bb bi bc bd) = true then false else if (op == 14) = true then one1 w ak ar ab ai ac ad im else if (op == 15) = true then one2 w ak ar ab ai ac ad else if inB 16 op 21 = true then one3 w ak ar ab ai ac ad else if inB 22 op 23 = true then one4 w ak ar ab ai ac ad else
  if (op == 35) = true then one5 w ak ar ab ai ac ad else if inB 37 op 38 = true then one6 w ak ar ab ai ac ad im else if (op == 36) = true then one7 w ak ar ab ai ac ad im else if inB 40 op 41 = true then one8 w ak ar ab ai ac ad else if inB 42 op 43 = true then one9 w ak ar ab ai ac ad else onea op w ak ar ab ai ac ad
def s48 : CSpec | [.agg (cI op w v ak ar ab ai ac ad bk br bb bi bc bd im cc lk rp ln)] => some ⟨[], .b (oneB op w ak ar ab ai ac ad bk br bb bi bc bd im)⟩ | _ => none
theorem ok48 : FnOk Tryd.prog 48 s48 := okBy SC5_ok Tryd.func48 (by kernel_rfl) (by kernel_rfl) 1 <| by
  intro xs r hs
  unfold s48 at hs; split at hs <;> cases hs
  rename_i op w v ak ar ab ai ac ad bk br bb bi bc bd im cc lk rp ln
  intro hp _
  have e : (evFn T SC5 noL 1 Tryd.f48 [.agg (cI op w v ak ar ab ai ac ad bk br bb bi bc bd im cc lk rp ln)]).run =
  if (!zO bk br bb bi bc bd) = true then some (.b false) else if (op == 14) = true then some (.b (one1 w ak ar ab ai ac ad im)) else if (op == 15) = true then some (.b (one2 w ak ar ab ai ac ad)) else if inB 16 op 21 = true then some (.b (one3 w ak ar ab ai ac ad)) else if inB 22 op 23 = true then some (.b (one4 w ak ar ab ai ac ad)) else
  if (op == 35) = true then some (.b (one5 w ak ar ab ai ac ad)) else if inB 37 op 38 = true then some (.b (one6 w ak ar ab ai ac ad im)) else if (op == 36) = true then some (.b (one7 w ak ar ab ai ac ad im)) else if inB 40 op 41 = true then some (.b (one8 w ak ar ab ai ac ad)) else if inB 42 op 43 = true then some (.b (one9 w ak ar ab ai ac ad)) else some (.b (onea op w ak ar ab ai ac ad)) := by kernel_rfl
  show _ = some (AV.b _)
  rw [e]
  unfold oneB
  simp only [iteB]
noncomputable abbrev SC6 : FuncId → CSpec := withS (withS SC5 47 s47) 48 s48
theorem SC6_ok : ∀ f, FnOk Tryd.prog f (SC6 f) := withS_ok (withS_ok SC5_ok ok47) ok48
end Go.Proofs.YtbdddnjncakooaaDoor
