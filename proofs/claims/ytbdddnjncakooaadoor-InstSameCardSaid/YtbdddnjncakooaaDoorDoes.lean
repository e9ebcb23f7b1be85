/- Lemmas: what an instruction does, by the program and by the reference, each function shown by the evaluator. No condition. -/
import Derived.Test.YtbdddnjncakooaaDoorOps
set_option linter.unusedVariables false
set_option linter.unusedSimpArgs false
set_option maxRecDepth 100000
namespace Go.Proofs.YtbdddnjncakooaaDoor
open Go.Proofs.YtbdddnjncakooaaDoor.Ev Go.RowKit
/- What an instruction does: the program's and the reference's functions. -/
theorem iteB (c p q : Bool) : (if c = true then some (AV.b p) else some (AV.b q)) = some (AV.b (if c = true then p else q)) := by cases c <;> rfl
theorem beq_swap (a b : Int) : (a == b) = (b == a) := by
  by_cases h : a = b
  · rw [h]
  · have h' : ¬ b = a := fun e => h e.symm
    rw [show (a == b) = false by simpa using h, show (b == a) = false by simpa using h']
theorem memB_is (ak bk : Int) : memB ak bk = (ak == 2 || bk == 2) := by
  unfold memB
  rw [beq_swap 2 ak, beq_swap 2 bk]
  cases ak == 2 <;> cases bk == 2 <;> rfl
def ldB (op ak bk : Int) : Bool := fLd op || ((ak == 2 || bk == 2) && !(op == 13) && !(op == 45) && !(op == 35) && !(op == 10 && ak == 2))
theorem ld_ours (op ak bk : Int) : (if (if (if (op == 15) = true then true else op == 39) = true then true else op == 42) = true then true else (if (if (if (if memB ak bk = true then op != 13 else false) = true then op != 45 else false) = true then op != 35 else false) = true then !if (op == 10) = true then ak == 2 else false else false)) = ldB op ak bk := by
  rw [memB_is]
  unfold ldB fLd
  simp only [bne]
  generalize (op == 15) = a1, (op == 39) = a2, (op == 42) = a3, (op == 13) = a4, (op == 45) = a5, (op == 35) = a6, (op == 10) = a7, (ak == 2) = a8, (bk == 2) = a9
  revert a1 a2 a3 a4 a5 a6 a7 a8 a9
  decide +kernel
theorem ld_ref (op ak bk : Int) : (if isA op tLd = true then true else if (if isA op tLn = true then true else if isA op tMv = true then ak == 2 else false) = true then false else if (ak == 2) = true then true else bk == 2) = ldB op ak bk := by
  rw [isA_Ld, isA_Ln, isA_Mv]
  unfold ldB fLd fLn fMv
  generalize (op == 15) = a1, (op == 39) = a2, (op == 42) = a3, (op == 13) = a4, (op == 45) = a5, (op == 35) = a6, (op == 10) = a7, (ak == 2) = a8, (bk == 2) = a9
  revert a1 a2 a3 a4 a5 a6 a7 a8 a9
  decide +kernel
def stB (op ak : Int) : Bool := fSt op || (ak == 2 && !fSn op)
theorem st_ours (op ak : Int) : (if (if (op == 14) = true then op == 14 else if (op == 38) = true then op == 38 else if (op == 42) = true then op == 42 else op == 43) = true then true else
    if (if (op == 8) = true then op == 8 else if (op == 9) = true then op == 9 else if (op == 20) = true then op == 20 else if (op == 21) = true then op == 21 else if (op == 22) = true then op == 22 else if (op == 23) = true then op == 23 else op == 37) = true then false else ak == 2) = stB op ak := by
  unfold stB fSt fSn
  generalize (op == 14) = a1, (op == 38) = a2, (op == 42) = a3, (op == 43) = a4, (op == 8) = a5, (op == 9) = a6, (op == 20) = a7, (op == 21) = a8, (op == 22) = a9, (op == 23) = b1, (op == 37) = b2, (ak == 2) = b3
  revert a1 a2 a3 a4 a5 a6 a7 a8 a9 b1 b2 b3
  decide +kernel
theorem st_ref (op ak : Int) : (if isA op tSt = true then true else if (ak == 2) = true then !isA op tSn else false) = stB op ak := by
  rw [isA_St, isA_Sn]
  unfold stB
  cases fSt op <;> cases (ak == 2) <;> rfl
def enB (op : Int) (rp : Bool) : Bool := fEn op || (fMs op && rp)
def tgB (op ak : Int) : Bool := op == 36 || (inB 37 op 38 && ak == 0)
def s15 : CSpec | [.agg (cI op w v ak ar ab ai ac ad bk br bb bi bc bd im cc lk rp ln)] => some ⟨[], .b (ldB op ak bk)⟩ | _ => none
def s17 : CSpec | [.agg (cI op w v ak ar ab ai ac ad bk br bb bi bc bd im cc lk rp ln)] => some ⟨[], .b (stB op ak)⟩ | _ => none
def s19 : CSpec | [.agg (cI op w v ak ar ab ai ac ad bk br bb bi bc bd im cc lk rp ln)] => some ⟨[], .b (fUs op)⟩ | _ => none
def s21 : CSpec | [.agg (cI op w v ak ar ab ai ac ad bk br bb bi bc bd im cc lk rp ln)] => some ⟨[], .b (fSe op)⟩ | _ => none
def s23 : CSpec | [.agg (cI op w v ak ar ab ai ac ad bk br bb bi bc bd im cc lk rp ln)] => some ⟨[], .b (enB op rp)⟩ | _ => none
def s25 : CSpec | [.agg (cI op w v ak ar ab ai ac ad bk br bb bi bc bd im cc lk rp ln), .u 64 a] => some ⟨[], .u 64 (a + BitVec.ofInt 64 ln)⟩ | _ => none
def s13 : CSpec | [.agg (cI op w v ak ar ab ai ac ad bk br bb bi bc bd im cc lk rp ln), .u 64 a] => some ⟨[], .tup [.u 64 (if tgB op ak = true then a + BitVec.ofInt 64 ln + BitVec.ofInt 64 im else 0#64), .b (tgB op ak)]⟩ | _ => none
theorem ok15 : FnOk Tryd.prog 15 s15 := okBy SB1_ok Tryd.func15 (by kernel_rfl) (by kernel_rfl) 1 <| by
  intro xs r hs
  unfold s15 at hs; split at hs <;> cases hs
  rename_i op w v ak ar ab ai ac ad bk br bb bi bc bd im cc lk rp ln
  intro hp _
  show _ = some (AV.b _)
  rw [← ld_ours, ← iteB]
  kernel_rfl
theorem ok16 : FnOk Tryd.prog 16 s15 := okBy SB1_ok Tryd.func16 (by kernel_rfl) (by kernel_rfl) 1 <| by
  intro xs r hs
  unfold s15 at hs; split at hs <;> cases hs
  rename_i op w v ak ar ab ai ac ad bk br bb bi bc bd im cc lk rp ln
  intro hp _
  show _ = some (AV.b _)
  rw [← ld_ref, ← iteB, ← iteB]
  kernel_rfl
theorem ok17 : FnOk Tryd.prog 17 s17 := okBy SB1_ok Tryd.func17 (by kernel_rfl) (by kernel_rfl) 1 <| by
  intro xs r hs
  unfold s17 at hs; split at hs <;> cases hs
  rename_i op w v ak ar ab ai ac ad bk br bb bi bc bd im cc lk rp ln
  intro hp _
  show _ = some (AV.b _)
  rw [← st_ours, ← iteB, ← iteB]
  kernel_rfl
theorem ok18 : FnOk Tryd.prog 18 s17 := okBy SB1_ok Tryd.func18 (by kernel_rfl) (by kernel_rfl) 1 <| by
  intro xs r hs
  unfold s17 at hs; split at hs <;> cases hs
  rename_i op w v ak ar ab ai ac ad bk br bb bi bc bd im cc lk rp ln
  intro hp _
  show _ = some (AV.b _)
  rw [← st_ref, ← iteB]
  kernel_rfl
theorem ok19 : FnOk Tryd.prog 19 s19 := okBy SB1_ok Tryd.func19 (by kernel_rfl) (by kernel_rfl) 1 <| by
  intro xs r hs
  unfold s19 at hs; split at hs <;> cases hs
  rename_i op w v ak ar ab ai ac ad bk br bb bi bc bd im cc lk rp ln
  intro hp _
  show _ = some (AV.b _)
  have e : (evFn T SB1 noL 1 Tryd.f19 [.agg (cI op w v ak ar ab ai ac ad bk br bb bi bc bd im cc lk rp ln)]).run = some (.b (if (if inB 3 op 4 = true then true else inB 34 op 36) = true then true else op == 46)) := by kernel_rfl
  rw [e]
  unfold fUs
  cases inB 3 op 4 <;> cases inB 34 op 36 <;> rfl
theorem ok20 : FnOk Tryd.prog 20 s19 := okBy SB1_ok Tryd.func20 (by kernel_rfl) (by kernel_rfl) 1 <| by
  intro xs r hs
  unfold s19 at hs; split at hs <;> cases hs
  rename_i op w v ak ar ab ai ac ad bk br bb bi bc bd im cc lk rp ln
  intro hp _
  show _ = some (AV.b _)
  rw [← isA_Us]
  kernel_rfl
theorem ok21 : FnOk Tryd.prog 21 s21 := okBy SB1_ok Tryd.func21 (by kernel_rfl) (by kernel_rfl) 1 <| by
  intro xs r hs
  unfold s21 at hs; split at hs <;> cases hs
  rename_i op w v ak ar ab ai ac ad bk br bb bi bc bd im cc lk rp ln
  intro hp _
  show _ = some (AV.b _)
  have e : (evFn T SB1 noL 1 Tryd.f21 [.agg (cI op w v ak ar ab ai ac ad bk br bb bi bc bd im cc lk rp ln)]).run = some (.b (if (if (if (if inB 1 op 9 = true then true else inB 16 op 17) = true then true else inB 19 op 21) = true then true else inB 24 op 30) = true then true else inB 32 op 33)) := by kernel_rfl
  rw [e]
  unfold fSe
  cases inB 1 op 9 <;> cases inB 16 op 17 <;> cases inB 19 op 21 <;> cases inB 24 op 30 <;> rfl
theorem ok22 : FnOk Tryd.prog 22 s21 := okBy SB1_ok Tryd.func22 (by kernel_rfl) (by kernel_rfl) 1 <| by
  intro xs r hs
  unfold s21 at hs; split at hs <;> cases hs
  rename_i op w v ak ar ab ai ac ad bk br bb bi bc bd im cc lk rp ln
  intro hp _
  show _ = some (AV.b _)
  rw [← isA_Se]
  kernel_rfl
theorem ok23 : FnOk Tryd.prog 23 s23 := okBy SB1_ok Tryd.func23 (by kernel_rfl) (by kernel_rfl) 1 <| by
  intro xs r hs
  unfold s23 at hs; split at hs <;> cases hs
  rename_i op w v ak ar ab ai ac ad bk br bb bi bc bd im cc lk rp ln
  intro hp _
  show _ = some (AV.b _)
  have e : (evFn T SB1 noL 1 Tryd.f23 [.agg (cI op w v ak ar ab ai ac ad bk br bb bi bc bd im cc lk rp ln)]).run = some (.b (if (if inB 36 op 39 = true then true else inB 46 op 47) = true then true else if inB 42 op 43 = true then rp else false)) := by kernel_rfl
  rw [e]
  unfold enB fEn fMs
  cases inB 36 op 39 <;> cases inB 46 op 47 <;> cases inB 42 op 43 <;> rfl
theorem ok24 : FnOk Tryd.prog 24 s23 := okBy SB1_ok Tryd.func24 (by kernel_rfl) (by kernel_rfl) 1 <| by
  intro xs r hs
  unfold s23 at hs; split at hs <;> cases hs
  rename_i op w v ak ar ab ai ac ad bk br bb bi bc bd im cc lk rp ln
  intro hp _
  show _ = some (AV.b _)
  have e : (evFn T SB1 noL 1 Tryd.f24 [.agg (cI op w v ak ar ab ai ac ad bk br bb bi bc bd im cc lk rp ln)]).run = some (.b (if isA op tEn = true then true else if isA op tMs = true then rp else false)) := by kernel_rfl
  rw [e, isA_En, isA_Ms]
  unfold enB
  cases fEn op <;> cases fMs op <;> rfl
theorem ok25 : FnOk Tryd.prog 25 s25 := okBy SB1_ok Tryd.func25 (by kernel_rfl) (by kernel_rfl) 1 <| by
  intro xs r hs
  unfold s25 at hs; split at hs <;> cases hs
  rename_i op w v ak ar ab ai ac ad bk br bb bi bc bd im cc lk rp ln a
  intro hp _
  show (evFn T SB1 noL 1 Tryd.f25 [.agg (cI op w v ak ar ab ai ac ad bk br bb bi bc bd im cc lk rp ln), .u 64 a]).run = some (.u 64 (a + BitVec.ofInt 64 ln))
  kernel_rfl
noncomputable abbrev SB2 : FuncId → CSpec := withS SB1 25 s25
theorem SB2_ok : ∀ f, FnOk Tryd.prog f (SB2 f) := withS_ok SB1_ok ok25
theorem ok13 : FnOk Tryd.prog 13 s13 := okBy SB2_ok Tryd.func13 (by kernel_rfl) (by kernel_rfl) 1 <| by
  intro xs r hs
  unfold s13 at hs; split at hs <;> cases hs
  rename_i op w v ak ar ab ai ac ad bk br bb bi bc bd im cc lk rp ln a
  intro hp _
  have e : (evFn T SB2 noL 1 Tryd.f13 [.agg (cI op w v ak ar ab ai ac ad bk br bb bi bc bd im cc lk rp ln), .u 64 a]).run = if (if (op != 36) = true then !if inB 37 op 38 = true then ak == 0 else false else false) = true then some (.tup [.u 64 0#64, .b false]) else some (.tup [.u 64 (a + BitVec.ofInt 64 ln + BitVec.ofInt 64 im), .b true]) := by kernel_rfl
  show _ = some (AV.tup _)
  have c1 : (if (op != 36) = true then !(if inB 37 op 38 = true then ak == 0 else false) else false) = !tgB op ak := by
    unfold tgB
    rw [show (op != 36) = !(op == 36) from rfl]
    cases (op == 36) <;> cases inB 37 op 38 <;> cases (ak == 0) <;> rfl
  rw [e, c1]
  cases tgB op ak <;> rfl
theorem ok14 : FnOk Tryd.prog 14 s13 := okBy SB2_ok Tryd.func14 (by kernel_rfl) (by kernel_rfl) 1 <| by
  intro xs r hs
  unfold s13 at hs; split at hs <;> cases hs
  rename_i op w v ak ar ab ai ac ad bk br bb bi bc bd im cc lk rp ln a
  intro hp _
  have e : (evFn T SB2 noL 1 Tryd.f14 [.agg (cI op w v ak ar ab ai ac ad bk br bb bi bc bd im cc lk rp ln), .u 64 a]).run = if (if isA op tJc = true then true else if isA op tJl = true then ak == 0 else false) = true then some (.tup [.u 64 (a + BitVec.ofInt 64 ln + BitVec.ofInt 64 im), .b true]) else some (.tup [.u 64 0#64, .b false]) := by kernel_rfl
  show _ = some (AV.tup _)
  have c1 : (if isA op tJc = true then true else if isA op tJl = true then ak == 0 else false) = tgB op ak := by
    rw [isA_Jc, isA_Jl]
    unfold tgB fJc fJl
    cases (op == 36) <;> cases inB 37 op 38 <;> cases (ak == 0) <;> rfl
  rw [e, c1]
  cases tgB op ak <;> rfl
noncomputable abbrev SB3 : FuncId → CSpec := withS (withS (withS (withS (withS (withS (withS (withS (withS (withS (withS (withS SB2 13 s13) 14 s13) 15 s15) 16 s15) 17 s17) 18 s17) 19 s19) 20 s19) 21 s21) 22 s21) 23 s23) 24 s23
theorem SB3_ok : ∀ f, FnOk Tryd.prog f (SB3 f) := withS_ok (withS_ok (withS_ok (withS_ok (withS_ok (withS_ok (withS_ok (withS_ok (withS_ok (withS_ok (withS_ok (withS_ok SB2_ok ok13) ok14) ok15) ok16) ok17) ok18) ok19) ok20) ok21) ok22) ok23) ok24
end Go.Proofs.YtbdddnjncakooaaDoor
