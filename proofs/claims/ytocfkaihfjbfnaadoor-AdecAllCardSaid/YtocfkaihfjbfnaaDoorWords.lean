/- Lemmas: the words of instructions, and both readers of words, each function shown by the evaluator. No condition. -/
import Derived.Test.YtocfkaihfjbfnaaDoorMay
import Derived.Test.YtocfkaihfjbfnaaDoorEvC
set_option linter.unusedVariables false
set_option linter.unusedSimpArgs false
set_option maxRecDepth 100000
namespace Go.Proofs.YtocfkaihfjbfnaaDoor
open Go.Proofs.YtocfkaihfjbfnaaDoor.Ev Go.RowKit
/- A word's fields put together. -/
def fieldW (n : Int) (at_ : Nat) : W32 := BitVec.ofInt 32 n <<< at_
def s27f : CSpec | [.i .i64 n, .i .i64 k] => some ⟨[decide (0 ≤ k)], .u 32 (fieldW n k.toNat)⟩ | _ => none
theorem ok27f : FnOk Tryd.prog 27 s27f := okBy noS_ok Tryd.func27 (by kernel_rfl) (by kernel_rfl) 1 <| by
  intro xs r hs
  unfold s27f at hs; split at hs <;> cases hs
  rename_i n k
  intro hp _
  have h := hp _ (List.mem_cons_self ..)
  have e : (evFn T noS noL 1 Tryd.f27 [.i .i64 n, .i .i64 k]).run = if decide (0 ≤ k) = true then some (.u 32 (fieldW n k.toNat)) else none := by kernel_rfl
  rw [e, if_pos h]
def baseW (op : Int) : W32 := BitVec.ofNat 32 (basesL.getD op.toNat 0)
def s26b : CSpec | [.i .i64 op] => (match inB 1 op 47 with
    | true => some ⟨[], .u 32 (baseW op)⟩
    | false => none) | _ => none
theorem ok26b : FnOk Tryd.prog 26 s26b := okBy noS_ok Tryd.func26 (by kernel_rfl) (by kernel_rfl) 1 <| by
  intro xs r hs
  unfold s26b at hs; split at hs <;> try cases hs
  rename_i op
  split at hs <;> cases hs
  rename_i h
  intro hp _
  have h : 1 ≤ op ∧ op ≤ 47 := by simpa [inB] using h
  have main : ∀ k : Int, range47 k → (evFn T noS noL 1 Tryd.f26 [.i .i64 k]).run = some (.u 32 (baseW k)) := by
    intro k h
    rcases h with rfl | rfl | rfl | rfl | rfl | rfl | rfl | rfl | rfl | rfl | rfl | rfl | rfl | rfl | rfl | rfl | rfl | rfl | rfl | rfl | rfl | rfl | rfl | rfl | rfl | rfl | rfl | rfl | rfl | rfl | rfl | rfl | rfl | rfl | rfl | rfl | rfl | rfl | rfl | rfl | rfl | rfl | rfl | rfl | rfl | rfl | rfl
    all_goals kernel_rfl
  exact main op (range47_of h)
noncomputable abbrev SW0 : FuncId → CSpec := withS (withS (withS (withS (withS SQ5 12 sr26) 27 s27f) 26 s26b) 31 s50) 32 s38
theorem SW0_ok : ∀ f, FnOk Tryd.prog f (SW0 f) := withS_ok (withS_ok (withS_ok (withS_ok (withS_ok SQ5_ok okr28) ok27f) ok26b) ok50) ok38
def encX (op w : Int) (imm : W64) (off cond r s : Int) : W32 :=
  if inB 1 op 4 = true then fieldW (IntKind.i64.wrap (imm.toNat : Int)) 10
  else if inB 13 op 15 = true then enc1 imm <<< 10
  else if inB 16 op 18 = true then fieldW (IntKind.i64.wrap (imm.toNat : Int)) 5 ||| fieldW s 21
  else if (inB 5 op 12 || inB 29 op 30) = true then fieldW s 10 ||| fieldW r 16
  else if inB 31 op 32 = true then fieldW cond 12
  else if inB 33 op 38 = true then fieldW (logN w) 30 ||| fieldW (IntKind.i64.wrap ((IntKind.i64.wrap (imm.toNat : Int)).tdiv w)) 10
  else if (op == 39) = true then fieldW (IntKind.i64.wrap (imm.toNat : Int)) 8
  else if (op == 40) = true then field (BitVec.ofInt 32 (off / 2 ^ 2)) 0 26
  else if inB 40 op 43 = true then field (BitVec.ofInt 32 (off / 2 ^ 2)) 0 19 <<< 5 ||| fieldW cond 0
  else fieldW (IntKind.i64.wrap (imm.toNat : Int)) 5
def enc0 (op n m a : Int) : W32 := baseW op ||| fieldW n 5 ||| fieldW m 16 ||| fieldW a 10
def noX (op : Int) : Bool := inB 19 op 28 || op == 44 || op == 47
def encP (op w d n m a : Int) (imm : W64) (off cond r s : Int) : W32 := (if noX op = true then enc0 op n m a else enc0 op n m a ||| encX op w imm off cond r s) ||| fieldW d 0
end Go.Proofs.YtocfkaihfjbfnaaDoor
set_option maxRecDepth 100000
namespace Go.Proofs.YtocfkaihfjbfnaaDoor
open Go.Proofs.YtocfkaihfjbfnaaDoor.Ev Go.RowKit
/- Encode: a word, or none. -/
def Run10 (k : Int) : Prop := ∀ (w d n m a : Int) (imm : W64) (off cond r s : Int), (evFn T SW0 noL 1 Tryd.f10 [.agg (cI k w d n m a imm off cond r s)]).run =
  if (!mayA k w d n m a imm off cond r s) = true then some (.tup [.u 32 (BitVec.ofInt 32 0), .i .i64 2]) else
  if (if inB 33 k 38 = true then !(w == 0) else true) = true then some (.tup [.u 32 (encP k w d n m a imm off cond r s), .i .i64 0]) else none
theorem run10_1 : Run10 1 := by
  intro w d n m a imm off cond r s
  kernel_rfl
theorem run10_2 : Run10 2 := by
  intro w d n m a imm off cond r s
  kernel_rfl
theorem run10_3 : Run10 3 := by
  intro w d n m a imm off cond r s
  kernel_rfl
theorem run10_4 : Run10 4 := by
  intro w d n m a imm off cond r s
  kernel_rfl
theorem run10_5 : Run10 5 := by
  intro w d n m a imm off cond r s
  kernel_rfl
theorem run10_6 : Run10 6 := by
  intro w d n m a imm off cond r s
  kernel_rfl
theorem run10_7 : Run10 7 := by
  intro w d n m a imm off cond r s
  kernel_rfl
theorem run10_8 : Run10 8 := by
  intro w d n m a imm off cond r s
  kernel_rfl
theorem run10_9 : Run10 9 := by
  intro w d n m a imm off cond r s
  kernel_rfl
theorem run10_10 : Run10 10 := by
  intro w d n m a imm off cond r s
  kernel_rfl
theorem run10_11 : Run10 11 := by
  intro w d n m a imm off cond r s
  kernel_rfl
theorem run10_12 : Run10 12 := by
  intro w d n m a imm off cond r s
  kernel_rfl
theorem run10_13 : Run10 13 := by
  intro w d n m a imm off cond r s
  kernel_rfl
theorem run10_14 : Run10 14 := by
  intro w d n m a imm off cond r s
  kernel_rfl
theorem run10_15 : Run10 15 := by
  intro w d n m a imm off cond r s
  kernel_rfl
theorem run10_16 : Run10 16 := by
  intro w d n m a imm off cond r s
  kernel_rfl
theorem run10_17 : Run10 17 := by
  intro w d n m a imm off cond r s
  kernel_rfl
theorem run10_18 : Run10 18 := by
  intro w d n m a imm off cond r s
  kernel_rfl
theorem run10_19 : Run10 19 := by
  intro w d n m a imm off cond r s
  kernel_rfl
theorem run10_20 : Run10 20 := by
  intro w d n m a imm off cond r s
  kernel_rfl
theorem run10_21 : Run10 21 := by
  intro w d n m a imm off cond r s
  kernel_rfl
theorem run10_22 : Run10 22 := by
  intro w d n m a imm off cond r s
  kernel_rfl
theorem run10_23 : Run10 23 := by
  intro w d n m a imm off cond r s
  kernel_rfl
theorem run10_24 : Run10 24 := by
  intro w d n m a imm off cond r s
  kernel_rfl
theorem run10_25 : Run10 25 := by
  intro w d n m a imm off cond r s
  kernel_rfl
theorem run10_26 : Run10 26 := by
  intro w d n m a imm off cond r s
  kernel_rfl
theorem run10_27 : Run10 27 := by
  intro w d n m a imm off cond r s
  kernel_rfl
theorem run10_28 : Run10 28 := by
  intro w d n m a imm off cond r s
  kernel_rfl
theorem run10_29 : Run10 29 := by
  intro w d n m a imm off cond r s
  kernel_rfl
theorem run10_30 : Run10 30 := by
  intro w d n m a imm off cond r s
  kernel_rfl
theorem run10_31 : Run10 31 := by
  intro w d n m a imm off cond r s
  kernel_rfl
theorem run10_32 : Run10 32 := by
  intro w d n m a imm off cond r s
  kernel_rfl
theorem run10_33 : Run10 33 := by
  intro w d n m a imm off cond r s
  kernel_rfl
theorem run10_34 : Run10 34 := by
  intro w d n m a imm off cond r s
  kernel_rfl
theorem run10_35 : Run10 35 := by
  intro w d n m a imm off cond r s
  kernel_rfl
theorem run10_36 : Run10 36 := by
  intro w d n m a imm off cond r s
  kernel_rfl
theorem run10_37 : Run10 37 := by
  intro w d n m a imm off cond r s
  kernel_rfl
theorem run10_38 : Run10 38 := by
  intro w d n m a imm off cond r s
  kernel_rfl
theorem run10_39 : Run10 39 := by
  intro w d n m a imm off cond r s
  kernel_rfl
theorem run10_40 : Run10 40 := by
  intro w d n m a imm off cond r s
  kernel_rfl
theorem run10_41 : Run10 41 := by
  intro w d n m a imm off cond r s
  kernel_rfl
theorem run10_42 : Run10 42 := by
  intro w d n m a imm off cond r s
  kernel_rfl
theorem run10_43 : Run10 43 := by
  intro w d n m a imm off cond r s
  kernel_rfl
theorem run10_44 : Run10 44 := by
  intro w d n m a imm off cond r s
  kernel_rfl
theorem run10_45 : Run10 45 := by
  intro w d n m a imm off cond r s
  kernel_rfl
theorem run10_46 : Run10 46 := by
  intro w d n m a imm off cond r s
  kernel_rfl
theorem run10_47 : Run10 47 := by
  intro w d n m a imm off cond r s
  kernel_rfl
theorem run10 (k : Int) (hk : range47 k) : Run10 k := by
  rcases hk with rfl | rfl | rfl | rfl | rfl | rfl | rfl | rfl | rfl | rfl | rfl | rfl | rfl | rfl | rfl | rfl | rfl | rfl | rfl | rfl | rfl | rfl | rfl | rfl | rfl | rfl | rfl | rfl | rfl | rfl | rfl | rfl | rfl | rfl | rfl | rfl | rfl | rfl | rfl | rfl | rfl | rfl | rfl | rfl | rfl | rfl | rfl
  · exact run10_1
  · exact run10_2
  · exact run10_3
  · exact run10_4
  · exact run10_5
  · exact run10_6
  · exact run10_7
  · exact run10_8
  · exact run10_9
  · exact run10_10
  · exact run10_11
  · exact run10_12
  · exact run10_13
  · exact run10_14
  · exact run10_15
  · exact run10_16
  · exact run10_17
  · exact run10_18
  · exact run10_19
  · exact run10_20
  · exact run10_21
  · exact run10_22
  · exact run10_23
  · exact run10_24
  · exact run10_25
  · exact run10_26
  · exact run10_27
  · exact run10_28
  · exact run10_29
  · exact run10_30
  · exact run10_31
  · exact run10_32
  · exact run10_33
  · exact run10_34
  · exact run10_35
  · exact run10_36
  · exact run10_37
  · exact run10_38
  · exact run10_39
  · exact run10_40
  · exact run10_41
  · exact run10_42
  · exact run10_43
  · exact run10_44
  · exact run10_45
  · exact run10_46
  · exact run10_47
theorem may_w {op w d n m a : Int} {imm : W64} {off cond r s : Int} (h : mayA op w d n m a imm off cond r s = true) : isW w = true ∧ (inB 33 op 38 = true ∨ w = 8) := by
  unfold mayA at h
  cases hb : badA op w d n m a imm off cond r s with
  | true => rw [hb] at h; simp at h
  | false =>
    unfold badA at hb
    cases hw : isW w with
    | false => rw [hw] at hb; simp at hb
    | true =>
      refine ⟨rfl, ?_⟩
      cases h3 : inB 33 op 38 with
      | true => exact .inl rfl
      | false =>
        right
        rw [hw, h3] at hb
        simp at hb
        omega
/-- The word of an instruction that may be, and whether it may be. -/
def errA (b : Bool) : Int := if b = true then 0 else 2
def wordA (b : Bool) (x : W32) : W32 := if b = true then x else 0#32
def s10 : CSpec
  | [.agg (cI op w d n m a imm off cond r s)] => some ⟨[], .tup [.u 32 (wordA (mayA op w d n m a imm off cond r s) (encP op w d n m a imm off cond r s)), .i .i64 (errA (mayA op w d n m a imm off cond r s))]⟩
  | _ => none
theorem ok10 : FnOk Tryd.prog 10 s10 := okBy SW0_ok Tryd.func10 (by kernel_rfl) (by kernel_rfl) 1 <| by
  intro xs r hs
  unfold s10 at hs; split at hs <;> cases hs
  rename_i op w d n m a imm off cond r s
  intro hp _
  show (evFn T SW0 noL 1 Tryd.f10 [.agg (cI op w d n m a imm off cond r s)]).run = some (AV.tup [.u 32 (wordA (mayA op w d n m a imm off cond r s) (encP op w d n m a imm off cond r s)), .i .i64 (errA (mayA op w d n m a imm off cond r s))])
  cases hm : mayA op w d n m a imm off cond r s with
  | false =>
    have e : ∃ t, (evFn T SW0 noL 1 Tryd.f10 [.agg (cI op w d n m a imm off cond r s)]).run = if (!mayA op w d n m a imm off cond r s) = true then some (.tup [.u 32 (BitVec.ofInt 32 0), .i .i64 2]) else t :=
      ⟨match evFn T SW0 noL 1 Tryd.f10 [.agg (cI op w d n m a imm off cond r s)] with
        | .ite _ _ b => b.run
        | _ => none, by kernel_rfl⟩
    obtain ⟨t, e⟩ := e
    rw [e, hm]
    rfl
  | true =>
    have hw : (if inB 33 op 38 = true then !(w == 0) else true) = true := by
      have := (may_w hm).1
      rcases isW_cases this with rfl | rfl | rfl | rfl <;> simp
    rw [run10 op (range47_of (may_range hm)) w d n m a imm off cond r s, hm, hw]
    rfl
noncomputable abbrev SW1 : FuncId → CSpec := withS SW0 10 s10
theorem SW1_ok : ∀ f, FnOk Tryd.prog f (SW1 f) := withS_ok SW0_ok ok10
end Go.Proofs.YtocfkaihfjbfnaaDoor
set_option maxRecDepth 100000
namespace Go.Proofs.YtocfkaihfjbfnaaDoor
open Go.Proofs.YtocfkaihfjbfnaaDoor.Ev Go.RowKit
/- The reference's Encode: a sum. -/
def sizeA (w : Int) : W64 := if (w == 1) = true then 0#64 else if (w == 2) = true then 1#64 else if (w == 4) = true then 2#64 else 3#64
def L46s : Nat → Live := fun _ => ⟨[0, 3], [], [], none⟩
def s46s : CSpec | [.i .i64 w] => some ⟨[isW w], .u 64 (sizeA w)⟩ | _ => none
theorem ok46s : FnOk Tryd.prog 46 s46s := FnOk.of (L := L46s) tyOk noS_ok mixed Tryd.func46 (by kernel_rfl) (by kernel_rfl) <| by
  intro xs r hs hp w R vs hvs
  refine ⟨8, FnLoops.no (by kernel_rfl), ?_⟩
  unfold s46s at hs; split at hs <;> cases hs
  rename_i w
  have h : isW w = true := hp _ (List.mem_cons_self ..)
  clear hvs
  have main : ∀ k : Int, k = 1 ∨ k = 2 ∨ k = 4 ∨ k = 8 → (evFn T noS L46s 8 Tryd.f46 [.i .i64 k]).run = some (.u 64 (sizeA k)) := by
    rintro k (rfl | rfl | rfl | rfl)
    all_goals kernel_rfl
  exact main w (isW_cases h)
def lowA (off : Int) (n : Nat) : W64 := BitVec.ofInt 64 off / BitVec.ofInt 64 4 % BitVec.ofInt 64 1 <<< n
def s47l : CSpec | [.i .i64 off, .i .i64 n] => (match n == 26 || n == 19 with
    | true => some ⟨[], .u 64 (lowA off n.toNat)⟩
    | false => none) | _ => none
theorem ok47l : FnOk Tryd.prog 47 s47l := okBy noS_ok Tryd.func47 (by kernel_rfl) (by kernel_rfl) 1 <| by
  intro xs r hs
  unfold s47l at hs; split at hs <;> try cases hs
  rename_i off n
  split at hs <;> cases hs
  rename_i h
  intro hp _
  have main : ∀ k : Int, k = 26 ∨ k = 19 → (evFn T noS noL 1 Tryd.f47 [.i .i64 off, .i .i64 k]).run = some (.u 64 (lowA off k.toNat)) := by
    rintro k (rfl | rfl)
    all_goals kernel_rfl
  exact main n (by simpa using h)
noncomputable abbrev SX0 : FuncId → CSpec := withS (withS SQ5 46 s46s) 47 s47l
theorem SX0_ok : ∀ f, FnOk Tryd.prog f (SX0 f) := withS_ok (withS_ok SQ5_ok ok46s) ok47l
def addIf (b : Bool) (x w : W64) : W64 := if b = true then w + x else w
def encR0 (op d n m a r : Int) : W64 := baseOf op + (BitVec.ofInt 64 d + BitVec.ofInt 64 n * BitVec.ofInt 64 32 + BitVec.ofInt 64 m * BitVec.ofInt 64 65536 + BitVec.ofInt 64 a * BitVec.ofInt 64 1024 + BitVec.ofInt 64 r * BitVec.ofInt 64 65536)
def encR (op w d n m a : Int) (imm : W64) (off cond r s : Int) : W64 :=
  addIf (hasA op [103]) (lowA off 19 * BitVec.ofInt 64 32) <| addIf (hasA op [106]) (lowA off 26) <| addIf (hasA op [102]) (imm * BitVec.ofInt 64 256) <| addIf (hasA op [122]) (sizeA w * BitVec.ofInt 64 1073741824) <|
  addIf (hasA op [117]) (imm / BitVec.ofInt 64 w * BitVec.ofInt 64 1024) <| addIf (hasA op [119]) (imm * BitVec.ofInt 64 32) <| addIf (hasA op [108]) ((enc1 imm).setWidth 64 * BitVec.ofInt 64 1024) <| addIf (hasA op [105]) (imm * BitVec.ofInt 64 1024) <|
  addIf (hasA op [107]) (BitVec.ofInt 64 cond) <| addIf (hasA op [99]) (BitVec.ofInt 64 cond * BitVec.ofInt 64 4096) <| addIf (hasA op [104]) (BitVec.ofInt 64 s * BitVec.ofInt 64 2097152) <| addIf (hasA op [115]) (BitVec.ofInt 64 s * BitVec.ofInt 64 1024) <| encR0 op d n m a r
def Run16 (op : Int) : Prop := ∀ (w d n m a : Int) (imm : W64) (off cond r s : Int), (evFn T SX0 noL 1 Tryd.f16 [.agg (cI op w d n m a imm off cond r s)]).run =
    if (if hasA op [117] = true then !(BitVec.ofInt 64 w == 0#64) else true) = true then if (if hasA op [122] = true then isW w else true) = true then some (.u 32 ((encR op w d n m a imm off cond r s).setWidth 32)) else none else none
theorem run16_1 : Run16 1 := by
  intro w d n m a imm off cond r s
  kernel_rfl
theorem run16_2 : Run16 2 := by
  intro w d n m a imm off cond r s
  kernel_rfl
theorem run16_3 : Run16 3 := by
  intro w d n m a imm off cond r s
  kernel_rfl
theorem run16_4 : Run16 4 := by
  intro w d n m a imm off cond r s
  kernel_rfl
theorem run16_5 : Run16 5 := by
  intro w d n m a imm off cond r s
  kernel_rfl
theorem run16_6 : Run16 6 := by
  intro w d n m a imm off cond r s
  kernel_rfl
theorem run16_7 : Run16 7 := by
  intro w d n m a imm off cond r s
  kernel_rfl
theorem run16_8 : Run16 8 := by
  intro w d n m a imm off cond r s
  kernel_rfl
theorem run16_9 : Run16 9 := by
  intro w d n m a imm off cond r s
  kernel_rfl
theorem run16_10 : Run16 10 := by
  intro w d n m a imm off cond r s
  kernel_rfl
theorem run16_11 : Run16 11 := by
  intro w d n m a imm off cond r s
  kernel_rfl
theorem run16_12 : Run16 12 := by
  intro w d n m a imm off cond r s
  kernel_rfl
theorem run16_13 : Run16 13 := by
  intro w d n m a imm off cond r s
  kernel_rfl
theorem run16_14 : Run16 14 := by
  intro w d n m a imm off cond r s
  kernel_rfl
theorem run16_15 : Run16 15 := by
  intro w d n m a imm off cond r s
  kernel_rfl
theorem run16_16 : Run16 16 := by
  intro w d n m a imm off cond r s
  kernel_rfl
theorem run16_17 : Run16 17 := by
  intro w d n m a imm off cond r s
  kernel_rfl
theorem run16_18 : Run16 18 := by
  intro w d n m a imm off cond r s
  kernel_rfl
theorem run16_19 : Run16 19 := by
  intro w d n m a imm off cond r s
  kernel_rfl
theorem run16_20 : Run16 20 := by
  intro w d n m a imm off cond r s
  kernel_rfl
theorem run16_21 : Run16 21 := by
  intro w d n m a imm off cond r s
  kernel_rfl
theorem run16_22 : Run16 22 := by
  intro w d n m a imm off cond r s
  kernel_rfl
theorem run16_23 : Run16 23 := by
  intro w d n m a imm off cond r s
  kernel_rfl
theorem run16_24 : Run16 24 := by
  intro w d n m a imm off cond r s
  kernel_rfl
theorem run16_25 : Run16 25 := by
  intro w d n m a imm off cond r s
  kernel_rfl
theorem run16_26 : Run16 26 := by
  intro w d n m a imm off cond r s
  kernel_rfl
theorem run16_27 : Run16 27 := by
  intro w d n m a imm off cond r s
  kernel_rfl
theorem run16_28 : Run16 28 := by
  intro w d n m a imm off cond r s
  kernel_rfl
theorem run16_29 : Run16 29 := by
  intro w d n m a imm off cond r s
  kernel_rfl
theorem run16_30 : Run16 30 := by
  intro w d n m a imm off cond r s
  kernel_rfl
theorem run16_31 : Run16 31 := by
  intro w d n m a imm off cond r s
  kernel_rfl
theorem run16_32 : Run16 32 := by
  intro w d n m a imm off cond r s
  kernel_rfl
theorem run16_33 : Run16 33 := by
  intro w d n m a imm off cond r s
  kernel_rfl
theorem run16_34 : Run16 34 := by
  intro w d n m a imm off cond r s
  kernel_rfl
theorem run16_35 : Run16 35 := by
  intro w d n m a imm off cond r s
  kernel_rfl
theorem run16_36 : Run16 36 := by
  intro w d n m a imm off cond r s
  kernel_rfl
theorem run16_37 : Run16 37 := by
  intro w d n m a imm off cond r s
  kernel_rfl
theorem run16_38 : Run16 38 := by
  intro w d n m a imm off cond r s
  kernel_rfl
theorem run16_39 : Run16 39 := by
  intro w d n m a imm off cond r s
  kernel_rfl
theorem run16_40 : Run16 40 := by
  intro w d n m a imm off cond r s
  kernel_rfl
theorem run16_41 : Run16 41 := by
  intro w d n m a imm off cond r s
  kernel_rfl
theorem run16_42 : Run16 42 := by
  intro w d n m a imm off cond r s
  kernel_rfl
theorem run16_43 : Run16 43 := by
  intro w d n m a imm off cond r s
  kernel_rfl
theorem run16_44 : Run16 44 := by
  intro w d n m a imm off cond r s
  kernel_rfl
theorem run16_45 : Run16 45 := by
  intro w d n m a imm off cond r s
  kernel_rfl
theorem run16_46 : Run16 46 := by
  intro w d n m a imm off cond r s
  kernel_rfl
theorem run16_47 : Run16 47 := by
  intro w d n m a imm off cond r s
  kernel_rfl
theorem run16 (k : Int) (hk : range47 k) : Run16 k := by
  rcases hk with rfl | rfl | rfl | rfl | rfl | rfl | rfl | rfl | rfl | rfl | rfl | rfl | rfl | rfl | rfl | rfl | rfl | rfl | rfl | rfl | rfl | rfl | rfl | rfl | rfl | rfl | rfl | rfl | rfl | rfl | rfl | rfl | rfl | rfl | rfl | rfl | rfl | rfl | rfl | rfl | rfl | rfl | rfl | rfl | rfl | rfl | rfl
  · exact run16_1
  · exact run16_2
  · exact run16_3
  · exact run16_4
  · exact run16_5
  · exact run16_6
  · exact run16_7
  · exact run16_8
  · exact run16_9
  · exact run16_10
  · exact run16_11
  · exact run16_12
  · exact run16_13
  · exact run16_14
  · exact run16_15
  · exact run16_16
  · exact run16_17
  · exact run16_18
  · exact run16_19
  · exact run16_20
  · exact run16_21
  · exact run16_22
  · exact run16_23
  · exact run16_24
  · exact run16_25
  · exact run16_26
  · exact run16_27
  · exact run16_28
  · exact run16_29
  · exact run16_30
  · exact run16_31
  · exact run16_32
  · exact run16_33
  · exact run16_34
  · exact run16_35
  · exact run16_36
  · exact run16_37
  · exact run16_38
  · exact run16_39
  · exact run16_40
  · exact run16_41
  · exact run16_42
  · exact run16_43
  · exact run16_44
  · exact run16_45
  · exact run16_46
  · exact run16_47
theorem isW_nz {w : Int} (h : isW w = true) : (!(BitVec.ofInt 64 w == 0#64)) = true := by
  rcases isW_cases h with rfl | rfl | rfl | rfl <;> rfl
def s16e : CSpec
  | [.agg (cI op w d n m a imm off cond r s)] => (match inB 1 op 47 with
    | true => some ⟨[isW w], .u 32 ((encR op w d n m a imm off cond r s).setWidth 32)⟩
    | false => none)
  | _ => none
theorem ok16e : FnOk Tryd.prog 16 s16e := okBy SX0_ok Tryd.func16 (by kernel_rfl) (by kernel_rfl) 1 <| by
  intro xs r hs
  unfold s16e at hs; split at hs <;> try cases hs
  rename_i op w d n m a imm off cond r s
  split at hs <;> cases hs
  rename_i hop
  intro hp _
  have hw : isW w = true := hp _ (List.mem_cons_self ..)
  show (evFn T SX0 noL 1 Tryd.f16 [.agg (cI op w d n m a imm off cond r s)]).run = some (.u 32 ((encR op w d n m a imm off cond r s).setWidth 32))
  rw [run16 op (range47_of (by simpa [inB] using hop)) w d n m a imm off cond r s, isW_nz hw, hw]
  simp only [ite_self, if_true]
end Go.Proofs.YtocfkaihfjbfnaaDoor
set_option maxRecDepth 100000
namespace Go.Proofs.YtocfkaihfjbfnaaDoor
open Go.Proofs.YtocfkaihfjbfnaaDoor.Ev Go.RowKit
/- Fields that do not meet. -/
theorem or_add {x y m1 m2 : W32} (h1 : x &&& m1 = x) (h2 : y &&& m2 = y) (hm : m1 &&& m2 = 0#32) : (x ||| y = x + y) ∧ ((x + y) &&& (m1 ||| m2) = x + y) := by
  have h0 : x &&& y = 0#32 := by
    apply BitVec.eq_of_getLsbD_eq
    intro i hi
    have a1 : (x &&& m1).getLsbD i = x.getLsbD i := by rw [h1]
    have a2 : (y &&& m2).getLsbD i = y.getLsbD i := by rw [h2]
    have a3 : (m1 &&& m2).getLsbD i = false := by rw [hm]; simp
    simp only [BitVec.getLsbD_and] at a1 a2 a3 ⊢
    rw [← a1, ← a2]
    cases hx : m1.getLsbD i <;> cases hy : m2.getLsbD i <;> simp_all
  have e := BitVec.add_eq_or_of_and_eq_zero x y h0
  refine ⟨e.symm, ?_⟩
  rw [e]
  apply BitVec.eq_of_getLsbD_eq
  intro i hi
  have a1 : (x &&& m1).getLsbD i = x.getLsbD i := by rw [h1]
  have a2 : (y &&& m2).getLsbD i = y.getLsbD i := by rw [h2]
  simp only [BitVec.getLsbD_and, BitVec.getLsbD_or] at a1 a2 ⊢
  rw [← a1, ← a2]
  cases x.getLsbD i <;> cases y.getLsbD i <;> cases m1.getLsbD i <;> cases m2.getLsbD i <;> rfl
/-- A field within its bits. -/
theorem field_mask {n : Int} {b k : Nat} (h0 : 0 ≤ n) (h1 : n < 2 ^ b) (hb : b + k ≤ 32) : fieldW n k &&& (BitVec.ofNat 32 (2 ^ b - 1) <<< k) = fieldW n k := by
  obtain ⟨N, rfl⟩ := Int.eq_ofNat_of_zero_le h0
  have hN : N < 2 ^ b := by exact_mod_cast h1
  have hle : 2 ^ b ≤ 2 ^ 32 := Nat.pow_le_pow_right (by omega) (by omega)
  apply BitVec.eq_of_getLsbD_eq
  intro i hi
  unfold fieldW
  simp only [BitVec.getLsbD_and, BitVec.getLsbD_shiftLeft, hi, decide_true, Bool.true_and]
  by_cases hk : i < k
  · simp [hk]
  · have e1 : (BitVec.ofInt 32 (N : Int) : W32).getLsbD (i - k) = N.testBit (i - k) := by
      rw [BitVec.ofInt_natCast, BitVec.getLsbD_ofNat]
      simp; omega
    have e2 : (BitVec.ofNat 32 (2 ^ b - 1) : W32).getLsbD (i - k) = decide (i - k < b) := by
      rw [BitVec.getLsbD_ofNat, Nat.testBit_two_pow_sub_one]
      simp; omega
    rw [e1, e2]
    by_cases hb2 : i - k < b
    · simp [hk, hb2]
    · have : N.testBit (i - k) = false := Nat.testBit_lt_two_pow (Nat.lt_of_lt_of_le hN (Nat.pow_le_pow_right (by omega) (by omega)))
      simp [hk, this]
theorem fieldW_toNat {n : Int} {b k : Nat} (h0 : 0 ≤ n) (h1 : n < 2 ^ b) (hb : b + k ≤ 32) : (fieldW n k).toNat = n.toNat * 2 ^ k := by
  obtain ⟨N, rfl⟩ := Int.eq_ofNat_of_zero_le h0
  have hN : N < 2 ^ b := by exact_mod_cast h1
  have hle : 2 ^ (b + k) ≤ 2 ^ 32 := Nat.pow_le_pow_right (by omega) hb
  have hlt : N * 2 ^ k < 2 ^ (b + k) := by rw [Nat.pow_add]; exact Nat.mul_lt_mul_of_pos_right hN (Nat.pow_pos (by omega))
  have hb2 : 2 ^ b ≤ 2 ^ 32 := Nat.pow_le_pow_right (by omega) (by omega)
  unfold fieldW
  rw [BitVec.toNat_shiftLeft, BitVec.ofInt_natCast, BitVec.toNat_ofNat, Nat.shiftLeft_eq, Nat.mod_eq_of_lt (show N < 2 ^ 32 by omega), Nat.mod_eq_of_lt (by omega)]
  simp
theorem fieldW_zero (k : Nat) : fieldW 0 k = 0#32 := by unfold fieldW; simp
end Go.Proofs.YtocfkaihfjbfnaaDoor
set_option maxRecDepth 100000
namespace Go.Proofs.YtocfkaihfjbfnaaDoor
open Go.Proofs.YtocfkaihfjbfnaaDoor.Ev Go.RowKit
/- The program's reader of words. -/
/-- A field of a word, as a number. -/
def gt (x : W32) (a n : Int) : Int := ((x.toNat / 2 ^ a.toNat % 2 ^ n.toNat : Nat) : Int)
theorem gt_lt (x : W32) (a n : Int) : 0 ≤ gt x a n ∧ gt x a n < 2 ^ 32 := by
  unfold gt
  have h1 : x.toNat / 2 ^ a.toNat ≤ x.toNat := Nat.div_le_self _ _
  have h2 := Nat.mod_le (x.toNat / 2 ^ a.toNat) (2 ^ n.toNat)
  have h3 := x.isLt
  omega
theorem field_gt {x : W32} {a n : Int} (h : within a n = true) : ((field x a n).toNat : Int) = gt x a n := by
  obtain ⟨a, m, rfl, rfl, h1, h2⟩ := within_nat h
  have hm : m ≤ 32 := by omega
  have hc : (BitVec.allOnes 32 >>> (32 - m) : W32).toNat = 2 ^ m - 1 := by
    rw [BitVec.toNat_ushiftRight, BitVec.toNat_allOnes, Nat.shiftRight_eq_div_pow]
    have e : 2 ^ 32 = 2 ^ m * 2 ^ (32 - m) := by rw [← Nat.pow_add]; congr 1; omega
    have hp : 0 < 2 ^ (32 - m) := Nat.pow_pos (by omega)
    have hq : 0 < 2 ^ m := Nat.pow_pos (by omega)
    rw [e]
    generalize 2 ^ m = A at *
    generalize 2 ^ (32 - m) = B at *
    have e2 : A * B - 1 = (A - 1) * B + (B - 1) := by
      cases A with
      | zero => omega
      | succ A => rw [Nat.succ_mul]; simp; omega
    rw [e2, Nat.add_comm, Nat.add_mul_div_right _ _ hp, Nat.div_eq_of_lt (by omega)]; omega
  unfold field gt
  rw [h, cond_true, Int.toNat_natCast, Int.toNat_natCast, ← field_code x (a := a) (m := m) h2, BitVec.toNat_and, hc, Nat.and_two_pow_sub_one_eq_mod, BitVec.toNat_ushiftRight, Nat.shiftRight_eq_div_pow]
def g49 : CSpec | [.u 32 x, .i .i64 a, .i .i64 n] => (match within a n with
    | true => some ⟨[], .i .i64 (gt x a n)⟩
    | false => none) | _ => none
theorem okg49 : FnOk Tryd.prog 49 g49 := okBy SW1_ok Tryd.func49 (by kernel_rfl) (by kernel_rfl) 1 <| by
  intro xs r hs
  unfold g49 at hs; split at hs <;> try cases hs
  rename_i x a n
  split at hs <;> cases hs
  rename_i h
  intro hp _
  have e : (evFn T SW1 noL 1 Tryd.f49 [.u 32 x, .i .i64 a, .i .i64 n]).run = some (.i .i64 (IntKind.i64.wrap ((field x a n).toNat : Int))) := by kernel_rfl
  rw [e, field_gt h]
  have := gt_lt x a n
  rw [wrap_small _ (by omega) (by omega)]
/-- An offset of a word. -/
def gof (x : W32) (a n : Int) : Int := IntKind.i64.wrap (gt x a n * 2 ^ (64 - n).toNat) / 2 ^ (62 - n).toNat
def g76 : CSpec | [.u 32 x, .i .i64 a, .i .i64 n] => (match (a == 5 && n == 19) || (a == 0 && n == 26) with
    | true => some ⟨[], .i .i64 (gof x a n)⟩
    | false => none) | _ => none
noncomputable abbrev SY0 : FuncId → CSpec := withS (withS (withS SW1 49 g49) 74 s45b) 78 s45b
theorem SY0_ok : ∀ f, FnOk Tryd.prog f (SY0 f) := withS_ok (withS_ok (withS_ok SW1_ok okg49) (ok45b ok45)) (ok45b ok46)
theorem okg76 : FnOk Tryd.prog 76 g76 := okBy SY0_ok Tryd.func76 (by kernel_rfl) (by kernel_rfl) 1 <| by
  intro xs r hs
  unfold g76 at hs; split at hs <;> try cases hs
  rename_i x a n
  split at hs <;> cases hs
  rename_i h
  intro hp _
  have h : (a = 5 ∧ n = 19) ∨ (a = 0 ∧ n = 26) := by simpa using h
  rcases h with ⟨rfl, rfl⟩ | ⟨rfl, rfl⟩
  · show (evFn T SY0 noL 1 Tryd.f76 [.u 32 x, .i .i64 5, .i .i64 19]).run = some (.i .i64 (gof x 5 19))
    kernel_rfl
  · show (evFn T SY0 noL 1 Tryd.f76 [.u 32 x, .i .i64 0, .i .i64 26]).run = some (.i .i64 (gof x 0 26))
    kernel_rfl
noncomputable abbrev SY1 : FuncId → CSpec := withS SY0 76 g76
theorem SY1_ok : ∀ f, FnOk Tryd.prog f (SY1 f) := withS_ok SY0_ok okg76
end Go.Proofs.YtocfkaihfjbfnaaDoor
set_option maxRecDepth 100000
namespace Go.Proofs.YtocfkaihfjbfnaaDoor
open Go.Proofs.YtocfkaihfjbfnaaDoor.Ev Go.RowKit
/- The program's reader of words: what it finds in a word. -/
theorem okOC {S : FuncId → CSpec} (hS : ∀ f, FnOk Tryd.prog f (S f)) {f : FuncId} {fn : Func} (hf : Tryd.prog.funcs[f]? = some fn) (hname : (fn.name == "runtime.NumGoroutine") = false) (hbody : fn.body.isNone = false) {s : CSpec} (N : Nat)
    (h : ∀ xs r, s xs = some r → (∀ c ∈ r.pre, c = true) → (evFnO T S noL N fn (xs.map canV)).run = some (r.val, r.outs)) (hlt : f < offO := by decide) : FnOk Tryd.prog (1000000 + f) s :=
  FnOk.ofOC tyOk hS mixed hf hname hbody (fun xs r hs hp w R vs os hvs => ⟨N, noL_ok, h xs r hs hp⟩) hlt
theorem gt2 (x : W32) (a : Int) : decide (0 ≤ gt x a 2) = true ∧ decide (gt x a 2 < ((4 : Nat) : Int)) = true := by
  have h := gt_lt x a 2
  have h2 : x.toNat / 2 ^ a.toNat % 2 ^ (2 : Int).toNat < 2 ^ (2 : Int).toNat := Nat.mod_lt _ (Nat.pow_pos (by decide))
  have e : (2 : Int).toNat = 2 := rfl
  refine ⟨by simpa using h.1, ?_⟩
  simp only [decide_eq_true_eq]
  unfold gt
  rw [e] at h2 ⊢
  omega
def sel (l : List Int) (j : Int) : Int := l.getD j.toNat 0
/- imms -/
def pk {α : Type} (x : W32) (a b c d e : α) : α := if (gt x 23 6 == 34) = true then a else if (gt x 23 6 == 36) = true then b else if (gt x 23 6 == 37) = true then c else if (gt x 23 6 == 38) = true then d else e
def mO (x : W32) : Int := if (gt x 23 6 == 34) = true then sel [1, 3, 2, 4] (gt x 29 2) else if (gt x 23 6 == 36) = true then sel [13, 14, 15, 0] (gt x 29 2) else if (gt x 23 6 == 37) = true then sel [17, 0, 16, 18] (gt x 29 2) else if (gt x 23 6 == 38) = true then sel [30, 0, 29, 0] (gt x 29 2) else 0
def mN (x : W32) : Int := if (gt x 23 6 == 34) = true then gt x 5 5 else if (gt x 23 6 == 36) = true then gt x 5 5 else if (gt x 23 6 == 37) = true then 0 else gt x 5 5
def mI (x : W32) : W64 := if (gt x 23 6 == 34) = true then BitVec.ofInt 64 (gt x 10 12) else if (gt x 23 6 == 36) = true then dec1 (BitVec.ofInt 32 (gt x 10 13)) else if (gt x 23 6 == 37) = true then BitVec.ofInt 64 (gt x 5 16) else 0#64
def mR (x : W32) : Int := if (gt x 23 6 == 34) = true then 0 else if (gt x 23 6 == 36) = true then 0 else if (gt x 23 6 == 37) = true then 0 else if (gt x 23 6 == 38) = true then gt x 16 6 else 0
def mS (x : W32) : Int := if (gt x 23 6 == 34) = true then 0 else if (gt x 23 6 == 36) = true then 0 else if (gt x 23 6 == 37) = true then gt x 21 2 else if (gt x 23 6 == 38) = true then gt x 10 6 else 0
def g50 : CSpec | [.u 32 x] => some ⟨[], .agg (cI (mO x) 8 (gt x 0 5) (mN x) 0 0 (mI x) 0 0 (mR x) (mS x))⟩ | _ => none
theorem okg50 : FnOk Tryd.prog 50 g50 := okBy SY1_ok Tryd.func50 (by kernel_rfl) (by kernel_rfl) 1 <| by
  intro xs r hs
  unfold g50 at hs; split at hs <;> cases hs
  rename_i x
  intro hp _
  have e : (evFn T SY1 noL 1 Tryd.f50 [.u 32 x]).run =
    if (if (gt x 23 6 == 34) = true then decide (0 ≤ gt x 29 2) else true) = true then
    if (if (gt x 23 6 == 34) = true then decide (gt x 29 2 < ((4 : Nat) : Int)) else true) = true then
    if (if (gt x 23 6 == 34) = true then true else if (gt x 23 6 == 36) = true then decide (0 ≤ gt x 29 2) else true) = true then
    if (if (gt x 23 6 == 34) = true then true else if (gt x 23 6 == 36) = true then decide (gt x 29 2 < ((4 : Nat) : Int)) else true) = true then
    if (if (gt x 23 6 == 34) = true then true else if (gt x 23 6 == 36) = true then true else if (gt x 23 6 == 37) = true then decide (0 ≤ gt x 29 2) else true) = true then
    if (if (gt x 23 6 == 34) = true then true else if (gt x 23 6 == 36) = true then true else if (gt x 23 6 == 37) = true then decide (gt x 29 2 < ((4 : Nat) : Int)) else true) = true then
    if (if (gt x 23 6 == 34) = true then true else if (gt x 23 6 == 36) = true then true else if (gt x 23 6 == 37) = true then true else if (gt x 23 6 == 38) = true then decide (0 ≤ gt x 29 2) else true) = true then
    if (if (gt x 23 6 == 34) = true then true else if (gt x 23 6 == 36) = true then true else if (gt x 23 6 == 37) = true then true else if (gt x 23 6 == 38) = true then decide (gt x 29 2 < ((4 : Nat) : Int)) else true) = true then
      some (.agg (cI (mO x) 8 (gt x 0 5) (mN x) 0 0 (mI x) 0 0 (mR x) (mS x)))
    else none else none else none else none else none else none else none else none := by kernel_rfl
  rw [e, (gt2 x 29).1, (gt2 x 29).2]
  simp only [ite_self, if_true]
/- accesses -/
def aO (x : W32) : Int := if (gt x 24 6 == 57) = true then sel [34, 33, 0, 0] (gt x 22 2) else if (gt x 24 6 == 56) = true then 35 else if (gt x 24 6 == 8) = true then sel [38, 37, 36, 0] (gt x 22 2) else 0
def aW (x : W32) : Int := IntKind.i64.wrap (1 * 2 ^ (gt x 30 2).toNat)
def aM (x : W32) : Int := if (gt x 24 6 == 57) = true then 0 else if (gt x 24 6 == 56) = true then 0 else if (gt x 24 6 == 8) = true then if (sel [38, 37, 36, 0] (gt x 22 2) == 38) = true then gt x 16 5 else 0 else 0
def aI (x : W32) : W64 := if (gt x 24 6 == 57) = true then BitVec.ofInt 64 (IntKind.i64.wrap (gt x 10 12 * IntKind.i64.wrap (1 * 2 ^ (gt x 30 2).toNat))) else 0#64
def g52 : CSpec | [.u 32 x] => some ⟨[], .agg (cI (aO x) (aW x) (gt x 0 5) (gt x 5 5) (aM x) 0 (aI x) 0 0 0 0)⟩ | _ => none
theorem okg52 : FnOk Tryd.prog 52 g52 := okBy SY1_ok Tryd.func52 (by kernel_rfl) (by kernel_rfl) 1 <| by
  intro xs r hs
  unfold g52 at hs; split at hs <;> cases hs
  rename_i x
  intro hp _
  have e : (evFn T SY1 noL 1 Tryd.f52 [.u 32 x]).run =
    if decide (0 ≤ gt x 30 2) = true then
    if (if (gt x 24 6 == 57) = true then decide (0 ≤ gt x 22 2) else true) = true then
    if (if (gt x 24 6 == 57) = true then decide (gt x 22 2 < ((4 : Nat) : Int)) else true) = true then
    if (if (gt x 24 6 == 57) = true then true else if (gt x 24 6 == 56) = true then true else if (gt x 24 6 == 8) = true then decide (0 ≤ gt x 22 2) else true) = true then
    if (if (gt x 24 6 == 57) = true then true else if (gt x 24 6 == 56) = true then true else if (gt x 24 6 == 8) = true then decide (gt x 22 2 < ((4 : Nat) : Int)) else true) = true then
      some (.agg (cI (aO x) (aW x) (gt x 0 5) (gt x 5 5) (aM x) 0 (aI x) 0 0 0 0))
    else none else none else none else none else none := by kernel_rfl
  rw [e, (gt2 x 30).1, (gt2 x 22).1, (gt2 x 22).2]
  simp only [ite_self, if_true]
/- others -/
def oz (x : W32) : Bool := if (gt x 24 8 == 180) = true then gt x 24 8 == 180 else gt x 24 8 == 181
def oO (x : W32) : Int := if (gt x 24 8 == 84) = true then 41 else if oz x = true then IntKind.i64.wrap (42 + gt x 24 1) else if (gt x 24 8 == 214) = true then 44 else if (gt x 24 8 == 212) = true then IntKind.i64.wrap (45 + gt x 21 1) else if (gt x 24 8 == 213) = true then if (gt x 12 1 == 0) = true then 47 else 39 else 40
def oD (x : W32) : Int := if (gt x 24 8 == 84) = true then 0 else if oz x = true then gt x 0 5 else 0
def oN (x : W32) : Int := if (gt x 24 8 == 84) = true then 0 else if oz x = true then 0 else if (gt x 24 8 == 214) = true then gt x 5 5 else 0
def oI (x : W32) : W64 := if (gt x 24 8 == 84) = true then 0#64 else if oz x = true then 0#64 else if (gt x 24 8 == 214) = true then 0#64 else if (gt x 24 8 == 212) = true then BitVec.ofInt 64 (gt x 5 16) else if (gt x 24 8 == 213) = true then if (gt x 12 1 == 0) = true then BitVec.ofInt 64 0 else BitVec.ofInt 64 (gt x 8 4) else 0#64
def oF (x : W32) : Int := if (gt x 24 8 == 84) = true then gof x 5 19 else if oz x = true then gof x 5 19 else if (gt x 24 8 == 214) = true then 0 else if (gt x 24 8 == 212) = true then 0 else if (gt x 24 8 == 213) = true then 0 else gof x 0 26
def oC (x : W32) : Int := if (gt x 24 8 == 84) = true then gt x 0 4 else 0
def g53 : CSpec | [.u 32 x] => some ⟨[], .agg (cI (oO x) 8 (oD x) (oN x) 0 0 (oI x) (oF x) (oC x) 0 0)⟩ | _ => none
theorem okg53 : FnOk Tryd.prog 53 g53 := okBy SY1_ok Tryd.func53 (by kernel_rfl) (by kernel_rfl) 1 <| by
  intro xs r hs
  unfold g53 at hs; split at hs <;> cases hs
  rename_i x
  intro hp _
  show (evFn T SY1 noL 1 Tryd.f53 [.u 32 x]).run = some (.agg (cI (oO x) 8 (oD x) (oN x) 0 0 (oI x) (oF x) (oC x) 0 0))
  kernel_rfl
/- two -/
def t8 (x : W32) : Bool := if (gt x 10 6 == 8) = true then gt x 10 6 == 8 else if (gt x 10 6 == 9) = true then gt x 10 6 == 9 else if (gt x 10 6 == 10) = true then gt x 10 6 == 10 else gt x 10 6 == 11
def tO (x : W32) (op : Int) : Int := if (gt x 21 3 == 4) = true then IntKind.i64.wrap (31 + gt x 10 1) else if (gt x 21 3 == 6) = true then if (gt x 10 6 == 2) = true then 23 else if (gt x 10 6 == 3) = true then 24 else if t8 x = true then IntKind.i64.wrap (25 + gt x 10 2) else op else op
def tC (x : W32) (c : Int) : Int := if (gt x 21 3 == 4) = true then gt x 12 4 else c
def g75 : CSpec | [.u 32 x, .obj (cI op w d n m a imm off cond r s)] => some ⟨[], .fin (.tup []) [cI (tO x op) w d n m a imm off (tC x cond) r s]⟩ | _ => none
theorem okg75 : FnOk Tryd.prog 1000075 g75 := okOC (f := 75) SY1_ok Tryd.func75 (by kernel_rfl) (by kernel_rfl) 1 <| by
  intro xs r hs hp
  unfold g75 at hs; split at hs <;> cases hs
  rename_i x op w d n m a imm off cond r s
  show (evFnO T SY1 noL 1 Tryd.f75 [.u 32 x, .obj (cI op w d n m a imm off cond r s)]).run = some (.tup [], [cI (tO x op) w d n m a imm off (tC x cond) r s])
  kernel_rfl
noncomputable abbrev SY2 : FuncId → CSpec := withS (withS (withS (withS SY1 50 g50) 52 g52) 53 g53) 1000075 g75
theorem SY2_ok : ∀ f, FnOk Tryd.prog f (SY2 f) := withS_ok (withS_ok (withS_ok (withS_ok SY1_ok okg50) okg52) okg53) okg75
/- regs -/
def k4 {α : Type} (x : W32) (a b c d : α) : α := if (gt x 24 5 == 10) = true then a else if (gt x 24 5 == 11) = true then b else if (gt x 24 5 == 26) = true then c else d
theorem k4_self {α : Type} (x : W32) (a : α) : k4 x a a a a = a := by unfold k4; simp only [ite_self]
def r3 (x : W32) : Int := (BitVec.ofInt 64 (IntKind.i64.wrap (gt x 21 3 * 2 ^ (BitVec.ofInt 64 1).toNat)) ||| BitVec.ofInt 64 (gt x 15 1)).toInt
def rO (x : W32) : Int := if (gt x 24 5 == 10) = true then sel [9, 10, 11, 12] (gt x 29 2) else if (gt x 24 5 == 11) = true then sel [5, 7, 6, 8] (gt x 29 2) else if (gt x 24 5 == 26) = true then tO x 0 else if (gt x 24 5 == 27) = true then
  if (r3 x == 0) = true then 19 else if (r3 x == 1) = true then 20 else if (r3 x == 4) = true then 22 else if (r3 x == 12) = true then 21 else 0 else 0
def rA (x : W32) : Int := if (gt x 24 5 == 10) = true then 0 else if (gt x 24 5 == 11) = true then 0 else if (gt x 24 5 == 26) = true then 0 else if (gt x 24 5 == 27) = true then if (r3 x == 0) = true then gt x 10 5 else if (r3 x == 1) = true then gt x 10 5 else 0 else 0
def rC (x : W32) : Int := k4 x 0 0 (tC x 0) 0
def rS (x : W32) : Int := k4 x (gt x 10 6) (gt x 10 6) 0 0
def g51 : CSpec | [.u 32 x] => some ⟨[], .agg (cI (rO x) 8 (gt x 0 5) (gt x 5 5) (gt x 16 5) (rA x) 0#64 0 (rC x) 0 (rS x))⟩ | _ => none
theorem okg51 : FnOk Tryd.prog 51 g51 := okBy SY2_ok Tryd.func51 (by kernel_rfl) (by kernel_rfl) 1 <| by
  intro xs r hs
  unfold g51 at hs; split at hs <;> cases hs
  rename_i x
  intro hp _
  have e : (evFn T SY2 noL 1 Tryd.f51 [.u 32 x]).run =
    if (if (gt x 24 5 == 10) = true then decide (0 ≤ gt x 29 2) else true) = true then
    if (if (gt x 24 5 == 10) = true then decide (gt x 29 2 < ((4 : Nat) : Int)) else true) = true then
    if (if (gt x 24 5 == 10) = true then true else if (gt x 24 5 == 11) = true then decide (0 ≤ gt x 29 2) else true) = true then
    if (if (gt x 24 5 == 10) = true then true else if (gt x 24 5 == 11) = true then decide (gt x 29 2 < ((4 : Nat) : Int)) else true) = true then
      some (.agg (cI (rO x) (k4 x 8 8 8 8) (k4 x (gt x 0 5) (gt x 0 5) (gt x 0 5) (gt x 0 5)) (k4 x (gt x 5 5) (gt x 5 5) (gt x 5 5) (gt x 5 5)) (k4 x (gt x 16 5) (gt x 16 5) (gt x 16 5) (gt x 16 5)) (rA x)
        (k4 x 0#64 0#64 0#64 0#64) (k4 x 0 0 0 0) (rC x) (k4 x 0 0 0 0) (rS x)))
    else none else none else none else none := by kernel_rfl
  rw [e, (gt2 x 29).1, (gt2 x 29).2]
  simp only [ite_self, if_true, k4_self]
noncomputable abbrev SY3 : FuncId → CSpec := withS SY2 51 g51
theorem SY3_ok : ∀ f, FnOk Tryd.prog f (SY3 f) := withS_ok SY2_ok okg51
end Go.Proofs.YtocfkaihfjbfnaaDoor
set_option maxRecDepth 100000
namespace Go.Proofs.YtocfkaihfjbfnaaDoor
open Go.Proofs.YtocfkaihfjbfnaaDoor.Ev Go.RowKit
/- The program's Decode. -/
def k8 (x : W32) : Bool := if (gt x 25 4 == 8) = true then gt x 25 4 == 8 else gt x 25 4 == 9
def k5 (x : W32) : Bool := if (gt x 25 4 == 5) = true then gt x 25 4 == 5 else gt x 25 4 == 13
def k6 (x : W32) : Bool := if (gt x 25 4 == 4) = true then gt x 25 4 == 4 else if (gt x 25 4 == 6) = true then gt x 25 4 == 6 else if (gt x 25 4 == 12) = true then gt x 25 4 == 12 else gt x 25 4 == 14
def kk {α : Type} (x : W32) (a b c d : α) : α := if k8 x = true then a else if k5 x = true then b else if k6 x = true then c else d
theorem kk_self {α : Type} (x : W32) (a : α) : kk x a a a a = a := by unfold kk; simp only [ite_self]
def onP {α : Type} (x : W32) (f : Int → Int → Int → Int → Int → Int → W64 → Int → Int → Int → Int → α) : α :=
  f (kk x (mO x) (rO x) (aO x) (oO x)) (kk x 8 8 (aW x) 8) (kk x (gt x 0 5) (gt x 0 5) (gt x 0 5) (oD x)) (kk x (mN x) (gt x 5 5) (gt x 5 5) (oN x)) (kk x 0 (gt x 16 5) (aM x) 0) (kk x 0 (rA x) 0 0)
    (kk x (mI x) 0#64 (aI x) (oI x)) (kk x 0 0 0 (oF x)) (kk x 0 (rC x) 0 (oC x)) (kk x (mR x) 0 0 0) (kk x (mS x) (rS x) 0 0)
def okD (x : W32) : Bool := onP x mayA && onP x encP == x
def orI (b : Bool) (x : Int) : Int := if b = true then x else 0
def orW (b : Bool) (x : W64) : W64 := if b = true then x else 0#64
/-- The cells of what Decode answers. -/
def decC (b : Bool) (op w d n m a : Int) (imm : W64) (off cond r s : Int) : List AV :=
  cI (orI b op) (orI b w) (orI b d) (orI b n) (orI b m) (orI b a) (orW b imm) (orI b off) (orI b cond) (orI b r) (orI b s)
def g21 : CSpec | [.u 32 x] => some ⟨[], .tup [.agg (onP x (decC (okD x))), .b (okD x)]⟩ | _ => none
theorem okg21 : FnOk Tryd.prog 21 g21 := okBy SY3_ok Tryd.func21 (by kernel_rfl) (by kernel_rfl) 1 <| by
  intro xs r hs
  unfold g21 at hs; split at hs <;> cases hs
  rename_i x
  intro hp _
  have e : (evFn T SY3 noL 1 Tryd.f21 [.u 32 x]).run = if (if (errA (onP x mayA) != 0) = true then true else wordA (onP x mayA) (onP x encP) != x) = true then
      some (.tup [.agg (cI 0 0 0 0 0 0 0#64 0 0 0 0), .b false]) else some (.tup [.agg (onP x cI), .b true]) := by kernel_rfl
  rw [e]
  show _ = some (AV.tup [.agg (onP x (decC (okD x))), .b (okD x)])
  have e2 : okD x = (onP x mayA && onP x encP == x) := rfl
  cases hm : onP x mayA with
  | false =>
    rw [hm] at e2
    simp only [errA, Bool.false_eq_true, if_false]
    rw [e2]
    rfl
  | true =>
    rw [hm] at e2
    cases hq : (onP x encP == x) with
    | false =>
      rw [hq] at e2
      have : onP x encP ≠ x := by simpa using hq
      simp [errA, wordA, this]
      rw [e2]
      exact ⟨rfl, rfl⟩
    | true =>
      rw [hq] at e2
      have : onP x encP = x := by simpa using hq
      simp [errA, wordA, this]
      rw [e2]
      exact ⟨rfl, rfl⟩
noncomputable abbrev SY4 : FuncId → CSpec := withS SY3 21 g21
theorem SY4_ok : ∀ f, FnOk Tryd.prog f (SY4 f) := withS_ok SY3_ok okg21
end Go.Proofs.YtocfkaihfjbfnaaDoor
set_option maxRecDepth 100000
namespace Go.Proofs.YtocfkaihfjbfnaaDoor
open Go.Proofs.YtocfkaihfjbfnaaDoor.Ev Go.RowKit
/- The reference's reader of words: its parts. -/
def g77 : CSpec | [.u 32 x, .i .i64 a, .i .i64 n] => (match within a n && decide (n ≤ 31) with
    | true => some ⟨[], .i .i64 (gt x a n)⟩
    | false => none) | _ => none
theorem okg77 : FnOk Tryd.prog 77 g77 := okBy noS_ok Tryd.func77 (by kernel_rfl) (by kernel_rfl) 1 <| by
  intro xs r hs
  unfold g77 at hs; split at hs <;> try cases hs
  rename_i x a n
  split at hs <;> cases hs
  rename_i h
  intro hp _
  simp only [Bool.and_eq_true, decide_eq_true_eq] at h
  obtain ⟨h, hn⟩ := h
  obtain ⟨a, n, rfl, rfl, h1, h2⟩ := within_nat h
  have e : (evFn T noS noL 1 Tryd.f77 [.u 32 x, .i .i64 a, .i .i64 n]).run = if (!(1#32 <<< (BitVec.ofInt 64 (n : Int)).toNat == 0#32)) = true then some (.i .i64 (IntKind.i64.wrap ((x >>> (BitVec.ofInt 64 (a : Int)).toNat % 1#32 <<< (BitVec.ofInt 64 (n : Int)).toNat).toNat : Int))) else none := by kernel_rfl
  have ea : (BitVec.ofInt 64 (a : Int)).toNat = a := by rw [BitVec.ofInt_natCast, BitVec.toNat_ofNat]; omega
  have en : (BitVec.ofInt 64 (n : Int)).toNat = n := by rw [BitVec.ofInt_natCast, BitVec.toNat_ofNat]; omega
  rw [e, ea, en]
  have hn' : n ≤ 31 := by omega
  have hlt : 2 ^ n < 2 ^ 32 := Nat.pow_lt_pow_right (by omega) (by omega)
  have e1 : (1#32 <<< n).toNat = 2 ^ n := by
    rw [BitVec.toNat_shiftLeft, Nat.shiftLeft_eq]; simp; exact hlt
  have hz : (!(1#32 <<< n == 0#32)) = true := by
    have : (1#32 <<< n) ≠ 0#32 := by
      intro h
      have := congrArg BitVec.toNat h
      rw [e1] at this
      have hp : 0 < 2 ^ n := Nat.pow_pos (by omega)
      simp at this
    simpa using this
  rw [if_pos hz, BitVec.toNat_umod, e1, BitVec.toNat_ushiftRight, Nat.shiftRight_eq_div_pow]
  have := gt_lt x a n
  have eg : gt x a n = ((x.toNat / 2 ^ a % 2 ^ n : Nat) : Int) := by unfold gt; simp
  rw [← eg, wrap_small _ (by omega) (by omega)]
/-- An offset with its sign. -/
def rof (v n : Int) : Int := IntKind.i64.wrap (4 * (if decide (IntKind.i64.wrap (1 * 2 ^ (BitVec.ofInt 64 (IntKind.i64.wrap (n - 1))).toNat) ≤ v) = true then IntKind.i64.wrap (v - IntKind.i64.wrap (1 * 2 ^ (BitVec.ofInt 64 n).toNat)) else v))
def g79 : CSpec | [.i .i64 v, .i .i64 n] => some ⟨[], .i .i64 (rof v n)⟩ | _ => none
theorem okg79 : FnOk Tryd.prog 79 g79 := okBy noS_ok Tryd.func79 (by kernel_rfl) (by kernel_rfl) 1 <| by
  intro xs r hs
  unfold g79 at hs; split at hs <;> cases hs
  rename_i v n
  intro hp _
  show (evFn T noS noL 1 Tryd.f79 [.i .i64 v, .i .i64 n]).run = some (.i .i64 (rof v n))
  kernel_rfl
/- Rows and words of operations that are not closed. -/
def g17 : CSpec | [.i .i64 op] => some ⟨[inB 1 op 47], .agg (rowC op)⟩ | _ => none
theorem okr29run (op : Int) (h : inB 1 op 47 = true) : (evFn T SQ0 noL 1 Tryd.f17 [.i .i64 op]).run = some (.agg (rowC op)) := by
  have h : 1 ≤ op ∧ op ≤ 47 := by simpa [inB] using h
  have main : ∀ k : Int, range47 k → (evFn T SQ0 noL 1 Tryd.f17 [.i .i64 k]).run = some (.agg (rowC k)) := by
    intro k h
    rcases h with rfl | rfl | rfl | rfl | rfl | rfl | rfl | rfl | rfl | rfl | rfl | rfl | rfl | rfl | rfl | rfl | rfl | rfl | rfl | rfl | rfl | rfl | rfl | rfl | rfl | rfl | rfl | rfl | rfl | rfl | rfl | rfl | rfl | rfl | rfl | rfl | rfl | rfl | rfl | rfl | rfl | rfl | rfl | rfl | rfl | rfl | rfl
    all_goals kernel_rfl
  exact main op (range47_of h)
theorem okg17 : FnOk Tryd.prog 17 g17 := okBy SQ0_ok Tryd.func17 (by kernel_rfl) (by kernel_rfl) 1 <| by
  intro xs r hs
  unfold g17 at hs; split at hs <;> cases hs
  rename_i op
  intro hp _
  have h := hp _ (List.mem_cons_self ..)
  exact okr29run op h
def g16 : CSpec | [.agg (cI op w d n m a imm off cond r s)] => some ⟨[inB 1 op 47, isW w], .u 32 ((encR op w d n m a imm off cond r s).setWidth 32)⟩ | _ => none
theorem okg16 : FnOk Tryd.prog 16 g16 := okBy SX0_ok Tryd.func16 (by kernel_rfl) (by kernel_rfl) 1 <| by
  intro xs r hs
  unfold g16 at hs; split at hs <;> cases hs
  rename_i op w d n m a imm off cond r s
  intro hp _
  have hop : inB 1 op 47 = true := hp _ (List.mem_cons_self ..)
  have hw : isW w = true := hp _ (List.mem_cons_of_mem _ (List.mem_cons_self ..))
  show (evFn T SX0 noL 1 Tryd.f16 [.agg (cI op w d n m a imm off cond r s)]).run = some (.u 32 ((encR op w d n m a imm off cond r s).setWidth 32))
  rw [run16 op (range47_of (by simpa [inB] using hop)) w d n m a imm off cond r s, isW_nz hw, hw]
  simp only [ite_self, if_true]
noncomputable abbrev SZ0 : FuncId → CSpec := withS (withS (withS (withS (withS SX0 77 g77) 79 g79) 17 g17) 16 g16) 78 s45b
theorem SZ0_ok : ∀ f, FnOk Tryd.prog f (SZ0 f) := withS_ok (withS_ok (withS_ok (withS_ok (withS_ok SX0_ok okg77) okg79) okg17) okg16) (ok45b ok46)
end Go.Proofs.YtocfkaihfjbfnaaDoor
set_option maxRecDepth 100000
namespace Go.Proofs.YtocfkaihfjbfnaaDoor
open Go.Proofs.YtocfkaihfjbfnaaDoor.Ev Go.RowKit
/- The reference's reader: near and Take. -/
def bw (op : Int) : W32 := (baseOf op).setWidth 32
def shn (x : W32) (k : Int) : W32 := x >>> (BitVec.ofInt 64 k).toNat
def nearA (op : Int) (x : W32) : Bool :=
  if hasA op [122] = true then shn (bw op) 24 % BitVec.ofInt 32 64 == shn x 24 % BitVec.ofInt 32 64
  else if hasA op [106] = true then shn (bw op) 26 == shn x 26
  else if (if (shn (bw op) 24 == shn x 24) = true then true else if hasA op [104] = true then shn (bw op) 23 == shn x 23 else false) = true then true
  else if hasA op [108] = true then shn (bw op) 23 == shn x 23 else false
def g54 : CSpec | [.i .i64 op, .u 32 x] => some ⟨[inB 1 op 47], .b (nearA op x)⟩ | _ => none
theorem okg54 : FnOk Tryd.prog 54 g54 := okBy SZ0_ok Tryd.func54 (by kernel_rfl) (by kernel_rfl) 1 <| by
  intro xs r hs
  unfold g54 at hs; split at hs <;> cases hs
  rename_i op x
  intro hp _
  have h := hp _ (List.mem_cons_self ..)
  have e : (evFn T SZ0 noL 1 Tryd.f54 [.i .i64 op, .u 32 x]).run = if inB 1 op 47 = true then if (if hasA op [122] = true then !BitVec.ofInt 32 64 == 0#32 else true) = true then if (if hasA op [122] = true then !BitVec.ofInt 32 64 == 0#32 else true) = true then
      if hasA op [122] = true then some (.b (shn (bw op) 24 % BitVec.ofInt 32 64 == shn x 24 % BitVec.ofInt 32 64))
      else if hasA op [106] = true then some (.b (shn (bw op) 26 == shn x 26))
      else some (.b (if (if (shn (bw op) 24 == shn x 24) = true then true else if hasA op [104] = true then shn (bw op) 23 == shn x 23 else false) = true then true
        else if hasA op [108] = true then shn (bw op) 23 == shn x 23 else false))
    else none else none else none := by kernel_rfl
  have h2 : (if hasA op [122] = true then !BitVec.ofInt 32 64 == 0#32 else true) = true := by
    cases hasA op [122] <;> rfl
  rw [e, if_pos h, if_pos h2, if_pos h2]
  show _ = some (AV.b (nearA op x))
  unfold nearA
  cases hasA op [122] <;> cases hasA op [106] <;> rfl
def tW (op : Int) (x : W32) : Int := if hasA op [122] = true then sel [1, 2, 4, 8] (gt x 30 2) else 8
def tI (op : Int) (x : W32) : W64 := if hasA op [102] = true then BitVec.ofInt 64 (gt x 8 4) else if hasA op [117] = true then BitVec.ofInt 64 (IntKind.i64.wrap (gt x 10 12 * tW op x))
  else if hasA op [119] = true then BitVec.ofInt 64 (gt x 5 16) else if hasA op [108] = true then dec1 (BitVec.ofInt 32 (gt x 10 13)) else if hasA op [105] = true then BitVec.ofInt 64 (gt x 10 12) else 0#64
def onT {α : Type} (op : Int) (x : W32) (f : Int → Int → Int → Int → Int → Int → W64 → Int → Int → Int → Int → α) : α :=
  f op (tW op x) (if hasA op [100, 101] = true then gt x 0 5 else 0) (if hasA op [110, 98] = true then gt x 5 5 else 0) (if hasA op [109, 116] = true then gt x 16 5 else 0) (if hasA op [97] = true then gt x 10 5 else 0)
    (tI op x) (if hasA op [103] = true then rof (gt x 5 19) 19 else if hasA op [106] = true then rof (gt x 0 26) 26 else 0)
    (if hasA op [107] = true then gt x 0 4 else if hasA op [99] = true then gt x 12 4 else 0) (if hasA op [114] = true then gt x 16 6 else 0) (if hasA op [104] = true then gt x 21 2 else if hasA op [115] = true then gt x 10 6 else 0)
def g55 : CSpec | [.i .i64 op, .u 32 x] => some ⟨[], .agg (onT op x cI)⟩ | _ => none
theorem okg55 : FnOk Tryd.prog 55 g55 := okBy SZ0_ok Tryd.func55 (by kernel_rfl) (by kernel_rfl) 1 <| by
  intro xs r hs
  unfold g55 at hs; split at hs <;> cases hs
  rename_i op x
  intro hp _
  have e : (evFn T SZ0 noL 1 Tryd.f55 [.i .i64 op, .u 32 x]).run = if (if hasA op [122] = true then decide (0 ≤ gt x 30 2) else true) = true then if (if hasA op [122] = true then decide (gt x 30 2 < ((4 : Nat) : Int)) else true) = true then
      some (.agg (onT op x cI)) else none else none := by kernel_rfl
  rw [e, (gt2 x 30).1, (gt2 x 30).2]
  simp only [ite_self, if_true]
noncomputable abbrev SZ1 : FuncId → CSpec := withS (withS SZ0 54 g54) 55 g55
theorem SZ1_ok : ∀ f, FnOk Tryd.prog f (SZ1 f) := withS_ok (withS_ok SZ0_ok okg54) okg55
end Go.Proofs.YtocfkaihfjbfnaaDoor
set_option maxRecDepth 100000
namespace Go.Proofs.YtocfkaihfjbfnaaDoor
open Go.Proofs.YtocfkaihfjbfnaaDoor.Ev Go.RowKit
/- Plain: what an instruction that may be is made of, and its word as a sum. -/
structure MayF (op w d n m a : Int) (imm : W64) (off cond r s : Int) : Prop where
  hw : isW w = true
  h8 : inB 33 op 38 = true ∨ w = 8
  sD : d = shD op d
  sN : n = shN op n
  sM : m = shM op m
  sA : a = shA op a
  sI : imm = shI op imm
  sO : off = shO op off
  sC : cond = shC op cond
  sR : r = shR op r
  sS : s = shS op s
  d0 : 0 ≤ d ∧ d ≤ 31
  n0 : 0 ≤ n ∧ n ≤ 31
  m0 : 0 ≤ m ∧ m ≤ 31
  a0 : 0 ≤ a ∧ a ≤ 31
  nums : numsB op w imm off s = true
  s0 : 0 ≤ s ∧ s ≤ 63
  r0 : 0 ≤ r ∧ r ≤ 63
  c0 : 0 ≤ cond ∧ cond ≤ 15
theorem may_facts {op w d n m a : Int} {imm : W64} {off cond r s : Int} (h : mayA op w d n m a imm off cond r s = true) : MayF op w d n m a imm off cond r s := by
  have hw := may_w h
  unfold mayA at h
  cases hb : badA op w d n m a imm off cond r s with
  | true => rw [hb] at h; simp at h
  | false =>
    rw [hb] at h
    have hs : sameSh op w d n m a imm off cond r s = true := by
      unfold badA at hb
      cases hq : sameSh op w d n m a imm off cond r s with
      | true => rfl
      | false => rw [hq] at hb; simp at hb
    unfold sameSh at hs
    simp only [Bool.and_eq_true, beq_iff_eq, beq_self_eq_true, true_and, and_true] at hs
    obtain ⟨e1, e2, e3, e4, e5, e6, e7, e8, e9⟩ := hs
    simp only [Bool.false_eq_true, if_false] at h
    unfold restA at h
    cases hr : regsB op d n m a with
    | false => rw [hr] at h; simp at h
    | true =>
      rw [hr] at h
      cases hn : numsB op w imm off s with
      | false => rw [hn] at h; simp at h
      | true =>
        rw [hn] at h
        have k : 0 ≤ s ∧ s ≤ 63 ∧ 0 ≤ r ∧ r ≤ 63 ∧ 0 ≤ cond ∧ cond ≤ 15 := by
          simp only [if_true] at h
          by_cases q1 : 0 ≤ s <;> by_cases q2 : s ≤ 63 <;> by_cases q3 : 0 ≤ r <;> by_cases q4 : r ≤ 63 <;> by_cases q5 : 0 ≤ cond <;> by_cases q6 : cond ≤ 15 <;> simp [q1, q2, q3, q4, q5, q6] at h ⊢
        have k2 : (0 ≤ d ∧ d ≤ 31) ∧ (0 ≤ n ∧ n ≤ 31) ∧ (0 ≤ m ∧ m ≤ 31) ∧ (0 ≤ a ∧ a ≤ 31) := by
          unfold regsB at hr
          cases q1 : inB 0 d 31 with
          | false => rw [q1] at hr; simp at hr
          | true =>
            cases q2 : inB 0 n 31 with
            | false => rw [q1, q2] at hr; simp at hr
            | true =>
              cases q3 : inB 0 m 31 with
              | false => rw [q1, q2, q3] at hr; simp at hr
              | true =>
                cases q4 : inB 0 a 31 with
                | false => rw [q1, q2, q3, q4] at hr; simp at hr
                | true =>
                  simp only [inB, Bool.and_eq_true, decide_eq_true_eq] at q1 q2 q3 q4
                  exact ⟨q1, q2, q3, q4⟩
        exact ⟨hw.1, hw.2, e1, e2, e3, e4, e5, e6, e7, e8, e9, k2.1, k2.2.1, k2.2.2.1, k2.2.2.2, hn, ⟨k.1, k.2.1⟩, ⟨k.2.2.1, k.2.2.2.1⟩, k.2.2.2.2⟩
/-- One more field. -/
theorem or_step {x y M m : W32} (h1 : x &&& M = x) (h2 : y &&& m = y) (hm : M &&& m = 0#32) (hlt : M.toNat + m.toNat < 2 ^ 32) : (x ||| y) &&& (M ||| m) = x ||| y ∧ (x ||| y).toNat = x.toNat + y.toNat := by
  obtain ⟨k1, k2⟩ := or_add h1 h2 hm
  have a1 : x.toNat ≤ M.toNat := by rw [← h1, BitVec.toNat_and]; exact Nat.and_le_right
  have a2 : y.toNat ≤ m.toNat := by rw [← h2, BitVec.toNat_and]; exact Nat.and_le_right
  rw [← k1] at k2
  refine ⟨k2, ?_⟩
  rw [k1, BitVec.toNat_add, Nat.mod_eq_of_lt (by omega)]
theorem or0 (x : W32) (k : Nat) : x ||| fieldW 0 k = x := by rw [fieldW_zero, BitVec.or_zero]
theorem fieldN_mask {N : Nat} {b k : Nat} (h1 : N < 2 ^ b) (hb : b + k ≤ 32) : fieldW (N : Int) k &&& (BitVec.ofNat 32 (2 ^ b - 1) <<< k) = fieldW (N : Int) k := field_mask (by omega) (by exact_mod_cast h1) hb
theorem fieldN_toNat {N : Nat} {b k : Nat} (h1 : N < 2 ^ b) (hb : b + k ≤ 32) : (fieldW (N : Int) k).toNat = N * 2 ^ k := by
  rw [fieldW_toNat (b := b) (by omega) (by exact_mod_cast h1) hb, Int.toNat_natCast]
theorem gt_of {x : W32} {V : Nat} (E : x.toNat = V) (a n : Nat) : gt x (a : Int) (n : Int) = ((V / 2 ^ a % 2 ^ n : Nat) : Int) := by unfold gt; rw [E, Int.toNat_natCast, Int.toNat_natCast]
theorem ofInt_toNat {k : Nat} (x : BitVec k) : BitVec.ofInt k (x.toNat : Int) = x := by rw [BitVec.ofInt_natCast, BitVec.ofNat_toNat, BitVec.setWidth_eq]
/-- Fields put together, with their places. -/
def orF (x : W32) : List (Nat × Nat × Nat) → W32
  | [] => x
  | (N, _, k) :: l => orF (x ||| fieldW (N : Int) k) l
def sumF : List (Nat × Nat × Nat) → Nat
  | [] => 0
  | (N, _, k) :: l => N * 2 ^ k + sumF l
def maskF (b k : Nat) : W32 := BitVec.ofNat 32 (2 ^ b - 1) <<< k
def okM (M : W32) : List (Nat × Nat) → Bool
  | [] => true
  | (b, k) :: l => (decide (b + k ≤ 32) && (M &&& maskF b k == 0#32)) && (decide (M.toNat + (maskF b k).toNat < 2 ^ 32) && okM (M ||| maskF b k) l)
def ltF : List (Nat × Nat × Nat) → Prop
  | [] => True
  | (N, b, _) :: l => N < 2 ^ b ∧ ltF l
theorem orF_sum : ∀ (l : List (Nat × Nat × Nat)) (x M : W32), x &&& M = x → ltF l → okM M (l.map (·.2)) = true → (orF x l).toNat = x.toNat + sumF l
  | [], x, M, _, _, _ => rfl
  | (N, b, k) :: l, x, M, h1, h2, h3 => by
    simp only [List.map_cons, okM, Bool.and_eq_true, decide_eq_true_eq, beq_iff_eq] at h3
    obtain ⟨⟨k1, k2⟩, k3, k4⟩ := h3
    obtain ⟨hN, h2⟩ := h2
    obtain ⟨s1, s2⟩ := or_step h1 (fieldN_mask hN k1) k2 k3
    have := orF_sum l _ _ s1 h2 k4
    show (orF (x ||| fieldW (N : Int) k) l).toNat = _
    rw [this, s2, fieldN_toNat hN k1]
    show _ = x.toNat + (N * 2 ^ k + sumF l)
    omega
theorem nat_of {x : Int} {b : Nat} (h : 0 ≤ x ∧ x ≤ (b : Int)) : ∃ X : Nat, x = X ∧ X ≤ b := ⟨x.toNat, by omega, by omega⟩
theorem shn_toNat {x : W32} {k : Nat} (hk : k < 32) : (shn x (k : Int)).toNat = x.toNat / 2 ^ k := by
  have e : (BitVec.ofInt 64 (k : Int)).toNat = k := by rw [BitVec.ofInt_natCast, BitVec.toNat_ofNat]; omega
  unfold shn; rw [e, BitVec.toNat_ushiftRight, Nat.shiftRight_eq_div_pow]
theorem shn_eq {x y : W32} {k : Nat} (hk : k < 32) (h : x.toNat / 2 ^ k = y.toNat / 2 ^ k) : (shn x (k : Int) == shn y (k : Int)) = true := by
  rw [beq_iff_eq]
  apply BitVec.eq_of_toNat_eq
  rw [shn_toNat hk, shn_toNat hk, h]
theorem near24 {op : Int} {x : W32} (h1 : hasA op [122] = false) (h2 : hasA op [106] = false) (h : (bw op).toNat / 2 ^ 24 = x.toNat / 2 ^ 24) : nearA op x = true := by
  have := shn_eq (k := 24) (by decide) h
  unfold nearA
  simp only [h1, h2, Bool.false_eq_true, if_false]
  rw [show ((24 : Int)) = ((24 : Nat) : Int) from rfl, this]
  rfl
theorem near23 {op : Int} {x : W32} (h1 : hasA op [122] = false) (h2 : hasA op [106] = false) (h3 : hasA op [104] = true ∨ hasA op [108] = true) (h : (bw op).toNat / 2 ^ 23 = x.toNat / 2 ^ 23) : nearA op x = true := by
  have := shn_eq (k := 23) (by decide) h
  unfold nearA
  simp only [h1, h2, Bool.false_eq_true, if_false]
  rw [show ((23 : Int)) = ((23 : Nat) : Int) from rfl, this]
  cases shn (bw op) 24 == shn x 24 <;> rcases h3 with h3 | h3 <;> rw [h3] <;> simp
theorem near26 {op : Int} {x : W32} (h1 : hasA op [122] = false) (h2 : hasA op [106] = true) (h : (bw op).toNat / 2 ^ 26 = x.toNat / 2 ^ 26) : nearA op x = true := by
  have := shn_eq (k := 26) (by decide) h
  unfold nearA
  simp only [h1, h2, Bool.false_eq_true, if_false, if_true]
  exact this
theorem nearz {op : Int} {x : W32} (h1 : hasA op [122] = true) (h : (bw op).toNat / 2 ^ 24 % 64 = x.toNat / 2 ^ 24 % 64) : nearA op x = true := by
  unfold nearA
  simp only [h1, if_true, beq_iff_eq]
  apply BitVec.eq_of_toNat_eq
  rw [BitVec.toNat_umod, BitVec.toNat_umod, show ((24 : Int)) = ((24 : Nat) : Int) from rfl, shn_toNat (by decide), shn_toNat (by decide)]
  exact h
/-- The word of an instruction that may be says what it is, in both readers' ways. -/
def Good (op w d n m a : Int) (imm : W64) (off cond r s : Int) : Prop :=
  (encR op w d n m a imm off cond r s).setWidth 32 = encP op w d n m a imm off cond r s ∧ nearA op (encP op w d n m a imm off cond r s) = true ∧
  (∀ (α : Type) (f : Int → Int → Int → Int → Int → Int → W64 → Int → Int → Int → Int → α), onP (encP op w d n m a imm off cond r s) f = f op w d n m a imm off cond r s) ∧
  (∀ (α : Type) (f : Int → Int → Int → Int → Int → Int → W64 → Int → Int → Int → Int → α), onT op (encP op w d n m a imm off cond r s) f = f op w d n m a imm off cond r s)
theorem gt_is {x : W32} {V : Nat} (E : x.toNat = V) (a n : Nat) {c : Nat} (h : V / 2 ^ a % 2 ^ n = c) : gt x (a : Int) (n : Int) = (c : Int) := by rw [gt_of E, h]
theorem enc1_lt {v : W64} (h : enc2 v = true) : ∃ b, enc1 v = b ∧ dec1 b = v ∧ b.toNat < 8192 := by
  obtain ⟨h1, h2⟩ := enc_dec h
  refine ⟨_, rfl, h1, ?_⟩
  unfold dec2 at h2
  by_cases q : 8191 < (enc1 v).toNat
  · rw [if_pos (by simpa using q)] at h2; cases h2
  · omega
theorem shl_field (b : W32) (k : Nat) : b <<< k = fieldW ((b.toNat : Nat) : Int) k := by unfold fieldW; rw [ofInt_toNat]
/- Offsets. -/
theorem fits_range {off : Int} (ho : IntKind.i64.has off) {n : Nat} (h1 : 1 ≤ n) (h2 : n ≤ 64) (h : fits off n = true) : IntKind.i64.wrap (off * 2 ^ (64 - n)) / 2 ^ (64 - n) = off := by
  have := fits_code ho h1 h2
  unfold fits at h
  simp only [Bool.and_eq_true] at h
  rw [Int.toNat_natCast] at h
  rw [h.2.2] at this
  simpa using this
/-- A distance in words, in a field of some bits. -/
def ofsQ (off : Int) (n : Nat) : Nat := (off / 4 % 2 ^ n).toNat
theorem field_ofs (off : Int) {n : Nat} (h1 : 1 ≤ n) (h2 : n ≤ 26) : field (BitVec.ofInt 32 (off / 2 ^ 2)) 0 (n : Int) = fieldW ((ofsQ off n : Nat) : Int) 0 := by
  have hw : within 0 (n : Int) = true := by
    unfold within; simp; omega
  have hlt : ofsQ off n < 2 ^ n := by
    unfold ofsQ
    have hp : (0 : Int) < 2 ^ n := Int.pow_pos (by decide)
    have a1 := Int.emod_nonneg (off / 4) (Int.ne_of_gt hp)
    have a2 := Int.emod_lt_of_pos (off / 4) hp
    have : ((off / 4 % 2 ^ n).toNat : Int) < ((2 ^ n : Nat) : Int) := by rw [Int.toNat_of_nonneg a1]; exact_mod_cast a2
    exact_mod_cast this
  apply BitVec.eq_of_toNat_eq
  have e := field_gt (x := BitVec.ofInt 32 (off / 2 ^ 2)) hw
  rw [fieldN_toNat hlt (by omega)]
  have e2 : (((field (BitVec.ofInt 32 (off / 2 ^ 2)) 0 (n : Int)).toNat : Nat) : Int) = ((ofsQ off n * 2 ^ 0 : Nat) : Int) := by
    rw [e]
    unfold gt ofsQ
    rw [BitVec.toNat_ofInt]
    simp only [Int.toNat_zero, Nat.pow_zero, Nat.div_one, Int.toNat_natCast, Nat.mul_one]
    have hp : (0 : Int) < 2 ^ n := Int.pow_pos (by decide)
    have a1 := Int.emod_nonneg (off / 4) (Int.ne_of_gt hp)
    rw [Int.toNat_of_nonneg a1]
    have b1 : (0 : Int) ≤ off / 2 ^ 2 % ((2 ^ 32 : Nat) : Int) := Int.emod_nonneg _ (by decide)
    rw [Int.natCast_emod, Int.toNat_of_nonneg b1]
    have hd : ((2 ^ n : Nat) : Int) ∣ ((2 ^ 32 : Nat) : Int) := by exact_mod_cast Nat.pow_dvd_pow 2 (by omega : n ≤ 32)
    rw [Int.emod_emod_of_dvd _ hd]
    norm_cast
  exact_mod_cast e2
theorem ofs_26 {off : Int} (ho : IntKind.i64.has off) (h4 : off.tmod 4 = 0) (h : fits off 28 = true) : ofsQ off 26 < 2 ^ 26 ∧ IntKind.i64.wrap ((ofsQ off 26 : Int) * 2 ^ (64 - (26 : Int)).toNat) / 2 ^ (62 - (26 : Int)).toNat = off ∧ rof (ofsQ off 26 : Int) 26 = off ∧ (lowA off 26).toNat = ofsQ off 26 := by
  have hr := fits_range ho (n := 28) (by decide) (by decide) h
  have h4' : off % 4 = 0 := by have := Int.dvd_of_tmod_eq_zero h4; omega
  have e1 : (64 - (26 : Int)).toNat = 38 := rfl
  have e2 : (62 - (26 : Int)).toNat = 36 := rfl
  have hb : ((ofsQ off 26 : Nat) : Int) = off / 4 % 2 ^ 26 := by unfold ofsQ; omega
  rw [IntKind.wrap_i64] at hr
  refine ⟨by omega, ?_, ?_, ?_⟩
  · rw [e1, e2, hb, IntKind.wrap_i64]; omega
  · unfold rof
    have k1 : IntKind.i64.wrap (1 * 2 ^ (BitVec.ofInt 64 (IntKind.i64.wrap (26 - 1))).toNat) = 2 ^ 25 := by decide
    have k2 : IntKind.i64.wrap (1 * 2 ^ (BitVec.ofInt 64 26).toNat) = 2 ^ 26 := by decide
    rw [k1, k2, hb, IntKind.wrap_i64, IntKind.wrap_i64]
    split <;> rename_i q <;> simp only [decide_eq_true_eq] at q <;> omega
  · unfold lowA
    have k3 : (BitVec.ofInt 64 1 <<< 26).toNat = 2 ^ 26 := by decide
    have k4 : (BitVec.ofInt 64 4).toNat = 4 := by decide
    rw [BitVec.toNat_umod, BitVec.toNat_udiv, k3, k4, BitVec.toNat_ofInt]
    omega
theorem ofs_19 {off : Int} (ho : IntKind.i64.has off) (h4 : off.tmod 4 = 0) (h : fits off 21 = true) : ofsQ off 19 < 2 ^ 19 ∧ IntKind.i64.wrap ((ofsQ off 19 : Int) * 2 ^ (64 - (19 : Int)).toNat) / 2 ^ (62 - (19 : Int)).toNat = off ∧ rof (ofsQ off 19 : Int) 19 = off ∧ (lowA off 19).toNat = ofsQ off 19 := by
  have hr := fits_range ho (n := 21) (by decide) (by decide) h
  have h4' : off % 4 = 0 := by have := Int.dvd_of_tmod_eq_zero h4; omega
  have e1 : (64 - (19 : Int)).toNat = 45 := rfl
  have e2 : (62 - (19 : Int)).toNat = 43 := rfl
  have hb : ((ofsQ off 19 : Nat) : Int) = off / 4 % 2 ^ 19 := by unfold ofsQ; omega
  rw [IntKind.wrap_i64] at hr
  refine ⟨by omega, ?_, ?_, ?_⟩
  · rw [e1, e2, hb, IntKind.wrap_i64]; omega
  · unfold rof
    have k1 : IntKind.i64.wrap (1 * 2 ^ (BitVec.ofInt 64 (IntKind.i64.wrap (19 - 1))).toNat) = 2 ^ 18 := by decide
    have k2 : IntKind.i64.wrap (1 * 2 ^ (BitVec.ofInt 64 19).toNat) = 2 ^ 19 := by decide
    rw [k1, k2, hb, IntKind.wrap_i64, IntKind.wrap_i64]
    split <;> rename_i q <;> simp only [decide_eq_true_eq] at q <;> omega
  · unfold lowA
    have k3 : (BitVec.ofInt 64 1 <<< 19).toNat = 2 ^ 19 := by decide
    have k4 : (BitVec.ofInt 64 4).toNat = 4 := by decide
    rw [BitVec.toNat_umod, BitVec.toNat_udiv, k3, k4, BitVec.toNat_ofInt]
    omega
theorem addIf_t {x w : W64} : addIf true x w = w + x := rfl
theorem addIf_f {x w : W64} : addIf false x w = w := rfl
theorem lits : BitVec.ofInt 64 0 = 0#64 ∧ BitVec.ofInt 64 32 = 32#64 ∧ BitVec.ofInt 64 65536 = 65536#64 ∧ BitVec.ofInt 64 1024 = 1024#64 ∧ BitVec.ofInt 64 4096 = 4096#64 ∧ BitVec.ofInt 64 2097152 = 2097152#64 ∧ BitVec.ofInt 64 256 = 256#64 ∧ BitVec.ofInt 64 1073741824 = 1073741824#64 ∧ BitVec.ofInt 64 1 = 1#64 ∧ BitVec.ofInt 64 2 = 2#64 ∧ BitVec.ofInt 64 4 = 4#64 ∧ BitVec.ofInt 64 8 = 8#64 := by
  refine ⟨?_, ?_, ?_, ?_, ?_, ?_, ?_, ?_, ?_, ?_, ?_, ?_⟩ <;> kernel_rfl
theorem t_add {x y : W64} {a b : Nat} (hx : x.toNat = a) (hy : y.toNat = b) (h : a + b < 2 ^ 64) : (x + y).toNat = a + b := by rw [BitVec.toNat_add, hx, hy, Nat.mod_eq_of_lt h]
theorem t_mul {x y : W64} {a b : Nat} (hx : x.toNat = a) (hy : y.toNat = b) (h : a * b < 2 ^ 64) : (x * y).toNat = a * b := by rw [BitVec.toNat_mul, hx, hy, Nat.mod_eq_of_lt h]
theorem t_div {x y : W64} {a b : Nat} (hx : x.toNat = a) (hy : y.toNat = b) : (x / y).toNat = a / b := by rw [BitVec.toNat_udiv, hx, hy]
theorem t_ofI (N : Nat) (h : N < 2 ^ 64) : (BitVec.ofInt 64 (N : Int)).toNat = N := by rw [BitVec.ofInt_natCast, BitVec.toNat_ofNat, Nat.mod_eq_of_lt h]
theorem t_lit (N : Nat) (h : decide (N < 2 ^ 64) = true := by decide) : (BitVec.ofInt 64 (N : Int)).toNat = N := t_ofI N (of_decide_eq_true h)
theorem t_sw {x : W32} {N : Nat} (h : x.toNat = N) : (x.setWidth 64).toNat = N := by rw [BitVec.toNat_setWidth, Nat.mod_eq_of_lt (by have := x.isLt; omega), h]
theorem encR0_toNat {op : Int} (D N M A R : Nat) {B : Nat} (hB : (baseOf op).toNat = B) (b : B < 2 ^ 32) (hD : D ≤ 31) (hN : N ≤ 31) (hM : M ≤ 31) (hA : A ≤ 31) (hR : R ≤ 63) :
    (encR0 op D N M A R).toNat = B + (D + N * 32 + M * 65536 + A * 1024 + R * 65536) := by
  unfold encR0
  exact t_add hB (t_add (t_add (t_add (t_add (t_ofI D (by omega)) (t_mul (t_ofI N (by omega)) (t_lit 32) (by omega)) (by omega)) (t_mul (t_ofI M (by omega)) (t_lit 65536) (by omega)) (by omega)) (t_mul (t_ofI A (by omega)) (t_lit 1024) (by omega)) (by omega)) (t_mul (t_ofI R (by omega)) (t_lit 65536) (by omega)) (by omega)) (by omega)
theorem ofI (N : Nat) : BitVec.ofInt 64 (N : Int) = BitVec.ofNat 64 N := BitVec.ofInt_natCast ..
/-- An operation's letters, all at once. -/
theorem hasAll {k : Int} {b0 b1 b2 b3 b4 b5 b6 b7 b8 b9 b10 b11 b12 b13 b14 b15 b16 : Bool} (e : [hasA k [122], hasA k [100, 101], hasA k [110, 98], hasA k [109, 116], hasA k [97], hasA k [102], hasA k [117], hasA k [119], hasA k [108], hasA k [105], hasA k [103], hasA k [106], hasA k [107], hasA k [99], hasA k [114], hasA k [104], hasA k [115]] = [b0, b1, b2, b3, b4, b5, b6, b7, b8, b9, b10, b11, b12, b13, b14, b15, b16]) : hasA k [122] = b0 ∧ hasA k [100, 101] = b1 ∧ hasA k [110, 98] = b2 ∧ hasA k [109, 116] = b3 ∧ hasA k [97] = b4 ∧ hasA k [102] = b5 ∧ hasA k [117] = b6 ∧ hasA k [119] = b7 ∧ hasA k [108] = b8 ∧ hasA k [105] = b9 ∧ hasA k [103] = b10 ∧ hasA k [106] = b11 ∧ hasA k [107] = b12 ∧ hasA k [99] = b13 ∧ hasA k [114] = b14 ∧ hasA k [104] = b15 ∧ hasA k [115] = b16 := by
  simp only [List.cons.injEq, and_true] at e
  exact e
end Go.Proofs.YtocfkaihfjbfnaaDoor
