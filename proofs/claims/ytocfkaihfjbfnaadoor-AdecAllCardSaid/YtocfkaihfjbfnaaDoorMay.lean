/- Lemmas: which instructions there may be, by the program and by the reference, each function shown by the evaluator. No condition. -/
import Derived.Test.YtocfkaihfjbfnaaDoorLogim
set_option linter.unusedVariables false
set_option linter.unusedSimpArgs false
set_option maxRecDepth 100000
namespace Go.Proofs.YtocfkaihfjbfnaaDoor
open Go.Proofs.YtocfkaihfjbfnaaDoor.Ev Go.RowKit
@[match_pattern] abbrev cI (op w d n m a : Int) (imm : W64) (off cond r s : Int) : List AV := [.i .i64 op, .i .i64 w, .i .i64 d, .i .i64 n, .i .i64 m, .i .i64 a, .u 64 imm, .i .i64 off, .i .i64 cond, .i .i64 r, .i .i64 s]
def rV (S : FuncId → CSpec) (fn : Func) : CSpec := fun xs => match (evFn T S noL 1 fn xs).run with
  | some r => some ⟨[], r⟩
  | none => none
theorem rV_ok {S : FuncId → CSpec} (hS : ∀ f, FnOk Tryd.prog f (S f)) {f : FuncId} {fn : Func} (hf : Tryd.prog.funcs[f]? = some fn) (hname : (fn.name == "runtime.NumGoroutine") = false) (hbody : fn.body.isNone = false) (hlt : f < offO := by decide) : FnOk Tryd.prog f (rV S fn) :=
  okBy hS hf hname hbody 1 (by
    intro xs r hs _ _
    unfold rV at hs
    split at hs
    · rename_i r' h; cases hs; exact h
    · cases hs) hlt

/- Small questions about an instruction. -/
def inB (a x b : Int) : Bool := decide (a ≤ x) && decide (x ≤ b)
theorem and_if (a b : Bool) : (if a = true then b else false) = (a && b) := by cases a <;> rfl
def sr38 : CSpec
  | [.agg (cI op w d n m a imm off cond r s), .i .i64 x, .i .i64 y] => some ⟨[], .b (inB x op y)⟩
  | _ => none
theorem okr38 : FnOk Tryd.prog 28 sr38 := okBy noS_ok Tryd.func28 (by kernel_rfl) (by kernel_rfl) 1 <| by
  intro xs r hs
  unfold sr38 at hs; split at hs <;> cases hs
  rename_i op w d n m a imm off cond r s x y
  rintro hp _
  have e : (evFn T noS noL 1 Tryd.f28 [.agg (cI op w d n m a imm off cond r s), .i .i64 x, .i .i64 y]).run = some (.b (if decide (x ≤ op) = true then decide (op ≤ y) else false)) := by kernel_rfl
  rw [e, and_if]; rfl
def sr68 : CSpec | [.i .i64 x] => some ⟨[], .b (inB 0 x 31)⟩ | _ => none
theorem okr68 : FnOk Tryd.prog 63 sr68 := okBy noS_ok Tryd.func63 (by kernel_rfl) (by kernel_rfl) 1 <| by
  intro xs r hs
  unfold sr68 at hs; split at hs <;> cases hs
  rename_i x
  rintro hp _
  have e : (evFn T noS noL 1 Tryd.f63 [.i .i64 x]).run = some (.b (if decide (0 ≤ x) = true then decide (x ≤ 31) else false)) := by kernel_rfl
  rw [e, and_if]; rfl
def sr69 : CSpec | [.i .i64 x] => some ⟨[], .b (decide (0 ≤ x) && decide (x < 31))⟩ | _ => none
theorem okr69 : FnOk Tryd.prog 64 sr69 := okBy noS_ok Tryd.func64 (by kernel_rfl) (by kernel_rfl) 1 <| by
  intro xs r hs
  unfold sr69 at hs; split at hs <;> cases hs
  rename_i x
  rintro hp _
  have e : (evFn T noS noL 1 Tryd.f64 [.i .i64 x]).run = some (.b (if decide (0 ≤ x) = true then decide (x < 31) else false)) := by kernel_rfl
  rw [e, and_if]
noncomputable abbrev SN0 : FuncId → CSpec := withS noS 28 sr38
theorem SN0_ok : ∀ f, FnOk Tryd.prog f (SN0 f) := withS_ok noS_ok okr38
def sr41 : CSpec
  | [.agg (cI op w d n m a imm off cond r s)] => some ⟨[], .b (inB 33 op 38)⟩
  | _ => none
theorem okr41 : FnOk Tryd.prog 30 sr41 := okBy SN0_ok Tryd.func30 (by kernel_rfl) (by kernel_rfl) 1 <| by
  intro xs r hs
  unfold sr41 at hs; split at hs <;> cases hs
  rintro hp _
  kernel_rfl
def sr67 : CSpec
  | [.agg (cI op w d n m a imm off cond r s)] => some ⟨[], .b (inB 40 op 43)⟩
  | _ => none
theorem okr67 : FnOk Tryd.prog 18 sr67 := okBy SN0_ok Tryd.func18 (by kernel_rfl) (by kernel_rfl) 1 <| by
  intro xs r hs
  unfold sr67 at hs; split at hs <;> cases hs
  rintro hp _
  kernel_rfl
noncomputable abbrev SN1 : FuncId → CSpec := withS (withS (withS (withS SN0 63 sr68) 64 sr69) 30 sr41) 18 sr67
theorem SN1_ok : ∀ f, FnOk Tryd.prog f (SN1 f) := withS_ok (withS_ok (withS_ok (withS_ok SN0_ok okr68) okr69) okr41) okr67
/- Shape: the fields that an instruction has, the others cleared. -/
def shD (op d : Int) : Int := if (if (!inB 39 op 41) = true then !inB 44 op 47 else false) = true then d else 0
def shN (op n : Int) : Int := if (if (if (!inB 16 op 18) = true then !inB 39 op 43 else false) = true then !inB 45 op 47 else false) = true then n else 0
def shM (op m : Int) : Int := if (if (if (if inB 5 op 12 = true then true else inB 19 op 28) = true then true else inB 31 op 32) = true then true else op == 38) = true then m else 0
def shA (op a : Int) : Int := if inB 19 op 20 = true then a else 0
def shI (op : Int) (imm : W64) : W64 := if (if (if (if (if inB 1 op 4 = true then true else inB 13 op 18) = true then true else inB 33 op 34) = true then true else op == 39) = true then true else inB 45 op 46) = true then imm else 0#64
def shO (op off : Int) : Int := if inB 40 op 43 = true then off else 0
def shC (op cond : Int) : Int := if (if inB 31 op 32 = true then true else op == 41) = true then cond else 0
def shR (op r : Int) : Int := if inB 29 op 30 = true then r else 0
def shS (op s : Int) : Int := if (if (if inB 5 op 12 = true then true else inB 16 op 18) = true then true else inB 29 op 30) = true then s else 0
def sr39 : CSpec
  | [.agg (cI op w d n m a imm off cond r s)] => some ⟨[], .agg (cI op w (shD op d) (shN op n) (shM op m) (shA op a) (shI op imm) (shO op off) (shC op cond) (shR op r) (shS op s))⟩
  | _ => none
theorem okr39 : FnOk Tryd.prog 33 sr39 := okBy SN1_ok Tryd.func33 (by kernel_rfl) (by kernel_rfl) 1 <| by
  intro xs r hs
  unfold sr39 at hs; split at hs <;> cases hs
  rintro hp _
  kernel_rfl
/- Registers: each in its bounds, and none where none may be. -/
def regsB (op d n m a : Int) : Bool :=
  if (if (if (if (!inB 0 d 31) = true then true else !inB 0 n 31) = true then true else !inB 0 m 31) = true then true else !inB 0 a 31) = true then false
  else if inB 1 op 2 = true then (if (decide (0 ≤ d) && decide (d < 31)) = true then decide (0 ≤ n) && decide (n < 31) else false)
  else if inB 3 op 4 = true then (decide (0 ≤ n) && decide (n < 31))
  else if inB 13 op 15 = true then (decide (0 ≤ d) && decide (d < 31))
  else if (op == 38) = true then (if (if (decide (0 ≤ n) && decide (n < 31)) = true then m != d else false) = true then m != n else false)
  else if inB 33 op 38 = true then (decide (0 ≤ n) && decide (n < 31)) else true
def sr42 : CSpec
  | [.agg (cI op w d n m a imm off cond r s)] => some ⟨[], .b (regsB op d n m a)⟩
  | _ => none
theorem some_ite {c : Bool} {x y : Bool} : (if c = true then some (AV.b x) else some (.b y)) = some (.b (if c = true then x else y)) := by cases c <;> rfl
theorem okr42 : FnOk Tryd.prog 35 sr42 := okBy SN1_ok Tryd.func35 (by kernel_rfl) (by kernel_rfl) 1 <| by
  intro xs r hs
  unfold sr42 at hs; split at hs <;> cases hs
  rename_i op w d n m a imm off cond r s
  rintro hp _
  have e : (evFn T SN1 noL 1 Tryd.f35 [.agg (cI op w d n m a imm off cond r s)]).run = (if (if (if (if (!inB 0 d 31) = true then true else !inB 0 n 31) = true then true else !inB 0 m 31) = true then true else !inB 0 a 31) = true then some (.b false)
    else if inB 1 op 2 = true then some (.b (if (decide (0 ≤ d) && decide (d < 31)) = true then decide (0 ≤ n) && decide (n < 31) else false))
    else if inB 3 op 4 = true then some (.b (decide (0 ≤ n) && decide (n < 31)))
    else if inB 13 op 15 = true then some (.b (decide (0 ≤ d) && decide (d < 31)))
    else if (op == 38) = true then some (.b (if (if (decide (0 ≤ n) && decide (n < 31)) = true then m != d else false) = true then m != n else false))
    else if inB 33 op 38 = true then some (.b (decide (0 ≤ n) && decide (n < 31))) else some (.b true)) := by kernel_rfl
  rw [e]
  simp only [some_ite]
  rfl
/- Numbers: each in its bounds. -/
def numsB (op w : Int) (imm : W64) (off s : Int) : Bool :=
  if inB 1 op 4 = true then decide (imm.toNat < (BitVec.ofInt 64 4096).toNat)
  else if inB 13 op 15 = true then enc2 imm
  else if inB 16 op 18 = true then (if (if decide (imm.toNat < (BitVec.ofInt 64 65536).toNat) = true then decide (0 ≤ s) else false) = true then decide (s ≤ 3) else false)
  else if inB 33 op 34 = true then (if (imm % BitVec.ofInt 64 w == BitVec.ofInt 64 0) = true then decide ((imm / BitVec.ofInt 64 w).toNat < (BitVec.ofInt 64 4096).toNat) else false)
  else if (op == 39) = true then (if decide ((BitVec.ofInt 64 9).toNat ≤ imm.toNat) = true then decide (imm.toNat ≤ (BitVec.ofInt 64 11).toNat) else false)
  else if inB 45 op 46 = true then decide (imm.toNat < (BitVec.ofInt 64 65536).toNat)
  else if (op == 40) = true then (if (off.tmod 4 == 0) = true then fits off 28 else false)
  else if inB 40 op 43 = true then (if (off.tmod 4 == 0) = true then fits off 21 else false) else true
noncomputable abbrev SN2 : FuncId → CSpec := withS (withS (withS (withS (withS (withS SG1 29 s34) 28 sr38) 63 sr68) 64 sr69) 30 sr41) 18 sr67
theorem SN2_ok : ∀ f, FnOk Tryd.prog f (SN2 f) := withS_ok (withS_ok (withS_ok (withS_ok (withS_ok (withS_ok SG1_ok ok34) okr38) okr68) okr69) okr41) okr67
def w0 (op w : Int) : Bool := if inB 33 op 34 = true then !(BitVec.ofInt 64 w == 0#64) else true
def sr43 : CSpec
  | [.agg (cI op w d n m a imm off cond r s)] => some ⟨[w0 op w], .b (numsB op w imm off s)⟩
  | _ => none
theorem okr43 : FnOk Tryd.prog 36 sr43 := okBy SN2_ok Tryd.func36 (by kernel_rfl) (by kernel_rfl) 1 <| by
  intro xs r hs
  unfold sr43 at hs; split at hs <;> cases hs
  rename_i op w d n m a imm off cond r s
  rintro hp _
  have h := hp _ (List.mem_cons_self ..)
  have e : (evFn T SN2 noL 1 Tryd.f36 [.agg (cI op w d n m a imm off cond r s)]).run =
    if (if inB 1 op 4 = true then true else if inB 13 op 15 = true then true else if inB 16 op 18 = true then true else if inB 33 op 34 = true then (if (imm % BitVec.ofInt 64 w == BitVec.ofInt 64 0) = true then !(BitVec.ofInt 64 w == 0#64) else true) else true) = true then
    if (if inB 1 op 4 = true then true else if inB 13 op 15 = true then true else if inB 16 op 18 = true then true else if inB 33 op 34 = true then !(BitVec.ofInt 64 w == 0#64) else true) = true then
    if (if inB 1 op 4 = true then true else if inB 13 op 15 = true then true else if inB 16 op 18 = true then true else if inB 33 op 34 = true then true else if (op == 39) = true then true else if inB 45 op 46 = true then true else if (op == 40) = true then !((4 : Int) == 0) else true) = true then
    if (if inB 1 op 4 = true then true else if inB 13 op 15 = true then true else if inB 16 op 18 = true then true else if inB 33 op 34 = true then true else if (op == 39) = true then true else if inB 45 op 46 = true then true else if (op == 40) = true then true else if inB 40 op 43 = true then !((4 : Int) == 0) else true) = true then
    (if inB 1 op 4 = true then some (.b (decide (imm.toNat < (BitVec.ofInt 64 4096).toNat)))
  else if inB 13 op 15 = true then some (.b (enc2 imm))
  else if inB 16 op 18 = true then some (.b (if (if decide (imm.toNat < (BitVec.ofInt 64 65536).toNat) = true then decide (0 ≤ s) else false) = true then decide (s ≤ 3) else false))
  else if inB 33 op 34 = true then some (.b (if (imm % BitVec.ofInt 64 w == BitVec.ofInt 64 0) = true then decide ((imm / BitVec.ofInt 64 w).toNat < (BitVec.ofInt 64 4096).toNat) else false))
  else if (op == 39) = true then some (.b (if decide ((BitVec.ofInt 64 9).toNat ≤ imm.toNat) = true then decide (imm.toNat ≤ (BitVec.ofInt 64 11).toNat) else false))
  else if inB 45 op 46 = true then some (.b (decide (imm.toNat < (BitVec.ofInt 64 65536).toNat)))
  else if (op == 40) = true then some (.b (if (off.tmod 4 == 0) = true then fits off 28 else false))
  else if inB 40 op 43 = true then some (.b (if (off.tmod 4 == 0) = true then fits off 21 else false)) else some (.b true)) else none else none else none else none := by kernel_rfl
  have n1 : (if inB 1 op 4 = true then true else if inB 13 op 15 = true then true else if inB 16 op 18 = true then true else if inB 33 op 34 = true then (if (imm % BitVec.ofInt 64 w == BitVec.ofInt 64 0) = true then !(BitVec.ofInt 64 w == 0#64) else true) else true) = true := by
    unfold w0 at h
    revert h
    generalize (!(BitVec.ofInt 64 w == 0#64)) = z
    generalize (imm % BitVec.ofInt 64 w == BitVec.ofInt 64 0) = y
    cases inB 1 op 4 <;> cases inB 13 op 15 <;> cases inB 16 op 18 <;> cases inB 33 op 34 <;> cases z <;> cases y <;> simp
  have n2 : (if inB 1 op 4 = true then true else if inB 13 op 15 = true then true else if inB 16 op 18 = true then true else if inB 33 op 34 = true then !(BitVec.ofInt 64 w == 0#64) else true) = true := by
    unfold w0 at h
    revert h
    generalize (!(BitVec.ofInt 64 w == 0#64)) = z
    cases inB 1 op 4 <;> cases inB 13 op 15 <;> cases inB 16 op 18 <;> cases inB 33 op 34 <;> cases z <;> simp
  have h4 : (!((4 : Int) == 0)) = true := by decide
  rw [e, if_pos n1, if_pos n2]
  simp only [h4, ite_self, if_true, some_ite]
  rfl
noncomputable abbrev SN3 : FuncId → CSpec := withS (withS (withS SN2 33 sr39) 35 sr42) 36 sr43
theorem SN3_ok : ∀ f, FnOk Tryd.prog f (SN3 f) := withS_ok (withS_ok (withS_ok SN2_ok okr39) okr42) okr43
/- May: whether a word encodes the instruction. -/
def sameSh (op w d n m a : Int) (imm : W64) (off cond r s : Int) : Bool :=
  op == op && (w == w && (d == shD op d && (n == shN op n && (m == shM op m && (a == shA op a && (imm == shI op imm && (off == shO op off && (cond == shC op cond && (r == shR op r && (s == shS op s && true))))))))))
def badA (op w d n m a : Int) (imm : W64) (off cond r s : Int) : Bool :=
  if (if (if (!inB 1 op 47) = true then true else !(sameSh op w d n m a imm off cond r s)) = true then true else !isW w) = true then true else if (!inB 33 op 38) = true then w != 8 else false
def restA (op w d n m a : Int) (imm : W64) (off cond r s : Int) : Bool :=
  if (if (if (if (if (if (if regsB op d n m a = true then numsB op w imm off s else false) = true then decide (0 ≤ s) else false) = true then decide (s ≤ 63) else false) = true then decide (0 ≤ r) else false) = true then decide (r ≤ 63) else false) = true then decide (0 ≤ cond) else false) = true then decide (cond ≤ 15) else false
def mayA (op w d n m a : Int) (imm : W64) (off cond r s : Int) : Bool := if badA op w d n m a imm off cond r s = true then false else restA op w d n m a imm off cond r s
def sr26 : CSpec
  | [.agg (cI op w d n m a imm off cond r s)] => some ⟨[], .b (mayA op w d n m a imm off cond r s)⟩
  | _ => none
theorem okr26 : FnOk Tryd.prog 11 sr26 := okBy SN3_ok Tryd.func11 (by kernel_rfl) (by kernel_rfl) 1 <| by
  intro xs r hs
  unfold sr26 at hs; split at hs <;> cases hs
  rename_i op w d n m a imm off cond r s
  rintro hp _
  have e : (evFn T SN3 noL 1 Tryd.f11 [.agg (cI op w d n m a imm off cond r s)]).run =
    if badA op w d n m a imm off cond r s = true then some (.b false) else if (if regsB op d n m a = true then w0 op w else true) = true then some (.b (restA op w d n m a imm off cond r s)) else none := by kernel_rfl
  rw [e]
  show _ = some (AV.b (mayA op w d n m a imm off cond r s))
  unfold mayA
  cases hb : badA op w d n m a imm off cond r s with
  | true => rfl
  | false =>
    have hw : isW w = true := by
      unfold badA at hb
      cases h : isW w with
      | true => rfl
      | false => rw [h] at hb; simp at hb
    have h0 : w0 op w = true := by
      unfold w0
      rcases isW_cases hw with rfl | rfl | rfl | rfl <;> cases inB 33 op 34 <;> rfl
    rw [h0, ite_self]
    rfl
noncomputable abbrev SN4 : FuncId → CSpec := withS SN3 11 sr26
theorem SN4_ok : ∀ f, FnOk Tryd.prog f (SN4 f) := withS_ok SN3_ok okr26
theorem may_range {op w d n m a : Int} {imm : W64} {off cond r s : Int} (h : mayA op w d n m a imm off cond r s = true) : 1 ≤ op ∧ op ≤ 47 := by
  unfold mayA badA at h
  have hb : inB 1 op 47 = true := by
    cases hh : inB 1 op 47 with
    | true => rfl
    | false => rw [hh] at h; simp at h
  simpa [inB] using hb
theorem may_rest {op w d n m a : Int} {imm : W64} {off cond r s : Int} (h : mayA op w d n m a imm off cond r s = true) : restA op w d n m a imm off cond r s = true := by
  unfold mayA at h
  cases hh : badA op w d n m a imm off cond r s with
  | true => rw [hh] at h; simp at h
  | false => rw [hh] at h; simpa using h
theorem may_rs {op w d n m a : Int} {imm : W64} {off cond r s : Int} (h : mayA op w d n m a imm off cond r s = true) : 0 ≤ r ∧ r ≤ 63 ∧ 0 ≤ s ∧ s ≤ 63 := by
  have h := may_rest h
  unfold restA at h
  simp only [and_if] at h
  simp only [Bool.and_eq_true, decide_eq_true_eq] at h
  obtain ⟨⟨⟨⟨⟨⟨⟨_, _⟩, h1⟩, h2⟩, h3⟩, h4⟩, _⟩, _⟩ := h
  exact ⟨h3, h4, h1, h2⟩
theorem some_iteW {c : Bool} {x y : W64} : (if c = true then some (AV.u 64 x) else some (.u 64 y)) = some (.u 64 (if c = true then x else y)) := by cases c <;> rfl

end Go.Proofs.YtocfkaihfjbfnaaDoor
set_option maxRecDepth 100000
namespace Go.Proofs.YtocfkaihfjbfnaaDoor
open Go.Proofs.YtocfkaihfjbfnaaDoor.Ev Go.RowKit
/- The table of rows: names, words, fields. -/
def namesL : List (List UInt8) := [[], [97, 100, 100, 105], [115, 117, 98, 105], [97, 100, 100, 115, 105], [115, 117, 98, 115, 105], [97, 100, 100], [115, 117, 98], [97, 100, 100, 115], [115, 117, 98, 115], [97, 110, 100], [111, 114, 114], [101, 111, 114], [97, 110, 100, 115], [97, 110, 100, 105], [111, 114, 114, 105], [101, 111, 114, 105], [109, 111, 118, 122], [109, 111, 118, 110], [109, 111, 118, 107], [109, 97, 100, 100], [109, 115, 117, 98], [117, 109, 117, 108, 104], [115, 109, 117, 108, 104], [117, 100, 105, 118], [115, 100, 105, 118], [108, 115, 108, 118], [108, 115, 114, 118], [97, 115, 114, 118], [114, 111, 114, 118], [117, 98, 102, 109], [115, 98, 102, 109], [99, 115, 101, 108], [99, 115, 105, 110, 99], [108, 100, 114], [115, 116, 114], [108, 100, 97, 112, 114], [115, 116, 108, 114], [108, 100, 97, 120, 114], [115, 116, 108, 120, 114], [100, 109, 98], [98], [98, 99, 99], [99, 98, 122], [99, 98, 110, 122], [98, 114], [115, 118, 99], [98, 114, 107], [110, 111, 112]]
def basesL : List Nat := [0, 2432696320, 3506438144, 2969567232, 4043309056, 2332033024, 3405774848, 2868903936, 3942645760, 2315255808, 2852126720, 3388997632, 3925868544, 2449473536, 2986344448, 3523215360, 3531603968, 2457862144, 4068474880, 2600468480, 2600501248, 2613083136, 2604694528, 2596276224, 2596277248, 2596282368, 2596283392, 2596284416, 2596285440, 3544186880, 2470445056, 2592079872, 2592080896, 960495616, 956301312, 952090624, 144702464, 140508160, 134282240, 3573756095, 335544320, 1409286144, 3019898880, 3036676096, 3592355840, 3556769793, 3558866944, 3573751839]
def fieldsL : List (List UInt8) := [[], [101, 98, 105], [101, 98, 105], [100, 98, 105], [100, 98, 105], [100, 110, 109, 115], [100, 110, 109, 115], [100, 110, 109, 115], [100, 110, 109, 115], [100, 110, 109, 115], [100, 110, 109, 115], [100, 110, 109, 115], [100, 110, 109, 115], [101, 110, 108], [101, 110, 108], [101, 110, 108], [100, 119, 104], [100, 119, 104], [100, 119, 104], [100, 110, 109, 97], [100, 110, 109, 97], [100, 110, 109], [100, 110, 109], [100, 110, 109], [100, 110, 109], [100, 110, 109], [100, 110, 109], [100, 110, 109], [100, 110, 109], [100, 110, 115, 114], [100, 110, 115, 114], [100, 110, 109, 99], [100, 110, 109, 99], [100, 98, 117, 122], [100, 98, 117, 122], [100, 98, 122], [100, 98, 122], [100, 98, 122], [100, 98, 116, 122], [102], [106], [107, 103], [100, 103], [100, 103], [110], [119], [119], []]
def range47 (k : Int) : Prop := k = 1 ∨ k = 2 ∨ k = 3 ∨ k = 4 ∨ k = 5 ∨ k = 6 ∨ k = 7 ∨ k = 8 ∨ k = 9 ∨ k = 10 ∨ k = 11 ∨ k = 12 ∨ k = 13 ∨ k = 14 ∨ k = 15 ∨ k = 16 ∨ k = 17 ∨ k = 18 ∨ k = 19 ∨ k = 20 ∨ k = 21 ∨ k = 22 ∨ k = 23 ∨ k = 24 ∨ k = 25 ∨ k = 26 ∨ k = 27 ∨ k = 28 ∨ k = 29 ∨ k = 30 ∨ k = 31 ∨ k = 32 ∨ k = 33 ∨ k = 34 ∨ k = 35 ∨ k = 36 ∨ k = 37 ∨ k = 38 ∨ k = 39 ∨ k = 40 ∨ k = 41 ∨ k = 42 ∨ k = 43 ∨ k = 44 ∨ k = 45 ∨ k = 46 ∨ k = 47
theorem range47_of {k : Int} (h : 1 ≤ k ∧ k ≤ 47) : range47 k := by unfold range47; omega
def nameOf (op : Int) : List UInt8 := namesL.getD op.toNat []
def baseOf (op : Int) : W64 := BitVec.ofNat 64 (basesL.getD op.toNat 0)
def fieldsOf (op : Int) : List UInt8 := fieldsL.getD op.toNat []
def rowC (op : Int) : List AV := [.str (nameOf op), .u 64 (baseOf op), .str (fieldsOf op)]
def sr48 : CSpec
  | [.i .i64 op] => (match inB 25 op 47 with
    | true => some ⟨[], .agg (rowC op)⟩
    | false => none)
  | _ => none
theorem okr48 : FnOk Tryd.prog 48 sr48 := okBy noS_ok Tryd.func48 (by kernel_rfl) (by kernel_rfl) 1 <| by
  intro xs r hs
  unfold sr48 at hs; split at hs <;> try cases hs
  rename_i op
  split at hs <;> cases hs
  rename_i h
  intro hp _
  show (evFn T noS noL 1 Tryd.f48 [.i .i64 op]).run = some (.agg (rowC op))
  have h : 25 ≤ op ∧ op ≤ 47 := by simpa [inB] using h
  have main : ∀ k : Int, (k = 25 ∨ k = 26 ∨ k = 27 ∨ k = 28 ∨ k = 29 ∨ k = 30 ∨ k = 31 ∨ k = 32 ∨ k = 33 ∨ k = 34 ∨ k = 35 ∨ k = 36 ∨ k = 37 ∨ k = 38 ∨ k = 39 ∨ k = 40 ∨ k = 41 ∨ k = 42 ∨ k = 43 ∨ k = 44 ∨ k = 45 ∨ k = 46 ∨ k = 47) → (evFn T noS noL 1 Tryd.f48 [.i .i64 k]).run = some (.agg (rowC k)) := by
    intro k h
    rcases h with rfl | rfl | rfl | rfl | rfl | rfl | rfl | rfl | rfl | rfl | rfl | rfl | rfl | rfl | rfl | rfl | rfl | rfl | rfl | rfl | rfl | rfl | rfl
    all_goals kernel_rfl
  have h : op = 25 ∨ op = 26 ∨ op = 27 ∨ op = 28 ∨ op = 29 ∨ op = 30 ∨ op = 31 ∨ op = 32 ∨ op = 33 ∨ op = 34 ∨ op = 35 ∨ op = 36 ∨ op = 37 ∨ op = 38 ∨ op = 39 ∨ op = 40 ∨ op = 41 ∨ op = 42 ∨ op = 43 ∨ op = 44 ∨ op = 45 ∨ op = 46 ∨ op = 47 := by omega
  exact main op h
noncomputable abbrev SQ0 : FuncId → CSpec := withS SN4 48 sr48
theorem SQ0_ok : ∀ f, FnOk Tryd.prog f (SQ0 f) := withS_ok SN4_ok okr48
def sr29 : CSpec
  | [.i .i64 op] => (match inB 1 op 47 with
    | true => some ⟨[], .agg (rowC op)⟩
    | false => none)
  | _ => none
theorem okr29 : FnOk Tryd.prog 17 sr29 := okBy SQ0_ok Tryd.func17 (by kernel_rfl) (by kernel_rfl) 1 <| by
  intro xs r hs
  unfold sr29 at hs; split at hs <;> try cases hs
  rename_i op
  split at hs <;> cases hs
  rename_i h
  intro hp _
  show (evFn T SQ0 noL 1 Tryd.f17 [.i .i64 op]).run = some (.agg (rowC op))
  have h : 1 ≤ op ∧ op ≤ 47 := by simpa [inB] using h
  have main : ∀ k : Int, range47 k → (evFn T SQ0 noL 1 Tryd.f17 [.i .i64 k]).run = some (.agg (rowC k)) := by
    intro k h
    rcases h with rfl | rfl | rfl | rfl | rfl | rfl | rfl | rfl | rfl | rfl | rfl | rfl | rfl | rfl | rfl | rfl | rfl | rfl | rfl | rfl | rfl | rfl | rfl | rfl | rfl | rfl | rfl | rfl | rfl | rfl | rfl | rfl | rfl | rfl | rfl | rfl | rfl | rfl | rfl | rfl | rfl | rfl | rfl | rfl | rfl | rfl | rfl
    all_goals kernel_rfl
  exact main op (range47_of h)
noncomputable abbrev SQ1 : FuncId → CSpec := withS SQ0 17 sr29
theorem SQ1_ok : ∀ f, FnOk Tryd.prog f (SQ1 f) := withS_ok SQ0_ok okr29
/- Has: fields of a row. -/
def LH : Nat → Live := fun _ => ⟨[1, 4, 5, 6, 7], [], [], none⟩
def chainB : List Bool → Option AV
  | [] => some (.b false)
  | b :: l => if b = true then some (.b true) else chainB l
def pairsC (f s : List UInt8) : List Bool := f.flatMap fun x => s.map fun y => x.toBitVec == y.toBitVec
theorem chainB_any : ∀ l : List Bool, chainB l = some (.b (l.any id))
  | [] => rfl
  | true :: l => rfl
  | false :: l => by simp [chainB, chainB_any l]
def hasA (op : Int) (s : List UInt8) : Bool := inB 1 op 47 && (pairsC (fieldsOf op) s).any id
theorem has1 (c1 : UInt8) (k : Int) (hk : range47 k) : (evFn T SQ1 LH 8 Tryd.f38 [.i .i64 k, .str [c1]]).run = chainB (pairsC (fieldsOf k) [c1]) := by
  rcases hk with rfl | rfl | rfl | rfl | rfl | rfl | rfl | rfl | rfl | rfl | rfl | rfl | rfl | rfl | rfl | rfl | rfl | rfl | rfl | rfl | rfl | rfl | rfl | rfl | rfl | rfl | rfl | rfl | rfl | rfl | rfl | rfl | rfl | rfl | rfl | rfl | rfl | rfl | rfl | rfl | rfl | rfl | rfl | rfl | rfl | rfl | rfl
  all_goals kernel_rfl
theorem has2 (c1 c2 : UInt8) (k : Int) (hk : range47 k) : (evFn T SQ1 LH 8 Tryd.f38 [.i .i64 k, .str [c1, c2]]).run = chainB (pairsC (fieldsOf k) [c1, c2]) := by
  rcases hk with rfl | rfl | rfl | rfl | rfl | rfl | rfl | rfl | rfl | rfl | rfl | rfl | rfl | rfl | rfl | rfl | rfl | rfl | rfl | rfl | rfl | rfl | rfl | rfl | rfl | rfl | rfl | rfl | rfl | rfl | rfl | rfl | rfl | rfl | rfl | rfl | rfl | rfl | rfl | rfl | rfl | rfl | rfl | rfl | rfl | rfl | rfl
  all_goals kernel_rfl
theorem has3_0 (k : Int) (hk : k = 1 ∨ k = 2 ∨ k = 3 ∨ k = 4) : (evFn T SQ1 LH 8 Tryd.f38 [.i .i64 k, .str [105, 108, 119, 117, 102]]).run = some (.b ((pairsC (fieldsOf k) [105, 108, 119, 117, 102]).any id)) := by
  rcases hk with rfl | rfl | rfl | rfl
  all_goals kernel_rfl
theorem has3_1 (k : Int) (hk : k = 5 ∨ k = 6 ∨ k = 7 ∨ k = 8) : (evFn T SQ1 LH 8 Tryd.f38 [.i .i64 k, .str [105, 108, 119, 117, 102]]).run = some (.b ((pairsC (fieldsOf k) [105, 108, 119, 117, 102]).any id)) := by
  rcases hk with rfl | rfl | rfl | rfl
  all_goals kernel_rfl
theorem has3_2 (k : Int) (hk : k = 9 ∨ k = 10 ∨ k = 11 ∨ k = 12) : (evFn T SQ1 LH 8 Tryd.f38 [.i .i64 k, .str [105, 108, 119, 117, 102]]).run = some (.b ((pairsC (fieldsOf k) [105, 108, 119, 117, 102]).any id)) := by
  rcases hk with rfl | rfl | rfl | rfl
  all_goals kernel_rfl
theorem has3_3 (k : Int) (hk : k = 13 ∨ k = 14 ∨ k = 15 ∨ k = 16) : (evFn T SQ1 LH 8 Tryd.f38 [.i .i64 k, .str [105, 108, 119, 117, 102]]).run = some (.b ((pairsC (fieldsOf k) [105, 108, 119, 117, 102]).any id)) := by
  rcases hk with rfl | rfl | rfl | rfl
  all_goals kernel_rfl
theorem has3_4 (k : Int) (hk : k = 17 ∨ k = 18 ∨ k = 19 ∨ k = 20) : (evFn T SQ1 LH 8 Tryd.f38 [.i .i64 k, .str [105, 108, 119, 117, 102]]).run = some (.b ((pairsC (fieldsOf k) [105, 108, 119, 117, 102]).any id)) := by
  rcases hk with rfl | rfl | rfl | rfl
  all_goals kernel_rfl
theorem has3_5 (k : Int) (hk : k = 21 ∨ k = 22 ∨ k = 23 ∨ k = 24) : (evFn T SQ1 LH 8 Tryd.f38 [.i .i64 k, .str [105, 108, 119, 117, 102]]).run = some (.b ((pairsC (fieldsOf k) [105, 108, 119, 117, 102]).any id)) := by
  rcases hk with rfl | rfl | rfl | rfl
  all_goals kernel_rfl
theorem has3_6 (k : Int) (hk : k = 25 ∨ k = 26 ∨ k = 27 ∨ k = 28) : (evFn T SQ1 LH 8 Tryd.f38 [.i .i64 k, .str [105, 108, 119, 117, 102]]).run = some (.b ((pairsC (fieldsOf k) [105, 108, 119, 117, 102]).any id)) := by
  rcases hk with rfl | rfl | rfl | rfl
  all_goals kernel_rfl
theorem has3_7 (k : Int) (hk : k = 29 ∨ k = 30 ∨ k = 31 ∨ k = 32) : (evFn T SQ1 LH 8 Tryd.f38 [.i .i64 k, .str [105, 108, 119, 117, 102]]).run = some (.b ((pairsC (fieldsOf k) [105, 108, 119, 117, 102]).any id)) := by
  rcases hk with rfl | rfl | rfl | rfl
  all_goals kernel_rfl
theorem has3_8 (k : Int) (hk : k = 33 ∨ k = 34 ∨ k = 35) : (evFn T SQ1 LH 8 Tryd.f38 [.i .i64 k, .str [105, 108, 119, 117, 102]]).run = some (.b ((pairsC (fieldsOf k) [105, 108, 119, 117, 102]).any id)) := by
  rcases hk with rfl | rfl | rfl
  all_goals kernel_rfl
theorem has3_9 (k : Int) (hk : k = 36 ∨ k = 37 ∨ k = 38) : (evFn T SQ1 LH 8 Tryd.f38 [.i .i64 k, .str [105, 108, 119, 117, 102]]).run = some (.b ((pairsC (fieldsOf k) [105, 108, 119, 117, 102]).any id)) := by
  rcases hk with rfl | rfl | rfl
  all_goals kernel_rfl
theorem has3_10 (k : Int) (hk : k = 39 ∨ k = 40 ∨ k = 41 ∨ k = 42 ∨ k = 43 ∨ k = 44 ∨ k = 45 ∨ k = 46 ∨ k = 47) : (evFn T SQ1 LH 8 Tryd.f38 [.i .i64 k, .str [105, 108, 119, 117, 102]]).run = some (.b ((pairsC (fieldsOf k) [105, 108, 119, 117, 102]).any id)) := by
  rcases hk with rfl | rfl | rfl | rfl | rfl | rfl | rfl | rfl | rfl
  all_goals kernel_rfl
theorem has3 (k : Int) (hk : range47 k) : (evFn T SQ1 LH 8 Tryd.f38 [.i .i64 k, .str [105, 108, 119, 117, 102]]).run = some (.b ((pairsC (fieldsOf k) [105, 108, 119, 117, 102]).any id)) := by
  have h : 1 ≤ k ∧ k ≤ 47 := by unfold range47 at hk; omega
  by_cases h0 : k ≤ 4
  · exact has3_0 k (by omega)
  by_cases h1 : k ≤ 8
  · exact has3_1 k (by omega)
  by_cases h2 : k ≤ 12
  · exact has3_2 k (by omega)
  by_cases h3 : k ≤ 16
  · exact has3_3 k (by omega)
  by_cases h4 : k ≤ 20
  · exact has3_4 k (by omega)
  by_cases h5 : k ≤ 24
  · exact has3_5 k (by omega)
  by_cases h6 : k ≤ 28
  · exact has3_6 k (by omega)
  by_cases h7 : k ≤ 32
  · exact has3_7 k (by omega)
  by_cases h8 : k ≤ 35
  · exact has3_8 k (by omega)
  by_cases h9 : k ≤ 38
  · exact has3_9 k (by omega)
  exact has3_10 k (by omega)
theorem hasOut (op : Int) (s : List UInt8) (h : inB 1 op 47 = false) : (evFn T SQ1 LH 8 Tryd.f38 [.i .i64 op, .str s]).run = some (.b false) := by
  have e : ∃ t, (evFn T SQ1 LH 8 Tryd.f38 [.i .i64 op, .str s]).run = if (if decide (op < 1) = true then true else decide (47 < op)) = true then some (.b false) else t :=
    ⟨match evFn T SQ1 LH 8 Tryd.f38 [.i .i64 op, .str s] with
      | .ite _ _ b => b.run
      | _ => none, by kernel_rfl⟩
  obtain ⟨t, e⟩ := e
  rw [e, if_pos]
  have h : ¬ (1 ≤ op ∧ op ≤ 47) := by simpa [inB] using h
  by_cases h1 : op < 1
  · simp [h1]
  · have : 47 < op := by omega
    simp [this]
def sr17 : CSpec
  | [.i .i64 op, .str [c1]] => some ⟨[], .b (hasA op [c1])⟩
  | [.i .i64 op, .str [c1, c2]] => some ⟨[], .b (hasA op [c1, c2])⟩
  | [.i .i64 op, .str [105, 108, 119, 117, 102]] => some ⟨[], .b (hasA op [105, 108, 119, 117, 102])⟩
  | _ => none
theorem hasRun (op : Int) (s : List UInt8) (h : ∀ k, range47 k → (evFn T SQ1 LH 8 Tryd.f38 [.i .i64 k, .str s]).run = chainB (pairsC (fieldsOf k) s)) : (evFn T SQ1 LH 8 Tryd.f38 [.i .i64 op, .str s]).run = some (.b (hasA op s)) := by
  unfold hasA
  cases hb : inB 1 op 47 with
  | false => rw [hasOut op s hb]; rfl
  | true =>
    have hr : 1 ≤ op ∧ op ≤ 47 := by simpa [inB] using hb
    rw [h op (range47_of hr), chainB_any]
    rfl
theorem loops17 : FnLoops T SQ1 LH 8 Tryd.f38 := FnLoops.no (by kernel_rfl)
theorem okr17 : FnOk Tryd.prog 38 sr17 := FnOk.of tyOk SQ1_ok mixed Tryd.func38 (by kernel_rfl) (by kernel_rfl) <| by
  intro xs r hs hp w R vs hvs
  refine ⟨8, loops17, ?_⟩
  unfold sr17 at hs
  split at hs <;> cases hs
  · exact hasRun _ _ (has1 _)
  · exact hasRun _ _ (has2 _ _)
  · exact hasRun _ _ (fun k hk => (has3 k hk).trans (chainB_any _).symm)
noncomputable abbrev SQ2 : FuncId → CSpec := withS SQ1 38 sr17
theorem SQ2_ok : ∀ f, FnOk Tryd.prog f (SQ2 f) := withS_ok SQ1_ok okr17
end Go.Proofs.YtocfkaihfjbfnaaDoor
set_option maxRecDepth 100000
namespace Go.Proofs.YtocfkaihfjbfnaaDoor
open Go.Proofs.YtocfkaihfjbfnaaDoor.Ev Go.RowKit
/- The reference's questions: four registers; whether a number fits. -/
def fourA (d n m a : Int) : Bool := inB 0 d 31 && (inB 0 n 31 && (inB 0 m 31 && inB 0 a 31))
def L72 : Nat → Live := fun _ => ⟨[8, 10, 15, 16, 17], [], [], none⟩
theorem out31 (x : Int) : (if decide (x < 0) = true then true else decide (31 < x)) = !inB 0 x 31 := by
  unfold inB
  by_cases h : x < 0
  · have : ¬ 0 ≤ x := by omega
    simp [h, this]
  · have : 0 ≤ x := by omega
    by_cases h2 : 31 < x
    · have : ¬ x ≤ 31 := by omega
      simp [h, h2, this]
    · have h3 : x ≤ 31 := by omega
      simp [h, h2, h3, this]
def sr72 : CSpec
  | [.i .i64 d, .i .i64 n, .i .i64 m, .i .i64 a] => some ⟨[], .b (fourA d n m a)⟩
  | _ => none
theorem loops72 : FnLoops T noS L72 6 Tryd.f66 := FnLoops.no (by kernel_rfl)
theorem okr72 : FnOk Tryd.prog 66 sr72 := FnOk.of tyOk noS_ok mixed Tryd.func66 (by kernel_rfl) (by kernel_rfl) <| by
  intro xs r hs hp w R vs hvs
  refine ⟨6, loops72, ?_⟩
  unfold sr72 at hs
  split at hs <;> cases hs
  rename_i d n m a
  have e : (evFn T noS L72 6 Tryd.f66 [.i .i64 d, .i .i64 n, .i .i64 m, .i .i64 a]).run =
    if (if decide (d < 0) = true then true else decide (31 < d)) = true then some (.b false) else if (if decide (n < 0) = true then true else decide (31 < n)) = true then some (.b false) else
    if (if decide (m < 0) = true then true else decide (31 < m)) = true then some (.b false) else if (if decide (a < 0) = true then true else decide (31 < a)) = true then some (.b false) else some (.b true) := by kernel_rfl
  rw [e]
  simp only [out31]
  show _ = some (AV.b (fourA d n m a))
  unfold fourA
  cases inB 0 d 31 <;> cases inB 0 n 31 <;> cases inB 0 m 31 <;> cases inB 0 a 31 <;> rfl
def fitR (off n : Int) : Bool :=
  if (if decide (64 ≤ n) = true then true else if decide (0 ≤ off) = true then decide ((BitVec.ofInt 64 off).toNat < (BitVec.ofInt 64 1 <<< (BitVec.ofInt 64 (IntKind.i64.wrap (n - 1))).toNat).toNat) else false) = true then true
  else if decide (off < 0) = true then decide ((BitVec.ofInt 64 (IntKind.i64.wrap (-IntKind.i64.wrap (off + 1)))).toNat < (BitVec.ofInt 64 1 <<< (BitVec.ofInt 64 (IntKind.i64.wrap (n - 1))).toNat).toNat) else false
theorem ofInt_nn {v : Int} (h1 : 0 ≤ v) (h2 : v < 18446744073709551616) : (BitVec.ofInt 64 v).toNat = v.toNat := by
  rw [BitVec.toNat_ofInt]
  congr 1
  exact Int.emod_eq_of_lt h1 h2
theorem fit_28 {off : Int} (ho : IntKind.i64.has off) : fitR off 28 = fits off 28 := by
  have hw := fits_code ho (n := 28) (by omega) (by omega)
  obtain ⟨lo, hi⟩ := ho
  have lo : -9223372036854775808 ≤ off := lo
  have hi : off ≤ 9223372036854775807 := hi
  have hf : fits off 28 = (IntKind.i64.wrap (off * 68719476736) / 68719476736 == off) := by
    refine Eq.trans ?_ hw.symm
    rfl
  rw [hf]
  have e3 : (BitVec.ofInt 64 1 <<< (BitVec.ofInt 64 (IntKind.i64.wrap ((28 : Int) - 1))).toNat : W64).toNat = 134217728 := by decide +kernel
  unfold fitR
  rw [e3]
  clear hw hf e3
  have main : (IntKind.i64.wrap (off * 68719476736) / 68719476736 == off) = (decide (-134217728 ≤ off) && decide (off < 134217728)) := by
    rw [Bool.eq_iff_iff]
    simp only [beq_iff_eq, Bool.and_eq_true, decide_eq_true_eq]
    rw [IntKind.wrap_i64]
    omega
  rw [main]
  clear main
  have h64 : decide ((64 : Int) ≤ 28) = false := rfl
  rw [h64]
  by_cases h0 : 0 ≤ off
  · have hn : ¬ off < 0 := by omega
    rw [ofInt_nn h0 (by omega)]
    simp only [h0, hn, decide_true, decide_false, if_true, Bool.false_eq_true, if_false]
    by_cases hlt : off < 134217728
    · have h2 : off.toNat < 134217728 := by omega
      have h3 : -134217728 ≤ off := by omega
      simp only [hlt, h2, h3, decide_true, if_true, Bool.and_self]
    · have h2 : ¬ off.toNat < 134217728 := by omega
      simp only [hlt, h2, decide_false, Bool.and_false, Bool.false_eq_true, if_false]
  · have hn : off < 0 := by omega
    rw [wrap_small (off + 1) (by omega) (by omega), wrap_small (-(off + 1)) (by omega) (by omega), ofInt_nn (v := -(off + 1)) (by omega) (by omega)]
    simp only [h0, hn, decide_true, decide_false, if_true, Bool.false_eq_true, if_false]
    by_cases hlt : -134217728 ≤ off
    · have h2 : (-(off + 1)).toNat < 134217728 := by omega
      have h3 : off < 134217728 := by omega
      simp only [hlt, h2, h3, decide_true, Bool.and_self]
    · have h2 : ¬ (-(off + 1)).toNat < 134217728 := by omega
      simp only [hlt, h2, decide_false, Bool.false_and]
theorem fit_21 {off : Int} (ho : IntKind.i64.has off) : fitR off 21 = fits off 21 := by
  have hw := fits_code ho (n := 21) (by omega) (by omega)
  obtain ⟨lo, hi⟩ := ho
  have lo : -9223372036854775808 ≤ off := lo
  have hi : off ≤ 9223372036854775807 := hi
  have hf : fits off 21 = (IntKind.i64.wrap (off * 8796093022208) / 8796093022208 == off) := by
    refine Eq.trans ?_ hw.symm
    rfl
  rw [hf]
  have e3 : (BitVec.ofInt 64 1 <<< (BitVec.ofInt 64 (IntKind.i64.wrap ((21 : Int) - 1))).toNat : W64).toNat = 1048576 := by decide +kernel
  unfold fitR
  rw [e3]
  clear hw hf e3
  have main : (IntKind.i64.wrap (off * 8796093022208) / 8796093022208 == off) = (decide (-1048576 ≤ off) && decide (off < 1048576)) := by
    rw [Bool.eq_iff_iff]
    simp only [beq_iff_eq, Bool.and_eq_true, decide_eq_true_eq]
    rw [IntKind.wrap_i64]
    omega
  rw [main]
  clear main
  have h64 : decide ((64 : Int) ≤ 21) = false := rfl
  rw [h64]
  by_cases h0 : 0 ≤ off
  · have hn : ¬ off < 0 := by omega
    rw [ofInt_nn h0 (by omega)]
    simp only [h0, hn, decide_true, decide_false, if_true, Bool.false_eq_true, if_false]
    by_cases hlt : off < 1048576
    · have h2 : off.toNat < 1048576 := by omega
      have h3 : -1048576 ≤ off := by omega
      simp only [hlt, h2, h3, decide_true, if_true, Bool.and_self]
    · have h2 : ¬ off.toNat < 1048576 := by omega
      simp only [hlt, h2, decide_false, Bool.and_false, Bool.false_eq_true, if_false]
  · have hn : off < 0 := by omega
    rw [wrap_small (off + 1) (by omega) (by omega), wrap_small (-(off + 1)) (by omega) (by omega), ofInt_nn (v := -(off + 1)) (by omega) (by omega)]
    simp only [h0, hn, decide_true, decide_false, if_true, Bool.false_eq_true, if_false]
    by_cases hlt : -1048576 ≤ off
    · have h2 : (-(off + 1)).toNat < 1048576 := by omega
      have h3 : off < 1048576 := by omega
      simp only [hlt, h2, h3, decide_true, Bool.and_self]
    · have h2 : ¬ (-(off + 1)).toNat < 1048576 := by omega
      simp only [hlt, h2, decide_false, Bool.false_and]
def sr47 : CSpec
  | [.i .i64 off, .i .i64 n] => (match n == 28 || n == 21 with
    | true => some ⟨[], .b (fits off n)⟩
    | false => none)
  | _ => none
theorem okr47 : FnOk Tryd.prog 40 sr47 := okBy noS_ok Tryd.func40 (by kernel_rfl) (by kernel_rfl) 1 <| by
  intro xs r hs
  unfold sr47 at hs; split at hs <;> try cases hs
  rename_i off n
  split at hs <;> cases hs
  rename_i hn
  rintro hp ⟨w, R, vs, hvs⟩
  have ho : IntKind.i64.has off := by
    cases hvs with | cons h _ => cases h with | i _ h => exact h
  have e : (evFn T noS noL 1 Tryd.f40 [.i .i64 off, .i .i64 n]).run = some (.b (fitR off n)) := by kernel_rfl
  rw [e]
  have : n = 28 ∨ n = 21 := by simpa using hn
  rcases this with rfl | rfl
  · rw [fit_28 ho]
  · rw [fit_21 ho]
def badR (op d n m : Int) : Bool := if (if (if hasA op [101] = true then d == 31 else false) = true then true else if hasA op [98] = true then n == 31 else false) = true then true else if hasA op [116] = true then if (m == d) = true then true else m == n else false
def regsR (op d n m a : Int) : Bool := if badR op d n m = true then false else fourA d n m a
def sr45 : CSpec
  | [.agg (cI op w d n m a imm off cond r s)] => some ⟨[], .b (regsR op d n m a)⟩
  | _ => none
noncomputable abbrev SQ3 : FuncId → CSpec := withS (withS SQ2 66 sr72) 40 sr47
theorem SQ3_ok : ∀ f, FnOk Tryd.prog f (SQ3 f) := withS_ok (withS_ok SQ2_ok okr72) okr47
theorem okr45 : FnOk Tryd.prog 37 sr45 := okBy SQ3_ok Tryd.func37 (by kernel_rfl) (by kernel_rfl) 1 <| by
  intro xs r hs
  unfold sr45 at hs; split at hs <;> cases hs
  rename_i op w d n m a imm off cond r s
  rintro hp _
  have e : (evFn T SQ3 noL 1 Tryd.f37 [.agg (cI op w d n m a imm off cond r s)]).run = if badR op d n m = true then some (.b false) else some (.b (fourA d n m a)) := by kernel_rfl
  rw [e]
  show _ = some (AV.b (regsR op d n m a))
  unfold regsR
  cases badR op d n m <;> rfl
noncomputable abbrev SQ4 : FuncId → CSpec := withS SQ3 37 sr45
theorem SQ4_ok : ∀ f, FnOk Tryd.prog f (SQ4 f) := withS_ok SQ3_ok okr45
/- The reference's May, as it is asked. -/
def oi (a b : Bool) : Bool := if a = true then true else b
def ai (a b : Bool) : Bool := if a = true then b else false
theorem oi_or (a b : Bool) : oi a b = (a || b) := by cases a <;> rfl
theorem ai_and (a b : Bool) : ai a b = (a && b) := by cases a <;> rfl
def m1 (op d n m a : Int) : Bool := oi (oi (decide (op < 1)) (decide (47 < op))) (!regsR op d n m a)
def m2 (op d n m a : Int) (imm : W64) (off cond r s : Int) : Bool :=
  oi (oi (oi (oi (oi (oi (oi (oi (ai (!hasA op [100, 101]) (d != 0)) (ai (!hasA op [110, 98]) (n != 0))) (ai (!hasA op [109, 116]) (m != 0))) (ai (!hasA op [97]) (a != 0))) (ai (!hasA op [115, 104]) (s != 0))) (ai (!hasA op [114]) (r != 0))) (ai (!hasA op [99, 107]) (cond != 0))) (ai (!hasA op [105, 108, 119, 117, 102]) (imm != BitVec.ofInt 64 0))) (ai (!hasA op [106, 103]) (off != 0))
def m3 (op w : Int) : Bool := ai (w != 8) (!ai (hasA op [122]) (oi (oi (w == 1) (w == 2)) (w == 4)))
def m4 (op cond r s : Int) : Bool := oi (oi (oi (oi (oi (oi (decide (s < 0)) (decide (63 < s))) (decide (r < 0))) (decide (63 < r))) (decide (cond < 0))) (decide (15 < cond))) (ai (hasA op [104]) (decide (3 < s)))
def m5a (op : Int) (imm : W64) : Bool := oi (ai (hasA op [105]) (decide ((BitVec.ofInt 64 4096).toNat ≤ imm.toNat))) (ai (hasA op [119]) (decide ((BitVec.ofInt 64 65536).toNat ≤ imm.toNat)))
def m5 (op w : Int) (imm : W64) : Bool :=
  oi (oi (m5a op imm) (ai (hasA op [117]) (oi (imm % BitVec.ofInt 64 w != BitVec.ofInt 64 0) (decide ((BitVec.ofInt 64 4096).toNat ≤ (imm / BitVec.ofInt 64 w).toNat))))) (ai (hasA op [102]) (oi (decide (imm.toNat < (BitVec.ofInt 64 9).toNat)) (decide ((BitVec.ofInt 64 11).toNat < imm.toNat))))
def m6 (op off : Int) : Bool := ai (ai (off.tmod 4 == 0) (oi (!hasA op [106]) (fits off 28))) (oi (!hasA op [103]) (fits off 21))
def mayR (op w d n m a : Int) (imm : W64) (off cond r s : Int) : Bool :=
  if m1 op d n m a = true then false else if m2 op d n m a imm off cond r s = true then false else if m3 op w = true then false else if m4 op cond r s = true then false else if m5 op w imm = true then false else if hasA op [108] = true then enc2 imm else m6 op off
noncomputable abbrev SQ5 : FuncId → CSpec := withS SQ4 39 s34
theorem SQ5_ok : ∀ f, FnOk Tryd.prog f (SQ5 f) := withS_ok SQ4_ok ok47
theorem run28 (op w d n m a : Int) (imm : W64) (off cond r s : Int) : (evFn T SQ5 noL 6 Tryd.f12 [.agg (cI op w d n m a imm off cond r s)]).run =
    if m1 op d n m a = true then some (.b false) else if m2 op d n m a imm off cond r s = true then some (.b false) else if m3 op w = true then some (.b false) else if m4 op cond r s = true then some (.b false) else
    if (if (!(imm % BitVec.ofInt 64 w != BitVec.ofInt 64 0)) = true then (if hasA op [117] = true then (if (!m5a op imm) = true then !(BitVec.ofInt 64 w == 0#64) else true) else true) else true) = true then
    if (if hasA op [117] = true then (if (!m5a op imm) = true then !(BitVec.ofInt 64 w == 0#64) else true) else true) = true then
    if m5 op w imm = true then some (.b false) else if hasA op [108] = true then some (.b (enc2 imm)) else some (.b (m6 op off)) else none else none := by kernel_rfl
theorem run28m (op w d n m a : Int) (imm : W64) (off cond r s : Int) : (evFn T SQ5 noL 6 Tryd.f12 [.agg (cI op w d n m a imm off cond r s)]).run = some (.b (mayR op w d n m a imm off cond r s)) := by
  rw [run28]
  unfold mayR
  cases h1 : m1 op d n m a with
  | true => rfl
  | false =>
    cases h2 : m2 op d n m a imm off cond r s with
    | true => rfl
    | false =>
      cases h3 : m3 op w with
      | true => rfl
      | false =>
        have hw : (!(BitVec.ofInt 64 w == 0#64)) = true := by
          have h : w = 8 ∨ w = 1 ∨ w = 2 ∨ w = 4 := by
            simp only [m3, oi_or, ai_and] at h3
            by_cases h8 : w = 8
            · exact .inl h8
            · have : (w != 8) = true := by simpa using h8
              rw [this] at h3
              simp at h3
              omega
          rcases h with rfl | rfl | rfl | rfl <;> rfl
        rw [hw]
        simp only [ite_self, Bool.false_eq_true, if_false, if_true]
        cases m4 op cond r s <;> cases m5 op w imm <;> cases hasA op [108] <;> rfl
end Go.Proofs.YtocfkaihfjbfnaaDoor
set_option maxRecDepth 100000
namespace Go.Proofs.YtocfkaihfjbfnaaDoor
open Go.Proofs.YtocfkaihfjbfnaaDoor.Ev Go.RowKit
theorem mayR_1 (w d n m a : Int) (imm : W64) (off cond r s : Int) : mayR 1 w d n m a imm off cond r s = mayA 1 w d n m a imm off cond r s := by
  have E : hasA 1 [101] = true ∧ hasA 1 [98] = true ∧ hasA 1 [116] = false ∧ hasA 1 [100, 101] = true ∧ hasA 1 [110, 98] = true ∧ hasA 1 [109, 116] = false ∧ hasA 1 [97] = false ∧ hasA 1 [115, 104] = false ∧ hasA 1 [114] = false ∧ hasA 1 [99, 107] = false ∧ hasA 1 [105, 108, 119, 117, 102] = true ∧ hasA 1 [106, 103] = false ∧ hasA 1 [122] = false ∧ hasA 1 [104] = false ∧ hasA 1 [105] = true ∧ hasA 1 [119] = false ∧ hasA 1 [117] = false ∧ hasA 1 [102] = false ∧ hasA 1 [108] = false ∧ hasA 1 [106] = false ∧ hasA 1 [103] = false := by decide +kernel
  simp only [mayR, m1, m2, m3, m4, m5, m5a, m6, regsR, badR, E, oi_or, ai_and, fourA, mayA, badA, restA, sameSh, regsB, numsB, isW]
  simp [inB, shD, shN, shM, shA, shI, shO, shC, shR, shS]
  try grind
theorem mayR_2 (w d n m a : Int) (imm : W64) (off cond r s : Int) : mayR 2 w d n m a imm off cond r s = mayA 2 w d n m a imm off cond r s := by
  have E : hasA 2 [101] = true ∧ hasA 2 [98] = true ∧ hasA 2 [116] = false ∧ hasA 2 [100, 101] = true ∧ hasA 2 [110, 98] = true ∧ hasA 2 [109, 116] = false ∧ hasA 2 [97] = false ∧ hasA 2 [115, 104] = false ∧ hasA 2 [114] = false ∧ hasA 2 [99, 107] = false ∧ hasA 2 [105, 108, 119, 117, 102] = true ∧ hasA 2 [106, 103] = false ∧ hasA 2 [122] = false ∧ hasA 2 [104] = false ∧ hasA 2 [105] = true ∧ hasA 2 [119] = false ∧ hasA 2 [117] = false ∧ hasA 2 [102] = false ∧ hasA 2 [108] = false ∧ hasA 2 [106] = false ∧ hasA 2 [103] = false := by decide +kernel
  simp only [mayR, m1, m2, m3, m4, m5, m5a, m6, regsR, badR, E, oi_or, ai_and, fourA, mayA, badA, restA, sameSh, regsB, numsB, isW]
  simp [inB, shD, shN, shM, shA, shI, shO, shC, shR, shS]
  try grind
theorem mayR_3 (w d n m a : Int) (imm : W64) (off cond r s : Int) : mayR 3 w d n m a imm off cond r s = mayA 3 w d n m a imm off cond r s := by
  have E : hasA 3 [101] = false ∧ hasA 3 [98] = true ∧ hasA 3 [116] = false ∧ hasA 3 [100, 101] = true ∧ hasA 3 [110, 98] = true ∧ hasA 3 [109, 116] = false ∧ hasA 3 [97] = false ∧ hasA 3 [115, 104] = false ∧ hasA 3 [114] = false ∧ hasA 3 [99, 107] = false ∧ hasA 3 [105, 108, 119, 117, 102] = true ∧ hasA 3 [106, 103] = false ∧ hasA 3 [122] = false ∧ hasA 3 [104] = false ∧ hasA 3 [105] = true ∧ hasA 3 [119] = false ∧ hasA 3 [117] = false ∧ hasA 3 [102] = false ∧ hasA 3 [108] = false ∧ hasA 3 [106] = false ∧ hasA 3 [103] = false := by decide +kernel
  simp only [mayR, m1, m2, m3, m4, m5, m5a, m6, regsR, badR, E, oi_or, ai_and, fourA, mayA, badA, restA, sameSh, regsB, numsB, isW]
  simp [inB, shD, shN, shM, shA, shI, shO, shC, shR, shS]
  try grind
theorem mayR_4 (w d n m a : Int) (imm : W64) (off cond r s : Int) : mayR 4 w d n m a imm off cond r s = mayA 4 w d n m a imm off cond r s := by
  have E : hasA 4 [101] = false ∧ hasA 4 [98] = true ∧ hasA 4 [116] = false ∧ hasA 4 [100, 101] = true ∧ hasA 4 [110, 98] = true ∧ hasA 4 [109, 116] = false ∧ hasA 4 [97] = false ∧ hasA 4 [115, 104] = false ∧ hasA 4 [114] = false ∧ hasA 4 [99, 107] = false ∧ hasA 4 [105, 108, 119, 117, 102] = true ∧ hasA 4 [106, 103] = false ∧ hasA 4 [122] = false ∧ hasA 4 [104] = false ∧ hasA 4 [105] = true ∧ hasA 4 [119] = false ∧ hasA 4 [117] = false ∧ hasA 4 [102] = false ∧ hasA 4 [108] = false ∧ hasA 4 [106] = false ∧ hasA 4 [103] = false := by decide +kernel
  simp only [mayR, m1, m2, m3, m4, m5, m5a, m6, regsR, badR, E, oi_or, ai_and, fourA, mayA, badA, restA, sameSh, regsB, numsB, isW]
  simp [inB, shD, shN, shM, shA, shI, shO, shC, shR, shS]
  try grind
theorem mayR_5 (w d n m a : Int) (imm : W64) (off cond r s : Int) : mayR 5 w d n m a imm off cond r s = mayA 5 w d n m a imm off cond r s := by
  have E : hasA 5 [101] = false ∧ hasA 5 [98] = false ∧ hasA 5 [116] = false ∧ hasA 5 [100, 101] = true ∧ hasA 5 [110, 98] = true ∧ hasA 5 [109, 116] = true ∧ hasA 5 [97] = false ∧ hasA 5 [115, 104] = true ∧ hasA 5 [114] = false ∧ hasA 5 [99, 107] = false ∧ hasA 5 [105, 108, 119, 117, 102] = false ∧ hasA 5 [106, 103] = false ∧ hasA 5 [122] = false ∧ hasA 5 [104] = false ∧ hasA 5 [105] = false ∧ hasA 5 [119] = false ∧ hasA 5 [117] = false ∧ hasA 5 [102] = false ∧ hasA 5 [108] = false ∧ hasA 5 [106] = false ∧ hasA 5 [103] = false := by decide +kernel
  simp only [mayR, m1, m2, m3, m4, m5, m5a, m6, regsR, badR, E, oi_or, ai_and, fourA, mayA, badA, restA, sameSh, regsB, numsB, isW]
  simp [inB, shD, shN, shM, shA, shI, shO, shC, shR, shS]
  try grind
theorem mayR_6 (w d n m a : Int) (imm : W64) (off cond r s : Int) : mayR 6 w d n m a imm off cond r s = mayA 6 w d n m a imm off cond r s := by
  have E : hasA 6 [101] = false ∧ hasA 6 [98] = false ∧ hasA 6 [116] = false ∧ hasA 6 [100, 101] = true ∧ hasA 6 [110, 98] = true ∧ hasA 6 [109, 116] = true ∧ hasA 6 [97] = false ∧ hasA 6 [115, 104] = true ∧ hasA 6 [114] = false ∧ hasA 6 [99, 107] = false ∧ hasA 6 [105, 108, 119, 117, 102] = false ∧ hasA 6 [106, 103] = false ∧ hasA 6 [122] = false ∧ hasA 6 [104] = false ∧ hasA 6 [105] = false ∧ hasA 6 [119] = false ∧ hasA 6 [117] = false ∧ hasA 6 [102] = false ∧ hasA 6 [108] = false ∧ hasA 6 [106] = false ∧ hasA 6 [103] = false := by decide +kernel
  simp only [mayR, m1, m2, m3, m4, m5, m5a, m6, regsR, badR, E, oi_or, ai_and, fourA, mayA, badA, restA, sameSh, regsB, numsB, isW]
  simp [inB, shD, shN, shM, shA, shI, shO, shC, shR, shS]
  try grind
theorem mayR_7 (w d n m a : Int) (imm : W64) (off cond r s : Int) : mayR 7 w d n m a imm off cond r s = mayA 7 w d n m a imm off cond r s := by
  have E : hasA 7 [101] = false ∧ hasA 7 [98] = false ∧ hasA 7 [116] = false ∧ hasA 7 [100, 101] = true ∧ hasA 7 [110, 98] = true ∧ hasA 7 [109, 116] = true ∧ hasA 7 [97] = false ∧ hasA 7 [115, 104] = true ∧ hasA 7 [114] = false ∧ hasA 7 [99, 107] = false ∧ hasA 7 [105, 108, 119, 117, 102] = false ∧ hasA 7 [106, 103] = false ∧ hasA 7 [122] = false ∧ hasA 7 [104] = false ∧ hasA 7 [105] = false ∧ hasA 7 [119] = false ∧ hasA 7 [117] = false ∧ hasA 7 [102] = false ∧ hasA 7 [108] = false ∧ hasA 7 [106] = false ∧ hasA 7 [103] = false := by decide +kernel
  simp only [mayR, m1, m2, m3, m4, m5, m5a, m6, regsR, badR, E, oi_or, ai_and, fourA, mayA, badA, restA, sameSh, regsB, numsB, isW]
  simp [inB, shD, shN, shM, shA, shI, shO, shC, shR, shS]
  try grind
theorem mayR_8 (w d n m a : Int) (imm : W64) (off cond r s : Int) : mayR 8 w d n m a imm off cond r s = mayA 8 w d n m a imm off cond r s := by
  have E : hasA 8 [101] = false ∧ hasA 8 [98] = false ∧ hasA 8 [116] = false ∧ hasA 8 [100, 101] = true ∧ hasA 8 [110, 98] = true ∧ hasA 8 [109, 116] = true ∧ hasA 8 [97] = false ∧ hasA 8 [115, 104] = true ∧ hasA 8 [114] = false ∧ hasA 8 [99, 107] = false ∧ hasA 8 [105, 108, 119, 117, 102] = false ∧ hasA 8 [106, 103] = false ∧ hasA 8 [122] = false ∧ hasA 8 [104] = false ∧ hasA 8 [105] = false ∧ hasA 8 [119] = false ∧ hasA 8 [117] = false ∧ hasA 8 [102] = false ∧ hasA 8 [108] = false ∧ hasA 8 [106] = false ∧ hasA 8 [103] = false := by decide +kernel
  simp only [mayR, m1, m2, m3, m4, m5, m5a, m6, regsR, badR, E, oi_or, ai_and, fourA, mayA, badA, restA, sameSh, regsB, numsB, isW]
  simp [inB, shD, shN, shM, shA, shI, shO, shC, shR, shS]
  try grind
theorem mayR_9 (w d n m a : Int) (imm : W64) (off cond r s : Int) : mayR 9 w d n m a imm off cond r s = mayA 9 w d n m a imm off cond r s := by
  have E : hasA 9 [101] = false ∧ hasA 9 [98] = false ∧ hasA 9 [116] = false ∧ hasA 9 [100, 101] = true ∧ hasA 9 [110, 98] = true ∧ hasA 9 [109, 116] = true ∧ hasA 9 [97] = false ∧ hasA 9 [115, 104] = true ∧ hasA 9 [114] = false ∧ hasA 9 [99, 107] = false ∧ hasA 9 [105, 108, 119, 117, 102] = false ∧ hasA 9 [106, 103] = false ∧ hasA 9 [122] = false ∧ hasA 9 [104] = false ∧ hasA 9 [105] = false ∧ hasA 9 [119] = false ∧ hasA 9 [117] = false ∧ hasA 9 [102] = false ∧ hasA 9 [108] = false ∧ hasA 9 [106] = false ∧ hasA 9 [103] = false := by decide +kernel
  simp only [mayR, m1, m2, m3, m4, m5, m5a, m6, regsR, badR, E, oi_or, ai_and, fourA, mayA, badA, restA, sameSh, regsB, numsB, isW]
  simp [inB, shD, shN, shM, shA, shI, shO, shC, shR, shS]
  try grind
theorem mayR_10 (w d n m a : Int) (imm : W64) (off cond r s : Int) : mayR 10 w d n m a imm off cond r s = mayA 10 w d n m a imm off cond r s := by
  have E : hasA 10 [101] = false ∧ hasA 10 [98] = false ∧ hasA 10 [116] = false ∧ hasA 10 [100, 101] = true ∧ hasA 10 [110, 98] = true ∧ hasA 10 [109, 116] = true ∧ hasA 10 [97] = false ∧ hasA 10 [115, 104] = true ∧ hasA 10 [114] = false ∧ hasA 10 [99, 107] = false ∧ hasA 10 [105, 108, 119, 117, 102] = false ∧ hasA 10 [106, 103] = false ∧ hasA 10 [122] = false ∧ hasA 10 [104] = false ∧ hasA 10 [105] = false ∧ hasA 10 [119] = false ∧ hasA 10 [117] = false ∧ hasA 10 [102] = false ∧ hasA 10 [108] = false ∧ hasA 10 [106] = false ∧ hasA 10 [103] = false := by decide +kernel
  simp only [mayR, m1, m2, m3, m4, m5, m5a, m6, regsR, badR, E, oi_or, ai_and, fourA, mayA, badA, restA, sameSh, regsB, numsB, isW]
  simp [inB, shD, shN, shM, shA, shI, shO, shC, shR, shS]
  try grind
theorem mayR_11 (w d n m a : Int) (imm : W64) (off cond r s : Int) : mayR 11 w d n m a imm off cond r s = mayA 11 w d n m a imm off cond r s := by
  have E : hasA 11 [101] = false ∧ hasA 11 [98] = false ∧ hasA 11 [116] = false ∧ hasA 11 [100, 101] = true ∧ hasA 11 [110, 98] = true ∧ hasA 11 [109, 116] = true ∧ hasA 11 [97] = false ∧ hasA 11 [115, 104] = true ∧ hasA 11 [114] = false ∧ hasA 11 [99, 107] = false ∧ hasA 11 [105, 108, 119, 117, 102] = false ∧ hasA 11 [106, 103] = false ∧ hasA 11 [122] = false ∧ hasA 11 [104] = false ∧ hasA 11 [105] = false ∧ hasA 11 [119] = false ∧ hasA 11 [117] = false ∧ hasA 11 [102] = false ∧ hasA 11 [108] = false ∧ hasA 11 [106] = false ∧ hasA 11 [103] = false := by decide +kernel
  simp only [mayR, m1, m2, m3, m4, m5, m5a, m6, regsR, badR, E, oi_or, ai_and, fourA, mayA, badA, restA, sameSh, regsB, numsB, isW]
  simp [inB, shD, shN, shM, shA, shI, shO, shC, shR, shS]
  try grind
theorem mayR_12 (w d n m a : Int) (imm : W64) (off cond r s : Int) : mayR 12 w d n m a imm off cond r s = mayA 12 w d n m a imm off cond r s := by
  have E : hasA 12 [101] = false ∧ hasA 12 [98] = false ∧ hasA 12 [116] = false ∧ hasA 12 [100, 101] = true ∧ hasA 12 [110, 98] = true ∧ hasA 12 [109, 116] = true ∧ hasA 12 [97] = false ∧ hasA 12 [115, 104] = true ∧ hasA 12 [114] = false ∧ hasA 12 [99, 107] = false ∧ hasA 12 [105, 108, 119, 117, 102] = false ∧ hasA 12 [106, 103] = false ∧ hasA 12 [122] = false ∧ hasA 12 [104] = false ∧ hasA 12 [105] = false ∧ hasA 12 [119] = false ∧ hasA 12 [117] = false ∧ hasA 12 [102] = false ∧ hasA 12 [108] = false ∧ hasA 12 [106] = false ∧ hasA 12 [103] = false := by decide +kernel
  simp only [mayR, m1, m2, m3, m4, m5, m5a, m6, regsR, badR, E, oi_or, ai_and, fourA, mayA, badA, restA, sameSh, regsB, numsB, isW]
  simp [inB, shD, shN, shM, shA, shI, shO, shC, shR, shS]
  try grind
theorem mayR_13 (w d n m a : Int) (imm : W64) (off cond r s : Int) : mayR 13 w d n m a imm off cond r s = mayA 13 w d n m a imm off cond r s := by
  have E : hasA 13 [101] = true ∧ hasA 13 [98] = false ∧ hasA 13 [116] = false ∧ hasA 13 [100, 101] = true ∧ hasA 13 [110, 98] = true ∧ hasA 13 [109, 116] = false ∧ hasA 13 [97] = false ∧ hasA 13 [115, 104] = false ∧ hasA 13 [114] = false ∧ hasA 13 [99, 107] = false ∧ hasA 13 [105, 108, 119, 117, 102] = true ∧ hasA 13 [106, 103] = false ∧ hasA 13 [122] = false ∧ hasA 13 [104] = false ∧ hasA 13 [105] = false ∧ hasA 13 [119] = false ∧ hasA 13 [117] = false ∧ hasA 13 [102] = false ∧ hasA 13 [108] = true ∧ hasA 13 [106] = false ∧ hasA 13 [103] = false := by decide +kernel
  simp only [mayR, m1, m2, m3, m4, m5, m5a, m6, regsR, badR, E, oi_or, ai_and, fourA, mayA, badA, restA, sameSh, regsB, numsB, isW]
  simp [inB, shD, shN, shM, shA, shI, shO, shC, shR, shS]
  try grind
theorem mayR_14 (w d n m a : Int) (imm : W64) (off cond r s : Int) : mayR 14 w d n m a imm off cond r s = mayA 14 w d n m a imm off cond r s := by
  have E : hasA 14 [101] = true ∧ hasA 14 [98] = false ∧ hasA 14 [116] = false ∧ hasA 14 [100, 101] = true ∧ hasA 14 [110, 98] = true ∧ hasA 14 [109, 116] = false ∧ hasA 14 [97] = false ∧ hasA 14 [115, 104] = false ∧ hasA 14 [114] = false ∧ hasA 14 [99, 107] = false ∧ hasA 14 [105, 108, 119, 117, 102] = true ∧ hasA 14 [106, 103] = false ∧ hasA 14 [122] = false ∧ hasA 14 [104] = false ∧ hasA 14 [105] = false ∧ hasA 14 [119] = false ∧ hasA 14 [117] = false ∧ hasA 14 [102] = false ∧ hasA 14 [108] = true ∧ hasA 14 [106] = false ∧ hasA 14 [103] = false := by decide +kernel
  simp only [mayR, m1, m2, m3, m4, m5, m5a, m6, regsR, badR, E, oi_or, ai_and, fourA, mayA, badA, restA, sameSh, regsB, numsB, isW]
  simp [inB, shD, shN, shM, shA, shI, shO, shC, shR, shS]
  try grind
theorem mayR_15 (w d n m a : Int) (imm : W64) (off cond r s : Int) : mayR 15 w d n m a imm off cond r s = mayA 15 w d n m a imm off cond r s := by
  have E : hasA 15 [101] = true ∧ hasA 15 [98] = false ∧ hasA 15 [116] = false ∧ hasA 15 [100, 101] = true ∧ hasA 15 [110, 98] = true ∧ hasA 15 [109, 116] = false ∧ hasA 15 [97] = false ∧ hasA 15 [115, 104] = false ∧ hasA 15 [114] = false ∧ hasA 15 [99, 107] = false ∧ hasA 15 [105, 108, 119, 117, 102] = true ∧ hasA 15 [106, 103] = false ∧ hasA 15 [122] = false ∧ hasA 15 [104] = false ∧ hasA 15 [105] = false ∧ hasA 15 [119] = false ∧ hasA 15 [117] = false ∧ hasA 15 [102] = false ∧ hasA 15 [108] = true ∧ hasA 15 [106] = false ∧ hasA 15 [103] = false := by decide +kernel
  simp only [mayR, m1, m2, m3, m4, m5, m5a, m6, regsR, badR, E, oi_or, ai_and, fourA, mayA, badA, restA, sameSh, regsB, numsB, isW]
  simp [inB, shD, shN, shM, shA, shI, shO, shC, shR, shS]
  try grind
theorem mayR_16 (w d n m a : Int) (imm : W64) (off cond r s : Int) : mayR 16 w d n m a imm off cond r s = mayA 16 w d n m a imm off cond r s := by
  have E : hasA 16 [101] = false ∧ hasA 16 [98] = false ∧ hasA 16 [116] = false ∧ hasA 16 [100, 101] = true ∧ hasA 16 [110, 98] = false ∧ hasA 16 [109, 116] = false ∧ hasA 16 [97] = false ∧ hasA 16 [115, 104] = true ∧ hasA 16 [114] = false ∧ hasA 16 [99, 107] = false ∧ hasA 16 [105, 108, 119, 117, 102] = true ∧ hasA 16 [106, 103] = false ∧ hasA 16 [122] = false ∧ hasA 16 [104] = true ∧ hasA 16 [105] = false ∧ hasA 16 [119] = true ∧ hasA 16 [117] = false ∧ hasA 16 [102] = false ∧ hasA 16 [108] = false ∧ hasA 16 [106] = false ∧ hasA 16 [103] = false := by decide +kernel
  simp only [mayR, m1, m2, m3, m4, m5, m5a, m6, regsR, badR, E, oi_or, ai_and, fourA, mayA, badA, restA, sameSh, regsB, numsB, isW]
  simp [inB, shD, shN, shM, shA, shI, shO, shC, shR, shS]
  try grind
theorem mayR_17 (w d n m a : Int) (imm : W64) (off cond r s : Int) : mayR 17 w d n m a imm off cond r s = mayA 17 w d n m a imm off cond r s := by
  have E : hasA 17 [101] = false ∧ hasA 17 [98] = false ∧ hasA 17 [116] = false ∧ hasA 17 [100, 101] = true ∧ hasA 17 [110, 98] = false ∧ hasA 17 [109, 116] = false ∧ hasA 17 [97] = false ∧ hasA 17 [115, 104] = true ∧ hasA 17 [114] = false ∧ hasA 17 [99, 107] = false ∧ hasA 17 [105, 108, 119, 117, 102] = true ∧ hasA 17 [106, 103] = false ∧ hasA 17 [122] = false ∧ hasA 17 [104] = true ∧ hasA 17 [105] = false ∧ hasA 17 [119] = true ∧ hasA 17 [117] = false ∧ hasA 17 [102] = false ∧ hasA 17 [108] = false ∧ hasA 17 [106] = false ∧ hasA 17 [103] = false := by decide +kernel
  simp only [mayR, m1, m2, m3, m4, m5, m5a, m6, regsR, badR, E, oi_or, ai_and, fourA, mayA, badA, restA, sameSh, regsB, numsB, isW]
  simp [inB, shD, shN, shM, shA, shI, shO, shC, shR, shS]
  try grind
theorem mayR_18 (w d n m a : Int) (imm : W64) (off cond r s : Int) : mayR 18 w d n m a imm off cond r s = mayA 18 w d n m a imm off cond r s := by
  have E : hasA 18 [101] = false ∧ hasA 18 [98] = false ∧ hasA 18 [116] = false ∧ hasA 18 [100, 101] = true ∧ hasA 18 [110, 98] = false ∧ hasA 18 [109, 116] = false ∧ hasA 18 [97] = false ∧ hasA 18 [115, 104] = true ∧ hasA 18 [114] = false ∧ hasA 18 [99, 107] = false ∧ hasA 18 [105, 108, 119, 117, 102] = true ∧ hasA 18 [106, 103] = false ∧ hasA 18 [122] = false ∧ hasA 18 [104] = true ∧ hasA 18 [105] = false ∧ hasA 18 [119] = true ∧ hasA 18 [117] = false ∧ hasA 18 [102] = false ∧ hasA 18 [108] = false ∧ hasA 18 [106] = false ∧ hasA 18 [103] = false := by decide +kernel
  simp only [mayR, m1, m2, m3, m4, m5, m5a, m6, regsR, badR, E, oi_or, ai_and, fourA, mayA, badA, restA, sameSh, regsB, numsB, isW]
  simp [inB, shD, shN, shM, shA, shI, shO, shC, shR, shS]
  try grind
theorem mayR_19 (w d n m a : Int) (imm : W64) (off cond r s : Int) : mayR 19 w d n m a imm off cond r s = mayA 19 w d n m a imm off cond r s := by
  have E : hasA 19 [101] = false ∧ hasA 19 [98] = false ∧ hasA 19 [116] = false ∧ hasA 19 [100, 101] = true ∧ hasA 19 [110, 98] = true ∧ hasA 19 [109, 116] = true ∧ hasA 19 [97] = true ∧ hasA 19 [115, 104] = false ∧ hasA 19 [114] = false ∧ hasA 19 [99, 107] = false ∧ hasA 19 [105, 108, 119, 117, 102] = false ∧ hasA 19 [106, 103] = false ∧ hasA 19 [122] = false ∧ hasA 19 [104] = false ∧ hasA 19 [105] = false ∧ hasA 19 [119] = false ∧ hasA 19 [117] = false ∧ hasA 19 [102] = false ∧ hasA 19 [108] = false ∧ hasA 19 [106] = false ∧ hasA 19 [103] = false := by decide +kernel
  simp only [mayR, m1, m2, m3, m4, m5, m5a, m6, regsR, badR, E, oi_or, ai_and, fourA, mayA, badA, restA, sameSh, regsB, numsB, isW]
  simp [inB, shD, shN, shM, shA, shI, shO, shC, shR, shS]
  try grind
theorem mayR_20 (w d n m a : Int) (imm : W64) (off cond r s : Int) : mayR 20 w d n m a imm off cond r s = mayA 20 w d n m a imm off cond r s := by
  have E : hasA 20 [101] = false ∧ hasA 20 [98] = false ∧ hasA 20 [116] = false ∧ hasA 20 [100, 101] = true ∧ hasA 20 [110, 98] = true ∧ hasA 20 [109, 116] = true ∧ hasA 20 [97] = true ∧ hasA 20 [115, 104] = false ∧ hasA 20 [114] = false ∧ hasA 20 [99, 107] = false ∧ hasA 20 [105, 108, 119, 117, 102] = false ∧ hasA 20 [106, 103] = false ∧ hasA 20 [122] = false ∧ hasA 20 [104] = false ∧ hasA 20 [105] = false ∧ hasA 20 [119] = false ∧ hasA 20 [117] = false ∧ hasA 20 [102] = false ∧ hasA 20 [108] = false ∧ hasA 20 [106] = false ∧ hasA 20 [103] = false := by decide +kernel
  simp only [mayR, m1, m2, m3, m4, m5, m5a, m6, regsR, badR, E, oi_or, ai_and, fourA, mayA, badA, restA, sameSh, regsB, numsB, isW]
  simp [inB, shD, shN, shM, shA, shI, shO, shC, shR, shS]
  try grind
theorem mayR_21 (w d n m a : Int) (imm : W64) (off cond r s : Int) : mayR 21 w d n m a imm off cond r s = mayA 21 w d n m a imm off cond r s := by
  have E : hasA 21 [101] = false ∧ hasA 21 [98] = false ∧ hasA 21 [116] = false ∧ hasA 21 [100, 101] = true ∧ hasA 21 [110, 98] = true ∧ hasA 21 [109, 116] = true ∧ hasA 21 [97] = false ∧ hasA 21 [115, 104] = false ∧ hasA 21 [114] = false ∧ hasA 21 [99, 107] = false ∧ hasA 21 [105, 108, 119, 117, 102] = false ∧ hasA 21 [106, 103] = false ∧ hasA 21 [122] = false ∧ hasA 21 [104] = false ∧ hasA 21 [105] = false ∧ hasA 21 [119] = false ∧ hasA 21 [117] = false ∧ hasA 21 [102] = false ∧ hasA 21 [108] = false ∧ hasA 21 [106] = false ∧ hasA 21 [103] = false := by decide +kernel
  simp only [mayR, m1, m2, m3, m4, m5, m5a, m6, regsR, badR, E, oi_or, ai_and, fourA, mayA, badA, restA, sameSh, regsB, numsB, isW]
  simp [inB, shD, shN, shM, shA, shI, shO, shC, shR, shS]
  try grind
theorem mayR_22 (w d n m a : Int) (imm : W64) (off cond r s : Int) : mayR 22 w d n m a imm off cond r s = mayA 22 w d n m a imm off cond r s := by
  have E : hasA 22 [101] = false ∧ hasA 22 [98] = false ∧ hasA 22 [116] = false ∧ hasA 22 [100, 101] = true ∧ hasA 22 [110, 98] = true ∧ hasA 22 [109, 116] = true ∧ hasA 22 [97] = false ∧ hasA 22 [115, 104] = false ∧ hasA 22 [114] = false ∧ hasA 22 [99, 107] = false ∧ hasA 22 [105, 108, 119, 117, 102] = false ∧ hasA 22 [106, 103] = false ∧ hasA 22 [122] = false ∧ hasA 22 [104] = false ∧ hasA 22 [105] = false ∧ hasA 22 [119] = false ∧ hasA 22 [117] = false ∧ hasA 22 [102] = false ∧ hasA 22 [108] = false ∧ hasA 22 [106] = false ∧ hasA 22 [103] = false := by decide +kernel
  simp only [mayR, m1, m2, m3, m4, m5, m5a, m6, regsR, badR, E, oi_or, ai_and, fourA, mayA, badA, restA, sameSh, regsB, numsB, isW]
  simp [inB, shD, shN, shM, shA, shI, shO, shC, shR, shS]
  try grind
theorem mayR_23 (w d n m a : Int) (imm : W64) (off cond r s : Int) : mayR 23 w d n m a imm off cond r s = mayA 23 w d n m a imm off cond r s := by
  have E : hasA 23 [101] = false ∧ hasA 23 [98] = false ∧ hasA 23 [116] = false ∧ hasA 23 [100, 101] = true ∧ hasA 23 [110, 98] = true ∧ hasA 23 [109, 116] = true ∧ hasA 23 [97] = false ∧ hasA 23 [115, 104] = false ∧ hasA 23 [114] = false ∧ hasA 23 [99, 107] = false ∧ hasA 23 [105, 108, 119, 117, 102] = false ∧ hasA 23 [106, 103] = false ∧ hasA 23 [122] = false ∧ hasA 23 [104] = false ∧ hasA 23 [105] = false ∧ hasA 23 [119] = false ∧ hasA 23 [117] = false ∧ hasA 23 [102] = false ∧ hasA 23 [108] = false ∧ hasA 23 [106] = false ∧ hasA 23 [103] = false := by decide +kernel
  simp only [mayR, m1, m2, m3, m4, m5, m5a, m6, regsR, badR, E, oi_or, ai_and, fourA, mayA, badA, restA, sameSh, regsB, numsB, isW]
  simp [inB, shD, shN, shM, shA, shI, shO, shC, shR, shS]
  try grind
theorem mayR_24 (w d n m a : Int) (imm : W64) (off cond r s : Int) : mayR 24 w d n m a imm off cond r s = mayA 24 w d n m a imm off cond r s := by
  have E : hasA 24 [101] = false ∧ hasA 24 [98] = false ∧ hasA 24 [116] = false ∧ hasA 24 [100, 101] = true ∧ hasA 24 [110, 98] = true ∧ hasA 24 [109, 116] = true ∧ hasA 24 [97] = false ∧ hasA 24 [115, 104] = false ∧ hasA 24 [114] = false ∧ hasA 24 [99, 107] = false ∧ hasA 24 [105, 108, 119, 117, 102] = false ∧ hasA 24 [106, 103] = false ∧ hasA 24 [122] = false ∧ hasA 24 [104] = false ∧ hasA 24 [105] = false ∧ hasA 24 [119] = false ∧ hasA 24 [117] = false ∧ hasA 24 [102] = false ∧ hasA 24 [108] = false ∧ hasA 24 [106] = false ∧ hasA 24 [103] = false := by decide +kernel
  simp only [mayR, m1, m2, m3, m4, m5, m5a, m6, regsR, badR, E, oi_or, ai_and, fourA, mayA, badA, restA, sameSh, regsB, numsB, isW]
  simp [inB, shD, shN, shM, shA, shI, shO, shC, shR, shS]
  try grind
theorem mayR_25 (w d n m a : Int) (imm : W64) (off cond r s : Int) : mayR 25 w d n m a imm off cond r s = mayA 25 w d n m a imm off cond r s := by
  have E : hasA 25 [101] = false ∧ hasA 25 [98] = false ∧ hasA 25 [116] = false ∧ hasA 25 [100, 101] = true ∧ hasA 25 [110, 98] = true ∧ hasA 25 [109, 116] = true ∧ hasA 25 [97] = false ∧ hasA 25 [115, 104] = false ∧ hasA 25 [114] = false ∧ hasA 25 [99, 107] = false ∧ hasA 25 [105, 108, 119, 117, 102] = false ∧ hasA 25 [106, 103] = false ∧ hasA 25 [122] = false ∧ hasA 25 [104] = false ∧ hasA 25 [105] = false ∧ hasA 25 [119] = false ∧ hasA 25 [117] = false ∧ hasA 25 [102] = false ∧ hasA 25 [108] = false ∧ hasA 25 [106] = false ∧ hasA 25 [103] = false := by decide +kernel
  simp only [mayR, m1, m2, m3, m4, m5, m5a, m6, regsR, badR, E, oi_or, ai_and, fourA, mayA, badA, restA, sameSh, regsB, numsB, isW]
  simp [inB, shD, shN, shM, shA, shI, shO, shC, shR, shS]
  try grind
theorem mayR_26 (w d n m a : Int) (imm : W64) (off cond r s : Int) : mayR 26 w d n m a imm off cond r s = mayA 26 w d n m a imm off cond r s := by
  have E : hasA 26 [101] = false ∧ hasA 26 [98] = false ∧ hasA 26 [116] = false ∧ hasA 26 [100, 101] = true ∧ hasA 26 [110, 98] = true ∧ hasA 26 [109, 116] = true ∧ hasA 26 [97] = false ∧ hasA 26 [115, 104] = false ∧ hasA 26 [114] = false ∧ hasA 26 [99, 107] = false ∧ hasA 26 [105, 108, 119, 117, 102] = false ∧ hasA 26 [106, 103] = false ∧ hasA 26 [122] = false ∧ hasA 26 [104] = false ∧ hasA 26 [105] = false ∧ hasA 26 [119] = false ∧ hasA 26 [117] = false ∧ hasA 26 [102] = false ∧ hasA 26 [108] = false ∧ hasA 26 [106] = false ∧ hasA 26 [103] = false := by decide +kernel
  simp only [mayR, m1, m2, m3, m4, m5, m5a, m6, regsR, badR, E, oi_or, ai_and, fourA, mayA, badA, restA, sameSh, regsB, numsB, isW]
  simp [inB, shD, shN, shM, shA, shI, shO, shC, shR, shS]
  try grind
theorem mayR_27 (w d n m a : Int) (imm : W64) (off cond r s : Int) : mayR 27 w d n m a imm off cond r s = mayA 27 w d n m a imm off cond r s := by
  have E : hasA 27 [101] = false ∧ hasA 27 [98] = false ∧ hasA 27 [116] = false ∧ hasA 27 [100, 101] = true ∧ hasA 27 [110, 98] = true ∧ hasA 27 [109, 116] = true ∧ hasA 27 [97] = false ∧ hasA 27 [115, 104] = false ∧ hasA 27 [114] = false ∧ hasA 27 [99, 107] = false ∧ hasA 27 [105, 108, 119, 117, 102] = false ∧ hasA 27 [106, 103] = false ∧ hasA 27 [122] = false ∧ hasA 27 [104] = false ∧ hasA 27 [105] = false ∧ hasA 27 [119] = false ∧ hasA 27 [117] = false ∧ hasA 27 [102] = false ∧ hasA 27 [108] = false ∧ hasA 27 [106] = false ∧ hasA 27 [103] = false := by decide +kernel
  simp only [mayR, m1, m2, m3, m4, m5, m5a, m6, regsR, badR, E, oi_or, ai_and, fourA, mayA, badA, restA, sameSh, regsB, numsB, isW]
  simp [inB, shD, shN, shM, shA, shI, shO, shC, shR, shS]
  try grind
theorem mayR_28 (w d n m a : Int) (imm : W64) (off cond r s : Int) : mayR 28 w d n m a imm off cond r s = mayA 28 w d n m a imm off cond r s := by
  have E : hasA 28 [101] = false ∧ hasA 28 [98] = false ∧ hasA 28 [116] = false ∧ hasA 28 [100, 101] = true ∧ hasA 28 [110, 98] = true ∧ hasA 28 [109, 116] = true ∧ hasA 28 [97] = false ∧ hasA 28 [115, 104] = false ∧ hasA 28 [114] = false ∧ hasA 28 [99, 107] = false ∧ hasA 28 [105, 108, 119, 117, 102] = false ∧ hasA 28 [106, 103] = false ∧ hasA 28 [122] = false ∧ hasA 28 [104] = false ∧ hasA 28 [105] = false ∧ hasA 28 [119] = false ∧ hasA 28 [117] = false ∧ hasA 28 [102] = false ∧ hasA 28 [108] = false ∧ hasA 28 [106] = false ∧ hasA 28 [103] = false := by decide +kernel
  simp only [mayR, m1, m2, m3, m4, m5, m5a, m6, regsR, badR, E, oi_or, ai_and, fourA, mayA, badA, restA, sameSh, regsB, numsB, isW]
  simp [inB, shD, shN, shM, shA, shI, shO, shC, shR, shS]
  try grind
theorem mayR_29 (w d n m a : Int) (imm : W64) (off cond r s : Int) : mayR 29 w d n m a imm off cond r s = mayA 29 w d n m a imm off cond r s := by
  have E : hasA 29 [101] = false ∧ hasA 29 [98] = false ∧ hasA 29 [116] = false ∧ hasA 29 [100, 101] = true ∧ hasA 29 [110, 98] = true ∧ hasA 29 [109, 116] = false ∧ hasA 29 [97] = false ∧ hasA 29 [115, 104] = true ∧ hasA 29 [114] = true ∧ hasA 29 [99, 107] = false ∧ hasA 29 [105, 108, 119, 117, 102] = false ∧ hasA 29 [106, 103] = false ∧ hasA 29 [122] = false ∧ hasA 29 [104] = false ∧ hasA 29 [105] = false ∧ hasA 29 [119] = false ∧ hasA 29 [117] = false ∧ hasA 29 [102] = false ∧ hasA 29 [108] = false ∧ hasA 29 [106] = false ∧ hasA 29 [103] = false := by decide +kernel
  simp only [mayR, m1, m2, m3, m4, m5, m5a, m6, regsR, badR, E, oi_or, ai_and, fourA, mayA, badA, restA, sameSh, regsB, numsB, isW]
  simp [inB, shD, shN, shM, shA, shI, shO, shC, shR, shS]
  try grind
theorem mayR_30 (w d n m a : Int) (imm : W64) (off cond r s : Int) : mayR 30 w d n m a imm off cond r s = mayA 30 w d n m a imm off cond r s := by
  have E : hasA 30 [101] = false ∧ hasA 30 [98] = false ∧ hasA 30 [116] = false ∧ hasA 30 [100, 101] = true ∧ hasA 30 [110, 98] = true ∧ hasA 30 [109, 116] = false ∧ hasA 30 [97] = false ∧ hasA 30 [115, 104] = true ∧ hasA 30 [114] = true ∧ hasA 30 [99, 107] = false ∧ hasA 30 [105, 108, 119, 117, 102] = false ∧ hasA 30 [106, 103] = false ∧ hasA 30 [122] = false ∧ hasA 30 [104] = false ∧ hasA 30 [105] = false ∧ hasA 30 [119] = false ∧ hasA 30 [117] = false ∧ hasA 30 [102] = false ∧ hasA 30 [108] = false ∧ hasA 30 [106] = false ∧ hasA 30 [103] = false := by decide +kernel
  simp only [mayR, m1, m2, m3, m4, m5, m5a, m6, regsR, badR, E, oi_or, ai_and, fourA, mayA, badA, restA, sameSh, regsB, numsB, isW]
  simp [inB, shD, shN, shM, shA, shI, shO, shC, shR, shS]
  try grind
theorem mayR_31 (w d n m a : Int) (imm : W64) (off cond r s : Int) : mayR 31 w d n m a imm off cond r s = mayA 31 w d n m a imm off cond r s := by
  have E : hasA 31 [101] = false ∧ hasA 31 [98] = false ∧ hasA 31 [116] = false ∧ hasA 31 [100, 101] = true ∧ hasA 31 [110, 98] = true ∧ hasA 31 [109, 116] = true ∧ hasA 31 [97] = false ∧ hasA 31 [115, 104] = false ∧ hasA 31 [114] = false ∧ hasA 31 [99, 107] = true ∧ hasA 31 [105, 108, 119, 117, 102] = false ∧ hasA 31 [106, 103] = false ∧ hasA 31 [122] = false ∧ hasA 31 [104] = false ∧ hasA 31 [105] = false ∧ hasA 31 [119] = false ∧ hasA 31 [117] = false ∧ hasA 31 [102] = false ∧ hasA 31 [108] = false ∧ hasA 31 [106] = false ∧ hasA 31 [103] = false := by decide +kernel
  simp only [mayR, m1, m2, m3, m4, m5, m5a, m6, regsR, badR, E, oi_or, ai_and, fourA, mayA, badA, restA, sameSh, regsB, numsB, isW]
  simp [inB, shD, shN, shM, shA, shI, shO, shC, shR, shS]
  try grind
theorem mayR_32 (w d n m a : Int) (imm : W64) (off cond r s : Int) : mayR 32 w d n m a imm off cond r s = mayA 32 w d n m a imm off cond r s := by
  have E : hasA 32 [101] = false ∧ hasA 32 [98] = false ∧ hasA 32 [116] = false ∧ hasA 32 [100, 101] = true ∧ hasA 32 [110, 98] = true ∧ hasA 32 [109, 116] = true ∧ hasA 32 [97] = false ∧ hasA 32 [115, 104] = false ∧ hasA 32 [114] = false ∧ hasA 32 [99, 107] = true ∧ hasA 32 [105, 108, 119, 117, 102] = false ∧ hasA 32 [106, 103] = false ∧ hasA 32 [122] = false ∧ hasA 32 [104] = false ∧ hasA 32 [105] = false ∧ hasA 32 [119] = false ∧ hasA 32 [117] = false ∧ hasA 32 [102] = false ∧ hasA 32 [108] = false ∧ hasA 32 [106] = false ∧ hasA 32 [103] = false := by decide +kernel
  simp only [mayR, m1, m2, m3, m4, m5, m5a, m6, regsR, badR, E, oi_or, ai_and, fourA, mayA, badA, restA, sameSh, regsB, numsB, isW]
  simp [inB, shD, shN, shM, shA, shI, shO, shC, shR, shS]
  try grind
theorem mayR_33 (w d n m a : Int) (imm : W64) (off cond r s : Int) : mayR 33 w d n m a imm off cond r s = mayA 33 w d n m a imm off cond r s := by
  have E : hasA 33 [101] = false ∧ hasA 33 [98] = true ∧ hasA 33 [116] = false ∧ hasA 33 [100, 101] = true ∧ hasA 33 [110, 98] = true ∧ hasA 33 [109, 116] = false ∧ hasA 33 [97] = false ∧ hasA 33 [115, 104] = false ∧ hasA 33 [114] = false ∧ hasA 33 [99, 107] = false ∧ hasA 33 [105, 108, 119, 117, 102] = true ∧ hasA 33 [106, 103] = false ∧ hasA 33 [122] = true ∧ hasA 33 [104] = false ∧ hasA 33 [105] = false ∧ hasA 33 [119] = false ∧ hasA 33 [117] = true ∧ hasA 33 [102] = false ∧ hasA 33 [108] = false ∧ hasA 33 [106] = false ∧ hasA 33 [103] = false := by decide +kernel
  simp only [mayR, m1, m2, m3, m4, m5, m5a, m6, regsR, badR, E, oi_or, ai_and, fourA, mayA, badA, restA, sameSh, regsB, numsB, isW]
  simp [inB, shD, shN, shM, shA, shI, shO, shC, shR, shS]
  try grind
theorem mayR_34 (w d n m a : Int) (imm : W64) (off cond r s : Int) : mayR 34 w d n m a imm off cond r s = mayA 34 w d n m a imm off cond r s := by
  have E : hasA 34 [101] = false ∧ hasA 34 [98] = true ∧ hasA 34 [116] = false ∧ hasA 34 [100, 101] = true ∧ hasA 34 [110, 98] = true ∧ hasA 34 [109, 116] = false ∧ hasA 34 [97] = false ∧ hasA 34 [115, 104] = false ∧ hasA 34 [114] = false ∧ hasA 34 [99, 107] = false ∧ hasA 34 [105, 108, 119, 117, 102] = true ∧ hasA 34 [106, 103] = false ∧ hasA 34 [122] = true ∧ hasA 34 [104] = false ∧ hasA 34 [105] = false ∧ hasA 34 [119] = false ∧ hasA 34 [117] = true ∧ hasA 34 [102] = false ∧ hasA 34 [108] = false ∧ hasA 34 [106] = false ∧ hasA 34 [103] = false := by decide +kernel
  simp only [mayR, m1, m2, m3, m4, m5, m5a, m6, regsR, badR, E, oi_or, ai_and, fourA, mayA, badA, restA, sameSh, regsB, numsB, isW]
  simp [inB, shD, shN, shM, shA, shI, shO, shC, shR, shS]
  try grind
theorem mayR_35 (w d n m a : Int) (imm : W64) (off cond r s : Int) : mayR 35 w d n m a imm off cond r s = mayA 35 w d n m a imm off cond r s := by
  have E : hasA 35 [101] = false ∧ hasA 35 [98] = true ∧ hasA 35 [116] = false ∧ hasA 35 [100, 101] = true ∧ hasA 35 [110, 98] = true ∧ hasA 35 [109, 116] = false ∧ hasA 35 [97] = false ∧ hasA 35 [115, 104] = false ∧ hasA 35 [114] = false ∧ hasA 35 [99, 107] = false ∧ hasA 35 [105, 108, 119, 117, 102] = false ∧ hasA 35 [106, 103] = false ∧ hasA 35 [122] = true ∧ hasA 35 [104] = false ∧ hasA 35 [105] = false ∧ hasA 35 [119] = false ∧ hasA 35 [117] = false ∧ hasA 35 [102] = false ∧ hasA 35 [108] = false ∧ hasA 35 [106] = false ∧ hasA 35 [103] = false := by decide +kernel
  simp only [mayR, m1, m2, m3, m4, m5, m5a, m6, regsR, badR, E, oi_or, ai_and, fourA, mayA, badA, restA, sameSh, regsB, numsB, isW]
  simp [inB, shD, shN, shM, shA, shI, shO, shC, shR, shS]
  try grind
theorem mayR_36 (w d n m a : Int) (imm : W64) (off cond r s : Int) : mayR 36 w d n m a imm off cond r s = mayA 36 w d n m a imm off cond r s := by
  have E : hasA 36 [101] = false ∧ hasA 36 [98] = true ∧ hasA 36 [116] = false ∧ hasA 36 [100, 101] = true ∧ hasA 36 [110, 98] = true ∧ hasA 36 [109, 116] = false ∧ hasA 36 [97] = false ∧ hasA 36 [115, 104] = false ∧ hasA 36 [114] = false ∧ hasA 36 [99, 107] = false ∧ hasA 36 [105, 108, 119, 117, 102] = false ∧ hasA 36 [106, 103] = false ∧ hasA 36 [122] = true ∧ hasA 36 [104] = false ∧ hasA 36 [105] = false ∧ hasA 36 [119] = false ∧ hasA 36 [117] = false ∧ hasA 36 [102] = false ∧ hasA 36 [108] = false ∧ hasA 36 [106] = false ∧ hasA 36 [103] = false := by decide +kernel
  simp only [mayR, m1, m2, m3, m4, m5, m5a, m6, regsR, badR, E, oi_or, ai_and, fourA, mayA, badA, restA, sameSh, regsB, numsB, isW]
  simp [inB, shD, shN, shM, shA, shI, shO, shC, shR, shS]
  try grind
theorem mayR_37 (w d n m a : Int) (imm : W64) (off cond r s : Int) : mayR 37 w d n m a imm off cond r s = mayA 37 w d n m a imm off cond r s := by
  have E : hasA 37 [101] = false ∧ hasA 37 [98] = true ∧ hasA 37 [116] = false ∧ hasA 37 [100, 101] = true ∧ hasA 37 [110, 98] = true ∧ hasA 37 [109, 116] = false ∧ hasA 37 [97] = false ∧ hasA 37 [115, 104] = false ∧ hasA 37 [114] = false ∧ hasA 37 [99, 107] = false ∧ hasA 37 [105, 108, 119, 117, 102] = false ∧ hasA 37 [106, 103] = false ∧ hasA 37 [122] = true ∧ hasA 37 [104] = false ∧ hasA 37 [105] = false ∧ hasA 37 [119] = false ∧ hasA 37 [117] = false ∧ hasA 37 [102] = false ∧ hasA 37 [108] = false ∧ hasA 37 [106] = false ∧ hasA 37 [103] = false := by decide +kernel
  simp only [mayR, m1, m2, m3, m4, m5, m5a, m6, regsR, badR, E, oi_or, ai_and, fourA, mayA, badA, restA, sameSh, regsB, numsB, isW]
  simp [inB, shD, shN, shM, shA, shI, shO, shC, shR, shS]
  try grind
theorem mayR_38 (w d n m a : Int) (imm : W64) (off cond r s : Int) : mayR 38 w d n m a imm off cond r s = mayA 38 w d n m a imm off cond r s := by
  have E : hasA 38 [101] = false ∧ hasA 38 [98] = true ∧ hasA 38 [116] = true ∧ hasA 38 [100, 101] = true ∧ hasA 38 [110, 98] = true ∧ hasA 38 [109, 116] = true ∧ hasA 38 [97] = false ∧ hasA 38 [115, 104] = false ∧ hasA 38 [114] = false ∧ hasA 38 [99, 107] = false ∧ hasA 38 [105, 108, 119, 117, 102] = false ∧ hasA 38 [106, 103] = false ∧ hasA 38 [122] = true ∧ hasA 38 [104] = false ∧ hasA 38 [105] = false ∧ hasA 38 [119] = false ∧ hasA 38 [117] = false ∧ hasA 38 [102] = false ∧ hasA 38 [108] = false ∧ hasA 38 [106] = false ∧ hasA 38 [103] = false := by decide +kernel
  simp only [mayR, m1, m2, m3, m4, m5, m5a, m6, regsR, badR, E, oi_or, ai_and, fourA, mayA, badA, restA, sameSh, regsB, numsB, isW]
  simp [inB, shD, shN, shM, shA, shI, shO, shC, shR, shS]
  try grind
theorem mayR_39 (w d n m a : Int) (imm : W64) (off cond r s : Int) : mayR 39 w d n m a imm off cond r s = mayA 39 w d n m a imm off cond r s := by
  have E : hasA 39 [101] = false ∧ hasA 39 [98] = false ∧ hasA 39 [116] = false ∧ hasA 39 [100, 101] = false ∧ hasA 39 [110, 98] = false ∧ hasA 39 [109, 116] = false ∧ hasA 39 [97] = false ∧ hasA 39 [115, 104] = false ∧ hasA 39 [114] = false ∧ hasA 39 [99, 107] = false ∧ hasA 39 [105, 108, 119, 117, 102] = true ∧ hasA 39 [106, 103] = false ∧ hasA 39 [122] = false ∧ hasA 39 [104] = false ∧ hasA 39 [105] = false ∧ hasA 39 [119] = false ∧ hasA 39 [117] = false ∧ hasA 39 [102] = true ∧ hasA 39 [108] = false ∧ hasA 39 [106] = false ∧ hasA 39 [103] = false := by decide +kernel
  simp only [mayR, m1, m2, m3, m4, m5, m5a, m6, regsR, badR, E, oi_or, ai_and, fourA, mayA, badA, restA, sameSh, regsB, numsB, isW]
  simp [inB, shD, shN, shM, shA, shI, shO, shC, shR, shS]
  try grind
theorem mayR_40 (w d n m a : Int) (imm : W64) (off cond r s : Int) : mayR 40 w d n m a imm off cond r s = mayA 40 w d n m a imm off cond r s := by
  have E : hasA 40 [101] = false ∧ hasA 40 [98] = false ∧ hasA 40 [116] = false ∧ hasA 40 [100, 101] = false ∧ hasA 40 [110, 98] = false ∧ hasA 40 [109, 116] = false ∧ hasA 40 [97] = false ∧ hasA 40 [115, 104] = false ∧ hasA 40 [114] = false ∧ hasA 40 [99, 107] = false ∧ hasA 40 [105, 108, 119, 117, 102] = false ∧ hasA 40 [106, 103] = true ∧ hasA 40 [122] = false ∧ hasA 40 [104] = false ∧ hasA 40 [105] = false ∧ hasA 40 [119] = false ∧ hasA 40 [117] = false ∧ hasA 40 [102] = false ∧ hasA 40 [108] = false ∧ hasA 40 [106] = true ∧ hasA 40 [103] = false := by decide +kernel
  simp only [mayR, m1, m2, m3, m4, m5, m5a, m6, regsR, badR, E, oi_or, ai_and, fourA, mayA, badA, restA, sameSh, regsB, numsB, isW]
  simp [inB, shD, shN, shM, shA, shI, shO, shC, shR, shS]
  try grind
theorem mayR_41 (w d n m a : Int) (imm : W64) (off cond r s : Int) : mayR 41 w d n m a imm off cond r s = mayA 41 w d n m a imm off cond r s := by
  have E : hasA 41 [101] = false ∧ hasA 41 [98] = false ∧ hasA 41 [116] = false ∧ hasA 41 [100, 101] = false ∧ hasA 41 [110, 98] = false ∧ hasA 41 [109, 116] = false ∧ hasA 41 [97] = false ∧ hasA 41 [115, 104] = false ∧ hasA 41 [114] = false ∧ hasA 41 [99, 107] = true ∧ hasA 41 [105, 108, 119, 117, 102] = false ∧ hasA 41 [106, 103] = true ∧ hasA 41 [122] = false ∧ hasA 41 [104] = false ∧ hasA 41 [105] = false ∧ hasA 41 [119] = false ∧ hasA 41 [117] = false ∧ hasA 41 [102] = false ∧ hasA 41 [108] = false ∧ hasA 41 [106] = false ∧ hasA 41 [103] = true := by decide +kernel
  simp only [mayR, m1, m2, m3, m4, m5, m5a, m6, regsR, badR, E, oi_or, ai_and, fourA, mayA, badA, restA, sameSh, regsB, numsB, isW]
  simp [inB, shD, shN, shM, shA, shI, shO, shC, shR, shS]
  try grind
theorem mayR_42 (w d n m a : Int) (imm : W64) (off cond r s : Int) : mayR 42 w d n m a imm off cond r s = mayA 42 w d n m a imm off cond r s := by
  have E : hasA 42 [101] = false ∧ hasA 42 [98] = false ∧ hasA 42 [116] = false ∧ hasA 42 [100, 101] = true ∧ hasA 42 [110, 98] = false ∧ hasA 42 [109, 116] = false ∧ hasA 42 [97] = false ∧ hasA 42 [115, 104] = false ∧ hasA 42 [114] = false ∧ hasA 42 [99, 107] = false ∧ hasA 42 [105, 108, 119, 117, 102] = false ∧ hasA 42 [106, 103] = true ∧ hasA 42 [122] = false ∧ hasA 42 [104] = false ∧ hasA 42 [105] = false ∧ hasA 42 [119] = false ∧ hasA 42 [117] = false ∧ hasA 42 [102] = false ∧ hasA 42 [108] = false ∧ hasA 42 [106] = false ∧ hasA 42 [103] = true := by decide +kernel
  simp only [mayR, m1, m2, m3, m4, m5, m5a, m6, regsR, badR, E, oi_or, ai_and, fourA, mayA, badA, restA, sameSh, regsB, numsB, isW]
  simp [inB, shD, shN, shM, shA, shI, shO, shC, shR, shS]
  try grind
theorem mayR_43 (w d n m a : Int) (imm : W64) (off cond r s : Int) : mayR 43 w d n m a imm off cond r s = mayA 43 w d n m a imm off cond r s := by
  have E : hasA 43 [101] = false ∧ hasA 43 [98] = false ∧ hasA 43 [116] = false ∧ hasA 43 [100, 101] = true ∧ hasA 43 [110, 98] = false ∧ hasA 43 [109, 116] = false ∧ hasA 43 [97] = false ∧ hasA 43 [115, 104] = false ∧ hasA 43 [114] = false ∧ hasA 43 [99, 107] = false ∧ hasA 43 [105, 108, 119, 117, 102] = false ∧ hasA 43 [106, 103] = true ∧ hasA 43 [122] = false ∧ hasA 43 [104] = false ∧ hasA 43 [105] = false ∧ hasA 43 [119] = false ∧ hasA 43 [117] = false ∧ hasA 43 [102] = false ∧ hasA 43 [108] = false ∧ hasA 43 [106] = false ∧ hasA 43 [103] = true := by decide +kernel
  simp only [mayR, m1, m2, m3, m4, m5, m5a, m6, regsR, badR, E, oi_or, ai_and, fourA, mayA, badA, restA, sameSh, regsB, numsB, isW]
  simp [inB, shD, shN, shM, shA, shI, shO, shC, shR, shS]
  try grind
theorem mayR_44 (w d n m a : Int) (imm : W64) (off cond r s : Int) : mayR 44 w d n m a imm off cond r s = mayA 44 w d n m a imm off cond r s := by
  have E : hasA 44 [101] = false ∧ hasA 44 [98] = false ∧ hasA 44 [116] = false ∧ hasA 44 [100, 101] = false ∧ hasA 44 [110, 98] = true ∧ hasA 44 [109, 116] = false ∧ hasA 44 [97] = false ∧ hasA 44 [115, 104] = false ∧ hasA 44 [114] = false ∧ hasA 44 [99, 107] = false ∧ hasA 44 [105, 108, 119, 117, 102] = false ∧ hasA 44 [106, 103] = false ∧ hasA 44 [122] = false ∧ hasA 44 [104] = false ∧ hasA 44 [105] = false ∧ hasA 44 [119] = false ∧ hasA 44 [117] = false ∧ hasA 44 [102] = false ∧ hasA 44 [108] = false ∧ hasA 44 [106] = false ∧ hasA 44 [103] = false := by decide +kernel
  simp only [mayR, m1, m2, m3, m4, m5, m5a, m6, regsR, badR, E, oi_or, ai_and, fourA, mayA, badA, restA, sameSh, regsB, numsB, isW]
  simp [inB, shD, shN, shM, shA, shI, shO, shC, shR, shS]
  try grind
theorem mayR_45 (w d n m a : Int) (imm : W64) (off cond r s : Int) : mayR 45 w d n m a imm off cond r s = mayA 45 w d n m a imm off cond r s := by
  have E : hasA 45 [101] = false ∧ hasA 45 [98] = false ∧ hasA 45 [116] = false ∧ hasA 45 [100, 101] = false ∧ hasA 45 [110, 98] = false ∧ hasA 45 [109, 116] = false ∧ hasA 45 [97] = false ∧ hasA 45 [115, 104] = false ∧ hasA 45 [114] = false ∧ hasA 45 [99, 107] = false ∧ hasA 45 [105, 108, 119, 117, 102] = true ∧ hasA 45 [106, 103] = false ∧ hasA 45 [122] = false ∧ hasA 45 [104] = false ∧ hasA 45 [105] = false ∧ hasA 45 [119] = true ∧ hasA 45 [117] = false ∧ hasA 45 [102] = false ∧ hasA 45 [108] = false ∧ hasA 45 [106] = false ∧ hasA 45 [103] = false := by decide +kernel
  simp only [mayR, m1, m2, m3, m4, m5, m5a, m6, regsR, badR, E, oi_or, ai_and, fourA, mayA, badA, restA, sameSh, regsB, numsB, isW]
  simp [inB, shD, shN, shM, shA, shI, shO, shC, shR, shS]
  try grind
theorem mayR_46 (w d n m a : Int) (imm : W64) (off cond r s : Int) : mayR 46 w d n m a imm off cond r s = mayA 46 w d n m a imm off cond r s := by
  have E : hasA 46 [101] = false ∧ hasA 46 [98] = false ∧ hasA 46 [116] = false ∧ hasA 46 [100, 101] = false ∧ hasA 46 [110, 98] = false ∧ hasA 46 [109, 116] = false ∧ hasA 46 [97] = false ∧ hasA 46 [115, 104] = false ∧ hasA 46 [114] = false ∧ hasA 46 [99, 107] = false ∧ hasA 46 [105, 108, 119, 117, 102] = true ∧ hasA 46 [106, 103] = false ∧ hasA 46 [122] = false ∧ hasA 46 [104] = false ∧ hasA 46 [105] = false ∧ hasA 46 [119] = true ∧ hasA 46 [117] = false ∧ hasA 46 [102] = false ∧ hasA 46 [108] = false ∧ hasA 46 [106] = false ∧ hasA 46 [103] = false := by decide +kernel
  simp only [mayR, m1, m2, m3, m4, m5, m5a, m6, regsR, badR, E, oi_or, ai_and, fourA, mayA, badA, restA, sameSh, regsB, numsB, isW]
  simp [inB, shD, shN, shM, shA, shI, shO, shC, shR, shS]
  try grind
theorem mayR_47 (w d n m a : Int) (imm : W64) (off cond r s : Int) : mayR 47 w d n m a imm off cond r s = mayA 47 w d n m a imm off cond r s := by
  have E : hasA 47 [101] = false ∧ hasA 47 [98] = false ∧ hasA 47 [116] = false ∧ hasA 47 [100, 101] = false ∧ hasA 47 [110, 98] = false ∧ hasA 47 [109, 116] = false ∧ hasA 47 [97] = false ∧ hasA 47 [115, 104] = false ∧ hasA 47 [114] = false ∧ hasA 47 [99, 107] = false ∧ hasA 47 [105, 108, 119, 117, 102] = false ∧ hasA 47 [106, 103] = false ∧ hasA 47 [122] = false ∧ hasA 47 [104] = false ∧ hasA 47 [105] = false ∧ hasA 47 [119] = false ∧ hasA 47 [117] = false ∧ hasA 47 [102] = false ∧ hasA 47 [108] = false ∧ hasA 47 [106] = false ∧ hasA 47 [103] = false := by decide +kernel
  simp only [mayR, m1, m2, m3, m4, m5, m5a, m6, regsR, badR, E, oi_or, ai_and, fourA, mayA, badA, restA, sameSh, regsB, numsB, isW]
  simp [inB, shD, shN, shM, shA, shI, shO, shC, shR, shS]
  try grind
theorem mayR_out {op w d n m a : Int} {imm : W64} {off cond r s : Int} (h : ¬ (1 ≤ op ∧ op ≤ 47)) : mayR op w d n m a imm off cond r s = mayA op w d n m a imm off cond r s := by
  have e1 : m1 op d n m a = true := by
    unfold m1
    by_cases h1 : op < 1
    · simp [oi_or, h1]
    · have h2 : 47 < op := by omega
      simp [oi_or, h2]
  have e2 : mayA op w d n m a imm off cond r s = false := by
    cases hh : mayA op w d n m a imm off cond r s with
    | false => rfl
    | true => exact absurd (may_range hh) h
  unfold mayR
  rw [e1, e2]
  rfl
theorem mayR_eq (op w d n m a : Int) (imm : W64) (off cond r s : Int) : mayR op w d n m a imm off cond r s = mayA op w d n m a imm off cond r s := by
  by_cases h : 1 ≤ op ∧ op ≤ 47
  · rcases range47_of h with rfl | rfl | rfl | rfl | rfl | rfl | rfl | rfl | rfl | rfl | rfl | rfl | rfl | rfl | rfl | rfl | rfl | rfl | rfl | rfl | rfl | rfl | rfl | rfl | rfl | rfl | rfl | rfl | rfl | rfl | rfl | rfl | rfl | rfl | rfl | rfl | rfl | rfl | rfl | rfl | rfl | rfl | rfl | rfl | rfl | rfl | rfl
    · exact mayR_1 ..
    · exact mayR_2 ..
    · exact mayR_3 ..
    · exact mayR_4 ..
    · exact mayR_5 ..
    · exact mayR_6 ..
    · exact mayR_7 ..
    · exact mayR_8 ..
    · exact mayR_9 ..
    · exact mayR_10 ..
    · exact mayR_11 ..
    · exact mayR_12 ..
    · exact mayR_13 ..
    · exact mayR_14 ..
    · exact mayR_15 ..
    · exact mayR_16 ..
    · exact mayR_17 ..
    · exact mayR_18 ..
    · exact mayR_19 ..
    · exact mayR_20 ..
    · exact mayR_21 ..
    · exact mayR_22 ..
    · exact mayR_23 ..
    · exact mayR_24 ..
    · exact mayR_25 ..
    · exact mayR_26 ..
    · exact mayR_27 ..
    · exact mayR_28 ..
    · exact mayR_29 ..
    · exact mayR_30 ..
    · exact mayR_31 ..
    · exact mayR_32 ..
    · exact mayR_33 ..
    · exact mayR_34 ..
    · exact mayR_35 ..
    · exact mayR_36 ..
    · exact mayR_37 ..
    · exact mayR_38 ..
    · exact mayR_39 ..
    · exact mayR_40 ..
    · exact mayR_41 ..
    · exact mayR_42 ..
    · exact mayR_43 ..
    · exact mayR_44 ..
    · exact mayR_45 ..
    · exact mayR_46 ..
    · exact mayR_47 ..
  · exact mayR_out h
theorem okr28 : FnOk Tryd.prog 12 sr26 := okBy SQ5_ok Tryd.func12 (by kernel_rfl) (by kernel_rfl) 6 <| by
  intro xs r hs
  unfold sr26 at hs
  split at hs <;> cases hs
  rename_i op w d n m a imm off cond r s
  intro hp _
  show _ = some (AV.b (mayA op w d n m a imm off cond r s))
  rw [run28m, mayR_eq]

end Go.Proofs.YtocfkaihfjbfnaaDoor
