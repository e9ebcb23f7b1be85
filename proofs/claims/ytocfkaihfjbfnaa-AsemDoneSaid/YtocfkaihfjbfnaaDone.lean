/- Lemmas: what Done does to a machine, for any instruction, each function shown by the evaluator. No condition. -/
import Derived.Test.YtocfkaihfjbfnaaAsem
import Derived.Test.YtocfkaihfjbfnaaHas
set_option linter.unusedVariables false
set_option linter.unusedSimpArgs false
set_option maxRecDepth 100000
namespace Go.Proofs.Ytocfkaihfjbfnaa
open Go.Proofs.Ytocfkaihfjbfnaa.Ev Go.RowKit
/- Flags told; sums with flags. -/
noncomputable abbrev SP0 : FuncId → CSpec := withS (withS SN9 78 s69) 79 s43
theorem SP0_ok : ∀ f, FnOk Try.prog f (SP0 f) := withS_ok (withS_ok SN9_ok ok41) ok43
def sr77O : CSpec
  | [.obj (cP X n z c v pc ld st ex aq rl ta vv w), .u 64 r, .b cy, .b ov] => (match allU X 31 with
    | true => some ⟨[], .fin (.u 64 r) [cP (words X) (neg r 8) (r == BitVec.ofInt 64 0) cy ov pc ld st ex aq rl ta vv w]⟩
    | false => none)
  | _ => none
theorem okr77O : FnOk Try.prog 1000077 sr77O := okOC (f := 77) SP0_ok Try.func77 (by kernel_rfl) (by kernel_rfl) 1 <| by
  intro xs r hs
  unfold sr77O at hs; split at hs <;> try cases hs
  rename_i X n z c v pc ld st ex aq rl ta vv w r cy ov
  split at hs <;> cases hs
  rename_i hU
  intro hp
  show (evFnO T SP0 noL 1 Try.f77 [.obj ((cP X n z c v pc ld st ex aq rl ta vv w).map canA), .u 64 r, .b cy, .b ov]).run = some (.u 64 r, [cP (words X) (neg r 8) (r == BitVec.ofInt 64 0) cy ov pc ld st ex aq rl ta vv w])
  rw [can_cP hU]
  kernel_rfl
noncomputable abbrev SP1 : FuncId → CSpec := withS SP0 1000077 sr77O
theorem SP1_ok : ∀ f, FnOk Try.prog f (SP1 f) := withS_ok SP0_ok okr77O
def sr75O : CSpec
  | [.obj (cP X n z c v pc ld st ex aq rl ta vv w), .u 64 a, .u 64 b, .b fl] => (match allU X 31 with
    | true => some ⟨[], .fin (.u 64 (sum1 a b false 8)) [cP (words X) (if fl = true then neg (sum1 a b false 8) 8 else n) (if fl = true then sum1 a b false 8 == BitVec.ofInt 64 0 else z) (if fl = true then sum2 a b false 8 else c) (if fl = true then sum3 a b false 8 else v) pc ld st ex aq rl ta vv w]⟩
    | false => none)
  | _ => none
theorem okr75O : FnOk Try.prog 1000075 sr75O := okOC (f := 75) SP1_ok Try.func75 (by kernel_rfl) (by kernel_rfl) 1 <| by
  intro xs r hs
  unfold sr75O at hs; split at hs <;> try cases hs
  rename_i X n z c v pc ld st ex aq rl ta vv w a b fl
  split at hs <;> cases hs
  rename_i hU
  intro hp
  show (evFnO T SP1 noL 1 Try.f75 [.obj ((cP X n z c v pc ld st ex aq rl ta vv w).map canA), .u 64 a, .u 64 b, .b fl]).run = some (.u 64 (sum1 a b false 8), [cP (words X) (if fl = true then neg (sum1 a b false 8) 8 else n) (if fl = true then sum1 a b false 8 == BitVec.ofInt 64 0 else z) (if fl = true then sum2 a b false 8 else c) (if fl = true then sum3 a b false 8 else v) pc ld st ex aq rl ta vv w])
  rw [can_cP hU]
  cases fl <;> kernel_rfl
def sr76O : CSpec
  | [.obj (cP X n z c v pc ld st ex aq rl ta vv w), .u 64 a, .u 64 b, .b fl] => (match allU X 31 with
    | true => some ⟨[], .fin (.u 64 (sum1 a (~~~ b) true 8)) [cP (words X) (if fl = true then neg (sum1 a (~~~ b) true 8) 8 else n) (if fl = true then sum1 a (~~~ b) true 8 == BitVec.ofInt 64 0 else z) (if fl = true then !(isW 8 && !sum2 a (~~~ b) true 8) else c) (if fl = true then sum3 a (~~~ b) true 8 else v) pc ld st ex aq rl ta vv w]⟩
    | false => none)
  | _ => none
theorem okr76O : FnOk Try.prog 1000076 sr76O := okOC (f := 76) SP1_ok Try.func76 (by kernel_rfl) (by kernel_rfl) 1 <| by
  intro xs r hs
  unfold sr76O at hs; split at hs <;> try cases hs
  rename_i X n z c v pc ld st ex aq rl ta vv w a b fl
  split at hs <;> cases hs
  rename_i hU
  intro hp
  show (evFnO T SP1 noL 1 Try.f76 [.obj ((cP X n z c v pc ld st ex aq rl ta vv w).map canA), .u 64 a, .u 64 b, .b fl]).run = some (.u 64 (sum1 a (~~~ b) true 8), [cP (words X) (if fl = true then neg (sum1 a (~~~ b) true 8) 8 else n) (if fl = true then sum1 a (~~~ b) true 8 == BitVec.ofInt 64 0 else z) (if fl = true then !(isW 8 && !sum2 a (~~~ b) true 8) else c) (if fl = true then sum3 a (~~~ b) true 8 else v) pc ld st ex aq rl ta vv w])
  rw [can_cP hU]
  cases fl <;> kernel_rfl
noncomputable abbrev SP2 : FuncId → CSpec := withS (withS SP1 1000075 sr75O) 1000076 sr76O
theorem SP2_ok : ∀ f, FnOk Try.prog f (SP2 f) := withS_ok (withS_ok SP1_ok okr75O) okr76O
/- AddI to Ands. -/
def sumsB (op s : Int) (imm y : W64) : W64 := if decide (op ≤ 4) = true then imm else y <<< s.toNat
def sumsW (op : Int) (x b : W64) : W64 :=
  if (op == 1 || op == 3 || op == 5 || op == 7) = true then sum1 x b false 8 else if (op == 2 || op == 4 || op == 6 || op == 8) = true then sum1 x (~~~ b) true 8
  else if (op == 10) = true then x ||| b else if (op == 11) = true then x ^^^ b else x &&& b
def tells (op : Int) : Bool := op == 3 || op == 4 || op == 7 || op == 8 || op == 12
def flN (op : Int) (x b : W64) (n : Bool) : Bool := if tells op = true then neg (sumsW op x b) 8 else n
def flZ (op : Int) (x b : W64) (z : Bool) : Bool := if tells op = true then sumsW op x b == BitVec.ofInt 64 0 else z
def flC (op : Int) (x b : W64) (c : Bool) : Bool := if tells op = true then (if (op == 3 || op == 7) = true then sum2 x b false 8 else if (op == 4 || op == 8) = true then !(isW 8 && !sum2 x (~~~ b) true 8) else false) else c
def flV (op : Int) (x b : W64) (v : Bool) : Bool := if tells op = true then (if (op == 3 || op == 7) = true then sum3 x b false 8 else if (op == 4 || op == 8) = true then sum3 x (~~~ b) true 8 else false) else v
def oneTo12 (op : Int) : Bool := decide (1 ≤ op) && decide (op ≤ 12)
theorem oneTo12_cases {op : Int} (h : oneTo12 op = true) : op = 1 ∨ op = 2 ∨ op = 3 ∨ op = 4 ∨ op = 5 ∨ op = 6 ∨ op = 7 ∨ op = 8 ∨ op = 9 ∨ op = 10 ∨ op = 11 ∨ op = 12 := by
  simp only [oneTo12, Bool.and_eq_true, decide_eq_true_eq] at h; omega
def sr51O : CSpec
  | [.obj (cP X n z c v pc ld st ex aq rl ta vv w), .agg (cI op' w' d' n' m' a' imm' off' cond' r' s')] => (match allU X 31, oneTo12 op' with
    | true, true => some ⟨[decide (0 ≤ s')], .fin (.u 64 (sumsW op' (getX X n') (sumsB op' s' imm' (getX X m')))) [cP (words X) (flN op' (getX X n') (sumsB op' s' imm' (getX X m')) n) (flZ op' (getX X n') (sumsB op' s' imm' (getX X m')) z) (flC op' (getX X n') (sumsB op' s' imm' (getX X m')) c) (flV op' (getX X n') (sumsB op' s' imm' (getX X m')) v) pc ld st ex aq rl ta vv w]⟩
    | _, _ => none)
  | _ => none
theorem okr51O : FnOk Try.prog 1000051 sr51O := okOC (f := 51) SP2_ok Try.func51 (by kernel_rfl) (by kernel_rfl) 1 <| by
  intro xs r hs
  unfold sr51O at hs; split at hs <;> try cases hs
  rename_i X n z c v pc ld st ex aq rl ta vv w op' w' d' n' m' a' imm' off' cond' r' s'
  split at hs <;> cases hs
  rename_i hU hop
  intro hp
  have h1 := hp _ (List.mem_cons_self ..)
  show (evFnO T SP2 noL 1 Try.f51 [.obj ((cP X n z c v pc ld st ex aq rl ta vv w).map canA), .agg (cI op' w' d' n' m' a' imm' off' cond' r' s')]).run = _
  rw [can_cP hU]
  have main : ∀ k : Int, k = 1 ∨ k = 2 ∨ k = 3 ∨ k = 4 ∨ k = 5 ∨ k = 6 ∨ k = 7 ∨ k = 8 ∨ k = 9 ∨ k = 10 ∨ k = 11 ∨ k = 12 →
    (evFnO T SP2 noL 1 Try.f51 [.obj (cP (words X) n z c v pc ld st ex aq rl ta vv w), .agg (cI k w' d' n' m' a' imm' off' cond' r' s')]).run =
    if decide (0 ≤ s') = true then some (.u 64 (sumsW k (getX X n') (sumsB k s' imm' (getX X m'))), [cP (words X) (flN k (getX X n') (sumsB k s' imm' (getX X m')) n) (flZ k (getX X n') (sumsB k s' imm' (getX X m')) z) (flC k (getX X n') (sumsB k s' imm' (getX X m')) c) (flV k (getX X n') (sumsB k s' imm' (getX X m')) v) pc ld st ex aq rl ta vv w]) else none := by
    rintro k (rfl | rfl | rfl | rfl | rfl | rfl | rfl | rfl | rfl | rfl | rfl | rfl)
    all_goals kernel_rfl
  rw [main op' (oneTo12_cases hop), if_pos h1]
  rfl
noncomputable abbrev SP3 : FuncId → CSpec := withS SP2 1000051 sr51O
theorem SP3_ok : ∀ f, FnOk Try.prog f (SP3 f) := withS_ok SP2_ok okr51O
end Go.Proofs.Ytocfkaihfjbfnaa
set_option maxRecDepth 100000
namespace Go.Proofs.Ytocfkaihfjbfnaa
open Go.Proofs.Ytocfkaihfjbfnaa.Ev Go.RowKit
/- Products, quotients. -/
def quoS (x y : W64) : W64 := if (y == BitVec.ofInt 64 18446744073709551615) = true then -x else BitVec.ofInt 64 (IntKind.i64.wrap ((IntKind.i64.wrap (x.toNat : Int)).tdiv (IntKind.i64.wrap (y.toNat : Int))))
def prodsA (op : Int) (x y a : W64) : W64 :=
  if (op == 19) = true then a + x * y else if (op == 20) = true then a - x * y else if (op == 21) = true then mulHi x y else if (op == 22) = true then mulsHi x y
  else if (y == BitVec.ofInt 64 0) = true then BitVec.ofInt 64 0 else if (op == 23) = true then x / y else quoS x y
theorem wrap_nz {y : W64} (h : (y == BitVec.ofInt 64 0) = false) : (!(IntKind.i64.wrap (y.toNat : Int) == 0)) = true := by
  have hne : y ≠ 0#64 := by simpa using h
  have hn : y.toNat ≠ 0 := fun h0 => hne (BitVec.eq_of_toNat_eq h0)
  have hlt := y.isLt
  cases hh : IntKind.i64.wrap (y.toNat : Int) == 0 with
  | false => rfl
  | true =>
    exfalso
    have hw := beq_iff_eq.1 hh
    rw [IntKind.wrap] at hw
    simp only [IntKind.signed, IntKind.bits, if_true] at hw
    omega
def sr53 : CSpec
  | [.rp (cP X n z c v pc ld st ex aq rl ta vv w) 0, .agg (cI op' w' d' n' m' a' imm' off' cond' r' s')] => (match allU X 31 with
    | true => some ⟨[], .u 64 (prodsA op' (getX X n') (getX X m') (getX X a'))⟩
    | false => none)
  | _ => none
theorem okr53 : FnOk Try.prog 53 sr53 := okC SP3_ok Try.func53 (by kernel_rfl) (by kernel_rfl) 1 <| by
  intro xs r hs
  unfold sr53 at hs; split at hs <;> try cases hs
  rename_i X n z c v pc ld st ex aq rl ta vv w op' w' d' n' m' a' imm' off' cond' r' s'
  split at hs <;> cases hs
  rename_i hU
  rintro hp _
  show (evFn T SP3 noL 1 Try.f53 [.rp ((cP X n z c v pc ld st ex aq rl ta vv w).map canA) 0, .agg (cI op' w' d' n' m' a' imm' off' cond' r' s')]).run = some (.u 64 (prodsA op' (getX X n') (getX X m') (getX X a')))
  rw [can_cP hU]
  have main : ∀ x y a : W64, getX X n' = x → getX X m' = y → getX X a' = a → (evFn T SP3 noL 1 Try.f53 [.rp (cP (words X) n z c v pc ld st ex aq rl ta vv w) 0, .agg (cI op' w' d' n' m' a' imm' off' cond' r' s')]).run = some (.u 64 (prodsA op' x y a)) := by
    intro x y a hx hy ha
    have e : (evFn T SP3 noL 1 Try.f53 [.rp (cP (words X) n z c v pc ld st ex aq rl ta vv w) 0, .agg (cI op' w' d' n' m' a' imm' off' cond' r' s')]).run =
      if (op' == 19) = true then some (.u 64 (getX X a' + getX X n' * getX X m')) else if (op' == 20) = true then some (.u 64 (getX X a' - getX X n' * getX X m')) else if (op' == 21) = true then some (.u 64 (mulHi (getX X n') (getX X m'))) else if (op' == 22) = true then some (.u 64 (mulsHi (getX X n') (getX X m')))
      else if (if (getX X m' == BitVec.ofInt 64 0) = true then true else if (op' == 23) = true then !(getX X m' == 0#64) else true) = true then
        (if (getX X m' == BitVec.ofInt 64 0) = true then some (.u 64 (BitVec.ofInt 64 0)) else if (op' == 23) = true then some (.u 64 (getX X n' / getX X m')) else if (getX X m' == BitVec.ofInt 64 18446744073709551615) = true then some (.u 64 (-(getX X n')))
        else if (!(IntKind.i64.wrap ((getX X m').toNat : Int) == 0)) = true then some (.u 64 (BitVec.ofInt 64 (IntKind.i64.wrap ((IntKind.i64.wrap ((getX X n').toNat : Int)).tdiv (IntKind.i64.wrap ((getX X m').toNat : Int)))))) else none) else none := by kernel_rfl
    rw [e, hx, hy, ha]
    clear e hx hy ha hp hU
    unfold prodsA quoS
    cases hy : (y == BitVec.ofInt 64 0) with
    | true => simp only [if_true, some_iteW]
    | false =>
      have h0 : (!(y == 0#64)) = true := by
        have : (y == 0#64) = (y == BitVec.ofInt 64 0) := rfl
        rw [this, hy]; rfl
      rw [wrap_nz hy, h0]
      simp only [if_true, ite_self, Bool.false_eq_true, if_false, some_iteW]
  exact main _ _ _ rfl rfl rfl
end Go.Proofs.Ytocfkaihfjbfnaa
set_option maxRecDepth 100000
namespace Go.Proofs.Ytocfkaihfjbfnaa
open Go.Proofs.Ytocfkaihfjbfnaa.Ev Go.RowKit
/- What a valid instruction's number is. -/
theorem may_range {op w d n m a : Int} {imm : W64} {off cond r s : Int} (h : mayA op w d n m a imm off cond r s = true) : 1 ≤ op ∧ op ≤ 47 := by
  unfold mayA badA at h
  have hb : inB 1 op 47 = true := by
    cases hh : inB 1 op 47 with
    | true => rfl
    | false => rw [hh] at h; simp at h
  simpa [inB] using hb
theorem may_rest {op w d n m a : Int} {imm : W64} {off cond r s : Int} (h : mayA op w d n m a imm off cond r s = true) : restA op w d n m a imm off cond r s = true := by
  unfold mayA at h
  cases hh : badA op w d n m a imm off cond r s with
  | true => rw [hh] at h; simp at h
  | false => rw [hh] at h; simpa using h
theorem may_rs {op w d n m a : Int} {imm : W64} {off cond r s : Int} (h : mayA op w d n m a imm off cond r s = true) : 0 ≤ r ∧ r ≤ 63 ∧ 0 ≤ s ∧ s ≤ 63 := by
  have h := may_rest h
  unfold restA at h
  simp only [and_if] at h
  simp only [Bool.and_eq_true, decide_eq_true_eq] at h
  obtain ⟨⟨⟨⟨⟨⟨⟨_, _⟩, h1⟩, h2⟩, h3⟩, h4⟩, _⟩, _⟩ := h
  exact ⟨h3, h4, h1, h2⟩
theorem fldN_bounds {r s : Int} (hr : 0 ≤ r ∧ r ≤ 63) (hs : 0 ≤ s ∧ s ≤ 63) : 1 ≤ fldN r s ∧ fldN r s ≤ 64 := by
  unfold fldN
  by_cases h : r ≤ s
  · simp only [h, decide_true, if_true]
    rw [wrapS (x := s - r) (by omega) (by omega), wrapS (by omega) (by omega)]; omega
  · simp only [h, decide_false, Bool.false_eq_true, if_false]
    rw [wrapS (by omega) (by omega)]; omega
theorem fldK_nn {r s : Int} (hr : 0 ≤ r ∧ r ≤ 63) (hs : 0 ≤ s ∧ s ≤ 63) : 0 ≤ fldK r s := by
  have := fldN_bounds hr hs
  unfold fldK
  rw [wrapS (by omega) (by omega)]; omega
theorem fldL_nn (r s : Int) : 0 ≤ fldL r s := by
  unfold fldL
  by_cases h : r ≤ s
  · simp [h]
  · simp only [h, decide_false, Bool.false_eq_true, if_false]
    exact (m63_bounds (IntKind.i64.wrap (64 - r))).1
/- What is asked of memory. -/
def isLd (op : Int) : Bool := op == 33 || op == 35 || op == 37
def isSt (op : Int) : Bool := op == 34 || op == 36 || op == 38
def isMm (op : Int) : Bool := inB 33 op 38
def nW (c : Bool) (x : W64) : W64 := if c = true then x else 0#64
def needP (may : Bool) (op w : Int) (at_ dv : W64) : List AV :=
  [.b (may && isLd op), .b (may && isSt op), .b (may && (op == 37 || op == 38)), .b (may && (op == 35 || op == 37)), .b (may && (op == 36 || op == 38)), .u 64 (nW (may && isMm op) at_), .u 64 (nW (may && isSt op) (zx dv w)), .i .i64 (if (may && isMm op) = true then w else 0)]


def sr10P : CSpec
  | [.rp (cP X n z c v pc ld st ex aq rl ta vv w) 0, .agg (cI op' w' d' n' m' a' imm' off' cond' r' s')] => (match allU X 31 with
    | true => some ⟨[], .agg (needP (mayA op' w' d' n' m' a' imm' off' cond' r' s') op' w' (getX X n' + imm') (getX X d'))⟩
    | false => none)
  | _ => none
theorem okr10P : FnOk Try.prog 10 sr10P := okC SP3_ok Try.func10 (by kernel_rfl) (by kernel_rfl) 1 <| by
  intro xs r hs
  unfold sr10P at hs; split at hs <;> try cases hs
  rename_i X n z c v pc ld st ex aq rl ta vv w op' w' d' n' m' a' imm' off' cond' r' s'
  split at hs <;> cases hs
  rename_i hU
  rintro hp _
  show (evFn T SP3 noL 1 Try.f10 [.rp ((cP X n z c v pc ld st ex aq rl ta vv w).map canA) 0, .agg (cI op' w' d' n' m' a' imm' off' cond' r' s')]).run = some (.agg (needP (mayA op' w' d' n' m' a' imm' off' cond' r' s') op' w' (getX X n' + imm') (getX X d')))
  rw [can_cP hU]
  cases hm : mayA op' w' d' n' m' a' imm' off' cond' r' s' with
  | false =>
    have e : ∃ t, (evFn T SP3 noL 1 Try.f10 [.rp (cP (words X) n z c v pc ld st ex aq rl ta vv w) 0, .agg (cI op' w' d' n' m' a' imm' off' cond' r' s')]).run = if (if false = true then true else !mayA op' w' d' n' m' a' imm' off' cond' r' s') = true then some (.agg need0) else t :=
      ⟨match evFn T SP3 noL 1 Try.f10 [.rp (cP (words X) n z c v pc ld st ex aq rl ta vv w) 0, .agg (cI op' w' d' n' m' a' imm' off' cond' r' s')] with
        | .ite _ _ b => b.run
        | _ => none, by kernel_rfl⟩
    obtain ⟨t, e⟩ := e
    rw [e, hm]
    rfl
  | true =>
    have main : ∀ k : Int, range47 k → mayA k w' d' n' m' a' imm' off' cond' r' s' = true →
      (evFn T SP3 noL 1 Try.f10 [.rp (cP (words X) n z c v pc ld st ex aq rl ta vv w) 0, .agg (cI k w' d' n' m' a' imm' off' cond' r' s')]).run = some (.agg (needP true k w' (getX X n' + imm') (getX X d'))) := by
      intro k hk hm
      have e : (evFn T SP3 noL 1 Try.f10 [.rp (cP (words X) n z c v pc ld st ex aq rl ta vv w) 0, .agg (cI k w' d' n' m' a' imm' off' cond' r' s')]).run =
        if (if false = true then true else !mayA k w' d' n' m' a' imm' off' cond' r' s') = true then some (.agg need0) else some (.agg (needP true k w' (getX X n' + imm') (getX X d'))) := by
        revert hm
        rcases hk with rfl | rfl | rfl | rfl | rfl | rfl | rfl | rfl | rfl | rfl | rfl | rfl | rfl | rfl | rfl | rfl | rfl | rfl | rfl | rfl | rfl | rfl | rfl | rfl | rfl | rfl | rfl | rfl | rfl | rfl | rfl | rfl | rfl | rfl | rfl | rfl | rfl | rfl | rfl | rfl | rfl | rfl | rfl | rfl | rfl | rfl | rfl
        all_goals (intro _; kernel_rfl)
      rw [e, hm]
      rfl
    exact main op' (range47_of (may_range hm)) hm
noncomputable abbrev SP4 : FuncId → CSpec := withS (withS SP3 10 sr10P) 53 sr53
theorem SP4_ok : ∀ f, FnOk Try.prog f (SP4 f) := withS_ok (withS_ok SP3_ok okr10P) okr53
end Go.Proofs.Ytocfkaihfjbfnaa
set_option maxRecDepth 100000
namespace Go.Proofs.Ytocfkaihfjbfnaa
open Go.Proofs.Ytocfkaihfjbfnaa.Ev Go.RowKit
/- What an instruction without flags gives. -/
def valueB (op : Int) (s r : Int) (imm x y d a : W64) (h : Bool) : W64 :=
  if inB 19 op 24 = true then prodsA op x y a else valueA op s r imm x y d h
def sr31B : CSpec
  | [.rp (cP X n z c v pc ld st ex aq rl ta vv w) 0, .agg (cI op' w' d' n' m' a' imm' off' cond' r' s')] => (match allU X 31, decide (13 ≤ op') with
    | true, true => some ⟨[pre1 op' s', pre2 op' (if decide (r' ≤ s') = true then decide (0 ≤ r') else true), pre2 op' (decide (0 ≤ fldL r' s')), pre2 op' (decide (0 ≤ fldK r' s'))], .u 64 (valueB op' s' r' imm' (getX X n') (getX X m') (getX X d') (getX X a') (holds n z c v cond'))⟩
    | _, _ => none)
  | _ => none
theorem okr31B : FnOk Try.prog 31 sr31B := okC SP4_ok Try.func31 (by kernel_rfl) (by kernel_rfl) 1 <| by
  intro xs r hs
  unfold sr31B at hs; split at hs <;> try cases hs
  rename_i X n z c v pc ld st ex aq rl ta vv w op' w' d' n' m' a' imm' off' cond' r' s'
  split at hs <;> cases hs
  rename_i hU hfl
  rintro hp _
  have h1 := hp _ (List.mem_cons_self ..)
  have h2 := hp _ (List.mem_cons_of_mem _ (List.mem_cons_self ..))
  have h3 := hp _ (List.mem_cons_of_mem _ (List.mem_cons_of_mem _ (List.mem_cons_self ..)))
  have h4 := hp _ (List.mem_cons_of_mem _ (List.mem_cons_of_mem _ (List.mem_cons_of_mem _ (List.mem_cons_self ..))))
  show (evFn T SP4 noL 1 Try.f31 [.rp ((cP X n z c v pc ld st ex aq rl ta vv w).map canA) 0, .agg (cI op' w' d' n' m' a' imm' off' cond' r' s')]).run = some (.u 64 (valueB op' s' r' imm' (getX X n') (getX X m') (getX X d') (getX X a') (holds n z c v cond')))
  rw [can_cP hU]
  have e : (evFn T SP4 noL 1 Try.f31 [.rp (cP (words X) n z c v pc ld st ex aq rl ta vv w) 0, .agg (cI op' w' d' n' m' a' imm' off' cond' r' s')]).run =
    if pre1 op' s' = true then if pre2 op' (if decide (r' ≤ s') = true then decide (0 ≤ r') else true) = true then if pre2 op' (decide (0 ≤ fldL r' s')) = true then if pre2 op' (decide (0 ≤ fldK r' s')) = true then
    (if decide (op' ≤ 12) = true then none else if decide (op' ≤ 18) = true then some (.u 64 (wordsA op' s' imm' (getX X n') (getX X d'))) else if decide (op' ≤ 24) = true then some (.u 64 (prodsA op' (getX X n') (getX X m') (getX X a')))
      else if decide (op' ≤ 28) = true then some (.u 64 (shiftsA op' (getX X n') (getX X m'))) else if decide (op' ≤ 30) = true then some (.u 64 (fieldA op' r' s' (getX X n')))
      else if holds n z c v cond' = true then some (.u 64 (getX X n')) else if (op' == 31) = true then some (.u 64 (getX X m')) else some (.u 64 (getX X m' + BitVec.ofInt 64 1))) else none else none else none else none := by kernel_rfl
  rw [e, if_pos h1, if_pos h2, if_pos h3, if_pos h4]
  clear e h1 h2 h3 h4 hp
  simp only [some_iteW]
  simp only [decide_eq_true_eq] at hfl
  have h12 : ¬ op' ≤ 12 := by omega
  simp only [h12, decide_false, Bool.false_eq_true, if_false]
  unfold valueB valueA inB
  by_cases h18 : op' ≤ 18
  · have h19 : ¬ 19 ≤ op' := by omega
    simp [h18, h19]
  · have h19 : 19 ≤ op' := by omega
    by_cases h24 : op' ≤ 24
    · simp [h18, h24, h19]
    · simp only [h18, h24, h19, decide_false, decide_true, Bool.and_false, Bool.false_eq_true, if_false, some_iteW]
def sr31O : CSpec
  | [.obj (cP X n z c v pc ld st ex aq rl ta vv w), .agg (cI op' w' d' n' m' a' imm' off' cond' r' s')] => (match allU X 31, oneTo12 op' with
    | true, true => some ⟨[decide (0 ≤ s')], .fin (.u 64 (sumsW op' (getX X n') (sumsB op' s' imm' (getX X m')))) [cP (words X) (flN op' (getX X n') (sumsB op' s' imm' (getX X m')) n) (flZ op' (getX X n') (sumsB op' s' imm' (getX X m')) z) (flC op' (getX X n') (sumsB op' s' imm' (getX X m')) c) (flV op' (getX X n') (sumsB op' s' imm' (getX X m')) v) pc ld st ex aq rl ta vv w]⟩
    | _, _ => none)
  | _ => none
theorem okr31O : FnOk Try.prog 1000031 sr31O := okOC (f := 31) SP4_ok Try.func31 (by kernel_rfl) (by kernel_rfl) 1 <| by
  intro xs r hs
  unfold sr31O at hs; split at hs <;> try cases hs
  rename_i X n z c v pc ld st ex aq rl ta vv w op' w' d' n' m' a' imm' off' cond' r' s'
  split at hs <;> cases hs
  rename_i hU hop
  intro hp
  have h1 := hp _ (List.mem_cons_self ..)
  show (evFnO T SP4 noL 1 Try.f31 [.obj ((cP X n z c v pc ld st ex aq rl ta vv w).map canA), .agg (cI op' w' d' n' m' a' imm' off' cond' r' s')]).run = _
  rw [can_cP hU]
  have main : ∀ k : Int, k = 1 ∨ k = 2 ∨ k = 3 ∨ k = 4 ∨ k = 5 ∨ k = 6 ∨ k = 7 ∨ k = 8 ∨ k = 9 ∨ k = 10 ∨ k = 11 ∨ k = 12 →
    (evFnO T SP4 noL 1 Try.f31 [.obj (cP (words X) n z c v pc ld st ex aq rl ta vv w), .agg (cI k w' d' n' m' a' imm' off' cond' r' s')]).run =
    if decide (0 ≤ s') = true then some (.u 64 (sumsW k (getX X n') (sumsB k s' imm' (getX X m'))), [cP (words X) (flN k (getX X n') (sumsB k s' imm' (getX X m')) n) (flZ k (getX X n') (sumsB k s' imm' (getX X m')) z) (flC k (getX X n') (sumsB k s' imm' (getX X m')) c) (flV k (getX X n') (sumsB k s' imm' (getX X m')) v) pc ld st ex aq rl ta vv w]) else none := by
    rintro k (rfl | rfl | rfl | rfl | rfl | rfl | rfl | rfl | rfl | rfl | rfl | rfl)
    all_goals kernel_rfl
  rw [main op' (oneTo12_cases hop), if_pos h1]
  rfl
/- Accesses done. -/
def set2 (X : Nat → AV) (m : Int) (y : Bool) : Nat → AV := fun j => .u 64 (if y = true then unU64 (setX (setX X m (BitVec.ofInt 64 1)) m (BitVec.ofInt 64 0) j) else unU64 (setX X m (BitVec.ofInt 64 1) j))
def accX (op w d m : Int) (x : W64) (y : Bool) (X : Nat → AV) : Nat → AV := fun j => .u 64 (if isLd op = true then unU64 (setX X d (zx x w) j) else if (op == 38) = true then unU64 (set2 X m y j) else unU64 (X j))
def markB (op : Int) (p q o : Bool) : Bool := if (op == 37) = true then p else if (op == 38) = true then q else o
def markW (op : Int) (p o : W64) : W64 := if (op == 37) = true then p else if (op == 38) = true then 0#64 else o
def markI (op : Int) (p o : Int) : Int := if (op == 37) = true then p else if (op == 38) = true then 0 else o
def sr32O : CSpec
  | [.obj (cP X n z c v pc ld st ex aq rl ta vv w), .agg (cI op' w' d' n' m' a' imm' off' cond' r' s'), .u 64 x, .b y] => (match allU X 31, inB 33 op' 38 with
    | true, true => some ⟨[mayA op' w' d' n' m' a' imm' off' cond' r' s'], .fin (.tup []) [cP (accX op' w' d' m' x y X) n z c v pc (markB op' true false ld) (markB op' false false st) (markB op' true false ex) (markB op' true false aq) (markB op' false false rl) (markW op' (getX X n' + imm') ta) (markW op' 0#64 vv) (markI op' w' w)]⟩
    | _, _ => none)
  | _ => none
noncomputable abbrev SP5 : FuncId → CSpec := withS (withS SP4 31 sr31B) 1000031 sr31O
theorem SP5_ok : ∀ f, FnOk Try.prog f (SP5 f) := withS_ok (withS_ok SP4_ok okr31B) okr31O
theorem okr32O : FnOk Try.prog 1000032 sr32O := okOC (f := 32) SP5_ok Try.func32 (by kernel_rfl) (by kernel_rfl) 1 <| by
  intro xs r hs
  unfold sr32O at hs; split at hs <;> try cases hs
  rename_i X n z c v pc ld st ex aq rl ta vv w op' w' d' n' m' a' imm' off' cond' r' s' x y
  split at hs <;> cases hs
  rename_i hU hop
  intro hp
  have h1 := hp _ (List.mem_cons_self ..)
  show (evFnO T SP5 noL 1 Try.f32 [.obj ((cP X n z c v pc ld st ex aq rl ta vv w).map canA), .agg (cI op' w' d' n' m' a' imm' off' cond' r' s'), .u 64 x, .b y]).run = _
  rw [can_cP hU]
  have main : ∀ k : Int, k = 33 ∨ k = 34 ∨ k = 35 ∨ k = 36 ∨ k = 37 ∨ k = 38 → mayA k w' d' n' m' a' imm' off' cond' r' s' = true →
    (evFnO T SP5 noL 1 Try.f32 [.obj (cP (words X) n z c v pc ld st ex aq rl ta vv w), .agg (cI k w' d' n' m' a' imm' off' cond' r' s'), .u 64 x, .b y]).run =
      some (.tup [], [cP (accX k w' d' m' x y X) n z c v pc (markB k true false ld) (markB k false false st) (markB k true false ex) (markB k true false aq) (markB k false false rl) (markW k (getX X n' + imm') ta) (markW k 0#64 vv) (markI k w' w)]) := by
    rintro k (rfl | rfl | rfl | rfl | rfl | rfl) hm
    · kernel_rfl
    · kernel_rfl
    · kernel_rfl
    · kernel_rfl
    · have e : (evFnO T SP5 noL 1 Try.f32 [.obj (cP (words X) n z c v pc ld st ex aq rl ta vv w), .agg (cI 37 w' d' n' m' a' imm' off' cond' r' s'), .u 64 x, .b y]).run =
        some (.tup [], [cP (accX 37 w' d' m' x y X) n z c v pc (mayA 37 w' d' n' m' a' imm' off' cond' r' s' && true) (mayA 37 w' d' n' m' a' imm' off' cond' r' s' && false) (mayA 37 w' d' n' m' a' imm' off' cond' r' s' && true) (mayA 37 w' d' n' m' a' imm' off' cond' r' s' && true) (mayA 37 w' d' n' m' a' imm' off' cond' r' s' && false)
          (nW (mayA 37 w' d' n' m' a' imm' off' cond' r' s' && true) (getX X n' + imm')) (nW (mayA 37 w' d' n' m' a' imm' off' cond' r' s' && false) (zx (getX X d') w')) (if (mayA 37 w' d' n' m' a' imm' off' cond' r' s' && true) = true then w' else 0)]) := by kernel_rfl
      rw [e, hm]
      rfl
    · cases y <;> kernel_rfl
  have hop : op' = 33 ∨ op' = 34 ∨ op' = 35 ∨ op' = 36 ∨ op' = 37 ∨ op' = 38 := by
    have : 33 ≤ op' ∧ op' ≤ 38 := by simpa [inB] using hop
    omega
  rw [main op' hop h1]
  rfl
/- Jumps and the rest. -/
def flE (op : Int) (imm : W64) : Int := if (op == 45) = true then 7 else if (op == 46) = true then (if (if decide ((BitVec.ofInt 64 1).toNat ≤ imm.toNat) = true then decide (imm.toNat ≤ (BitVec.ofInt 64 6).toNat) else false) = true then IntKind.i64.wrap (imm.toNat : Int) else 4) else 0
def flBy (op off : Int) (x d pc : W64) (h : Bool) : W64 :=
  if (op == 40) = true then BitVec.ofInt 64 off else if (op == 41) = true then (if h = true then BitVec.ofInt 64 off else BitVec.ofInt 64 4)
  else if (op == 42) = true then (if (d == BitVec.ofInt 64 0) = true then BitVec.ofInt 64 off else BitVec.ofInt 64 4) else if (op == 43) = true then (if (d != BitVec.ofInt 64 0) = true then BitVec.ofInt 64 off else BitVec.ofInt 64 4)
  else if (op == 44) = true then x - pc else if (op == 46) = true then BitVec.ofInt 64 0 else BitVec.ofInt 64 4
def sr33 : CSpec
  | [.rp (cP X n z c v pc ld st ex aq rl ta vv w) 0, .agg (cI op' w' d' n' m' a' imm' off' cond' r' s')] => (match allU X 31, inB 39 op' 47 with
    | true, true => some ⟨[], .tup [.i .i64 (flE op' imm'), .u 64 (flBy op' off' (getX X n') (getX X d') pc (holds n z c v cond'))]⟩
    | _, _ => none)
  | _ => none
theorem okr33 : FnOk Try.prog 33 sr33 := okC SP5_ok Try.func33 (by kernel_rfl) (by kernel_rfl) 1 <| by
  intro xs r hs
  unfold sr33 at hs; split at hs <;> try cases hs
  rename_i X n z c v pc ld st ex aq rl ta vv w op' w' d' n' m' a' imm' off' cond' r' s'
  split at hs <;> cases hs
  rename_i hU hop
  rintro hp _
  show (evFn T SP5 noL 1 Try.f33 [.rp ((cP X n z c v pc ld st ex aq rl ta vv w).map canA) 0, .agg (cI op' w' d' n' m' a' imm' off' cond' r' s')]).run = some (.tup [.i .i64 (flE op' imm'), .u 64 (flBy op' off' (getX X n') (getX X d') pc (holds n z c v cond'))])
  rw [can_cP hU]
  have main : ∀ k : Int, k = 39 ∨ k = 40 ∨ k = 41 ∨ k = 42 ∨ k = 43 ∨ k = 44 ∨ k = 45 ∨ k = 46 ∨ k = 47 →
    ∀ (h g b : Bool) (D : W64), holds n z c v cond' = h → getX X d' = D → (D == BitVec.ofInt 64 0) = g → (if decide ((BitVec.ofInt 64 1).toNat ≤ imm'.toNat) = true then decide (imm'.toNat ≤ (BitVec.ofInt 64 6).toNat) else false) = b →
    (evFn T SP5 noL 1 Try.f33 [.rp (cP (words X) n z c v pc ld st ex aq rl ta vv w) 0, .agg (cI k w' d' n' m' a' imm' off' cond' r' s')]).run = some (.tup [.i .i64 (flE k imm'), .u 64 (flBy k off' (getX X n') (getX X d') pc (holds n z c v cond'))]) := by
    rintro k (rfl | rfl | rfl | rfl | rfl | rfl | rfl | rfl | rfl) h g b D hh hD hg hb
    · kernel_rfl
    · kernel_rfl
    · have e : (evFn T SP5 noL 1 Try.f33 [.rp (cP (words X) n z c v pc ld st ex aq rl ta vv w) 0, .agg (cI 41 w' d' n' m' a' imm' off' cond' r' s')]).run = if holds n z c v cond' = true then some (.tup [.i .i64 0, .u 64 (BitVec.ofInt 64 off')]) else some (.tup [.i .i64 0, .u 64 (BitVec.ofInt 64 4)]) := by kernel_rfl
      rw [e, hh]; cases h <;> rfl
    · have e : (evFn T SP5 noL 1 Try.f33 [.rp (cP (words X) n z c v pc ld st ex aq rl ta vv w) 0, .agg (cI 42 w' d' n' m' a' imm' off' cond' r' s')]).run = if (getX X d' == BitVec.ofInt 64 0) = true then some (.tup [.i .i64 0, .u 64 (BitVec.ofInt 64 off')]) else some (.tup [.i .i64 0, .u 64 (BitVec.ofInt 64 4)]) := by kernel_rfl
      rw [e, hD]
      show _ = some (AV.tup [.i .i64 0, .u 64 (if (D == BitVec.ofInt 64 0) = true then BitVec.ofInt 64 off' else BitVec.ofInt 64 4)])
      rw [hg]; cases g <;> rfl
    · have e : (evFn T SP5 noL 1 Try.f33 [.rp (cP (words X) n z c v pc ld st ex aq rl ta vv w) 0, .agg (cI 43 w' d' n' m' a' imm' off' cond' r' s')]).run = if (!(getX X d' == BitVec.ofInt 64 0)) = true then some (.tup [.i .i64 0, .u 64 (BitVec.ofInt 64 off')]) else some (.tup [.i .i64 0, .u 64 (BitVec.ofInt 64 4)]) := by kernel_rfl
      rw [e, hD]
      show _ = some (AV.tup [.i .i64 0, .u 64 (if (!(D == BitVec.ofInt 64 0)) = true then BitVec.ofInt 64 off' else BitVec.ofInt 64 4)])
      rw [hg]; cases g <;> rfl
    · kernel_rfl
    · kernel_rfl
    · have e : (evFn T SP5 noL 1 Try.f33 [.rp (cP (words X) n z c v pc ld st ex aq rl ta vv w) 0, .agg (cI 46 w' d' n' m' a' imm' off' cond' r' s')]).run = if (if decide ((BitVec.ofInt 64 1).toNat ≤ imm'.toNat) = true then decide (imm'.toNat ≤ (BitVec.ofInt 64 6).toNat) else false) = true then some (.tup [.i .i64 (IntKind.i64.wrap (imm'.toNat : Int)), .u 64 (BitVec.ofInt 64 0)]) else some (.tup [.i .i64 4, .u 64 (BitVec.ofInt 64 0)]) := by kernel_rfl
      rw [e]
      show _ = some (AV.tup [.i .i64 (if (if decide ((BitVec.ofInt 64 1).toNat ≤ imm'.toNat) = true then decide (imm'.toNat ≤ (BitVec.ofInt 64 6).toNat) else false) = true then IntKind.i64.wrap (imm'.toNat : Int) else 4), .u 64 (BitVec.ofInt 64 0)])
      rw [hb]; cases b <;> rfl
    · kernel_rfl
  have hop : op' = 39 ∨ op' = 40 ∨ op' = 41 ∨ op' = 42 ∨ op' = 43 ∨ op' = 44 ∨ op' = 45 ∨ op' = 46 ∨ op' = 47 := by
    have : 39 ≤ op' ∧ op' ≤ 47 := by simpa [inB] using hop
    omega
  exact main op' hop _ _ _ _ rfl rfl rfl rfl
noncomputable abbrev SP6 : FuncId → CSpec := withS (withS SP5 1000032 sr32O) 33 sr33
theorem SP6_ok : ∀ f, FnOk Try.prog f (SP6 f) := withS_ok (withS_ok SP5_ok okr32O) okr33
end Go.Proofs.Ytocfkaihfjbfnaa
set_option maxRecDepth 100000
namespace Go.Proofs.Ytocfkaihfjbfnaa
open Go.Proofs.Ytocfkaihfjbfnaa.Ev Go.RowKit
/- Done: what any instruction does. -/
def dV (op s r : Int) (imm x y d a : W64) (h : Bool) : W64 := if decide (op ≤ 12) = true then sumsW op x (sumsB op s imm y) else valueB op s r imm x y d a h
def dX (op w d n m a : Int) (imm : W64) (r s : Int) (x : W64) (y h : Bool) (X : Nat → AV) : Nat → AV := fun j =>
  .u 64 (if decide (op ≤ 32) = true then unU64 (setX X d (dV op s r imm (getX X n) (getX X m) (getX X d) (getX X a) h) j) else if decide (op ≤ 38) = true then unU64 (accX op w d m x y X j) else unU64 (X j))
def dF (op : Int) (p q : Bool) : Bool := if decide (op ≤ 12) = true then p else q
def dPc (op off : Int) (x d pc : W64) (h : Bool) : W64 := if decide (op ≤ 38) = true then pc + BitVec.ofInt 64 4 else pc + flBy op off x d pc h
def dE (op : Int) (imm : W64) : Int := if decide (op ≤ 38) = true then 0 else flE op imm
def preS (op s : Int) : Bool := if decide (op ≤ 12) = true then decide (0 ≤ s) else true
def pre3 (op : Int) (p : Bool) : Bool := if decide (op ≤ 28) = true then true else if decide (op ≤ 30) = true then p else true
def pre0 (op s : Int) : Bool := if decide (op ≤ 12) = true then true else if decide (op ≤ 18) = true then decide (0 ≤ IntKind.i64.wrap (16 * s)) else true
def selX (b : Bool) (F X : Nat → AV) : Nat → AV := fun j => .u 64 (if b = true then unU64 (F j) else unU64 (X j))
def sb (b p q : Bool) : Bool := if b = true then p else q
def sw (b : Bool) (p q : W64) : W64 := if b = true then p else q
def si (b : Bool) (p q : Int) : Int := if b = true then p else q
def sr13O : CSpec
  | [.obj (cP X n z c v pc ld st ex aq rl ta vv w), .agg (cI op' w' d' n' m' a' imm' off' cond' r' s'), .u 64 x, .b y] => (match allU X 31 with
    | true => some ⟨[], .fin (.i .i64 (si (mayA op' w' d' n' m' a' imm' off' cond' r' s') (dE op' imm') 4))
        [cP (selX (mayA op' w' d' n' m' a' imm' off' cond' r' s') (dX op' w' d' n' m' a' imm' r' s' x y (holds n z c v cond') X) X)
          (sb (mayA op' w' d' n' m' a' imm' off' cond' r' s') (dF op' (flN op' (getX X n') (sumsB op' s' imm' (getX X m')) n) n) n)
          (sb (mayA op' w' d' n' m' a' imm' off' cond' r' s') (dF op' (flZ op' (getX X n') (sumsB op' s' imm' (getX X m')) z) z) z)
          (sb (mayA op' w' d' n' m' a' imm' off' cond' r' s') (dF op' (flC op' (getX X n') (sumsB op' s' imm' (getX X m')) c) c) c)
          (sb (mayA op' w' d' n' m' a' imm' off' cond' r' s') (dF op' (flV op' (getX X n') (sumsB op' s' imm' (getX X m')) v) v) v)
          (sw (mayA op' w' d' n' m' a' imm' off' cond' r' s') (dPc op' off' (getX X n') (getX X d') pc (holds n z c v cond')) pc)
          (sb (mayA op' w' d' n' m' a' imm' off' cond' r' s') (markB op' true false ld) ld) (sb (mayA op' w' d' n' m' a' imm' off' cond' r' s') (markB op' false false st) st)
          (sb (mayA op' w' d' n' m' a' imm' off' cond' r' s') (markB op' true false ex) ex) (sb (mayA op' w' d' n' m' a' imm' off' cond' r' s') (markB op' true false aq) aq) (sb (mayA op' w' d' n' m' a' imm' off' cond' r' s') (markB op' false false rl) rl)
          (sw (mayA op' w' d' n' m' a' imm' off' cond' r' s') (markW op' (getX X n' + imm') ta) ta) (sw (mayA op' w' d' n' m' a' imm' off' cond' r' s') (markW op' 0#64 vv) vv) (si (mayA op' w' d' n' m' a' imm' off' cond' r' s') (markI op' w' w) w)]⟩
    | _ => none)
  | _ => none
def Run13 (X : Nat → AV) (n z c v : Bool) (pc : W64) (ld st ex aq rl : Bool) (ta vv : W64) (w : Int) (w' d' n' m' a' : Int) (imm' : W64) (off' cond' r' s' : Int) (x : W64) (y : Bool) (k : Int) (n1 z1 c1 v1 : Bool) : Prop :=
      (evFnO T SP6 noL 1 Try.f13 [.obj (cP (words X) n z c v pc ld st ex aq rl ta vv w), .agg (cI k w' d' n' m' a' imm' off' cond' r' s'), .u 64 x, .b y]).run =
      if (!mayA k w' d' n' m' a' imm' off' cond' r' s') = true then some (.i .i64 4, [cP (words X) n z c v pc ld st ex aq rl ta vv w]) else
      if preS k s' = true then if pre0 k s' = true then if pre3 k (if decide (r' ≤ s') = true then decide (0 ≤ r') else true) = true then if pre3 k (decide (0 ≤ fldL r' s')) = true then if pre3 k (decide (0 ≤ fldK r' s')) = true then
      if (if inB 33 k 38 = true then mayA k w' d' n' m' a' imm' off' cond' r' s' else true) = true then
      some (.i .i64 (dE k imm'), [cP (dX k w' d' n' m' a' imm' r' s' x y (holds n z c v cond') X)
          n1 z1 c1 v1
          (dPc k off' (getX X n') (getX X d') pc (holds n z c v cond'))
          (markB k true false ld) (markB k false false st) (markB k true false ex) (markB k true false aq) (markB k false false rl) (markW k (getX X n' + imm') ta) (markW k 0#64 vv) (markI k w' w)])
      else none else none else none else none else none else none
theorem run13_0 (X : Nat → AV) (n z c v : Bool) (pc : W64) (ld st ex aq rl : Bool) (ta vv : W64) (w : Int) (w' d' n' m' a' : Int) (imm' : W64) (off' cond' r' s' : Int) (x : W64) (y : Bool) (k : Int) (hk : k = 1 ∨ k = 2 ∨ k = 3 ∨ k = 4 ∨ k = 5 ∨ k = 6 ∨ k = 7 ∨ k = 8) : Run13 X n z c v pc ld st ex aq rl ta vv w w' d' n' m' a' imm' off' cond' r' s' x y k (dF k (flN k (getX X n') (sumsB k s' imm' (getX X m')) n) n) (dF k (flZ k (getX X n') (sumsB k s' imm' (getX X m')) z) z) (dF k (flC k (getX X n') (sumsB k s' imm' (getX X m')) c) c) (dF k (flV k (getX X n') (sumsB k s' imm' (getX X m')) v) v) := by
  unfold Run13
  rcases hk with rfl | rfl | rfl | rfl | rfl | rfl | rfl | rfl
  all_goals kernel_rfl
theorem run13_1 (X : Nat → AV) (n z c v : Bool) (pc : W64) (ld st ex aq rl : Bool) (ta vv : W64) (w : Int) (w' d' n' m' a' : Int) (imm' : W64) (off' cond' r' s' : Int) (x : W64) (y : Bool) (k : Int) (hk : k = 9 ∨ k = 10 ∨ k = 11) : Run13 X n z c v pc ld st ex aq rl ta vv w w' d' n' m' a' imm' off' cond' r' s' x y k (dF k (flN k (getX X n') (sumsB k s' imm' (getX X m')) n) n) (dF k (flZ k (getX X n') (sumsB k s' imm' (getX X m')) z) z) (dF k (flC k (getX X n') (sumsB k s' imm' (getX X m')) c) c) (dF k (flV k (getX X n') (sumsB k s' imm' (getX X m')) v) v) := by
  unfold Run13
  rcases hk with rfl | rfl | rfl
  all_goals kernel_rfl
theorem run13_2 (X : Nat → AV) (n z c v : Bool) (pc : W64) (ld st ex aq rl : Bool) (ta vv : W64) (w : Int) (w' d' n' m' a' : Int) (imm' : W64) (off' cond' r' s' : Int) (x : W64) (y : Bool) (k : Int) (hk : k = 13 ∨ k = 14 ∨ k = 15 ∨ k = 16) : Run13 X n z c v pc ld st ex aq rl ta vv w w' d' n' m' a' imm' off' cond' r' s' x y k (dF k (flN k (getX X n') (sumsB k s' imm' (getX X m')) n) n) (dF k (flZ k (getX X n') (sumsB k s' imm' (getX X m')) z) z) (dF k (flC k (getX X n') (sumsB k s' imm' (getX X m')) c) c) (dF k (flV k (getX X n') (sumsB k s' imm' (getX X m')) v) v) := by
  unfold Run13
  rcases hk with rfl | rfl | rfl | rfl
  all_goals kernel_rfl
theorem run13_3 (X : Nat → AV) (n z c v : Bool) (pc : W64) (ld st ex aq rl : Bool) (ta vv : W64) (w : Int) (w' d' n' m' a' : Int) (imm' : W64) (off' cond' r' s' : Int) (x : W64) (y : Bool) (k : Int) (hk : k = 17 ∨ k = 18 ∨ k = 19 ∨ k = 20 ∨ k = 21 ∨ k = 22 ∨ k = 23 ∨ k = 24) : Run13 X n z c v pc ld st ex aq rl ta vv w w' d' n' m' a' imm' off' cond' r' s' x y k (dF k (flN k (getX X n') (sumsB k s' imm' (getX X m')) n) n) (dF k (flZ k (getX X n') (sumsB k s' imm' (getX X m')) z) z) (dF k (flC k (getX X n') (sumsB k s' imm' (getX X m')) c) c) (dF k (flV k (getX X n') (sumsB k s' imm' (getX X m')) v) v) := by
  unfold Run13
  rcases hk with rfl | rfl | rfl | rfl | rfl | rfl | rfl | rfl
  all_goals kernel_rfl
theorem run13_4 (X : Nat → AV) (n z c v : Bool) (pc : W64) (ld st ex aq rl : Bool) (ta vv : W64) (w : Int) (w' d' n' m' a' : Int) (imm' : W64) (off' cond' r' s' : Int) (x : W64) (y : Bool) (k : Int) (hk : k = 25 ∨ k = 26 ∨ k = 27 ∨ k = 28 ∨ k = 29 ∨ k = 30 ∨ k = 31 ∨ k = 32) : Run13 X n z c v pc ld st ex aq rl ta vv w w' d' n' m' a' imm' off' cond' r' s' x y k (dF k (flN k (getX X n') (sumsB k s' imm' (getX X m')) n) n) (dF k (flZ k (getX X n') (sumsB k s' imm' (getX X m')) z) z) (dF k (flC k (getX X n') (sumsB k s' imm' (getX X m')) c) c) (dF k (flV k (getX X n') (sumsB k s' imm' (getX X m')) v) v) := by
  unfold Run13
  rcases hk with rfl | rfl | rfl | rfl | rfl | rfl | rfl | rfl
  all_goals kernel_rfl
theorem run13_5 (X : Nat → AV) (n z c v : Bool) (pc : W64) (ld st ex aq rl : Bool) (ta vv : W64) (w : Int) (w' d' n' m' a' : Int) (imm' : W64) (off' cond' r' s' : Int) (x : W64) (y : Bool) (k : Int) (hk : k = 33 ∨ k = 34 ∨ k = 35 ∨ k = 36 ∨ k = 37 ∨ k = 38 ∨ k = 39 ∨ k = 40) : Run13 X n z c v pc ld st ex aq rl ta vv w w' d' n' m' a' imm' off' cond' r' s' x y k (dF k (flN k (getX X n') (sumsB k s' imm' (getX X m')) n) n) (dF k (flZ k (getX X n') (sumsB k s' imm' (getX X m')) z) z) (dF k (flC k (getX X n') (sumsB k s' imm' (getX X m')) c) c) (dF k (flV k (getX X n') (sumsB k s' imm' (getX X m')) v) v) := by
  unfold Run13
  rcases hk with rfl | rfl | rfl | rfl | rfl | rfl | rfl | rfl
  all_goals kernel_rfl
theorem run13_6 (X : Nat → AV) (n z c v : Bool) (pc : W64) (ld st ex aq rl : Bool) (ta vv : W64) (w : Int) (w' d' n' m' a' : Int) (imm' : W64) (off' cond' r' s' : Int) (x : W64) (y : Bool) (k : Int) (hk : k = 41 ∨ k = 42 ∨ k = 43 ∨ k = 44 ∨ k = 45 ∨ k = 46 ∨ k = 47) : Run13 X n z c v pc ld st ex aq rl ta vv w w' d' n' m' a' imm' off' cond' r' s' x y k (dF k (flN k (getX X n') (sumsB k s' imm' (getX X m')) n) n) (dF k (flZ k (getX X n') (sumsB k s' imm' (getX X m')) z) z) (dF k (flC k (getX X n') (sumsB k s' imm' (getX X m')) c) c) (dF k (flV k (getX X n') (sumsB k s' imm' (getX X m')) v) v) := by
  unfold Run13
  rcases hk with rfl | rfl | rfl | rfl | rfl | rfl | rfl
  all_goals kernel_rfl
theorem run13_12 (X : Nat → AV) (n z c v : Bool) (pc : W64) (ld st ex aq rl : Bool) (ta vv : W64) (w : Int) (w' d' n' m' a' : Int) (imm' : W64) (off' cond' r' s' : Int) (x : W64) (y : Bool) : Run13 X n z c v pc ld st ex aq rl ta vv w w' d' n' m' a' imm' off' cond' r' s' x y 12 (flN 12 (getX X n') (sumsB 12 s' imm' (getX X m')) n) (flZ 12 (getX X n') (sumsB 12 s' imm' (getX X m')) z) (flC 12 (getX X n') (sumsB 12 s' imm' (getX X m')) c) (flV 12 (getX X n') (sumsB 12 s' imm' (getX X m')) v) := by
  unfold Run13
  kernel_rfl
theorem dF12 (p q : Bool) : dF 12 p q = p := rfl
theorem run13 (X : Nat → AV) (n z c v : Bool) (pc : W64) (ld st ex aq rl : Bool) (ta vv : W64) (w : Int) (w' d' n' m' a' : Int) (imm' : W64) (off' cond' r' s' : Int) (x : W64) (y : Bool) (k : Int) (hk : range47 k) : Run13 X n z c v pc ld st ex aq rl ta vv w w' d' n' m' a' imm' off' cond' r' s' x y k (dF k (flN k (getX X n') (sumsB k s' imm' (getX X m')) n) n) (dF k (flZ k (getX X n') (sumsB k s' imm' (getX X m')) z) z) (dF k (flC k (getX X n') (sumsB k s' imm' (getX X m')) c) c) (dF k (flV k (getX X n') (sumsB k s' imm' (getX X m')) v) v) := by
  have h : 1 ≤ k ∧ k ≤ 47 := by unfold range47 at hk; omega
  by_cases h12 : k = 12
  · subst h12
    rw [dF12, dF12, dF12, dF12]
    exact run13_12 X n z c v pc ld st ex aq rl ta vv w w' d' n' m' a' imm' off' cond' r' s' x y
  by_cases h0 : k ≤ 8
  · exact run13_0 X n z c v pc ld st ex aq rl ta vv w w' d' n' m' a' imm' off' cond' r' s' x y k (by omega)
  by_cases h1 : k ≤ 11
  · exact run13_1 X n z c v pc ld st ex aq rl ta vv w w' d' n' m' a' imm' off' cond' r' s' x y k (by omega)
  by_cases h2 : k ≤ 16
  · exact run13_2 X n z c v pc ld st ex aq rl ta vv w w' d' n' m' a' imm' off' cond' r' s' x y k (by omega)
  by_cases h3 : k ≤ 24
  · exact run13_3 X n z c v pc ld st ex aq rl ta vv w w' d' n' m' a' imm' off' cond' r' s' x y k (by omega)
  by_cases h4 : k ≤ 32
  · exact run13_4 X n z c v pc ld st ex aq rl ta vv w w' d' n' m' a' imm' off' cond' r' s' x y k (by omega)
  by_cases h5 : k ≤ 40
  · exact run13_5 X n z c v pc ld st ex aq rl ta vv w w' d' n' m' a' imm' off' cond' r' s' x y k (by omega)
  exact run13_6 X n z c v pc ld st ex aq rl ta vv w w' d' n' m' a' imm' off' cond' r' s' x y k (by omega)
theorem okr13O : FnOk Try.prog 1000013 sr13O := okOC (f := 13) SP6_ok Try.func13 (by kernel_rfl) (by kernel_rfl) 1 <| by
  intro xs r hs
  unfold sr13O at hs; split at hs <;> try cases hs
  rename_i X n z c v pc ld st ex aq rl ta vv w op' w' d' n' m' a' imm' off' cond' r' s' x y
  split at hs <;> cases hs
  rename_i hU
  rintro hp
  clear hp
  show (evFnO T SP6 noL 1 Try.f13 [.obj ((cP X n z c v pc ld st ex aq rl ta vv w).map canA), .agg (cI op' w' d' n' m' a' imm' off' cond' r' s'), .u 64 x, .b y]).run = some (.i .i64 (si (mayA op' w' d' n' m' a' imm' off' cond' r' s') (dE op' imm') 4),
        [cP (selX (mayA op' w' d' n' m' a' imm' off' cond' r' s') (dX op' w' d' n' m' a' imm' r' s' x y (holds n z c v cond') X) X)
          (sb (mayA op' w' d' n' m' a' imm' off' cond' r' s') (dF op' (flN op' (getX X n') (sumsB op' s' imm' (getX X m')) n) n) n)
          (sb (mayA op' w' d' n' m' a' imm' off' cond' r' s') (dF op' (flZ op' (getX X n') (sumsB op' s' imm' (getX X m')) z) z) z)
          (sb (mayA op' w' d' n' m' a' imm' off' cond' r' s') (dF op' (flC op' (getX X n') (sumsB op' s' imm' (getX X m')) c) c) c)
          (sb (mayA op' w' d' n' m' a' imm' off' cond' r' s') (dF op' (flV op' (getX X n') (sumsB op' s' imm' (getX X m')) v) v) v)
          (sw (mayA op' w' d' n' m' a' imm' off' cond' r' s') (dPc op' off' (getX X n') (getX X d') pc (holds n z c v cond')) pc)
          (sb (mayA op' w' d' n' m' a' imm' off' cond' r' s') (markB op' true false ld) ld) (sb (mayA op' w' d' n' m' a' imm' off' cond' r' s') (markB op' false false st) st)
          (sb (mayA op' w' d' n' m' a' imm' off' cond' r' s') (markB op' true false ex) ex) (sb (mayA op' w' d' n' m' a' imm' off' cond' r' s') (markB op' true false aq) aq) (sb (mayA op' w' d' n' m' a' imm' off' cond' r' s') (markB op' false false rl) rl)
          (sw (mayA op' w' d' n' m' a' imm' off' cond' r' s') (markW op' (getX X n' + imm') ta) ta) (sw (mayA op' w' d' n' m' a' imm' off' cond' r' s') (markW op' 0#64 vv) vv) (si (mayA op' w' d' n' m' a' imm' off' cond' r' s') (markI op' w' w) w)])
  rw [can_cP hU]
  cases hm : mayA op' w' d' n' m' a' imm' off' cond' r' s' with
  | false =>
    have e : ∃ t, (evFnO T SP6 noL 1 Try.f13 [.obj (cP (words X) n z c v pc ld st ex aq rl ta vv w), .agg (cI op' w' d' n' m' a' imm' off' cond' r' s'), .u 64 x, .b y]).run = if (if false = true then true else !mayA op' w' d' n' m' a' imm' off' cond' r' s') = true then some (.i .i64 4, [cP (words X) n z c v pc ld st ex aq rl ta vv w]) else t :=
      ⟨match evFnO T SP6 noL 1 Try.f13 [.obj (cP (words X) n z c v pc ld st ex aq rl ta vv w), .agg (cI op' w' d' n' m' a' imm' off' cond' r' s'), .u 64 x, .b y] with
        | .ite _ _ b => b.run
        | _ => none, by kernel_rfl⟩
    obtain ⟨t, e⟩ := e
    rw [e, hm]
    rfl
  | true =>
    have main := run13 X n z c v pc ld st ex aq rl ta vv w w' d' n' m' a' imm' off' cond' r' s' x y
    obtain ⟨hr1, hr2, hs1, hs2⟩ := may_rs hm
    have p1 : preS op' s' = true := by unfold preS; simp [hs1]
    have p0 : pre0 op' s' = true := by
      unfold pre0
      have : 0 ≤ IntKind.i64.wrap (16 * s') := by rw [wrapS (by omega) (by omega)]; omega
      simp [this]
    have q1 : pre3 op' (if decide (r' ≤ s') = true then decide (0 ≤ r') else true) = true := by unfold pre3; simp [hr1]
    have q2 : pre3 op' (decide (0 ≤ fldL r' s')) = true := by unfold pre3; simp [fldL_nn]
    have q3 : pre3 op' (decide (0 ≤ fldK r' s')) = true := by unfold pre3; simp [fldK_nn ⟨hr1, hr2⟩ ⟨hs1, hs2⟩]
    have hsel : ∀ F : Nat → W64, selX true (fun j => .u 64 (F j)) X = fun j => .u 64 (F j) := fun F => rfl
    have main := main op' (range47_of (may_range hm))
    unfold Run13 at main
    rw [main, hm, if_pos p1, if_pos p0, if_pos q1, if_pos q2, if_pos q3]
    simp only [ite_self, if_true, Bool.not_true, Bool.false_eq_true, if_false]
    rfl
noncomputable abbrev SP7 : FuncId → CSpec := withS SP6 1000013 sr13O
theorem SP7_ok : ∀ f, FnOk Try.prog f (SP7 f) := withS_ok SP6_ok okr13O
end Go.Proofs.Ytocfkaihfjbfnaa
