/- Lemmas: the reference's Done, by the evaluator, and the plain law. No condition. -/
import Derived.Test.YtocfkaihfjbfnaaRef
import Derived.Test.YtocfkaihfjbfnaaKeeps
set_option linter.unusedVariables false
set_option linter.unusedSimpArgs false
set_option maxRecDepth 100000
namespace Go.Proofs.Ytocfkaihfjbfnaa
open Go.Proofs.Ytocfkaihfjbfnaa.Ev Go.RowKit
/- The reference's Done. -/
def eX (op w d n m a : Int) (imm : W64) (r s : Int) (x : W64) (y h : Bool) (X : Nat → AV) : Nat → AV := fun j =>
  .u 64 (if decide (op ≤ 32) = true then unU64 (setX X d (dV op s r imm (getX X n) (getX X m) (getX X d) (getX X a) h) j) else if isLd op = true then unU64 (setX X d (zx x w) j) else if (op == 38) = true then unU64 (setX X m (if y = true then BitVec.ofInt 64 0 else BitVec.ofInt 64 1) j) else unU64 (X j))
def Run14 (X : Nat → AV) (n z c v : Bool) (pc : W64) (k : Int) (ex aq rl : Bool) (ta vv : W64) (w : Int) (w' d' n' m' a' : Int) (imm' : W64) (off' cond' r' s' : Int) (x : W64) (y : Bool) (q : Int) (pc1 : W64) (e1 : Int) : Prop :=
  (evFn T SU4 noL 1 Try.f14 [.agg (cR (words X) n z c v pc k ex aq rl ta vv w), .agg (cI q w' d' n' m' a' imm' off' cond' r' s'), .u 64 x, .b y]).run =
    if (!mayA q w' d' n' m' a' imm' off' cond' r' s') = true then some (.tup [.agg (cR (words X) n z c v pc k ex aq rl ta vv w), .i .i64 4]) else if mayA q w' d' n' m' a' imm' off' cond' r' s' = true then (if (if decide (q ≤ 32) = true then mayA q w' d' n' m' a' imm' off' cond' r' s' else true) = true then some (.tup [.agg (cR (eX q w' d' n' m' a' imm' r' s' x y (holds n z c v cond') X) (dF q (flN q (getX X n') (sumsB q s' imm' (getX X m')) n) n) (dF q (flZ q (getX X n') (sumsB q s' imm' (getX X m')) z) z) (dF q (flC q (getX X n') (sumsB q s' imm' (getX X m')) c) c) (dF q (flV q (getX X n') (sumsB q s' imm' (getX X m')) v) v) pc1 (markI q 1 k) (markB q true false ex) (markB q true false aq) (markB q false false rl) (markW q (getX X n' + imm') ta) (markW q 0#64 vv) (markI q w' w)), .i .i64 e1]) else none) else none
theorem run14_1 (X : Nat → AV) (n z c v : Bool) (pc : W64) (k : Int) (ex aq rl : Bool) (ta vv : W64) (w : Int) (w' d' n' m' a' : Int) (imm' : W64) (off' cond' r' s' : Int) (x : W64) (y : Bool) : Run14 X n z c v pc k ex aq rl ta vv w w' d' n' m' a' imm' off' cond' r' s' x y 1 (dPc 1 off' (getX X n') (getX X d') pc (holds n z c v cond')) (dE 1 imm') := by
  unfold Run14
  kernel_rfl
theorem run14_2 (X : Nat → AV) (n z c v : Bool) (pc : W64) (k : Int) (ex aq rl : Bool) (ta vv : W64) (w : Int) (w' d' n' m' a' : Int) (imm' : W64) (off' cond' r' s' : Int) (x : W64) (y : Bool) : Run14 X n z c v pc k ex aq rl ta vv w w' d' n' m' a' imm' off' cond' r' s' x y 2 (dPc 2 off' (getX X n') (getX X d') pc (holds n z c v cond')) (dE 2 imm') := by
  unfold Run14
  kernel_rfl
theorem run14_3 (X : Nat → AV) (n z c v : Bool) (pc : W64) (k : Int) (ex aq rl : Bool) (ta vv : W64) (w : Int) (w' d' n' m' a' : Int) (imm' : W64) (off' cond' r' s' : Int) (x : W64) (y : Bool) : Run14 X n z c v pc k ex aq rl ta vv w w' d' n' m' a' imm' off' cond' r' s' x y 3 (dPc 3 off' (getX X n') (getX X d') pc (holds n z c v cond')) (dE 3 imm') := by
  unfold Run14
  kernel_rfl
theorem run14_4 (X : Nat → AV) (n z c v : Bool) (pc : W64) (k : Int) (ex aq rl : Bool) (ta vv : W64) (w : Int) (w' d' n' m' a' : Int) (imm' : W64) (off' cond' r' s' : Int) (x : W64) (y : Bool) : Run14 X n z c v pc k ex aq rl ta vv w w' d' n' m' a' imm' off' cond' r' s' x y 4 (dPc 4 off' (getX X n') (getX X d') pc (holds n z c v cond')) (dE 4 imm') := by
  unfold Run14
  kernel_rfl
theorem run14_5 (X : Nat → AV) (n z c v : Bool) (pc : W64) (k : Int) (ex aq rl : Bool) (ta vv : W64) (w : Int) (w' d' n' m' a' : Int) (imm' : W64) (off' cond' r' s' : Int) (x : W64) (y : Bool) : Run14 X n z c v pc k ex aq rl ta vv w w' d' n' m' a' imm' off' cond' r' s' x y 5 (dPc 5 off' (getX X n') (getX X d') pc (holds n z c v cond')) (dE 5 imm') := by
  unfold Run14
  kernel_rfl
theorem run14_6 (X : Nat → AV) (n z c v : Bool) (pc : W64) (k : Int) (ex aq rl : Bool) (ta vv : W64) (w : Int) (w' d' n' m' a' : Int) (imm' : W64) (off' cond' r' s' : Int) (x : W64) (y : Bool) : Run14 X n z c v pc k ex aq rl ta vv w w' d' n' m' a' imm' off' cond' r' s' x y 6 (dPc 6 off' (getX X n') (getX X d') pc (holds n z c v cond')) (dE 6 imm') := by
  unfold Run14
  kernel_rfl
theorem run14_7 (X : Nat → AV) (n z c v : Bool) (pc : W64) (k : Int) (ex aq rl : Bool) (ta vv : W64) (w : Int) (w' d' n' m' a' : Int) (imm' : W64) (off' cond' r' s' : Int) (x : W64) (y : Bool) : Run14 X n z c v pc k ex aq rl ta vv w w' d' n' m' a' imm' off' cond' r' s' x y 7 (dPc 7 off' (getX X n') (getX X d') pc (holds n z c v cond')) (dE 7 imm') := by
  unfold Run14
  kernel_rfl
theorem run14_8 (X : Nat → AV) (n z c v : Bool) (pc : W64) (k : Int) (ex aq rl : Bool) (ta vv : W64) (w : Int) (w' d' n' m' a' : Int) (imm' : W64) (off' cond' r' s' : Int) (x : W64) (y : Bool) : Run14 X n z c v pc k ex aq rl ta vv w w' d' n' m' a' imm' off' cond' r' s' x y 8 (dPc 8 off' (getX X n') (getX X d') pc (holds n z c v cond')) (dE 8 imm') := by
  unfold Run14
  kernel_rfl
theorem run14_9 (X : Nat → AV) (n z c v : Bool) (pc : W64) (k : Int) (ex aq rl : Bool) (ta vv : W64) (w : Int) (w' d' n' m' a' : Int) (imm' : W64) (off' cond' r' s' : Int) (x : W64) (y : Bool) : Run14 X n z c v pc k ex aq rl ta vv w w' d' n' m' a' imm' off' cond' r' s' x y 9 (dPc 9 off' (getX X n') (getX X d') pc (holds n z c v cond')) (dE 9 imm') := by
  unfold Run14
  kernel_rfl
theorem run14_10 (X : Nat → AV) (n z c v : Bool) (pc : W64) (k : Int) (ex aq rl : Bool) (ta vv : W64) (w : Int) (w' d' n' m' a' : Int) (imm' : W64) (off' cond' r' s' : Int) (x : W64) (y : Bool) : Run14 X n z c v pc k ex aq rl ta vv w w' d' n' m' a' imm' off' cond' r' s' x y 10 (dPc 10 off' (getX X n') (getX X d') pc (holds n z c v cond')) (dE 10 imm') := by
  unfold Run14
  kernel_rfl
theorem run14_11 (X : Nat → AV) (n z c v : Bool) (pc : W64) (k : Int) (ex aq rl : Bool) (ta vv : W64) (w : Int) (w' d' n' m' a' : Int) (imm' : W64) (off' cond' r' s' : Int) (x : W64) (y : Bool) : Run14 X n z c v pc k ex aq rl ta vv w w' d' n' m' a' imm' off' cond' r' s' x y 11 (dPc 11 off' (getX X n') (getX X d') pc (holds n z c v cond')) (dE 11 imm') := by
  unfold Run14
  kernel_rfl
theorem run14_12 (X : Nat → AV) (n z c v : Bool) (pc : W64) (k : Int) (ex aq rl : Bool) (ta vv : W64) (w : Int) (w' d' n' m' a' : Int) (imm' : W64) (off' cond' r' s' : Int) (x : W64) (y : Bool) : Run14 X n z c v pc k ex aq rl ta vv w w' d' n' m' a' imm' off' cond' r' s' x y 12 (dPc 12 off' (getX X n') (getX X d') pc (holds n z c v cond')) (dE 12 imm') := by
  unfold Run14
  kernel_rfl
end Go.Proofs.Ytocfkaihfjbfnaa
set_option maxRecDepth 100000
namespace Go.Proofs.Ytocfkaihfjbfnaa
open Go.Proofs.Ytocfkaihfjbfnaa.Ev Go.RowKit
theorem run14_13 (X : Nat → AV) (n z c v : Bool) (pc : W64) (k : Int) (ex aq rl : Bool) (ta vv : W64) (w : Int) (w' d' n' m' a' : Int) (imm' : W64) (off' cond' r' s' : Int) (x : W64) (y : Bool) : Run14 X n z c v pc k ex aq rl ta vv w w' d' n' m' a' imm' off' cond' r' s' x y 13 (dPc 13 off' (getX X n') (getX X d') pc (holds n z c v cond')) (dE 13 imm') := by
  unfold Run14
  kernel_rfl
theorem run14_14 (X : Nat → AV) (n z c v : Bool) (pc : W64) (k : Int) (ex aq rl : Bool) (ta vv : W64) (w : Int) (w' d' n' m' a' : Int) (imm' : W64) (off' cond' r' s' : Int) (x : W64) (y : Bool) : Run14 X n z c v pc k ex aq rl ta vv w w' d' n' m' a' imm' off' cond' r' s' x y 14 (dPc 14 off' (getX X n') (getX X d') pc (holds n z c v cond')) (dE 14 imm') := by
  unfold Run14
  kernel_rfl
theorem run14_15 (X : Nat → AV) (n z c v : Bool) (pc : W64) (k : Int) (ex aq rl : Bool) (ta vv : W64) (w : Int) (w' d' n' m' a' : Int) (imm' : W64) (off' cond' r' s' : Int) (x : W64) (y : Bool) : Run14 X n z c v pc k ex aq rl ta vv w w' d' n' m' a' imm' off' cond' r' s' x y 15 (dPc 15 off' (getX X n') (getX X d') pc (holds n z c v cond')) (dE 15 imm') := by
  unfold Run14
  kernel_rfl
theorem run14_16 (X : Nat → AV) (n z c v : Bool) (pc : W64) (k : Int) (ex aq rl : Bool) (ta vv : W64) (w : Int) (w' d' n' m' a' : Int) (imm' : W64) (off' cond' r' s' : Int) (x : W64) (y : Bool) : Run14 X n z c v pc k ex aq rl ta vv w w' d' n' m' a' imm' off' cond' r' s' x y 16 (dPc 16 off' (getX X n') (getX X d') pc (holds n z c v cond')) (dE 16 imm') := by
  unfold Run14
  kernel_rfl
theorem run14_17 (X : Nat → AV) (n z c v : Bool) (pc : W64) (k : Int) (ex aq rl : Bool) (ta vv : W64) (w : Int) (w' d' n' m' a' : Int) (imm' : W64) (off' cond' r' s' : Int) (x : W64) (y : Bool) : Run14 X n z c v pc k ex aq rl ta vv w w' d' n' m' a' imm' off' cond' r' s' x y 17 (dPc 17 off' (getX X n') (getX X d') pc (holds n z c v cond')) (dE 17 imm') := by
  unfold Run14
  kernel_rfl
theorem run14_18 (X : Nat → AV) (n z c v : Bool) (pc : W64) (k : Int) (ex aq rl : Bool) (ta vv : W64) (w : Int) (w' d' n' m' a' : Int) (imm' : W64) (off' cond' r' s' : Int) (x : W64) (y : Bool) : Run14 X n z c v pc k ex aq rl ta vv w w' d' n' m' a' imm' off' cond' r' s' x y 18 (dPc 18 off' (getX X n') (getX X d') pc (holds n z c v cond')) (dE 18 imm') := by
  unfold Run14
  kernel_rfl
theorem run14_19 (X : Nat → AV) (n z c v : Bool) (pc : W64) (k : Int) (ex aq rl : Bool) (ta vv : W64) (w : Int) (w' d' n' m' a' : Int) (imm' : W64) (off' cond' r' s' : Int) (x : W64) (y : Bool) : Run14 X n z c v pc k ex aq rl ta vv w w' d' n' m' a' imm' off' cond' r' s' x y 19 (dPc 19 off' (getX X n') (getX X d') pc (holds n z c v cond')) (dE 19 imm') := by
  unfold Run14
  kernel_rfl
theorem run14_20 (X : Nat → AV) (n z c v : Bool) (pc : W64) (k : Int) (ex aq rl : Bool) (ta vv : W64) (w : Int) (w' d' n' m' a' : Int) (imm' : W64) (off' cond' r' s' : Int) (x : W64) (y : Bool) : Run14 X n z c v pc k ex aq rl ta vv w w' d' n' m' a' imm' off' cond' r' s' x y 20 (dPc 20 off' (getX X n') (getX X d') pc (holds n z c v cond')) (dE 20 imm') := by
  unfold Run14
  kernel_rfl
theorem run14_21 (X : Nat → AV) (n z c v : Bool) (pc : W64) (k : Int) (ex aq rl : Bool) (ta vv : W64) (w : Int) (w' d' n' m' a' : Int) (imm' : W64) (off' cond' r' s' : Int) (x : W64) (y : Bool) : Run14 X n z c v pc k ex aq rl ta vv w w' d' n' m' a' imm' off' cond' r' s' x y 21 (dPc 21 off' (getX X n') (getX X d') pc (holds n z c v cond')) (dE 21 imm') := by
  unfold Run14
  kernel_rfl
theorem run14_22 (X : Nat → AV) (n z c v : Bool) (pc : W64) (k : Int) (ex aq rl : Bool) (ta vv : W64) (w : Int) (w' d' n' m' a' : Int) (imm' : W64) (off' cond' r' s' : Int) (x : W64) (y : Bool) : Run14 X n z c v pc k ex aq rl ta vv w w' d' n' m' a' imm' off' cond' r' s' x y 22 (dPc 22 off' (getX X n') (getX X d') pc (holds n z c v cond')) (dE 22 imm') := by
  unfold Run14
  kernel_rfl
theorem run14_23 (X : Nat → AV) (n z c v : Bool) (pc : W64) (k : Int) (ex aq rl : Bool) (ta vv : W64) (w : Int) (w' d' n' m' a' : Int) (imm' : W64) (off' cond' r' s' : Int) (x : W64) (y : Bool) : Run14 X n z c v pc k ex aq rl ta vv w w' d' n' m' a' imm' off' cond' r' s' x y 23 (dPc 23 off' (getX X n') (getX X d') pc (holds n z c v cond')) (dE 23 imm') := by
  unfold Run14
  kernel_rfl
theorem run14_24 (X : Nat → AV) (n z c v : Bool) (pc : W64) (k : Int) (ex aq rl : Bool) (ta vv : W64) (w : Int) (w' d' n' m' a' : Int) (imm' : W64) (off' cond' r' s' : Int) (x : W64) (y : Bool) : Run14 X n z c v pc k ex aq rl ta vv w w' d' n' m' a' imm' off' cond' r' s' x y 24 (dPc 24 off' (getX X n') (getX X d') pc (holds n z c v cond')) (dE 24 imm') := by
  unfold Run14
  kernel_rfl
theorem run14_25 (X : Nat → AV) (n z c v : Bool) (pc : W64) (k : Int) (ex aq rl : Bool) (ta vv : W64) (w : Int) (w' d' n' m' a' : Int) (imm' : W64) (off' cond' r' s' : Int) (x : W64) (y : Bool) : Run14 X n z c v pc k ex aq rl ta vv w w' d' n' m' a' imm' off' cond' r' s' x y 25 (dPc 25 off' (getX X n') (getX X d') pc (holds n z c v cond')) (dE 25 imm') := by
  unfold Run14
  kernel_rfl
theorem run14_26 (X : Nat → AV) (n z c v : Bool) (pc : W64) (k : Int) (ex aq rl : Bool) (ta vv : W64) (w : Int) (w' d' n' m' a' : Int) (imm' : W64) (off' cond' r' s' : Int) (x : W64) (y : Bool) : Run14 X n z c v pc k ex aq rl ta vv w w' d' n' m' a' imm' off' cond' r' s' x y 26 (dPc 26 off' (getX X n') (getX X d') pc (holds n z c v cond')) (dE 26 imm') := by
  unfold Run14
  kernel_rfl
theorem run14_27 (X : Nat → AV) (n z c v : Bool) (pc : W64) (k : Int) (ex aq rl : Bool) (ta vv : W64) (w : Int) (w' d' n' m' a' : Int) (imm' : W64) (off' cond' r' s' : Int) (x : W64) (y : Bool) : Run14 X n z c v pc k ex aq rl ta vv w w' d' n' m' a' imm' off' cond' r' s' x y 27 (dPc 27 off' (getX X n') (getX X d') pc (holds n z c v cond')) (dE 27 imm') := by
  unfold Run14
  kernel_rfl
theorem run14_28 (X : Nat → AV) (n z c v : Bool) (pc : W64) (k : Int) (ex aq rl : Bool) (ta vv : W64) (w : Int) (w' d' n' m' a' : Int) (imm' : W64) (off' cond' r' s' : Int) (x : W64) (y : Bool) : Run14 X n z c v pc k ex aq rl ta vv w w' d' n' m' a' imm' off' cond' r' s' x y 28 (dPc 28 off' (getX X n') (getX X d') pc (holds n z c v cond')) (dE 28 imm') := by
  unfold Run14
  kernel_rfl
theorem run14_29 (X : Nat → AV) (n z c v : Bool) (pc : W64) (k : Int) (ex aq rl : Bool) (ta vv : W64) (w : Int) (w' d' n' m' a' : Int) (imm' : W64) (off' cond' r' s' : Int) (x : W64) (y : Bool) : Run14 X n z c v pc k ex aq rl ta vv w w' d' n' m' a' imm' off' cond' r' s' x y 29 (dPc 29 off' (getX X n') (getX X d') pc (holds n z c v cond')) (dE 29 imm') := by
  unfold Run14
  kernel_rfl
theorem run14_30 (X : Nat → AV) (n z c v : Bool) (pc : W64) (k : Int) (ex aq rl : Bool) (ta vv : W64) (w : Int) (w' d' n' m' a' : Int) (imm' : W64) (off' cond' r' s' : Int) (x : W64) (y : Bool) : Run14 X n z c v pc k ex aq rl ta vv w w' d' n' m' a' imm' off' cond' r' s' x y 30 (dPc 30 off' (getX X n') (getX X d') pc (holds n z c v cond')) (dE 30 imm') := by
  unfold Run14
  kernel_rfl
theorem run14_31 (X : Nat → AV) (n z c v : Bool) (pc : W64) (k : Int) (ex aq rl : Bool) (ta vv : W64) (w : Int) (w' d' n' m' a' : Int) (imm' : W64) (off' cond' r' s' : Int) (x : W64) (y : Bool) : Run14 X n z c v pc k ex aq rl ta vv w w' d' n' m' a' imm' off' cond' r' s' x y 31 (dPc 31 off' (getX X n') (getX X d') pc (holds n z c v cond')) (dE 31 imm') := by
  unfold Run14
  kernel_rfl
theorem run14_32 (X : Nat → AV) (n z c v : Bool) (pc : W64) (k : Int) (ex aq rl : Bool) (ta vv : W64) (w : Int) (w' d' n' m' a' : Int) (imm' : W64) (off' cond' r' s' : Int) (x : W64) (y : Bool) : Run14 X n z c v pc k ex aq rl ta vv w w' d' n' m' a' imm' off' cond' r' s' x y 32 (dPc 32 off' (getX X n') (getX X d') pc (holds n z c v cond')) (dE 32 imm') := by
  unfold Run14
  kernel_rfl
end Go.Proofs.Ytocfkaihfjbfnaa
set_option maxRecDepth 100000
namespace Go.Proofs.Ytocfkaihfjbfnaa
open Go.Proofs.Ytocfkaihfjbfnaa.Ev Go.RowKit
theorem run14_33 (X : Nat → AV) (n z c v : Bool) (pc : W64) (k : Int) (ex aq rl : Bool) (ta vv : W64) (w : Int) (w' d' n' m' a' : Int) (imm' : W64) (off' cond' r' s' : Int) (x : W64) (y : Bool) : Run14 X n z c v pc k ex aq rl ta vv w w' d' n' m' a' imm' off' cond' r' s' x y 33 (dPc 33 off' (getX X n') (getX X d') pc (holds n z c v cond')) (dE 33 imm') := by
  unfold Run14
  kernel_rfl
theorem run14_34 (X : Nat → AV) (n z c v : Bool) (pc : W64) (k : Int) (ex aq rl : Bool) (ta vv : W64) (w : Int) (w' d' n' m' a' : Int) (imm' : W64) (off' cond' r' s' : Int) (x : W64) (y : Bool) : Run14 X n z c v pc k ex aq rl ta vv w w' d' n' m' a' imm' off' cond' r' s' x y 34 (dPc 34 off' (getX X n') (getX X d') pc (holds n z c v cond')) (dE 34 imm') := by
  unfold Run14
  kernel_rfl
theorem run14_35 (X : Nat → AV) (n z c v : Bool) (pc : W64) (k : Int) (ex aq rl : Bool) (ta vv : W64) (w : Int) (w' d' n' m' a' : Int) (imm' : W64) (off' cond' r' s' : Int) (x : W64) (y : Bool) : Run14 X n z c v pc k ex aq rl ta vv w w' d' n' m' a' imm' off' cond' r' s' x y 35 (dPc 35 off' (getX X n') (getX X d') pc (holds n z c v cond')) (dE 35 imm') := by
  unfold Run14
  kernel_rfl
theorem run14_36 (X : Nat → AV) (n z c v : Bool) (pc : W64) (k : Int) (ex aq rl : Bool) (ta vv : W64) (w : Int) (w' d' n' m' a' : Int) (imm' : W64) (off' cond' r' s' : Int) (x : W64) (y : Bool) : Run14 X n z c v pc k ex aq rl ta vv w w' d' n' m' a' imm' off' cond' r' s' x y 36 (dPc 36 off' (getX X n') (getX X d') pc (holds n z c v cond')) (dE 36 imm') := by
  unfold Run14
  kernel_rfl
theorem run14_37 (X : Nat → AV) (n z c v : Bool) (pc : W64) (k : Int) (ex aq rl : Bool) (ta vv : W64) (w : Int) (w' d' n' m' a' : Int) (imm' : W64) (off' cond' r' s' : Int) (x : W64) (y : Bool) : Run14 X n z c v pc k ex aq rl ta vv w w' d' n' m' a' imm' off' cond' r' s' x y 37 (dPc 37 off' (getX X n') (getX X d') pc (holds n z c v cond')) (dE 37 imm') := by
  unfold Run14
  kernel_rfl
theorem run14_38 (X : Nat → AV) (n z c v : Bool) (pc : W64) (k : Int) (ex aq rl : Bool) (ta vv : W64) (w : Int) (w' d' n' m' a' : Int) (imm' : W64) (off' cond' r' s' : Int) (x : W64) (y : Bool) : Run14 X n z c v pc k ex aq rl ta vv w w' d' n' m' a' imm' off' cond' r' s' x y 38 (dPc 38 off' (getX X n') (getX X d') pc (holds n z c v cond')) (dE 38 imm') := by
  unfold Run14
  kernel_rfl
theorem run14_39 (X : Nat → AV) (n z c v : Bool) (pc : W64) (k : Int) (ex aq rl : Bool) (ta vv : W64) (w : Int) (w' d' n' m' a' : Int) (imm' : W64) (off' cond' r' s' : Int) (x : W64) (y : Bool) : Run14 X n z c v pc k ex aq rl ta vv w w' d' n' m' a' imm' off' cond' r' s' x y 39 (dPc 39 off' (getX X n') (getX X d') pc (holds n z c v cond')) (dE 39 imm') := by
  unfold Run14
  kernel_rfl
theorem run14_40 (X : Nat → AV) (n z c v : Bool) (pc : W64) (k : Int) (ex aq rl : Bool) (ta vv : W64) (w : Int) (w' d' n' m' a' : Int) (imm' : W64) (off' cond' r' s' : Int) (x : W64) (y : Bool) : Run14 X n z c v pc k ex aq rl ta vv w w' d' n' m' a' imm' off' cond' r' s' x y 40 (dPc 40 off' (getX X n') (getX X d') pc (holds n z c v cond')) (dE 40 imm') := by
  unfold Run14
  kernel_rfl
theorem run14_41 (X : Nat → AV) (n z c v : Bool) (pc : W64) (k : Int) (ex aq rl : Bool) (ta vv : W64) (w : Int) (w' d' n' m' a' : Int) (imm' : W64) (off' cond' r' s' : Int) (x : W64) (y : Bool) : Run14 X n z c v pc k ex aq rl ta vv w w' d' n' m' a' imm' off' cond' r' s' x y 41 (dPc 41 off' (getX X n') (getX X d') pc (holds n z c v cond')) (dE 41 imm') := by
  unfold Run14
  kernel_rfl
theorem run14_42 (X : Nat → AV) (n z c v : Bool) (pc : W64) (k : Int) (ex aq rl : Bool) (ta vv : W64) (w : Int) (w' d' n' m' a' : Int) (imm' : W64) (off' cond' r' s' : Int) (x : W64) (y : Bool) : Run14 X n z c v pc k ex aq rl ta vv w w' d' n' m' a' imm' off' cond' r' s' x y 42 (pc + if ((getX X d' == BitVec.ofInt 64 0) == true) = true then BitVec.ofInt 64 off' else BitVec.ofInt 64 4) 0 := by
  unfold Run14
  kernel_rfl
theorem run14_43 (X : Nat → AV) (n z c v : Bool) (pc : W64) (k : Int) (ex aq rl : Bool) (ta vv : W64) (w : Int) (w' d' n' m' a' : Int) (imm' : W64) (off' cond' r' s' : Int) (x : W64) (y : Bool) : Run14 X n z c v pc k ex aq rl ta vv w w' d' n' m' a' imm' off' cond' r' s' x y 43 (pc + if ((getX X d' == BitVec.ofInt 64 0) == false) = true then BitVec.ofInt 64 off' else BitVec.ofInt 64 4) 0 := by
  unfold Run14
  kernel_rfl
theorem run14_44 (X : Nat → AV) (n z c v : Bool) (pc : W64) (k : Int) (ex aq rl : Bool) (ta vv : W64) (w : Int) (w' d' n' m' a' : Int) (imm' : W64) (off' cond' r' s' : Int) (x : W64) (y : Bool) : Run14 X n z c v pc k ex aq rl ta vv w w' d' n' m' a' imm' off' cond' r' s' x y 44 (dPc 44 off' (getX X n') (getX X d') pc (holds n z c v cond')) (dE 44 imm') := by
  unfold Run14
  kernel_rfl
theorem run14_45 (X : Nat → AV) (n z c v : Bool) (pc : W64) (k : Int) (ex aq rl : Bool) (ta vv : W64) (w : Int) (w' d' n' m' a' : Int) (imm' : W64) (off' cond' r' s' : Int) (x : W64) (y : Bool) : Run14 X n z c v pc k ex aq rl ta vv w w' d' n' m' a' imm' off' cond' r' s' x y 45 (dPc 45 off' (getX X n') (getX X d') pc (holds n z c v cond')) (dE 45 imm') := by
  unfold Run14
  kernel_rfl
theorem run14_46 (X : Nat → AV) (n z c v : Bool) (pc : W64) (k : Int) (ex aq rl : Bool) (ta vv : W64) (w : Int) (w' d' n' m' a' : Int) (imm' : W64) (off' cond' r' s' : Int) (x : W64) (y : Bool) : (evFn T SU4 noL 1 Try.f14 [.agg (cR (words X) n z c v pc k ex aq rl ta vv w), .agg (cI 46 w' d' n' m' a' imm' off' cond' r' s'), .u 64 x, .b y]).run =
    if (!mayA 46 w' d' n' m' a' imm' off' cond' r' s') = true then some (.tup [.agg (cR (words X) n z c v pc k ex aq rl ta vv w), .i .i64 4]) else if mayA 46 w' d' n' m' a' imm' off' cond' r' s' = true then (if (if decide ((BitVec.ofInt 64 1).toNat ≤ imm'.toNat) = true then decide (imm'.toNat ≤ (BitVec.ofInt 64 6).toNat) else false) = true then some (.tup [.agg (cR (eX 46 w' d' n' m' a' imm' r' s' x y (holds n z c v cond') X) (dF 46 (flN 46 (getX X n') (sumsB 46 s' imm' (getX X m')) n) n) (dF 46 (flZ 46 (getX X n') (sumsB 46 s' imm' (getX X m')) z) z) (dF 46 (flC 46 (getX X n') (sumsB 46 s' imm' (getX X m')) c) c) (dF 46 (flV 46 (getX X n') (sumsB 46 s' imm' (getX X m')) v) v) pc (markI 46 1 k) (markB 46 true false ex) (markB 46 true false aq) (markB 46 false false rl) (markW 46 (getX X n' + imm') ta) (markW 46 0#64 vv) (markI 46 w' w)), .i .i64 (IntKind.i64.wrap (imm'.toNat : Int))]) else some (.tup [.agg (cR (eX 46 w' d' n' m' a' imm' r' s' x y (holds n z c v cond') X) (dF 46 (flN 46 (getX X n') (sumsB 46 s' imm' (getX X m')) n) n) (dF 46 (flZ 46 (getX X n') (sumsB 46 s' imm' (getX X m')) z) z) (dF 46 (flC 46 (getX X n') (sumsB 46 s' imm' (getX X m')) c) c) (dF 46 (flV 46 (getX X n') (sumsB 46 s' imm' (getX X m')) v) v) pc (markI 46 1 k) (markB 46 true false ex) (markB 46 true false aq) (markB 46 false false rl) (markW 46 (getX X n' + imm') ta) (markW 46 0#64 vv) (markI 46 w' w)), .i .i64 4])) else none := by kernel_rfl
theorem run14_47 (X : Nat → AV) (n z c v : Bool) (pc : W64) (k : Int) (ex aq rl : Bool) (ta vv : W64) (w : Int) (w' d' n' m' a' : Int) (imm' : W64) (off' cond' r' s' : Int) (x : W64) (y : Bool) : Run14 X n z c v pc k ex aq rl ta vv w w' d' n' m' a' imm' off' cond' r' s' x y 47 (dPc 47 off' (getX X n') (getX X d') pc (holds n z c v cond')) (dE 47 imm') := by
  unfold Run14
  kernel_rfl
end Go.Proofs.Ytocfkaihfjbfnaa
set_option maxRecDepth 100000
namespace Go.Proofs.Ytocfkaihfjbfnaa
open Go.Proofs.Ytocfkaihfjbfnaa.Ev Go.RowKit
/- The reference's Done, in the program's terms. -/
theorem set2_eq (X : Nat → AV) (m : Int) (y : Bool) (j : Nat) : unU64 (setX X m (if y = true then BitVec.ofInt 64 0 else BitVec.ofInt 64 1) j) = unU64 (set2 X m y j) := by
  cases y with
  | false => rfl
  | true =>
    show (bif decide (0 ≤ m) && decide (m < 31) then bif decide (j = m.toNat) then (BitVec.ofInt 64 0 : W64) else unU64 (X j) else unU64 (X j)) =
      (bif decide (0 ≤ m) && decide (m < 31) then bif decide (j = m.toNat) then (BitVec.ofInt 64 0 : W64) else (bif decide (0 ≤ m) && decide (m < 31) then bif decide (j = m.toNat) then (BitVec.ofInt 64 1 : W64) else unU64 (X j) else unU64 (X j)) else (bif decide (0 ≤ m) && decide (m < 31) then bif decide (j = m.toNat) then (BitVec.ofInt 64 1 : W64) else unU64 (X j) else unU64 (X j)))
    cases decide (0 ≤ m) && decide (m < 31) <;> cases decide (j = m.toNat) <;> rfl
theorem eX_dX (op w d n m a : Int) (imm : W64) (r s : Int) (x : W64) (y h : Bool) (X : Nat → AV) : eX op w d n m a imm r s x y h X = dX op w d n m a imm r s x y h X := by
  funext j
  unfold eX dX
  congr 1
  by_cases h32 : op ≤ 32
  · simp only [h32, decide_true, if_true]
  · simp only [h32, decide_false, Bool.false_eq_true, if_false]
    by_cases h38 : op ≤ 38
    · simp only [h38, decide_true, if_true]
      show _ = (if isLd op = true then unU64 (setX X d (zx x w) j) else if (op == 38) = true then unU64 (set2 X m y j) else unU64 (X j))
      rw [set2_eq]
    · have hl : isLd op = false := by
        cases hh : isLd op with
        | false => rfl
        | true => simp only [isLd, Bool.or_eq_true, beq_iff_eq] at hh; omega
      have h8 : (op == 38) = false := by simp; omega
      simp only [h38, hl, h8, decide_false, Bool.false_eq_true, if_false]
theorem pc42 (off : Int) (xx D pc : W64) (h : Bool) : (pc + if ((D == BitVec.ofInt 64 0) == true) = true then BitVec.ofInt 64 off else BitVec.ofInt 64 4) = dPc 42 off xx D pc h := by
  show _ = pc + (if (D == BitVec.ofInt 64 0) = true then BitVec.ofInt 64 off else BitVec.ofInt 64 4)
  cases D == BitVec.ofInt 64 0 <;> rfl
theorem pc43 (off : Int) (xx D pc : W64) (h : Bool) : (pc + if ((D == BitVec.ofInt 64 0) == false) = true then BitVec.ofInt 64 off else BitVec.ofInt 64 4) = dPc 43 off xx D pc h := by
  show _ = pc + (if (!(D == BitVec.ofInt 64 0)) = true then BitVec.ofInt 64 off else BitVec.ofInt 64 4)
  cases D == BitVec.ofInt 64 0 <;> rfl
theorem pc46 (off : Int) (xx D pc : W64) (h : Bool) : pc = dPc 46 off xx D pc h := by
  show pc = pc + 0#64
  rw [BitVec.add_zero]
def sr14 : CSpec
  | [.agg (cR X n z c v pc k ex aq rl ta vv w), .agg (cI op' w' d' n' m' a' imm' off' cond' r' s'), .u 64 x, .b y] => (match allU X 31 with
    | true => some ⟨[], .tup [.agg (cR (selX (mayA op' w' d' n' m' a' imm' off' cond' r' s') (dX op' w' d' n' m' a' imm' r' s' x y (holds n z c v cond') X) X) (sb (mayA op' w' d' n' m' a' imm' off' cond' r' s') (dF op' (flN op' (getX X n') (sumsB op' s' imm' (getX X m')) n) n) n) (sb (mayA op' w' d' n' m' a' imm' off' cond' r' s') (dF op' (flZ op' (getX X n') (sumsB op' s' imm' (getX X m')) z) z) z) (sb (mayA op' w' d' n' m' a' imm' off' cond' r' s') (dF op' (flC op' (getX X n') (sumsB op' s' imm' (getX X m')) c) c) c) (sb (mayA op' w' d' n' m' a' imm' off' cond' r' s') (dF op' (flV op' (getX X n') (sumsB op' s' imm' (getX X m')) v) v) v) (sw (mayA op' w' d' n' m' a' imm' off' cond' r' s') (dPc op' off' (getX X n') (getX X d') pc (holds n z c v cond')) pc) (si (mayA op' w' d' n' m' a' imm' off' cond' r' s') (markI op' 1 k) k) (sb (mayA op' w' d' n' m' a' imm' off' cond' r' s') (markB op' true false ex) ex) (sb (mayA op' w' d' n' m' a' imm' off' cond' r' s') (markB op' true false aq) aq) (sb (mayA op' w' d' n' m' a' imm' off' cond' r' s') (markB op' false false rl) rl) (sw (mayA op' w' d' n' m' a' imm' off' cond' r' s') (markW op' (getX X n' + imm') ta) ta) (sw (mayA op' w' d' n' m' a' imm' off' cond' r' s') (markW op' 0#64 vv) vv) (si (mayA op' w' d' n' m' a' imm' off' cond' r' s') (markI op' w' w) w)), .i .i64 (si (mayA op' w' d' n' m' a' imm' off' cond' r' s') (dE op' imm') 4)]⟩
    | false => none)
  | _ => none
theorem okr14 : FnOk Try.prog 14 sr14 := okC SU4_ok Try.func14 (by kernel_rfl) (by kernel_rfl) 1 <| by
  intro xs r hs
  unfold sr14 at hs; split at hs <;> try cases hs
  rename_i X n z c v pc k ex aq rl ta vv w op' w' d' n' m' a' imm' off' cond' r' s' x y
  split at hs <;> cases hs
  rename_i hU
  rintro hp _
  clear hp
  show (evFn T SU4 noL 1 Try.f14 [.agg ((cR X n z c v pc k ex aq rl ta vv w).map canA), .agg (cI op' w' d' n' m' a' imm' off' cond' r' s'), .u 64 x, .b y]).run = some (AV.tup [.agg (cR (selX (mayA op' w' d' n' m' a' imm' off' cond' r' s') (dX op' w' d' n' m' a' imm' r' s' x y (holds n z c v cond') X) X) (sb (mayA op' w' d' n' m' a' imm' off' cond' r' s') (dF op' (flN op' (getX X n') (sumsB op' s' imm' (getX X m')) n) n) n) (sb (mayA op' w' d' n' m' a' imm' off' cond' r' s') (dF op' (flZ op' (getX X n') (sumsB op' s' imm' (getX X m')) z) z) z) (sb (mayA op' w' d' n' m' a' imm' off' cond' r' s') (dF op' (flC op' (getX X n') (sumsB op' s' imm' (getX X m')) c) c) c) (sb (mayA op' w' d' n' m' a' imm' off' cond' r' s') (dF op' (flV op' (getX X n') (sumsB op' s' imm' (getX X m')) v) v) v) (sw (mayA op' w' d' n' m' a' imm' off' cond' r' s') (dPc op' off' (getX X n') (getX X d') pc (holds n z c v cond')) pc) (si (mayA op' w' d' n' m' a' imm' off' cond' r' s') (markI op' 1 k) k) (sb (mayA op' w' d' n' m' a' imm' off' cond' r' s') (markB op' true false ex) ex) (sb (mayA op' w' d' n' m' a' imm' off' cond' r' s') (markB op' true false aq) aq) (sb (mayA op' w' d' n' m' a' imm' off' cond' r' s') (markB op' false false rl) rl) (sw (mayA op' w' d' n' m' a' imm' off' cond' r' s') (markW op' (getX X n' + imm') ta) ta) (sw (mayA op' w' d' n' m' a' imm' off' cond' r' s') (markW op' 0#64 vv) vv) (si (mayA op' w' d' n' m' a' imm' off' cond' r' s') (markI op' w' w) w)), .i .i64 (si (mayA op' w' d' n' m' a' imm' off' cond' r' s') (dE op' imm') 4)])
  rw [can_cR hU]
  cases hm : mayA op' w' d' n' m' a' imm' off' cond' r' s' with
  | false =>
    have e : ∃ t, (evFn T SU4 noL 1 Try.f14 [.agg (cR (words X) n z c v pc k ex aq rl ta vv w), .agg (cI op' w' d' n' m' a' imm' off' cond' r' s'), .u 64 x, .b y]).run = if (!mayA op' w' d' n' m' a' imm' off' cond' r' s') = true then some (.tup [.agg (cR (words X) n z c v pc k ex aq rl ta vv w), .i .i64 4]) else t :=
      ⟨match evFn T SU4 noL 1 Try.f14 [.agg (cR (words X) n z c v pc k ex aq rl ta vv w), .agg (cI op' w' d' n' m' a' imm' off' cond' r' s'), .u 64 x, .b y] with
        | .ite _ _ b => b.run
        | _ => none, by kernel_rfl⟩
    obtain ⟨t, e⟩ := e
    rw [e, hm]
    rfl
  | true =>
    have fin : ∀ (q : Int) (pc1 : W64) (e1 : Int), mayA q w' d' n' m' a' imm' off' cond' r' s' = true → pc1 = dPc q off' (getX X n') (getX X d') pc (holds n z c v cond') → e1 = dE q imm' → Run14 X n z c v pc k ex aq rl ta vv w w' d' n' m' a' imm' off' cond' r' s' x y q pc1 e1 →
        (evFn T SU4 noL 1 Try.f14 [.agg (cR (words X) n z c v pc k ex aq rl ta vv w), .agg (cI q w' d' n' m' a' imm' off' cond' r' s'), .u 64 x, .b y]).run = some (AV.tup [.agg (cR (selX true (dX q w' d' n' m' a' imm' r' s' x y (holds n z c v cond') X) X) (sb true (dF q (flN q (getX X n') (sumsB q s' imm' (getX X m')) n) n) n) (sb true (dF q (flZ q (getX X n') (sumsB q s' imm' (getX X m')) z) z) z) (sb true (dF q (flC q (getX X n') (sumsB q s' imm' (getX X m')) c) c) c) (sb true (dF q (flV q (getX X n') (sumsB q s' imm' (getX X m')) v) v) v) (sw true (dPc q off' (getX X n') (getX X d') pc (holds n z c v cond')) pc) (si true (markI q 1 k) k) (sb true (markB q true false ex) ex) (sb true (markB q true false aq) aq) (sb true (markB q false false rl) rl) (sw true (markW q (getX X n' + imm') ta) ta) (sw true (markW q 0#64 vv) vv) (si true (markI q w' w) w)), .i .i64 (si true (dE q imm') 4)]) := by
      intro q pc1 e1 hq h1 h2 hR
      unfold Run14 at hR
      rw [hR, hq, h1, h2, eX_dX]
      simp only [ite_self, Bool.not_true, Bool.false_eq_true, if_false, if_true]
      rfl
    rcases range47_of (may_range hm) with rfl | rfl | rfl | rfl | rfl | rfl | rfl | rfl | rfl | rfl | rfl | rfl | rfl | rfl | rfl | rfl | rfl | rfl | rfl | rfl | rfl | rfl | rfl | rfl | rfl | rfl | rfl | rfl | rfl | rfl | rfl | rfl | rfl | rfl | rfl | rfl | rfl | rfl | rfl | rfl | rfl | rfl | rfl | rfl | rfl | rfl | rfl
    · exact fin 1 _ _ hm rfl rfl (run14_1 X n z c v pc k ex aq rl ta vv w w' d' n' m' a' imm' off' cond' r' s' x y)
    · exact fin 2 _ _ hm rfl rfl (run14_2 X n z c v pc k ex aq rl ta vv w w' d' n' m' a' imm' off' cond' r' s' x y)
    · exact fin 3 _ _ hm rfl rfl (run14_3 X n z c v pc k ex aq rl ta vv w w' d' n' m' a' imm' off' cond' r' s' x y)
    · exact fin 4 _ _ hm rfl rfl (run14_4 X n z c v pc k ex aq rl ta vv w w' d' n' m' a' imm' off' cond' r' s' x y)
    · exact fin 5 _ _ hm rfl rfl (run14_5 X n z c v pc k ex aq rl ta vv w w' d' n' m' a' imm' off' cond' r' s' x y)
    · exact fin 6 _ _ hm rfl rfl (run14_6 X n z c v pc k ex aq rl ta vv w w' d' n' m' a' imm' off' cond' r' s' x y)
    · exact fin 7 _ _ hm rfl rfl (run14_7 X n z c v pc k ex aq rl ta vv w w' d' n' m' a' imm' off' cond' r' s' x y)
    · exact fin 8 _ _ hm rfl rfl (run14_8 X n z c v pc k ex aq rl ta vv w w' d' n' m' a' imm' off' cond' r' s' x y)
    · exact fin 9 _ _ hm rfl rfl (run14_9 X n z c v pc k ex aq rl ta vv w w' d' n' m' a' imm' off' cond' r' s' x y)
    · exact fin 10 _ _ hm rfl rfl (run14_10 X n z c v pc k ex aq rl ta vv w w' d' n' m' a' imm' off' cond' r' s' x y)
    · exact fin 11 _ _ hm rfl rfl (run14_11 X n z c v pc k ex aq rl ta vv w w' d' n' m' a' imm' off' cond' r' s' x y)
    · exact fin 12 _ _ hm rfl rfl (run14_12 X n z c v pc k ex aq rl ta vv w w' d' n' m' a' imm' off' cond' r' s' x y)
    · exact fin 13 _ _ hm rfl rfl (run14_13 X n z c v pc k ex aq rl ta vv w w' d' n' m' a' imm' off' cond' r' s' x y)
    · exact fin 14 _ _ hm rfl rfl (run14_14 X n z c v pc k ex aq rl ta vv w w' d' n' m' a' imm' off' cond' r' s' x y)
    · exact fin 15 _ _ hm rfl rfl (run14_15 X n z c v pc k ex aq rl ta vv w w' d' n' m' a' imm' off' cond' r' s' x y)
    · exact fin 16 _ _ hm rfl rfl (run14_16 X n z c v pc k ex aq rl ta vv w w' d' n' m' a' imm' off' cond' r' s' x y)
    · exact fin 17 _ _ hm rfl rfl (run14_17 X n z c v pc k ex aq rl ta vv w w' d' n' m' a' imm' off' cond' r' s' x y)
    · exact fin 18 _ _ hm rfl rfl (run14_18 X n z c v pc k ex aq rl ta vv w w' d' n' m' a' imm' off' cond' r' s' x y)
    · exact fin 19 _ _ hm rfl rfl (run14_19 X n z c v pc k ex aq rl ta vv w w' d' n' m' a' imm' off' cond' r' s' x y)
    · exact fin 20 _ _ hm rfl rfl (run14_20 X n z c v pc k ex aq rl ta vv w w' d' n' m' a' imm' off' cond' r' s' x y)
    · exact fin 21 _ _ hm rfl rfl (run14_21 X n z c v pc k ex aq rl ta vv w w' d' n' m' a' imm' off' cond' r' s' x y)
    · exact fin 22 _ _ hm rfl rfl (run14_22 X n z c v pc k ex aq rl ta vv w w' d' n' m' a' imm' off' cond' r' s' x y)
    · exact fin 23 _ _ hm rfl rfl (run14_23 X n z c v pc k ex aq rl ta vv w w' d' n' m' a' imm' off' cond' r' s' x y)
    · exact fin 24 _ _ hm rfl rfl (run14_24 X n z c v pc k ex aq rl ta vv w w' d' n' m' a' imm' off' cond' r' s' x y)
    · exact fin 25 _ _ hm rfl rfl (run14_25 X n z c v pc k ex aq rl ta vv w w' d' n' m' a' imm' off' cond' r' s' x y)
    · exact fin 26 _ _ hm rfl rfl (run14_26 X n z c v pc k ex aq rl ta vv w w' d' n' m' a' imm' off' cond' r' s' x y)
    · exact fin 27 _ _ hm rfl rfl (run14_27 X n z c v pc k ex aq rl ta vv w w' d' n' m' a' imm' off' cond' r' s' x y)
    · exact fin 28 _ _ hm rfl rfl (run14_28 X n z c v pc k ex aq rl ta vv w w' d' n' m' a' imm' off' cond' r' s' x y)
    · exact fin 29 _ _ hm rfl rfl (run14_29 X n z c v pc k ex aq rl ta vv w w' d' n' m' a' imm' off' cond' r' s' x y)
    · exact fin 30 _ _ hm rfl rfl (run14_30 X n z c v pc k ex aq rl ta vv w w' d' n' m' a' imm' off' cond' r' s' x y)
    · exact fin 31 _ _ hm rfl rfl (run14_31 X n z c v pc k ex aq rl ta vv w w' d' n' m' a' imm' off' cond' r' s' x y)
    · exact fin 32 _ _ hm rfl rfl (run14_32 X n z c v pc k ex aq rl ta vv w w' d' n' m' a' imm' off' cond' r' s' x y)
    · exact fin 33 _ _ hm rfl rfl (run14_33 X n z c v pc k ex aq rl ta vv w w' d' n' m' a' imm' off' cond' r' s' x y)
    · exact fin 34 _ _ hm rfl rfl (run14_34 X n z c v pc k ex aq rl ta vv w w' d' n' m' a' imm' off' cond' r' s' x y)
    · exact fin 35 _ _ hm rfl rfl (run14_35 X n z c v pc k ex aq rl ta vv w w' d' n' m' a' imm' off' cond' r' s' x y)
    · exact fin 36 _ _ hm rfl rfl (run14_36 X n z c v pc k ex aq rl ta vv w w' d' n' m' a' imm' off' cond' r' s' x y)
    · exact fin 37 _ _ hm rfl rfl (run14_37 X n z c v pc k ex aq rl ta vv w w' d' n' m' a' imm' off' cond' r' s' x y)
    · exact fin 38 _ _ hm rfl rfl (run14_38 X n z c v pc k ex aq rl ta vv w w' d' n' m' a' imm' off' cond' r' s' x y)
    · exact fin 39 _ _ hm rfl rfl (run14_39 X n z c v pc k ex aq rl ta vv w w' d' n' m' a' imm' off' cond' r' s' x y)
    · exact fin 40 _ _ hm rfl rfl (run14_40 X n z c v pc k ex aq rl ta vv w w' d' n' m' a' imm' off' cond' r' s' x y)
    · exact fin 41 _ _ hm rfl rfl (run14_41 X n z c v pc k ex aq rl ta vv w w' d' n' m' a' imm' off' cond' r' s' x y)
    · exact fin 42 _ _ hm (pc42 off' _ _ pc _) rfl (run14_42 X n z c v pc k ex aq rl ta vv w w' d' n' m' a' imm' off' cond' r' s' x y)
    · exact fin 43 _ _ hm (pc43 off' _ _ pc _) rfl (run14_43 X n z c v pc k ex aq rl ta vv w w' d' n' m' a' imm' off' cond' r' s' x y)
    · exact fin 44 _ _ hm rfl rfl (run14_44 X n z c v pc k ex aq rl ta vv w w' d' n' m' a' imm' off' cond' r' s' x y)
    · exact fin 45 _ _ hm rfl rfl (run14_45 X n z c v pc k ex aq rl ta vv w w' d' n' m' a' imm' off' cond' r' s' x y)
    · have e := run14_46 X n z c v pc k ex aq rl ta vv w w' d' n' m' a' imm' off' cond' r' s' x y
      rw [hm, eX_dX] at e
      simp only [Bool.not_true, Bool.false_eq_true, if_false, if_true] at e
      have hf : Run14 X n z c v pc k ex aq rl ta vv w w' d' n' m' a' imm' off' cond' r' s' x y 46 pc (flE 46 imm') := by
        unfold Run14
        rw [e, hm, eX_dX]
        simp only [ite_self, Bool.not_true, Bool.false_eq_true, if_false, if_true]
        show _ = some (AV.tup [_, .i .i64 (if (if decide ((BitVec.ofInt 64 1).toNat ≤ imm'.toNat) = true then decide (imm'.toNat ≤ (BitVec.ofInt 64 6).toNat) else false) = true then IntKind.i64.wrap (imm'.toNat : Int) else 4)])
        cases (if decide ((BitVec.ofInt 64 1 : W64).toNat ≤ imm'.toNat) = true then decide (imm'.toNat ≤ (BitVec.ofInt 64 6 : W64).toNat) else false) <;> rfl
      exact fin 46 _ _ hm (pc46 off' _ _ pc _) rfl hf
    · exact fin 47 _ _ hm rfl rfl (run14_47 X n z c v pc k ex aq rl ta vv w w' d' n' m' a' imm' off' cond' r' s' x y)
noncomputable abbrev SU5 : FuncId → CSpec := withS SU4 14 sr14
theorem SU5_ok : ∀ f, FnOk Try.prog f (SU5 f) := withS_ok SU4_ok okr14
end Go.Proofs.Ytocfkaihfjbfnaa
set_option maxRecDepth 100000
namespace Go.Proofs.Ytocfkaihfjbfnaa
open Go.Proofs.Ytocfkaihfjbfnaa.Ev Go.RowKit
/- The law: both do the same, and ask the same. -/
noncomputable abbrev SD : FuncId → CSpec := withS (withS (withS (withS (withS (withS (withS (withS (withS SU5 1000013 sr13O) 10 sr10P) 12 sr12) 9 sr9) 11 sr11) 16 sr16) 15 sr15) 2000008 sr8P) 7 sr7
theorem SD_ok : ∀ f, FnOk Try.prog f (SD f) := withS_ok (withS_ok (withS_ok (withS_ok (withS_ok (withS_ok (withS_ok (withS_ok (withS_ok SU5_ok okr13O) okr10P) okr12) okr9) okr11) okr16) okr15) okr8P) okr7
theorem run3 (X : Nat → W64) (n z c v : Bool) (pc : W64) (k : Int) (ex aq rl : Bool) (ta vv : W64) (w : Int) (op' w' d' n' m' a' : Int) (imm' : W64) (off' cond' r' s' : Int) (x : W64) (y : Bool) :
    (evFn T SD noL 1 Try.f3 [.agg (cR (fun j => .u 64 (X j)) n z c v pc k ex aq rl ta vv w), .agg (cI op' w' d' n' m' a' imm' off' cond' r' s'), .u 64 x, .b y]).run =
    if (!((bif ((mayA op' w' d' n' m' a' imm' off' cond' r' s') && isSt op') then (2 : Int) else bif ((mayA op' w' d' n' m' a' imm' off' cond' r' s') && isLd op') then 1 else 0) == kindB ((mayA op' w' d' n' m' a' imm' off' cond' r' s') && isSt op') ((mayA op' w' d' n' m' a' imm' off' cond' r' s') && isLd op') && (((mayA op' w' d' n' m' a' imm' off' cond' r' s') && (op' == 37 || op' == 38)) == ((mayA op' w' d' n' m' a' imm' off' cond' r' s') && (op' == 37 || op' == 38)) && (((mayA op' w' d' n' m' a' imm' off' cond' r' s') && (op' == 35 || op' == 37)) == ((mayA op' w' d' n' m' a' imm' off' cond' r' s') && (op' == 35 || op' == 37)) && (((mayA op' w' d' n' m' a' imm' off' cond' r' s') && (op' == 36 || op' == 38)) == ((mayA op' w' d' n' m' a' imm' off' cond' r' s') && (op' == 36 || op' == 38)) && (nW ((mayA op' w' d' n' m' a' imm' off' cond' r' s') && isMm op') (getX (fun j => AV.u 64 (X j)) n' + imm') == nW ((mayA op' w' d' n' m' a' imm' off' cond' r' s') && isMm op') (getX (fun j => AV.u 64 (X j)) n' + imm') && (nW ((mayA op' w' d' n' m' a' imm' off' cond' r' s') && isSt op') (zx (getX (fun j => AV.u 64 (X j)) d') w') == nW ((mayA op' w' d' n' m' a' imm' off' cond' r' s') && isSt op') (zx (getX (fun j => AV.u 64 (X j)) d') w') && ((if ((mayA op' w' d' n' m' a' imm' off' cond' r' s') && isMm op') = true then w' else 0) == (if ((mayA op' w' d' n' m' a' imm' off' cond' r' s') && isMm op') = true then w' else 0) && true)))))))) = true then some (.b false) else some (.b (if (if (si (mayA op' w' d' n' m' a' imm' off' cond' r' s') (dE op' imm') 4 == si (mayA op' w' d' n' m' a' imm' off' cond' r' s') (dE op' imm') 4) = true then (allEq (fun j => unU64 ((selX (mayA op' w' d' n' m' a' imm' off' cond' r' s') (dX op' w' d' n' m' a' imm' r' s' x y (holds n z c v cond') (fun j => AV.u 64 (X j))) (fun j => AV.u 64 (X j))) j)) (fun j => unU64 ((selX (mayA op' w' d' n' m' a' imm' off' cond' r' s') (dX op' w' d' n' m' a' imm' r' s' x y (holds n z c v cond') (fun j => AV.u 64 (X j))) (fun j => AV.u 64 (X j))) j)) 31 && ((sb (mayA op' w' d' n' m' a' imm' off' cond' r' s') (dF op' (flN op' (getX (fun j => AV.u 64 (X j)) n') (sumsB op' s' imm' (getX (fun j => AV.u 64 (X j)) m')) n) n) n) == (sb (mayA op' w' d' n' m' a' imm' off' cond' r' s') (dF op' (flN op' (getX (fun j => AV.u 64 (X j)) n') (sumsB op' s' imm' (getX (fun j => AV.u 64 (X j)) m')) n) n) n) && ((sb (mayA op' w' d' n' m' a' imm' off' cond' r' s') (dF op' (flZ op' (getX (fun j => AV.u 64 (X j)) n') (sumsB op' s' imm' (getX (fun j => AV.u 64 (X j)) m')) z) z) z) == (sb (mayA op' w' d' n' m' a' imm' off' cond' r' s') (dF op' (flZ op' (getX (fun j => AV.u 64 (X j)) n') (sumsB op' s' imm' (getX (fun j => AV.u 64 (X j)) m')) z) z) z) && ((sb (mayA op' w' d' n' m' a' imm' off' cond' r' s') (dF op' (flC op' (getX (fun j => AV.u 64 (X j)) n') (sumsB op' s' imm' (getX (fun j => AV.u 64 (X j)) m')) c) c) c) == (sb (mayA op' w' d' n' m' a' imm' off' cond' r' s') (dF op' (flC op' (getX (fun j => AV.u 64 (X j)) n') (sumsB op' s' imm' (getX (fun j => AV.u 64 (X j)) m')) c) c) c) && ((sb (mayA op' w' d' n' m' a' imm' off' cond' r' s') (dF op' (flV op' (getX (fun j => AV.u 64 (X j)) n') (sumsB op' s' imm' (getX (fun j => AV.u 64 (X j)) m')) v) v) v) == (sb (mayA op' w' d' n' m' a' imm' off' cond' r' s') (dF op' (flV op' (getX (fun j => AV.u 64 (X j)) n') (sumsB op' s' imm' (getX (fun j => AV.u 64 (X j)) m')) v) v) v) && ((sw (mayA op' w' d' n' m' a' imm' off' cond' r' s') (dPc op' off' (getX (fun j => AV.u 64 (X j)) n') (getX (fun j => AV.u 64 (X j)) d') pc (holds n z c v cond')) pc) == (sw (mayA op' w' d' n' m' a' imm' off' cond' r' s') (dPc op' off' (getX (fun j => AV.u 64 (X j)) n') (getX (fun j => AV.u 64 (X j)) d') pc (holds n z c v cond')) pc) && (kindOf (sb (mayA op' w' d' n' m' a' imm' off' cond' r' s') (markB op' true false ((bif k == 1 then (1 : Int) else 0) == 1)) ((bif k == 1 then (1 : Int) else 0) == 1)) (sb (mayA op' w' d' n' m' a' imm' off' cond' r' s') (markB op' false false ((bif k == 1 then (1 : Int) else 0) == 2)) ((bif k == 1 then (1 : Int) else 0) == 2)) == si (mayA op' w' d' n' m' a' imm' off' cond' r' s') (markI op' 1 (bif k == 1 then (1 : Int) else 0)) (bif k == 1 then (1 : Int) else 0) && (sb (mayA op' w' d' n' m' a' imm' off' cond' r' s') (markB op' true false (bif k == 1 then ex else false)) (bif k == 1 then ex else false) == sb (mayA op' w' d' n' m' a' imm' off' cond' r' s') (markB op' true false (bif k == 1 then ex else false)) (bif k == 1 then ex else false) && (sb (mayA op' w' d' n' m' a' imm' off' cond' r' s') (markB op' true false (bif k == 1 then aq else false)) (bif k == 1 then aq else false) == sb (mayA op' w' d' n' m' a' imm' off' cond' r' s') (markB op' true false (bif k == 1 then aq else false)) (bif k == 1 then aq else false) && (sb (mayA op' w' d' n' m' a' imm' off' cond' r' s') (markB op' false false (bif k == 1 then rl else false)) (bif k == 1 then rl else false) == sb (mayA op' w' d' n' m' a' imm' off' cond' r' s') (markB op' false false (bif k == 1 then rl else false)) (bif k == 1 then rl else false) && (sw (mayA op' w' d' n' m' a' imm' off' cond' r' s') (markW op' (getX (fun j => AV.u 64 (X j)) n' + imm') (bif k == 1 then ta else 0#64)) (bif k == 1 then ta else 0#64) == sw (mayA op' w' d' n' m' a' imm' off' cond' r' s') (markW op' (getX (fun j => AV.u 64 (X j)) n' + imm') (bif k == 1 then ta else 0#64)) (bif k == 1 then ta else 0#64) && (sw (mayA op' w' d' n' m' a' imm' off' cond' r' s') (markW op' 0#64 (bif k == 1 then vv else 0#64)) (bif k == 1 then vv else 0#64) == sw (mayA op' w' d' n' m' a' imm' off' cond' r' s') (markW op' 0#64 (bif k == 1 then vv else 0#64)) (bif k == 1 then vv else 0#64) && (si (mayA op' w' d' n' m' a' imm' off' cond' r' s') (markI op' w' (bif k == 1 then w else 0)) (bif k == 1 then w else 0) == si (mayA op' w' d' n' m' a' imm' off' cond' r' s') (markI op' w' (bif k == 1 then w else 0)) (bif k == 1 then w else 0) && true))))))))))))) else false) = true then true else false)) := by kernel_rfl
theorem lawAsemDone (X : Nat → W64) (n z c v : Bool) (pc : W64) (k : Int) (ex aq rl : Bool) (ta vv : W64) (w : Int) (op' w' d' n' m' a' : Int) (imm' : W64) (off' cond' r' s' : Int) (x : W64) (y : Bool) :
    (evFn T SD noL 1 Try.f3 [.agg (cR (fun j => .u 64 (X j)) n z c v pc k ex aq rl ta vv w), .agg (cI op' w' d' n' m' a' imm' off' cond' r' s'), .u 64 x, .b y]).run = some (.b true) := by
  rw [run3, allEq_self]
  have hk : (kindOf (sb (mayA op' w' d' n' m' a' imm' off' cond' r' s') (markB op' true false ((bif k == 1 then (1 : Int) else 0) == 1)) ((bif k == 1 then (1 : Int) else 0) == 1)) (sb (mayA op' w' d' n' m' a' imm' off' cond' r' s') (markB op' false false ((bif k == 1 then (1 : Int) else 0) == 2)) ((bif k == 1 then (1 : Int) else 0) == 2)) == si (mayA op' w' d' n' m' a' imm' off' cond' r' s') (markI op' 1 (bif k == 1 then (1 : Int) else 0)) (bif k == 1 then (1 : Int) else 0)) = true := by
    generalize mayA op' w' d' n' m' a' imm' off' cond' r' s' = M
    unfold markB markI
    cases M <;> cases k == 1 <;> cases op' == 37 <;> cases op' == 38 <;> rfl
  rw [hk]
  have hn : ∀ a b : Bool, ((bif a then (2 : Int) else bif b then 1 else 0) == kindB a b) = true := by intro a b; cases a <;> cases b <;> rfl
  rw [hn]
  simp only [beq_self_eq_true, Bool.and_self, Bool.and_true, if_true, Bool.not_true, Bool.false_eq_true, if_false]
theorem lawAsemDoneM (m : RC) (i : IC) (x : W64) (y : Bool) : (evFn T SD noL 1 Try.f3 [.agg m.cells, .agg i.cells, .u 64 x, .b y]).run = some (.b true) := by
  obtain ⟨X, n, z, c, v, pc, ⟨k, ex, aq, rl, ta, vv, w, _⟩, _⟩ := m
  obtain ⟨op, iw, d, i, j, a, imm, off, cond, r, s, _⟩ := i
  exact lawAsemDone X n z c v pc k ex aq rl ta vv w op iw d i j a imm off cond r s x y
end Go.Proofs.Ytocfkaihfjbfnaa
