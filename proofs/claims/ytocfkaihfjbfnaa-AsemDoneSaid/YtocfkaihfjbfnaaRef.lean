/- Lemmas: what the reference's values are, each function shown by the evaluator, and that they are the program's. No condition. -/
import Derived.Test.YtocfkaihfjbfnaaDone
import Derived.Test.YtocfkaihfjbfnaaMay
set_option linter.unusedVariables false
set_option linter.unusedSimpArgs false
set_option maxRecDepth 100000
namespace Go.Proofs.Ytocfkaihfjbfnaa
open Go.Proofs.Ytocfkaihfjbfnaa.Ev Go.RowKit
/- The reference's Do of two words, as far as instructions need it. -/
def negW (x : W64) : Bool := decide ((BitVec.ofInt 64 9223372036854775808).toNat ≤ x.toNat)
def sizeW (x : W64) : W64 := if negW x = true then BitVec.ofInt 64 0 - x else x
def sr87 : CSpec | [.u 64 x] => some ⟨[], .b (negW x)⟩ | _ => none
theorem okr87 : FnOk Try.prog 87 sr87 := okBy noS_ok Try.func87 (by kernel_rfl) (by kernel_rfl) 1 <| by
  intro xs r hs
  unfold sr87 at hs; split at hs <;> cases hs
  rintro hp _
  kernel_rfl
def sr88 : CSpec | [.b x] => some ⟨[], .u 64 (bitB x)⟩ | _ => none
theorem okr88 : FnOk Try.prog 88 sr88 := okBy noS_ok Try.func88 (by kernel_rfl) (by kernel_rfl) 1 <| by
  intro xs r hs
  unfold sr88 at hs; split at hs <;> cases hs
  rename_i x
  rintro hp _
  cases x <;> kernel_rfl
noncomputable abbrev SV0 : FuncId → CSpec := withS (withS S14 87 sr87) 88 sr88
theorem SV0_ok : ∀ f, FnOk Try.prog f (SV0 f) := withS_ok (withS_ok S14_ok okr87) okr88
def sr86 : CSpec | [.u 64 x] => some ⟨[], .u 64 (sizeW x)⟩ | _ => none
theorem okr86 : FnOk Try.prog 86 sr86 := okBy SV0_ok Try.func86 (by kernel_rfl) (by kernel_rfl) 1 <| by
  intro xs r hs
  unfold sr86 at hs; split at hs <;> cases hs
  rename_i x
  rintro hp _
  have e : (evFn T SV0 noL 1 Try.f86 [.u 64 x]).run = if negW x = true then some (.u 64 (BitVec.ofInt 64 0 - x)) else some (.u 64 x) := by kernel_rfl
  rw [e, some_iteW]
  rfl
noncomputable abbrev SV1 : FuncId → CSpec := withS SV0 86 sr86
theorem SV1_ok : ∀ f, FnOk Try.prog f (SV1 f) := withS_ok SV0_ok okr86
end Go.Proofs.Ytocfkaihfjbfnaa
set_option maxRecDepth 100000
namespace Go.Proofs.Ytocfkaihfjbfnaa
open Go.Proofs.Ytocfkaihfjbfnaa.Ev Go.RowKit
/- Shifts to the right with a sign, step by step. -/
def stepS (a : W64) : W64 := a / BitVec.ofInt 64 2 + bitB (negW a) * BitVec.ofInt 64 9223372036854775808
def sarR (a : W64) : Nat → W64
  | 0 => a
  | n + 1 => stepS (sarR a n)
def q59 : St → Option LRes
  | ⟨[(1, .u 64 a), (7, .u 64 k), (13, .u 64 i)], [], [], _⟩ => some ⟨[i == 0#64, decide (k.toNat ≤ 63)], .exit 1, [(1, .u 64 (sarR a k.toNat)), (7, .u 64 k), (13, .u 64 k)], [], []⟩
  | _ => none
def L59 : Nat → Live := fun _ => ⟨[1, 7, 13], [], [], some (evSum q59)⟩
theorem stepS_eq (a : W64) : stepS a = a.sshiftRight 1 := by
  apply BitVec.eq_of_toInt_eq
  rw [BitVec.toInt_sshiftRight, Int.shiftRight_eq_div_pow]
  have ha := a.isLt
  have hs : (stepS a).toNat = (a.toNat / 2 + (if 9223372036854775808 ≤ a.toNat then 9223372036854775808 else 0)) % 18446744073709551616 := by
    unfold stepS negW
    rw [BitVec.toNat_add, BitVec.toNat_udiv, BitVec.toNat_mul]
    by_cases h : 9223372036854775808 ≤ a.toNat
    · have hd : decide ((BitVec.ofInt 64 9223372036854775808 : W64).toNat ≤ a.toNat) = true := by simpa using h
      rw [hd, if_pos h]
      rfl
    · have hd : decide ((BitVec.ofInt 64 9223372036854775808 : W64).toNat ≤ a.toNat) = false := by simpa using h
      rw [hd, if_neg h]
      rfl
  rw [BitVec.toInt_eq_toNat_cond, BitVec.toInt_eq_toNat_cond, hs]
  by_cases h : 9223372036854775808 ≤ a.toNat
  · rw [if_pos h]
    rw [if_neg (by omega), if_neg (by omega)]
    omega
  · rw [if_neg h]
    rw [if_pos (by omega), if_pos (by omega)]
    omega
theorem sarR_eq (a : W64) : ∀ n, sarR a n = a.sshiftRight n
  | 0 => by simp [sarR]
  | n + 1 => by
    show stepS (sarR a n) = _
    rw [sarR_eq a n, stepS_eq, BitVec.sshiftRight_add]
theorem asr_eq (x : W64) (n : Nat) : BitVec.ofInt 64 (IntKind.i64.wrap (x.toNat : Int) / 2 ^ n) = x.sshiftRight n := by
  rw [wrap_w]
  apply BitVec.eq_of_toInt_eq
  have h : (x.sshiftRight n).toInt = x.toInt / 2 ^ n := by
    rw [BitVec.toInt_sshiftRight, Int.shiftRight_eq_div_pow]; rfl
  rw [← h, BitVec.ofInt_toInt]
theorem mod64 (y : W64) : (y % BitVec.ofInt 64 64).toNat = (y &&& BitVec.ofInt 64 63).toNat := by
  rw [BitVec.toNat_umod, BitVec.toNat_and]
  show y.toNat % 64 = y.toNat &&& 63
  exact (Nat.and_two_pow_sub_one_eq_mod y.toNat 6).symm
/- Quotients with a sign. -/
theorem negW_msb (x : W64) : negW x = x.msb := by
  rw [BitVec.msb_eq_decide]
  rfl
theorem quoS_sdiv {x y : W64} : quoS x y = x.sdiv y := by
  unfold quoS
  apply BitVec.eq_of_toInt_eq
  rw [BitVec.toInt_sdiv]
  by_cases h : (y == BitVec.ofInt 64 18446744073709551615) = true
  · rw [if_pos h]
    have hy : y = BitVec.ofInt 64 18446744073709551615 := by simpa using h
    subst hy
    have : (BitVec.ofInt 64 18446744073709551615 : W64).toInt = -1 := by decide
    rw [this, BitVec.toInt_neg, Int.tdiv_neg, Int.tdiv_one]
  · rw [if_neg h, wrap_w, wrap_w, BitVec.toInt_ofInt]
    have hx := @BitVec.toInt_lt 64 x
    have hx2 := @BitVec.le_toInt 64 x
    congr 1
    have hb := Int.natAbs_tdiv_le_natAbs x.toInt y.toInt
    by_cases hy0 : x.toInt.tdiv y.toInt = 9223372036854775808
    · exfalso
      -- only the least number by minus one
      have hyi : y.toInt ≠ -1 := by
        intro hh
        apply h
        have : y = BitVec.ofInt 64 18446744073709551615 := by
          apply BitVec.eq_of_toInt_eq
          rw [hh]; decide
        simp [this]
      have hxv : x.toInt = -9223372036854775808 := by omega
      rw [hxv] at hy0
      have h3 := Int.natAbs_tdiv (-9223372036854775808) y.toInt
      rw [hy0] at h3
      have h4 : (9223372036854775808 : Nat) = 9223372036854775808 / y.toInt.natAbs := h3
      have h5 : y.toInt.natAbs = 1 := by
        rcases Nat.lt_or_ge y.toInt.natAbs 2 with h6 | h6
        · rcases Nat.eq_zero_or_pos y.toInt.natAbs with h7 | h7
          · rw [h7] at h4; simp at h4
          · omega
        · have : 9223372036854775808 / y.toInt.natAbs ≤ 9223372036854775808 / 2 := Nat.div_le_div_left h6 (by omega)
          omega
      have h6 : y.toInt = 1 := by omega
      rw [h6] at hy0
      simp at hy0
    · exact wrap_small _ (by omega) (by omega)
theorem size_sdiv (x y : W64) : (if (negW x != negW y) = true then BitVec.ofInt 64 0 - sizeW x / sizeW y else sizeW x / sizeW y) = x.sdiv y := by
  unfold sizeW
  rw [BitVec.sdiv, negW_msb, negW_msb]
  have h0 : ∀ z : W64, BitVec.ofInt 64 0 - z = -z := fun z => by
    show 0#64 - z = -z
    exact BitVec.zero_sub z
  simp only [h0]
  cases x.msb <;> cases y.msb <;> rfl
theorem size_nz {y : W64} (h : (y == BitVec.ofInt 64 0) = false) : (!(sizeW y == 0#64)) = true := by
  have hne : y ≠ 0#64 := by simpa using h
  have : sizeW y ≠ 0#64 := by
    unfold sizeW
    split
    · intro hh
      apply hne
      have h0 : BitVec.ofInt 64 0 - y = -y := BitVec.zero_sub y
      rw [h0] at hh
      exact BitVec.neg_eq_zero_iff.1 hh
    · exact hne
  simpa using this
end Go.Proofs.Ytocfkaihfjbfnaa
set_option maxRecDepth 100000
namespace Go.Proofs.Ytocfkaihfjbfnaa
open Go.Proofs.Ytocfkaihfjbfnaa.Ev Go.RowKit
/- Do, for the seven functions that instructions need. -/
def doA (f : Int) (x y : W64) : W64 := if decide (f ≤ 10) = true then prodsA (f + 14) x y 0#64 else shiftsA (f + 14) x y
noncomputable abbrev SV2 : FuncId → CSpec := withS SV1 83 (rV SV1 Try.f83)
theorem SV2_ok : ∀ f, FnOk Try.prog f (SV2 f) := withS_ok SV1_ok (rV_ok SV1_ok Try.func83 (by kernel_rfl) (by kernel_rfl))
theorem loop59' (N : Nat) : LoopOk T SV2 L59 146 N (loopOf Try.f59 0) := LoopOk.of rfl <| by
  intro τ r hcut hr
  unfold q59 at hr; split at hr <;> cases hr
  rename_i a k i c
  obtain rfl : c = 0 := hcut
  intro hp
  simp only [List.mem_cons, List.not_mem_nil, or_false, forall_eq_or_imp, forall_eq, beq_iff_eq, decide_eq_true_eq] at hp
  obtain ⟨rfl, hk⟩ := hp
  have e : ∀ (a i : W64), atHead (evCode T SV2 L59 146 N (loopOf Try.f59 0)) (L59 (firstR (loopOf Try.f59 0))) ⟨[(1, .u 64 a), (7, .u 64 k), (13, .u 64 i)], [], [], 0⟩ =
      Tr.ite (decide (i.toNat < k.toNat)) (.need (!(BitVec.ofInt 64 2 == 0#64))
        (.leaf (.normal, ⟨[(1, .u 64 (stepS a)), (7, .u 64 k), (13, .u 64 (i + BitVec.ofInt 64 1))], [], [], 0⟩)))
        (.leaf (.exit 1, ⟨[(1, .u 64 a), (7, .u 64 k), (13, .u 64 i)], [], [], 0⟩)) := fun a i => by kernel_rfl
  have h2 : (!((BitVec.ofInt 64 2 : W64) == 0#64)) = true := by decide
  refine ⟨k.toNat + 1, iter_for (fun j => ⟨[(1, .u 64 (sarR a j)), (7, .u 64 k), (13, .u 64 (BitVec.ofNat 64 j))], [], [], 0⟩) k.toNat ?_ ?_ (by simp)⟩
  · intro j hj
    have hj2 : (BitVec.ofNat 64 j).toNat = j := by rw [BitVec.toNat_ofNat, Nat.mod_eq_of_lt (by omega)]
    have hj3 : (BitVec.ofNat 64 j : W64) + BitVec.ofInt 64 1 = BitVec.ofNat 64 (j + 1) := by
      apply BitVec.eq_of_toNat_eq
      rw [BitVec.toNat_add, hj2, BitVec.toNat_ofNat]
      rfl
    rw [e, hj2, hj3, h2]
    simp only [Tr.run, if_true]
    rw [if_pos (by simpa using hj)]
    rfl
  · have hk2 : BitVec.ofNat 64 k.toNat = k := by simp
    rw [e, hk2]
    simp [Tr.run]
def sr59 : CSpec
  | [.i .i64 f, .u 64 x, .u 64 y] => (match decide (7 ≤ f) && decide (f ≤ 13) with
    | true => some ⟨[], .u 64 (doA f x y)⟩
    | false => none)
  | _ => none
theorem run59_7 (x y : W64) : (evFn T SV2 L59 1 Try.f59 [.i .i64 7, .u 64 x, .u 64 y]).run = some (.u 64 (mulHi x y)) := by kernel_rfl
theorem run59_8 (x y : W64) : (evFn T SV2 L59 1 Try.f59 [.i .i64 8, .u 64 x, .u 64 y]).run = some (.u 64 (mulsHi x y)) := by kernel_rfl
theorem run59_9 (x y : W64) : (evFn T SV2 L59 1 Try.f59 [.i .i64 9, .u 64 x, .u 64 y]).run = if (y == BitVec.ofInt 64 0) = true then some (.u 64 (BitVec.ofInt 64 0)) else if (!(y == 0#64)) = true then some (.u 64 (x / y)) else none := by kernel_rfl
theorem run59_10 (x y : W64) : (evFn T SV2 L59 1 Try.f59 [.i .i64 10, .u 64 x, .u 64 y]).run = if (y == BitVec.ofInt 64 0) = true then some (.u 64 (BitVec.ofInt 64 0)) else if (!(sizeW y == 0#64)) = true then (if (negW x != negW y) = true then some (.u 64 (BitVec.ofInt 64 0 - sizeW x / sizeW y)) else some (.u 64 (sizeW x / sizeW y))) else none := by kernel_rfl
theorem run59_11 (x y : W64) : (evFn T SV2 L59 1 Try.f59 [.i .i64 11, .u 64 x, .u 64 y]).run = some (.u 64 (x <<< (y % BitVec.ofInt 64 64).toNat)) := by kernel_rfl
theorem run59_12 (x y : W64) : (evFn T SV2 L59 1 Try.f59 [.i .i64 12, .u 64 x, .u 64 y]).run = some (.u 64 (x >>> (y % BitVec.ofInt 64 64).toNat)) := by kernel_rfl
theorem run59_13 (x y : W64) : (evFn T SV2 L59 1 Try.f59 [.i .i64 13, .u 64 x, .u 64 y]).run = if decide ((y % BitVec.ofInt 64 64).toNat ≤ 63) = true then some (.u 64 (sarR x (y % BitVec.ofInt 64 64).toNat)) else none := by kernel_rfl
theorem okr59 : FnOk Try.prog 59 sr59 := FnOk.of (L := L59) tyOk SV2_ok mixed Try.func59 (by kernel_rfl) (by kernel_rfl) <| by
  intro xs r hs hp w R vs hvs
  refine ⟨1, FnLoops.one (by kernel_rfl) (loop59' 1), ?_⟩
  unfold sr59 at hs
  split at hs <;> try cases hs
  rename_i f x y
  split at hs <;> cases hs
  rename_i hf
  clear hvs
  show (evFn T SV2 L59 1 Try.f59 [.i .i64 f, .u 64 x, .u 64 y]).run = some (.u 64 (doA f x y))
  have hf : f = 7 ∨ f = 8 ∨ f = 9 ∨ f = 10 ∨ f = 11 ∨ f = 12 ∨ f = 13 := by
    simp only [Bool.and_eq_true, decide_eq_true_eq] at hf; omega
  rcases hf with rfl | rfl | rfl | rfl | rfl | rfl | rfl
  · exact run59_7 x y
  · exact run59_8 x y
  · rw [run59_9]
    show _ = some (AV.u 64 (if (y == BitVec.ofInt 64 0) = true then BitVec.ofInt 64 0 else x / y))
    cases h : y == BitVec.ofInt 64 0 with
    | true => rfl
    | false =>
      have h0 : (!(y == 0#64)) = true := by
        have : (y == 0#64) = (y == BitVec.ofInt 64 0) := rfl
        rw [this, h]; rfl
      rw [h0]; rfl
  · rw [run59_10]
    show _ = some (AV.u 64 (if (y == BitVec.ofInt 64 0) = true then BitVec.ofInt 64 0 else quoS x y))
    cases h : y == BitVec.ofInt 64 0 with
    | true => rfl
    | false => rw [size_nz h, some_iteW, size_sdiv, quoS_sdiv]; rfl
  · rw [run59_11, mod64]; rfl
  · rw [run59_12, mod64]; rfl
  · have h63 : (y % BitVec.ofInt 64 64).toNat ≤ 63 := by
      rw [BitVec.toNat_umod]
      have := Nat.mod_lt y.toNat (show 0 < (BitVec.ofInt 64 64 : W64).toNat by decide)
      have h64 : (BitVec.ofInt 64 64 : W64).toNat = 64 := rfl
      omega
    rw [run59_13, if_pos (by simpa using h63), sarR_eq, mod64]
    show _ = some (AV.u 64 (BitVec.ofInt 64 (IntKind.i64.wrap (x.toNat : Int) / 2 ^ (y &&& BitVec.ofInt 64 63).toNat)))
    rw [asr_eq]
end Go.Proofs.Ytocfkaihfjbfnaa
set_option maxRecDepth 100000
namespace Go.Proofs.Ytocfkaihfjbfnaa
open Go.Proofs.Ytocfkaihfjbfnaa.Ev Go.RowKit
/- The reference's field, bit by bit. -/
def fB (x : W64) (sg : Bool) (F M : Nat) (k : Nat) : Bool := (decide (k < M) || sg) && x.getLsbD (F + min k (M - 1))
def fieldS (x : W64) (sg : Bool) (F L M : Nat) (j : Nat) : W64 := sumBits (fB x sg F M) (min j (64 - L)) <<< L
def q61 : St → Option LRes
  | ⟨[(0, .u 64 x), (3, .b sg), (9, .u 64 v), (10, .i .i64 f), (11, .i .i64 t), (12, .i .i64 m), (13, .i .i64 k)], [], [], _⟩ =>
    some ⟨[v == 0#64, k == 0, decide (0 ≤ f), decide (f ≤ 64), decide (0 ≤ t), decide (t ≤ 64), decide (1 ≤ m), decide (m ≤ 64)], .exit 0,
      [(0, .u 64 x), (3, .b sg), (9, .u 64 (fieldS x sg f.toNat t.toNat m.toNat 64)), (10, .i .i64 f), (11, .i .i64 t), (12, .i .i64 m), (13, .i .i64 64)], [], []⟩
  | _ => none
def L61 : Nat → Live := fun _ => ⟨[0, 3, 9, 10, 11, 12, 13], [], [], some (evSum q61)⟩
theorem fieldS_step (x : W64) (sg : Bool) (F L M j : Nat) (hL : L ≤ 64) (hj : j < 64) (hM : 1 ≤ M) :
    fieldS x sg F L M (j + 1) = if (if decide ((j : Int) < (M : Int)) = true then true else sg) = true then if decide (((j : Int) + (L : Int)) < 64) = true then fieldS x sg F L M j + bitB (x.getLsbD (F + (if M ≤ j then M - 1 else j))) <<< (j + L) else fieldS x sg F L M j else fieldS x sg F L M j := by
  unfold fieldS
  by_cases hl : j + L < 64
  · have e1 : min (j + 1) (64 - L) = j + 1 := by omega
    have e2 : min j (64 - L) = j := by omega
    have hi : decide (((j : Int) + (L : Int)) < 64) = true := by simp; omega
    rw [e1, e2, hi, sumBits, BitVec.shiftLeft_add_distrib, ← BitVec.shiftLeft_add]
    have hc : (if decide ((j : Int) < (M : Int)) = true then true else sg) = (decide (j < M) || sg) := by
      by_cases h : j < M
      · have : (j : Int) < (M : Int) := by omega
        simp [h, this]
      · have : ¬ (j : Int) < (M : Int) := by omega
        simp [h, this]
    have hmin : min j (M - 1) = if M ≤ j then M - 1 else j := by split <;> omega
    rw [hc]
    unfold fB
    rw [hmin]
    cases decide (j < M) || sg with
    | true => rfl
    | false => simp [bitB]
  · have e1 : min (j + 1) (64 - L) = min j (64 - L) := by omega
    have hi : decide (((j : Int) + (L : Int)) < 64) = false := by simp; omega
    rw [e1, hi]
    simp
theorem loop61 (N : Nat) : LoopOk T SV1 L61 60 N (loopOf Try.f61 0) := LoopOk.of rfl <| by
  intro τ r hcut hr
  unfold q61 at hr; split at hr <;> cases hr
  rename_i x sg v f t m k c
  obtain rfl : c = 0 := hcut
  intro hp
  simp only [List.mem_cons, List.not_mem_nil, or_false, forall_eq_or_imp, forall_eq, beq_iff_eq, decide_eq_true_eq] at hp
  obtain ⟨rfl, rfl, hf, hf2, ht, ht2, hm, hm2⟩ := hp
  obtain ⟨F, rfl⟩ := Int.eq_ofNat_of_zero_le hf
  obtain ⟨L, rfl⟩ := Int.eq_ofNat_of_zero_le ht
  obtain ⟨M, rfl⟩ := Int.eq_ofNat_of_zero_le (show 0 ≤ m by omega)
  have e : ∀ (v : W64) (k : Int), atHead (evCode T SV1 L61 60 N (loopOf Try.f61 0)) (L61 (firstR (loopOf Try.f61 0))) ⟨[(0, .u 64 x), (3, .b sg), (9, .u 64 v), (10, .i .i64 (F : Int)), (11, .i .i64 (L : Int)), (12, .i .i64 (M : Int)), (13, .i .i64 k)], [], [], 0⟩ =
      Tr.ite (decide (k < 64))
        (.leaf (.normal, ⟨[(0, .u 64 x), (3, .b sg), (9, .u 64 (if (if decide (k < (M : Int)) = true then true else sg) = true then if decide (IntKind.i64.wrap (k + (L : Int)) < 64) = true then v + bitB (x.getLsbD (BitVec.ofInt 64 (IntKind.i64.wrap ((F : Int) + if decide ((M : Int) ≤ k) = true then IntKind.i64.wrap ((M : Int) - 1) else k))).toNat) <<< (BitVec.ofInt 64 (IntKind.i64.wrap (k + (L : Int)))).toNat else v else v)),
          (10, .i .i64 (F : Int)), (11, .i .i64 (L : Int)), (12, .i .i64 (M : Int)), (13, .i .i64 (IntKind.i64.wrap (k + 1)))], [], [], 0⟩))
        (.leaf (.exit 0, ⟨[(0, .u 64 x), (3, .b sg), (9, .u 64 v), (10, .i .i64 (F : Int)), (11, .i .i64 (L : Int)), (12, .i .i64 (M : Int)), (13, .i .i64 k)], [], [], 0⟩)) := fun v k => by kernel_rfl
  have h := iter_for (g := atHead (evCode T SV1 L61 60 N (loopOf Try.f61 0)) (L61 (firstR (loopOf Try.f61 0)))) (fun j => ⟨[(0, .u 64 x), (3, .b sg), (9, .u 64 (fieldS x sg F L M j)), (10, .i .i64 (F : Int)), (11, .i .i64 (L : Int)), (12, .i .i64 (M : Int)), (13, .i .i64 (j : Int))], [], [], 0⟩) 64
    (e := .exit 0) (st' := ⟨[(0, .u 64 x), (3, .b sg), (9, .u 64 (fieldS x sg F L M 64)), (10, .i .i64 (F : Int)), (11, .i .i64 (L : Int)), (12, .i .i64 (M : Int)), (13, .i .i64 64)], [], [], 0⟩) ?_ ?_ (by simp)
  · have h0 : fieldS x sg F L M 0 = 0#64 := by simp [fieldS, sumBits]
    simp only [h0] at h
    exact ⟨65, h⟩
  · intro j hj
    have a1 : IntKind.i64.wrap ((j : Int) + (L : Int)) = (j : Int) + (L : Int) := wrap_small _ (by omega) (by omega)
    have a2 : (BitVec.ofInt 64 ((j : Int) + (L : Int)) : W64).toNat = j + L := by
      rw [show (j : Int) + (L : Int) = ((j + L : Nat) : Int) by omega, ofInt_nat _ (by omega)]
    have a3 : (BitVec.ofInt 64 (IntKind.i64.wrap ((F : Int) + if decide ((M : Int) ≤ (j : Int)) = true then IntKind.i64.wrap ((M : Int) - 1) else (j : Int))) : W64).toNat = F + if M ≤ j then M - 1 else j := by
      by_cases h : M ≤ j
      · have h' : (M : Int) ≤ (j : Int) := by omega
        simp only [h', h, decide_true, if_true]
        rw [wrap_small ((M : Int) - 1) (by omega) (by omega), wrap_small _ (by omega) (by omega), show (F : Int) + ((M : Int) - 1) = ((F + (M - 1) : Nat) : Int) by omega, ofInt_nat _ (by omega)]
      · have h' : ¬ (M : Int) ≤ (j : Int) := by omega
        simp only [h', h, decide_false, Bool.false_eq_true, if_false]
        rw [wrap_small _ (by omega) (by omega), show (F : Int) + (j : Int) = ((F + j : Nat) : Int) by omega, ofInt_nat _ (by omega)]
    have hlt : decide ((j : Int) < 64) = true := by simp; omega
    rw [e, a1, a2, a3, hlt, wrap_succ j (by omega), fieldS_step x sg F L M j (by omega) hj (by omega)]
    rfl
  · rw [e]
    rfl
/- bit by bit, it is the program's -/
theorem fieldS_get (x : W64) (sg : Bool) (F L M i : Nat) (hi : i < 64) : (fieldS x sg F L M 64).getLsbD i = (decide (L ≤ i) && fB x sg F M (i - L)) := by
  unfold fieldS
  rw [BitVec.getLsbD_shiftLeft, sumBits_get _ (by omega)]
  by_cases h : L ≤ i
  · have h1 : ¬ i < L := by omega
    have h2 : i - L < min 64 (64 - L) := by omega
    have h3 : i - L < 64 - L := by omega
    simp [hi, h, h1, h2, h3]
  · have h1 : i < L := by omega
    simp [hi, h, h1]
theorem fieldU_get (x y : W64) (F L M i : Nat) (hi : i < 64) (hM : 1 ≤ M) (hM2 : M ≤ 64) (hy : ∀ j, y.getLsbD j = x.getLsbD (F + j)) : (y <<< (64 - M) >>> (64 - M) <<< L).getLsbD i = (decide (L ≤ i) && fB x false F M (i - L)) := by
  rw [BitVec.getLsbD_shiftLeft, BitVec.getLsbD_ushiftRight, BitVec.getLsbD_shiftLeft]
  by_cases h : L ≤ i
  · have h1 : ¬ i < L := by omega
    have h3 : 64 - M + (i - L) - (64 - M) = i - L := by omega
    have h4 : ¬ 64 - M + (i - L) < 64 - M := by omega
    rw [h3, hy]
    unfold fB
    by_cases h2 : i - L < M
    · have h5 : 64 - M + (i - L) < 64 := by omega
      have h6 : min (i - L) (M - 1) = i - L := by omega
      simp [hi, h, h1, h2, h4, h5, h6]
    · have h5 : ¬ 64 - M + (i - L) < 64 := by omega
      simp [hi, h, h1, h2, h4, h5]
  · have h1 : i < L := by omega
    simp [hi, h, h1]
theorem fieldT_get (x y : W64) (F L M i : Nat) (hi : i < 64) (hM : 1 ≤ M) (hM2 : M ≤ 64) (hy : ∀ j, y.getLsbD j = x.getLsbD (F + j)) : ((y <<< (64 - M)).sshiftRight (64 - M) <<< L).getLsbD i = (decide (L ≤ i) && fB x true F M (i - L)) := by
  rw [BitVec.getLsbD_shiftLeft, BitVec.getLsbD_sshiftRight, BitVec.msb_eq_getLsbD_last, BitVec.getLsbD_shiftLeft, BitVec.getLsbD_shiftLeft]
  by_cases h : L ≤ i
  · have h1 : ¬ i < L := by omega
    have h3 : 64 - M + (i - L) - (64 - M) = i - L := by omega
    have h4 : ¬ 64 - M + (i - L) < 64 - M := by omega
    have h7 : ¬ 64 ≤ i - L := by omega
    have h8 : 64 - 1 - (64 - M) = M - 1 := by omega
    have h9 : ¬ 64 - 1 < 64 - M := by omega
    rw [h3, h8, hy, hy]
    unfold fB
    by_cases h2 : i - L < M
    · have h5 : 64 - M + (i - L) < 64 := by omega
      have h6 : min (i - L) (M - 1) = i - L := by omega
      simp [hi, h, h1, h2, h4, h5, h6, h7]
    · have h5 : ¬ 64 - M + (i - L) < 64 := by omega
      have h6 : min (i - L) (M - 1) = M - 1 := by omega
      simp [hi, h, h1, h2, h4, h5, h6, h7, h9]
  · have h1 : i < L := by omega
    simp [hi, h, h1]
def frF (r s : Int) : Int := if decide (r ≤ s) = true then r else 0
def toF (r s : Int) : Int := if decide (r ≤ s) = true then 0 else IntKind.i64.wrap (64 - r)
theorem fieldS_eq (x : W64) (sg : Bool) {r s : Int} (hr : 0 ≤ r ∧ r ≤ 63) (hs : 0 ≤ s ∧ s ≤ 63) : fieldS x sg (frF r s).toNat (toF r s).toNat (fldN r s).toNat 64 = fieldA (if sg = true then 30 else 29) r s x := by
  have hN := fldN_bounds hr hs
  have hK : (fldK r s).toNat = 64 - (fldN r s).toNat := by
    unfold fldK
    rw [wrapS (by omega) (by omega)]; omega
  have hL : (fldL r s).toNat = (toF r s).toNat := by
    unfold fldL toF
    by_cases h : r ≤ s
    · simp [h]
    · simp only [h, decide_false, Bool.false_eq_true, if_false]
      obtain ⟨R, rfl⟩ := Int.eq_ofNat_of_zero_le hr.1
      have e := and63 (64 - R) (by omega)
      rw [wrapS (x := 64 - (R : Int)) (by omega) (by omega), show (64 : Int) - (R : Int) = ((64 - R : Nat) : Int) by omega, BitVec.ofInt_natCast, BitVec.toInt_eq_toNat_of_lt (by rw [e]; omega), e]
      omega
  have hX : ∀ j, (fldX r s x).getLsbD j = x.getLsbD ((frF r s).toNat + j) := by
    intro j
    unfold fldX frF
    by_cases h : r ≤ s
    · simp only [h, decide_true, if_true]
      rw [BitVec.getLsbD_ushiftRight]
    · simp only [h, decide_false, Bool.false_eq_true, if_false]
      simp
  apply BitVec.eq_of_getLsbD_eq
  intro i hi
  rw [fieldS_get x sg _ _ _ i hi]
  unfold fieldA
  rw [hK, hL, asr_eq]
  cases sg with
  | false => exact (fieldU_get x _ _ _ _ i hi (by omega) (by omega) hX).symm
  | true => exact (fieldT_get x _ _ _ _ i hi (by omega) (by omega) hX).symm
def sr61 : CSpec
  | [.u 64 x, .i .i64 r, .i .i64 s, .b sg] => some ⟨[decide (0 ≤ r), decide (r ≤ 63), decide (0 ≤ s), decide (s ≤ 63)], .u 64 (fieldA (if sg = true then 30 else 29) r s x)⟩
  | _ => none
theorem okr61 : FnOk Try.prog 61 sr61 := FnOk.of (L := L61) tyOk SV1_ok mixed Try.func61 (by kernel_rfl) (by kernel_rfl) <| by
  intro xs r hs hp w R vs hvs
  refine ⟨1, FnLoops.one (by kernel_rfl) (loop61 1), ?_⟩
  unfold sr61 at hs
  split at hs <;> cases hs
  rename_i x r s sg
  simp only [List.mem_cons, List.not_mem_nil, or_false, forall_eq_or_imp, forall_eq, decide_eq_true_eq] at hp
  obtain ⟨h1, h2, h3, h4⟩ := hp
  show (evFn T SV1 L61 1 Try.f61 [.u 64 x, .i .i64 r, .i .i64 s, .b sg]).run = some (.u 64 (fieldA (if sg = true then 30 else 29) r s x))
  have e : (evFn T SV1 L61 1 Try.f61 [.u 64 x, .i .i64 r, .i .i64 s, .b sg]).run =
    if decide (0 ≤ frF r s) = true then if decide (frF r s ≤ 64) = true then if decide (0 ≤ toF r s) = true then if decide (toF r s ≤ 64) = true then if decide (1 ≤ fldN r s) = true then if decide (fldN r s ≤ 64) = true then
      some (.u 64 (fieldS x sg (frF r s).toNat (toF r s).toNat (fldN r s).toNat 64)) else none else none else none else none else none else none := by kernel_rfl
  have hN := fldN_bounds ⟨h1, h2⟩ ⟨h3, h4⟩
  have hF : 0 ≤ frF r s ∧ frF r s ≤ 64 := by
    unfold frF
    by_cases h : r ≤ s
    · simp [h]; omega
    · simp [h]
  have hT : 0 ≤ toF r s ∧ toF r s ≤ 64 := by
    unfold toF
    by_cases h : r ≤ s
    · simp [h]
    · simp only [h, decide_false, Bool.false_eq_true, if_false]
      rw [wrapS (by omega) (by omega)]; omega
  rw [e, if_pos (by simpa using hF.1), if_pos (by simpa using hF.2), if_pos (by simpa using hT.1), if_pos (by simpa using hT.2), if_pos (by simpa using hN.1), if_pos (by simpa using hN.2), fieldS_eq x sg ⟨h1, h2⟩ ⟨h3, h4⟩]
end Go.Proofs.Ytocfkaihfjbfnaa
set_option maxRecDepth 100000
namespace Go.Proofs.Ytocfkaihfjbfnaa
open Go.Proofs.Ytocfkaihfjbfnaa.Ev Go.RowKit
/- The reference's flags and values. -/
noncomputable abbrev SU2 : FuncId → CSpec := withS (withS (withS SU1 59 sr59) 61 sr61) 18 sr18
theorem SU2_ok : ∀ f, FnOk Try.prog f (SU2 f) := withS_ok (withS_ok (withS_ok SU1_ok okr59) okr61) okr18
def sr57 : CSpec
  | [.agg (cR X n z c v pc k ex aq rl ta vv w), .u 64 r, .b cy, .b ov] => (match allU X 31 with
    | true => some ⟨[], .agg (cR (words X) (neg r 8) (r == BitVec.ofInt 64 0) cy ov pc k ex aq rl ta vv w)⟩
    | false => none)
  | _ => none
theorem okr57 : FnOk Try.prog 57 sr57 := okC SU2_ok Try.func57 (by kernel_rfl) (by kernel_rfl) 1 <| by
  intro xs r hs
  unfold sr57 at hs; split at hs <;> try cases hs
  rename_i X n z c v pc k ex aq rl ta vv w r cy ov
  split at hs <;> cases hs
  rename_i hU
  rintro hp _
  show (evFn T SU2 noL 1 Try.f57 [.agg ((cR X n z c v pc k ex aq rl ta vv w).map canA), .u 64 r, .b cy, .b ov]).run = some (.agg (cR (words X) (neg r 8) (r == BitVec.ofInt 64 0) cy ov pc k ex aq rl ta vv w))
  rw [can_cR hU]
  kernel_rfl
noncomputable abbrev SU3 : FuncId → CSpec := withS SU2 57 sr57
theorem SU3_ok : ∀ f, FnOk Try.prog f (SU3 f) := withS_ok SU2_ok okr57
def bR (op s : Int) (imm y : W64) : W64 := if decide (op ≤ 4) = true then imm else y <<< (BitVec.ofInt 64 s).toNat
def kR (s : Int) : Nat := (BitVec.ofInt 64 (IntKind.i64.wrap (16 * s))).toNat
def valR (op s r : Int) (imm x y d a : W64) (h : Bool) : W64 :=
  if (op == 1 || op == 5) = true then x + bR op s imm y else if (op == 2 || op == 6) = true then x - bR op s imm y
  else if decide (op ≤ 12) = true then sumsW op x (bR op s imm y)
  else if (op == 13) = true then x &&& imm else if (op == 14) = true then x ||| imm else if (op == 15) = true then x ^^^ imm
  else if (op == 16) = true then imm <<< kR s else if (op == 17) = true then BitVec.ofInt 64 18446744073709551615 - imm <<< kR s
  else if (op == 18) = true then d - (d >>> kR s % BitVec.ofInt 64 65536) <<< kR s + imm <<< kR s
  else if (op == 19) = true then a + x * y else if (op == 20) = true then a - x * y
  else if decide (op ≤ 27) = true then doA (op - 14) x y
  else if (op == 28) = true then turn x (IntKind.i64.wrap (0 - IntKind.i64.wrap ((y % BitVec.ofInt 64 64).toNat : Int))) 8
  else if decide (op ≤ 30) = true then fieldA op r s x
  else if h = true then x else if (op == 32) = true then y + BitVec.ofInt 64 1 else y
def Run34 (X : Nat → AV) (n z c v : Bool) (pc : W64) (k : Int) (ex aq rl : Bool) (ta vv : W64) (w : Int) (w' d' n' m' a' : Int) (imm' : W64) (off' cond' r' s' : Int) (q : Int) (n1 z1 c1 v1 : Bool) : Prop :=
  (evFn T SU3 noL 1 Try.f34 [.agg (cR (words X) n z c v pc k ex aq rl ta vv w), .agg (cI q w' d' n' m' a' imm' off' cond' r' s')]).run =
    some (.tup [.u 64 (valR q s' r' imm' (getX X n') (getX X m') (getX X d') (getX X a') (holds n z c v cond')), .agg (cR (words X) n1 z1 c1 v1 pc k ex aq rl ta vv w)])
theorem run34_1 (X : Nat → AV) (n z c v : Bool) (pc : W64) (k : Int) (ex aq rl : Bool) (ta vv : W64) (w : Int) (w' d' n' m' a' : Int) (imm' : W64) (off' cond' r' s' : Int) : Run34 X n z c v pc k ex aq rl ta vv w w' d' n' m' a' imm' off' cond' r' s' 1 (flN 1 (getX X n') (bR 1 s' imm' (getX X m')) n) (flZ 1 (getX X n') (bR 1 s' imm' (getX X m')) z) (flC 1 (getX X n') (bR 1 s' imm' (getX X m')) c) (flV 1 (getX X n') (bR 1 s' imm' (getX X m')) v) := by
  unfold Run34
  kernel_rfl
theorem run34_2 (X : Nat → AV) (n z c v : Bool) (pc : W64) (k : Int) (ex aq rl : Bool) (ta vv : W64) (w : Int) (w' d' n' m' a' : Int) (imm' : W64) (off' cond' r' s' : Int) : Run34 X n z c v pc k ex aq rl ta vv w w' d' n' m' a' imm' off' cond' r' s' 2 (flN 2 (getX X n') (bR 2 s' imm' (getX X m')) n) (flZ 2 (getX X n') (bR 2 s' imm' (getX X m')) z) (flC 2 (getX X n') (bR 2 s' imm' (getX X m')) c) (flV 2 (getX X n') (bR 2 s' imm' (getX X m')) v) := by
  unfold Run34
  kernel_rfl
theorem run34_3 (X : Nat → AV) (n z c v : Bool) (pc : W64) (k : Int) (ex aq rl : Bool) (ta vv : W64) (w : Int) (w' d' n' m' a' : Int) (imm' : W64) (off' cond' r' s' : Int) : Run34 X n z c v pc k ex aq rl ta vv w w' d' n' m' a' imm' off' cond' r' s' 3 (flN 3 (getX X n') (bR 3 s' imm' (getX X m')) n) (flZ 3 (getX X n') (bR 3 s' imm' (getX X m')) z) (flC 3 (getX X n') (bR 3 s' imm' (getX X m')) c) (flV 3 (getX X n') (bR 3 s' imm' (getX X m')) v) := by
  unfold Run34
  kernel_rfl
theorem run34_4 (X : Nat → AV) (n z c v : Bool) (pc : W64) (k : Int) (ex aq rl : Bool) (ta vv : W64) (w : Int) (w' d' n' m' a' : Int) (imm' : W64) (off' cond' r' s' : Int) : Run34 X n z c v pc k ex aq rl ta vv w w' d' n' m' a' imm' off' cond' r' s' 4 (flN 4 (getX X n') (bR 4 s' imm' (getX X m')) n) (flZ 4 (getX X n') (bR 4 s' imm' (getX X m')) z) (flC 4 (getX X n') (bR 4 s' imm' (getX X m')) c) (flV 4 (getX X n') (bR 4 s' imm' (getX X m')) v) := by
  unfold Run34
  kernel_rfl
theorem run34_5 (X : Nat → AV) (n z c v : Bool) (pc : W64) (k : Int) (ex aq rl : Bool) (ta vv : W64) (w : Int) (w' d' n' m' a' : Int) (imm' : W64) (off' cond' r' s' : Int) : Run34 X n z c v pc k ex aq rl ta vv w w' d' n' m' a' imm' off' cond' r' s' 5 (flN 5 (getX X n') (bR 5 s' imm' (getX X m')) n) (flZ 5 (getX X n') (bR 5 s' imm' (getX X m')) z) (flC 5 (getX X n') (bR 5 s' imm' (getX X m')) c) (flV 5 (getX X n') (bR 5 s' imm' (getX X m')) v) := by
  unfold Run34
  kernel_rfl
theorem run34_6 (X : Nat → AV) (n z c v : Bool) (pc : W64) (k : Int) (ex aq rl : Bool) (ta vv : W64) (w : Int) (w' d' n' m' a' : Int) (imm' : W64) (off' cond' r' s' : Int) : Run34 X n z c v pc k ex aq rl ta vv w w' d' n' m' a' imm' off' cond' r' s' 6 (flN 6 (getX X n') (bR 6 s' imm' (getX X m')) n) (flZ 6 (getX X n') (bR 6 s' imm' (getX X m')) z) (flC 6 (getX X n') (bR 6 s' imm' (getX X m')) c) (flV 6 (getX X n') (bR 6 s' imm' (getX X m')) v) := by
  unfold Run34
  kernel_rfl
theorem run34_7 (X : Nat → AV) (n z c v : Bool) (pc : W64) (k : Int) (ex aq rl : Bool) (ta vv : W64) (w : Int) (w' d' n' m' a' : Int) (imm' : W64) (off' cond' r' s' : Int) : Run34 X n z c v pc k ex aq rl ta vv w w' d' n' m' a' imm' off' cond' r' s' 7 (flN 7 (getX X n') (bR 7 s' imm' (getX X m')) n) (flZ 7 (getX X n') (bR 7 s' imm' (getX X m')) z) (flC 7 (getX X n') (bR 7 s' imm' (getX X m')) c) (flV 7 (getX X n') (bR 7 s' imm' (getX X m')) v) := by
  unfold Run34
  kernel_rfl
theorem run34_8 (X : Nat → AV) (n z c v : Bool) (pc : W64) (k : Int) (ex aq rl : Bool) (ta vv : W64) (w : Int) (w' d' n' m' a' : Int) (imm' : W64) (off' cond' r' s' : Int) : Run34 X n z c v pc k ex aq rl ta vv w w' d' n' m' a' imm' off' cond' r' s' 8 (flN 8 (getX X n') (bR 8 s' imm' (getX X m')) n) (flZ 8 (getX X n') (bR 8 s' imm' (getX X m')) z) (flC 8 (getX X n') (bR 8 s' imm' (getX X m')) c) (flV 8 (getX X n') (bR 8 s' imm' (getX X m')) v) := by
  unfold Run34
  kernel_rfl
theorem run34_9 (X : Nat → AV) (n z c v : Bool) (pc : W64) (k : Int) (ex aq rl : Bool) (ta vv : W64) (w : Int) (w' d' n' m' a' : Int) (imm' : W64) (off' cond' r' s' : Int) : Run34 X n z c v pc k ex aq rl ta vv w w' d' n' m' a' imm' off' cond' r' s' 9 (flN 9 (getX X n') (bR 9 s' imm' (getX X m')) n) (flZ 9 (getX X n') (bR 9 s' imm' (getX X m')) z) (flC 9 (getX X n') (bR 9 s' imm' (getX X m')) c) (flV 9 (getX X n') (bR 9 s' imm' (getX X m')) v) := by
  unfold Run34
  kernel_rfl
theorem run34_10 (X : Nat → AV) (n z c v : Bool) (pc : W64) (k : Int) (ex aq rl : Bool) (ta vv : W64) (w : Int) (w' d' n' m' a' : Int) (imm' : W64) (off' cond' r' s' : Int) : Run34 X n z c v pc k ex aq rl ta vv w w' d' n' m' a' imm' off' cond' r' s' 10 (flN 10 (getX X n') (bR 10 s' imm' (getX X m')) n) (flZ 10 (getX X n') (bR 10 s' imm' (getX X m')) z) (flC 10 (getX X n') (bR 10 s' imm' (getX X m')) c) (flV 10 (getX X n') (bR 10 s' imm' (getX X m')) v) := by
  unfold Run34
  kernel_rfl
theorem run34_11 (X : Nat → AV) (n z c v : Bool) (pc : W64) (k : Int) (ex aq rl : Bool) (ta vv : W64) (w : Int) (w' d' n' m' a' : Int) (imm' : W64) (off' cond' r' s' : Int) : Run34 X n z c v pc k ex aq rl ta vv w w' d' n' m' a' imm' off' cond' r' s' 11 (flN 11 (getX X n') (bR 11 s' imm' (getX X m')) n) (flZ 11 (getX X n') (bR 11 s' imm' (getX X m')) z) (flC 11 (getX X n') (bR 11 s' imm' (getX X m')) c) (flV 11 (getX X n') (bR 11 s' imm' (getX X m')) v) := by
  unfold Run34
  kernel_rfl
theorem run34_12 (X : Nat → AV) (n z c v : Bool) (pc : W64) (k : Int) (ex aq rl : Bool) (ta vv : W64) (w : Int) (w' d' n' m' a' : Int) (imm' : W64) (off' cond' r' s' : Int) : Run34 X n z c v pc k ex aq rl ta vv w w' d' n' m' a' imm' off' cond' r' s' 12 (flN 12 (getX X n') (bR 12 s' imm' (getX X m')) n) (flZ 12 (getX X n') (bR 12 s' imm' (getX X m')) z) (flC 12 (getX X n') (bR 12 s' imm' (getX X m')) c) (flV 12 (getX X n') (bR 12 s' imm' (getX X m')) v) := by
  unfold Run34
  kernel_rfl
theorem run34_13 (X : Nat → AV) (n z c v : Bool) (pc : W64) (k : Int) (ex aq rl : Bool) (ta vv : W64) (w : Int) (w' d' n' m' a' : Int) (imm' : W64) (off' cond' r' s' : Int) : Run34 X n z c v pc k ex aq rl ta vv w w' d' n' m' a' imm' off' cond' r' s' 13 n z c v := by
  unfold Run34
  kernel_rfl
theorem run34_14 (X : Nat → AV) (n z c v : Bool) (pc : W64) (k : Int) (ex aq rl : Bool) (ta vv : W64) (w : Int) (w' d' n' m' a' : Int) (imm' : W64) (off' cond' r' s' : Int) : Run34 X n z c v pc k ex aq rl ta vv w w' d' n' m' a' imm' off' cond' r' s' 14 n z c v := by
  unfold Run34
  kernel_rfl
theorem run34_15 (X : Nat → AV) (n z c v : Bool) (pc : W64) (k : Int) (ex aq rl : Bool) (ta vv : W64) (w : Int) (w' d' n' m' a' : Int) (imm' : W64) (off' cond' r' s' : Int) : Run34 X n z c v pc k ex aq rl ta vv w w' d' n' m' a' imm' off' cond' r' s' 15 n z c v := by
  unfold Run34
  kernel_rfl
theorem run34_16 (X : Nat → AV) (n z c v : Bool) (pc : W64) (k : Int) (ex aq rl : Bool) (ta vv : W64) (w : Int) (w' d' n' m' a' : Int) (imm' : W64) (off' cond' r' s' : Int) : Run34 X n z c v pc k ex aq rl ta vv w w' d' n' m' a' imm' off' cond' r' s' 16 n z c v := by
  unfold Run34
  kernel_rfl
theorem run34_17 (X : Nat → AV) (n z c v : Bool) (pc : W64) (k : Int) (ex aq rl : Bool) (ta vv : W64) (w : Int) (w' d' n' m' a' : Int) (imm' : W64) (off' cond' r' s' : Int) : Run34 X n z c v pc k ex aq rl ta vv w w' d' n' m' a' imm' off' cond' r' s' 17 n z c v := by
  unfold Run34
  kernel_rfl
theorem run34_18 (X : Nat → AV) (n z c v : Bool) (pc : W64) (k : Int) (ex aq rl : Bool) (ta vv : W64) (w : Int) (w' d' n' m' a' : Int) (imm' : W64) (off' cond' r' s' : Int) : Run34 X n z c v pc k ex aq rl ta vv w w' d' n' m' a' imm' off' cond' r' s' 18 n z c v := by
  unfold Run34
  kernel_rfl
theorem run34_19 (X : Nat → AV) (n z c v : Bool) (pc : W64) (k : Int) (ex aq rl : Bool) (ta vv : W64) (w : Int) (w' d' n' m' a' : Int) (imm' : W64) (off' cond' r' s' : Int) : Run34 X n z c v pc k ex aq rl ta vv w w' d' n' m' a' imm' off' cond' r' s' 19 n z c v := by
  unfold Run34
  kernel_rfl
theorem run34_20 (X : Nat → AV) (n z c v : Bool) (pc : W64) (k : Int) (ex aq rl : Bool) (ta vv : W64) (w : Int) (w' d' n' m' a' : Int) (imm' : W64) (off' cond' r' s' : Int) : Run34 X n z c v pc k ex aq rl ta vv w w' d' n' m' a' imm' off' cond' r' s' 20 n z c v := by
  unfold Run34
  kernel_rfl
theorem run34_21 (X : Nat → AV) (n z c v : Bool) (pc : W64) (k : Int) (ex aq rl : Bool) (ta vv : W64) (w : Int) (w' d' n' m' a' : Int) (imm' : W64) (off' cond' r' s' : Int) : Run34 X n z c v pc k ex aq rl ta vv w w' d' n' m' a' imm' off' cond' r' s' 21 n z c v := by
  unfold Run34
  kernel_rfl
theorem run34_22 (X : Nat → AV) (n z c v : Bool) (pc : W64) (k : Int) (ex aq rl : Bool) (ta vv : W64) (w : Int) (w' d' n' m' a' : Int) (imm' : W64) (off' cond' r' s' : Int) : Run34 X n z c v pc k ex aq rl ta vv w w' d' n' m' a' imm' off' cond' r' s' 22 n z c v := by
  unfold Run34
  kernel_rfl
theorem run34_23 (X : Nat → AV) (n z c v : Bool) (pc : W64) (k : Int) (ex aq rl : Bool) (ta vv : W64) (w : Int) (w' d' n' m' a' : Int) (imm' : W64) (off' cond' r' s' : Int) : Run34 X n z c v pc k ex aq rl ta vv w w' d' n' m' a' imm' off' cond' r' s' 23 n z c v := by
  unfold Run34
  kernel_rfl
theorem run34_24 (X : Nat → AV) (n z c v : Bool) (pc : W64) (k : Int) (ex aq rl : Bool) (ta vv : W64) (w : Int) (w' d' n' m' a' : Int) (imm' : W64) (off' cond' r' s' : Int) : Run34 X n z c v pc k ex aq rl ta vv w w' d' n' m' a' imm' off' cond' r' s' 24 n z c v := by
  unfold Run34
  kernel_rfl
theorem run34_25 (X : Nat → AV) (n z c v : Bool) (pc : W64) (k : Int) (ex aq rl : Bool) (ta vv : W64) (w : Int) (w' d' n' m' a' : Int) (imm' : W64) (off' cond' r' s' : Int) : Run34 X n z c v pc k ex aq rl ta vv w w' d' n' m' a' imm' off' cond' r' s' 25 n z c v := by
  unfold Run34
  kernel_rfl
theorem run34_26 (X : Nat → AV) (n z c v : Bool) (pc : W64) (k : Int) (ex aq rl : Bool) (ta vv : W64) (w : Int) (w' d' n' m' a' : Int) (imm' : W64) (off' cond' r' s' : Int) : Run34 X n z c v pc k ex aq rl ta vv w w' d' n' m' a' imm' off' cond' r' s' 26 n z c v := by
  unfold Run34
  kernel_rfl
theorem run34_27 (X : Nat → AV) (n z c v : Bool) (pc : W64) (k : Int) (ex aq rl : Bool) (ta vv : W64) (w : Int) (w' d' n' m' a' : Int) (imm' : W64) (off' cond' r' s' : Int) : Run34 X n z c v pc k ex aq rl ta vv w w' d' n' m' a' imm' off' cond' r' s' 27 n z c v := by
  unfold Run34
  kernel_rfl
theorem run34_28 (X : Nat → AV) (n z c v : Bool) (pc : W64) (k : Int) (ex aq rl : Bool) (ta vv : W64) (w : Int) (w' d' n' m' a' : Int) (imm' : W64) (off' cond' r' s' : Int) : Run34 X n z c v pc k ex aq rl ta vv w w' d' n' m' a' imm' off' cond' r' s' 28 n z c v := by
  unfold Run34
  kernel_rfl
theorem run34_29 (X : Nat → AV) (n z c v : Bool) (pc : W64) (k : Int) (ex aq rl : Bool) (ta vv : W64) (w : Int) (w' d' n' m' a' : Int) (imm' : W64) (off' cond' r' s' : Int) (hr : 0 ≤ r' ∧ r' ≤ 63) (hs : 0 ≤ s' ∧ s' ≤ 63) : Run34 X n z c v pc k ex aq rl ta vv w w' d' n' m' a' imm' off' cond' r' s' 29 n z c v := by
  unfold Run34
  have e : (evFn T SU3 noL 1 Try.f34 [.agg (cR (words X) n z c v pc k ex aq rl ta vv w), .agg (cI 29 w' d' n' m' a' imm' off' cond' r' s')]).run =
    if decide (0 ≤ r') = true then if decide (r' ≤ 63) = true then if decide (0 ≤ s') = true then if decide (s' ≤ 63) = true then some (.tup [.u 64 (fieldA 29 r' s' (getX X n')), .agg (cR (words X) n z c v pc k ex aq rl ta vv w)]) else none else none else none else none := by kernel_rfl
  rw [e, if_pos (by simpa using hr.1), if_pos (by simpa using hr.2), if_pos (by simpa using hs.1), if_pos (by simpa using hs.2)]
  rfl
theorem run34_30 (X : Nat → AV) (n z c v : Bool) (pc : W64) (k : Int) (ex aq rl : Bool) (ta vv : W64) (w : Int) (w' d' n' m' a' : Int) (imm' : W64) (off' cond' r' s' : Int) (hr : 0 ≤ r' ∧ r' ≤ 63) (hs : 0 ≤ s' ∧ s' ≤ 63) : Run34 X n z c v pc k ex aq rl ta vv w w' d' n' m' a' imm' off' cond' r' s' 30 n z c v := by
  unfold Run34
  have e : (evFn T SU3 noL 1 Try.f34 [.agg (cR (words X) n z c v pc k ex aq rl ta vv w), .agg (cI 30 w' d' n' m' a' imm' off' cond' r' s')]).run =
    if decide (0 ≤ r') = true then if decide (r' ≤ 63) = true then if decide (0 ≤ s') = true then if decide (s' ≤ 63) = true then some (.tup [.u 64 (fieldA 30 r' s' (getX X n')), .agg (cR (words X) n z c v pc k ex aq rl ta vv w)]) else none else none else none else none := by kernel_rfl
  rw [e, if_pos (by simpa using hr.1), if_pos (by simpa using hr.2), if_pos (by simpa using hs.1), if_pos (by simpa using hs.2)]
  rfl
theorem run34_31 (X : Nat → AV) (n z c v : Bool) (pc : W64) (k : Int) (ex aq rl : Bool) (ta vv : W64) (w : Int) (w' d' n' m' a' : Int) (imm' : W64) (off' cond' r' s' : Int) : Run34 X n z c v pc k ex aq rl ta vv w w' d' n' m' a' imm' off' cond' r' s' 31 n z c v := by
  unfold Run34
  have e : (evFn T SU3 noL 1 Try.f34 [.agg (cR (words X) n z c v pc k ex aq rl ta vv w), .agg (cI 31 w' d' n' m' a' imm' off' cond' r' s')]).run =
    if holds n z c v cond' = true then some (.tup [.u 64 (getX X n'), .agg (cR (words X) n z c v pc k ex aq rl ta vv w)]) else some (.tup [.u 64 (getX X m'), .agg (cR (words X) n z c v pc k ex aq rl ta vv w)]) := by kernel_rfl
  rw [e]
  show _ = some (AV.tup [.u 64 (if holds n z c v cond' = true then getX X n' else getX X m'), .agg (cR (words X) n z c v pc k ex aq rl ta vv w)])
  cases holds n z c v cond' <;> rfl
theorem run34_32 (X : Nat → AV) (n z c v : Bool) (pc : W64) (k : Int) (ex aq rl : Bool) (ta vv : W64) (w : Int) (w' d' n' m' a' : Int) (imm' : W64) (off' cond' r' s' : Int) : Run34 X n z c v pc k ex aq rl ta vv w w' d' n' m' a' imm' off' cond' r' s' 32 n z c v := by
  unfold Run34
  have e : (evFn T SU3 noL 1 Try.f34 [.agg (cR (words X) n z c v pc k ex aq rl ta vv w), .agg (cI 32 w' d' n' m' a' imm' off' cond' r' s')]).run =
    if holds n z c v cond' = true then some (.tup [.u 64 (getX X n'), .agg (cR (words X) n z c v pc k ex aq rl ta vv w)]) else some (.tup [.u 64 ((getX X m' + BitVec.ofInt 64 1)), .agg (cR (words X) n z c v pc k ex aq rl ta vv w)]) := by kernel_rfl
  rw [e]
  show _ = some (AV.tup [.u 64 (if holds n z c v cond' = true then getX X n' else (getX X m' + BitVec.ofInt 64 1)), .agg (cR (words X) n z c v pc k ex aq rl ta vv w)])
  cases holds n z c v cond' <;> rfl
end Go.Proofs.Ytocfkaihfjbfnaa
set_option maxRecDepth 100000
namespace Go.Proofs.Ytocfkaihfjbfnaa
open Go.Proofs.Ytocfkaihfjbfnaa.Ev Go.RowKit
/- The reference's values are the program's. -/
theorem low64 (x : W64) : low x 64 = x := by
  apply BitVec.eq_of_getLsbD_eq
  intro i hi
  rw [low_get x (by omega)]
  simp [hi]
theorem sum1_add (x b : W64) : sum1 x b false 8 = x + b := by
  show low (x + b + 0#64) 64 = _
  rw [low64, BitVec.add_zero]
theorem sum1_sub (x b : W64) : sum1 x (~~~ b) true 8 = x - b := by
  show low (x + ~~~ b + 1#64) 64 = _
  rw [low64, BitVec.add_assoc, BitVec.sub_eq_add_neg, BitVec.neg_eq_not_add]
theorem shift_nat {s : Int} (hs : 0 ≤ s ∧ s ≤ 63) : (BitVec.ofInt 64 s).toNat = s.toNat := by
  rw [ofInt_nn hs.1 (by omega)]
theorem bR_eq (op : Int) {s : Int} (hs : 0 ≤ s ∧ s ≤ 63) (imm y : W64) : bR op s imm y = sumsB op s imm y := by
  unfold bR sumsB
  rw [shift_nat hs]
theorem kR_eq {s : Int} (hs : 0 ≤ s ∧ s ≤ 63) : kR s = (IntKind.i64.wrap (16 * s)).toNat := by
  unfold kR
  rw [wrapS (by omega) (by omega), ofInt_nn (by omega) (by omega)]
theorem not_sub (z : W64) : BitVec.ofInt 64 18446744073709551615 - z = ~~~ z := by
  have h : (BitVec.ofInt 64 18446744073709551615 : W64) = BitVec.allOnes 64 := by decide
  rw [h]
  apply BitVec.eq_of_toNat_eq
  have := z.isLt
  rw [BitVec.toNat_sub, BitVec.toNat_not, BitVec.toNat_allOnes]
  omega
theorem turn_eq (x y : W64) : turn x (IntKind.i64.wrap (0 - IntKind.i64.wrap ((y % BitVec.ofInt 64 64).toNat : Int))) 8 = turn x (IntKind.i64.wrap (-IntKind.i64.wrap ((y &&& BitVec.ofInt 64 63).toNat : Int))) 8 := by
  rw [mod64, Int.zero_sub]
theorem m16 : ∀ j, j < 64 → (BitVec.ofInt 64 65535 : W64).getLsbD j = decide (j < 16) := by
  have hall : ∀ j : Fin 64, (BitVec.ofInt 64 65535 : W64).getLsbD j.val = decide (j.val < 16) := by decide +kernel
  exact fun j hj => hall ⟨j, hj⟩
theorem mod16_get (x : W64) (j : Nat) : (x % BitVec.ofInt 64 65536).getLsbD j = (decide (j < 16) && x.getLsbD j) := by
  rw [BitVec.getLsbD, BitVec.toNat_umod]
  show (x.toNat % 2 ^ 16).testBit j = _
  rw [Nat.testBit_mod_two_pow]
  rfl
theorem small_get {x : W64} (h : x.toNat < 65536) {j : Nat} (hj : 16 ≤ j) : x.getLsbD j = false := by
  rw [BitVec.getLsbD]
  apply Nat.testBit_lt_two_pow
  have : 2 ^ 16 ≤ 2 ^ j := Nat.pow_le_pow_right (by omega) hj
  omega
theorem movk_eq (d imm : W64) (K : Nat) (hK : K ≤ 48) (hi : imm.toNat < 65536) : d - (d >>> K % BitVec.ofInt 64 65536) <<< K + imm <<< K = d &&& ~~~(BitVec.ofInt 64 65535 <<< K) ||| imm <<< K := by
  have h1 : (d &&& ~~~(BitVec.ofInt 64 65535 <<< K)) &&& (d >>> K % BitVec.ofInt 64 65536) <<< K = 0#64 := by
    apply BitVec.eq_of_getLsbD_eq
    intro i hi
    simp only [BitVec.getLsbD_and, BitVec.getLsbD_not, BitVec.getLsbD_shiftLeft, mod16_get, hi, decide_true, Bool.true_and]
    rw [m16 (i - K) (by omega)]
    by_cases a : i < K
    · simp [a]
    · by_cases b : i - K < 16 <;> simp [a, b]
  have h2 : (d &&& ~~~(BitVec.ofInt 64 65535 <<< K)) ||| (d >>> K % BitVec.ofInt 64 65536) <<< K = d := by
    apply BitVec.eq_of_getLsbD_eq
    intro i hi
    simp only [BitVec.getLsbD_and, BitVec.getLsbD_or, BitVec.getLsbD_not, BitVec.getLsbD_shiftLeft, mod16_get, hi, decide_true, Bool.true_and, BitVec.getLsbD_ushiftRight]
    rw [m16 (i - K) (by omega)]
    by_cases a : i < K
    · simp [a]
    · have e : K + (i - K) = i := by omega
      by_cases b : i - K < 16 <;> simp [a, b, e]
  have h3 : d = (d &&& ~~~(BitVec.ofInt 64 65535 <<< K)) + (d >>> K % BitVec.ofInt 64 65536) <<< K := by
    rw [BitVec.add_eq_or_of_and_eq_zero _ _ h1, h2]
  have h4 : d - (d >>> K % BitVec.ofInt 64 65536) <<< K = d &&& ~~~(BitVec.ofInt 64 65535 <<< K) := by
    generalize hB : (d >>> K % BitVec.ofInt 64 65536) <<< K = B at *
    generalize hA : d &&& ~~~(BitVec.ofInt 64 65535 <<< K) = A at *
    rw [h3]
    exact BitVec.add_sub_cancel A B
  have h5 : (d &&& ~~~(BitVec.ofInt 64 65535 <<< K)) &&& imm <<< K = 0#64 := by
    apply BitVec.eq_of_getLsbD_eq
    intro i hi64
    simp only [BitVec.getLsbD_and, BitVec.getLsbD_not, BitVec.getLsbD_shiftLeft, hi64, decide_true, Bool.true_and]
    rw [m16 (i - K) (by omega)]
    by_cases a : i < K
    · simp [a]
    · by_cases b : i - K < 16
      · simp [a, b]
      · simp [a, b, small_get hi (show 16 ≤ i - K by omega)]
  rw [h4, BitVec.add_eq_or_of_and_eq_zero _ _ h5]
theorem may_movk {w d n m a : Int} {imm : W64} {off cond r s : Int} (h : mayA 18 w d n m a imm off cond r s = true) : imm.toNat < 65536 ∧ s ≤ 3 := by
  have h := may_rest h
  unfold restA at h
  simp only [and_if] at h
  simp only [Bool.and_eq_true, decide_eq_true_eq] at h
  obtain ⟨⟨⟨⟨⟨⟨⟨_, hn⟩, _⟩, _⟩, _⟩, _⟩, _⟩, _⟩ := h
  unfold numsB at hn
  simp [inB] at hn
  exact ⟨hn.1.1, hn.2⟩
theorem valR_1 (s r : Int) (imm x y dv av : W64) (h : Bool) : valR 1 s r imm x y dv av h = x + bR 1 s imm y := by kernel_rfl
theorem dV_1 (s r : Int) (imm x y dv av : W64) (h : Bool) : dV 1 s r imm x y dv av h = sum1 x (sumsB 1 s imm y) false 8 := by kernel_rfl
theorem valR_2 (s r : Int) (imm x y dv av : W64) (h : Bool) : valR 2 s r imm x y dv av h = x - bR 2 s imm y := by kernel_rfl
theorem dV_2 (s r : Int) (imm x y dv av : W64) (h : Bool) : dV 2 s r imm x y dv av h = sum1 x (~~~ (sumsB 2 s imm y)) true 8 := by kernel_rfl
theorem valR_3 (s r : Int) (imm x y dv av : W64) (h : Bool) : valR 3 s r imm x y dv av h = sumsW 3 x (bR 3 s imm y) := by kernel_rfl
theorem dV_3 (s r : Int) (imm x y dv av : W64) (h : Bool) : dV 3 s r imm x y dv av h = sumsW 3 x (sumsB 3 s imm y) := by kernel_rfl
theorem valR_4 (s r : Int) (imm x y dv av : W64) (h : Bool) : valR 4 s r imm x y dv av h = sumsW 4 x (bR 4 s imm y) := by kernel_rfl
theorem dV_4 (s r : Int) (imm x y dv av : W64) (h : Bool) : dV 4 s r imm x y dv av h = sumsW 4 x (sumsB 4 s imm y) := by kernel_rfl
theorem valR_5 (s r : Int) (imm x y dv av : W64) (h : Bool) : valR 5 s r imm x y dv av h = x + bR 5 s imm y := by kernel_rfl
theorem dV_5 (s r : Int) (imm x y dv av : W64) (h : Bool) : dV 5 s r imm x y dv av h = sum1 x (sumsB 5 s imm y) false 8 := by kernel_rfl
theorem valR_6 (s r : Int) (imm x y dv av : W64) (h : Bool) : valR 6 s r imm x y dv av h = x - bR 6 s imm y := by kernel_rfl
theorem dV_6 (s r : Int) (imm x y dv av : W64) (h : Bool) : dV 6 s r imm x y dv av h = sum1 x (~~~ (sumsB 6 s imm y)) true 8 := by kernel_rfl
theorem valR_7 (s r : Int) (imm x y dv av : W64) (h : Bool) : valR 7 s r imm x y dv av h = sumsW 7 x (bR 7 s imm y) := by kernel_rfl
theorem dV_7 (s r : Int) (imm x y dv av : W64) (h : Bool) : dV 7 s r imm x y dv av h = sumsW 7 x (sumsB 7 s imm y) := by kernel_rfl
theorem valR_8 (s r : Int) (imm x y dv av : W64) (h : Bool) : valR 8 s r imm x y dv av h = sumsW 8 x (bR 8 s imm y) := by kernel_rfl
theorem dV_8 (s r : Int) (imm x y dv av : W64) (h : Bool) : dV 8 s r imm x y dv av h = sumsW 8 x (sumsB 8 s imm y) := by kernel_rfl
theorem valR_9 (s r : Int) (imm x y dv av : W64) (h : Bool) : valR 9 s r imm x y dv av h = sumsW 9 x (bR 9 s imm y) := by kernel_rfl
theorem dV_9 (s r : Int) (imm x y dv av : W64) (h : Bool) : dV 9 s r imm x y dv av h = sumsW 9 x (sumsB 9 s imm y) := by kernel_rfl
theorem valR_10 (s r : Int) (imm x y dv av : W64) (h : Bool) : valR 10 s r imm x y dv av h = sumsW 10 x (bR 10 s imm y) := by kernel_rfl
theorem dV_10 (s r : Int) (imm x y dv av : W64) (h : Bool) : dV 10 s r imm x y dv av h = sumsW 10 x (sumsB 10 s imm y) := by kernel_rfl
theorem valR_11 (s r : Int) (imm x y dv av : W64) (h : Bool) : valR 11 s r imm x y dv av h = sumsW 11 x (bR 11 s imm y) := by kernel_rfl
theorem dV_11 (s r : Int) (imm x y dv av : W64) (h : Bool) : dV 11 s r imm x y dv av h = sumsW 11 x (sumsB 11 s imm y) := by kernel_rfl
theorem valR_12 (s r : Int) (imm x y dv av : W64) (h : Bool) : valR 12 s r imm x y dv av h = sumsW 12 x (bR 12 s imm y) := by kernel_rfl
theorem dV_12 (s r : Int) (imm x y dv av : W64) (h : Bool) : dV 12 s r imm x y dv av h = sumsW 12 x (sumsB 12 s imm y) := by kernel_rfl
theorem vd_13 (s r : Int) (imm x y dv av : W64) (h : Bool) : valR 13 s r imm x y dv av h = dV 13 s r imm x y dv av h := by kernel_rfl
theorem vd_14 (s r : Int) (imm x y dv av : W64) (h : Bool) : valR 14 s r imm x y dv av h = dV 14 s r imm x y dv av h := by kernel_rfl
theorem vd_15 (s r : Int) (imm x y dv av : W64) (h : Bool) : valR 15 s r imm x y dv av h = dV 15 s r imm x y dv av h := by kernel_rfl
theorem valR_16 (s r : Int) (imm x y dv av : W64) (h : Bool) : valR 16 s r imm x y dv av h = imm <<< kR s := by kernel_rfl
theorem dV_16 (s r : Int) (imm x y dv av : W64) (h : Bool) : dV 16 s r imm x y dv av h = imm <<< (IntKind.i64.wrap (16 * s)).toNat := by kernel_rfl
theorem valR_17 (s r : Int) (imm x y dv av : W64) (h : Bool) : valR 17 s r imm x y dv av h = BitVec.ofInt 64 18446744073709551615 - imm <<< kR s := by kernel_rfl
theorem dV_17 (s r : Int) (imm x y dv av : W64) (h : Bool) : dV 17 s r imm x y dv av h = ~~~(imm <<< (IntKind.i64.wrap (16 * s)).toNat) := by kernel_rfl
theorem valR_18 (s r : Int) (imm x y dv av : W64) (h : Bool) : valR 18 s r imm x y dv av h = dv - (dv >>> kR s % BitVec.ofInt 64 65536) <<< kR s + imm <<< kR s := by kernel_rfl
theorem dV_18 (s r : Int) (imm x y dv av : W64) (h : Bool) : dV 18 s r imm x y dv av h = dv &&& ~~~(BitVec.ofInt 64 65535 <<< (IntKind.i64.wrap (16 * s)).toNat) ||| imm <<< (IntKind.i64.wrap (16 * s)).toNat := by kernel_rfl
theorem vd_19 (s r : Int) (imm x y dv av : W64) (h : Bool) : valR 19 s r imm x y dv av h = dV 19 s r imm x y dv av h := by kernel_rfl
theorem vd_20 (s r : Int) (imm x y dv av : W64) (h : Bool) : valR 20 s r imm x y dv av h = dV 20 s r imm x y dv av h := by kernel_rfl
theorem vd_21 (s r : Int) (imm x y dv av : W64) (h : Bool) : valR 21 s r imm x y dv av h = dV 21 s r imm x y dv av h := by kernel_rfl
theorem vd_22 (s r : Int) (imm x y dv av : W64) (h : Bool) : valR 22 s r imm x y dv av h = dV 22 s r imm x y dv av h := by kernel_rfl
theorem vd_23 (s r : Int) (imm x y dv av : W64) (h : Bool) : valR 23 s r imm x y dv av h = dV 23 s r imm x y dv av h := by kernel_rfl
theorem vd_24 (s r : Int) (imm x y dv av : W64) (h : Bool) : valR 24 s r imm x y dv av h = dV 24 s r imm x y dv av h := by kernel_rfl
theorem vd_25 (s r : Int) (imm x y dv av : W64) (h : Bool) : valR 25 s r imm x y dv av h = dV 25 s r imm x y dv av h := by kernel_rfl
theorem vd_26 (s r : Int) (imm x y dv av : W64) (h : Bool) : valR 26 s r imm x y dv av h = dV 26 s r imm x y dv av h := by kernel_rfl
theorem vd_27 (s r : Int) (imm x y dv av : W64) (h : Bool) : valR 27 s r imm x y dv av h = dV 27 s r imm x y dv av h := by kernel_rfl
theorem valR_28 (s r : Int) (imm x y dv av : W64) (h : Bool) : valR 28 s r imm x y dv av h = turn x (IntKind.i64.wrap (0 - IntKind.i64.wrap ((y % BitVec.ofInt 64 64).toNat : Int))) 8 := by kernel_rfl
theorem dV_28 (s r : Int) (imm x y dv av : W64) (h : Bool) : dV 28 s r imm x y dv av h = turn x (IntKind.i64.wrap (-IntKind.i64.wrap ((y &&& BitVec.ofInt 64 63).toNat : Int))) 8 := by kernel_rfl
theorem vd_29 (s r : Int) (imm x y dv av : W64) (h : Bool) : valR 29 s r imm x y dv av h = dV 29 s r imm x y dv av h := by kernel_rfl
theorem vd_30 (s r : Int) (imm x y dv av : W64) (h : Bool) : valR 30 s r imm x y dv av h = dV 30 s r imm x y dv av h := by kernel_rfl
theorem vd_31 (s r : Int) (imm x y dv av : W64) (h : Bool) : valR 31 s r imm x y dv av h = dV 31 s r imm x y dv av h := by kernel_rfl
theorem vd_32 (s r : Int) (imm x y dv av : W64) (h : Bool) : valR 32 s r imm x y dv av h = dV 32 s r imm x y dv av h := by kernel_rfl
theorem val_eq {op w d n m a : Int} {imm : W64} {off cond r s : Int} (hM : mayA op w d n m a imm off cond r s = true) (h32 : op ≤ 32) (x y dv av : W64) (h : Bool) :
    valR op s r imm x y dv av h = dV op s r imm x y dv av h := by
  obtain ⟨_, _, hs1, hs2⟩ := may_rs hM
  have hs : 0 ≤ s ∧ s ≤ 63 := ⟨hs1, hs2⟩
  have hr := may_range hM
  have hop : op = 1 ∨ op = 2 ∨ op = 3 ∨ op = 4 ∨ op = 5 ∨ op = 6 ∨ op = 7 ∨ op = 8 ∨ op = 9 ∨ op = 10 ∨ op = 11 ∨ op = 12 ∨ op = 13 ∨ op = 14 ∨ op = 15 ∨ op = 16 ∨ op = 17 ∨ op = 18 ∨ op = 19 ∨ op = 20 ∨ op = 21 ∨ op = 22 ∨ op = 23 ∨ op = 24 ∨ op = 25 ∨ op = 26 ∨ op = 27 ∨ op = 28 ∨ op = 29 ∨ op = 30 ∨ op = 31 ∨ op = 32 := by omega
  have e1 : ∀ k, bR k s imm y = sumsB k s imm y := fun k => bR_eq k hs imm y
  have e2 := kR_eq hs
  rcases hop with rfl | rfl | rfl | rfl | rfl | rfl | rfl | rfl | rfl | rfl | rfl | rfl | rfl | rfl | rfl | rfl | rfl | rfl | rfl | rfl | rfl | rfl | rfl | rfl | rfl | rfl | rfl | rfl | rfl | rfl | rfl | rfl
  · rw [valR_1, dV_1]
    rw [e1, sum1_add]
  · rw [valR_2, dV_2]
    rw [e1, sum1_sub]
  · rw [valR_3, dV_3]
    rw [e1]
  · rw [valR_4, dV_4]
    rw [e1]
  · rw [valR_5, dV_5]
    rw [e1, sum1_add]
  · rw [valR_6, dV_6]
    rw [e1, sum1_sub]
  · rw [valR_7, dV_7]
    rw [e1]
  · rw [valR_8, dV_8]
    rw [e1]
  · rw [valR_9, dV_9]
    rw [e1]
  · rw [valR_10, dV_10]
    rw [e1]
  · rw [valR_11, dV_11]
    rw [e1]
  · rw [valR_12, dV_12]
    rw [e1]
  · exact vd_13 ..
  · exact vd_14 ..
  · exact vd_15 ..
  · rw [valR_16, dV_16]
    rw [e2]
  · rw [valR_17, dV_17]
    rw [e2, not_sub]
  · rw [valR_18, dV_18]
    obtain ⟨hi, h3⟩ := may_movk hM
    rw [e2, movk_eq _ _ _ (by rw [wrapS (by omega) (by omega)]; omega) hi]
  · exact vd_19 ..
  · exact vd_20 ..
  · exact vd_21 ..
  · exact vd_22 ..
  · exact vd_23 ..
  · exact vd_24 ..
  · exact vd_25 ..
  · exact vd_26 ..
  · exact vd_27 ..
  · rw [valR_28, dV_28]
    rw [turn_eq]
  · exact vd_29 ..
  · exact vd_30 ..
  · exact vd_31 ..
  · exact vd_32 ..
end Go.Proofs.Ytocfkaihfjbfnaa
set_option maxRecDepth 100000
namespace Go.Proofs.Ytocfkaihfjbfnaa
open Go.Proofs.Ytocfkaihfjbfnaa.Ev Go.RowKit
theorem dF_lo {op : Int} (h : op ≤ 12) {p q : Bool} : dF op p q = p := by unfold dF; simp [h]
theorem dF_hi {op : Int} (h : ¬ op ≤ 12) {p q : Bool} : dF op p q = q := by unfold dF; simp [h]
def sr34 : CSpec
  | [.agg (cR X n z c v pc k ex aq rl ta vv w), .agg (cI op' w' d' n' m' a' imm' off' cond' r' s')] => (match allU X 31, decide (op' ≤ 32) with
    | true, true => some ⟨[mayA op' w' d' n' m' a' imm' off' cond' r' s'], .tup [.u 64 (dV op' s' r' imm' (getX X n') (getX X m') (getX X d') (getX X a') (holds n z c v cond')), .agg (cR (words X)
        (dF op' (flN op' (getX X n') (sumsB op' s' imm' (getX X m')) n) n) (dF op' (flZ op' (getX X n') (sumsB op' s' imm' (getX X m')) z) z) (dF op' (flC op' (getX X n') (sumsB op' s' imm' (getX X m')) c) c) (dF op' (flV op' (getX X n') (sumsB op' s' imm' (getX X m')) v) v) pc k ex aq rl ta vv w)]⟩
    | _, _ => none)
  | _ => none
theorem okr34 : FnOk Try.prog 34 sr34 := okC SU3_ok Try.func34 (by kernel_rfl) (by kernel_rfl) 1 <| by
  intro xs r hs
  unfold sr34 at hs; split at hs <;> try cases hs
  rename_i X n z c v pc k ex aq rl ta vv w op' w' d' n' m' a' imm' off' cond' r' s'
  split at hs <;> cases hs
  rename_i hU h32
  rintro hp _
  have hM := hp _ (List.mem_cons_self ..)
  show (evFn T SU3 noL 1 Try.f34 [.agg ((cR X n z c v pc k ex aq rl ta vv w).map canA), .agg (cI op' w' d' n' m' a' imm' off' cond' r' s')]).run = some (AV.tup [.u 64 (dV op' s' r' imm' (getX X n') (getX X m') (getX X d') (getX X a') (holds n z c v cond')), .agg (cR (words X)
        (dF op' (flN op' (getX X n') (sumsB op' s' imm' (getX X m')) n) n) (dF op' (flZ op' (getX X n') (sumsB op' s' imm' (getX X m')) z) z) (dF op' (flC op' (getX X n') (sumsB op' s' imm' (getX X m')) c) c) (dF op' (flV op' (getX X n') (sumsB op' s' imm' (getX X m')) v) v) pc k ex aq rl ta vv w)])
  rw [can_cR hU]
  have h32 : op' ≤ 32 := by simpa using h32
  obtain ⟨hr1, hr2, hs1, hs2⟩ := may_rs hM
  have hop := may_range hM
  rw [← val_eq hM h32]
  by_cases h12 : op' ≤ 12
  · simp only [dF_lo h12, ← bR_eq op' ⟨hs1, hs2⟩]
    have h : op' = 1 ∨ op' = 2 ∨ op' = 3 ∨ op' = 4 ∨ op' = 5 ∨ op' = 6 ∨ op' = 7 ∨ op' = 8 ∨ op' = 9 ∨ op' = 10 ∨ op' = 11 ∨ op' = 12 := by omega
    clear hp hM h32 h12 hop
    rcases h with rfl | rfl | rfl | rfl | rfl | rfl | rfl | rfl | rfl | rfl | rfl | rfl
    · exact run34_1 X n z c v pc k ex aq rl ta vv w w' d' n' m' a' imm' off' cond' r' s'
    · exact run34_2 X n z c v pc k ex aq rl ta vv w w' d' n' m' a' imm' off' cond' r' s'
    · exact run34_3 X n z c v pc k ex aq rl ta vv w w' d' n' m' a' imm' off' cond' r' s'
    · exact run34_4 X n z c v pc k ex aq rl ta vv w w' d' n' m' a' imm' off' cond' r' s'
    · exact run34_5 X n z c v pc k ex aq rl ta vv w w' d' n' m' a' imm' off' cond' r' s'
    · exact run34_6 X n z c v pc k ex aq rl ta vv w w' d' n' m' a' imm' off' cond' r' s'
    · exact run34_7 X n z c v pc k ex aq rl ta vv w w' d' n' m' a' imm' off' cond' r' s'
    · exact run34_8 X n z c v pc k ex aq rl ta vv w w' d' n' m' a' imm' off' cond' r' s'
    · exact run34_9 X n z c v pc k ex aq rl ta vv w w' d' n' m' a' imm' off' cond' r' s'
    · exact run34_10 X n z c v pc k ex aq rl ta vv w w' d' n' m' a' imm' off' cond' r' s'
    · exact run34_11 X n z c v pc k ex aq rl ta vv w w' d' n' m' a' imm' off' cond' r' s'
    · exact run34_12 X n z c v pc k ex aq rl ta vv w w' d' n' m' a' imm' off' cond' r' s'
  · simp only [dF_hi h12]
    have h : op' = 13 ∨ op' = 14 ∨ op' = 15 ∨ op' = 16 ∨ op' = 17 ∨ op' = 18 ∨ op' = 19 ∨ op' = 20 ∨ op' = 21 ∨ op' = 22 ∨ op' = 23 ∨ op' = 24 ∨ op' = 25 ∨ op' = 26 ∨ op' = 27 ∨ op' = 28 ∨ op' = 29 ∨ op' = 30 ∨ op' = 31 ∨ op' = 32 := by omega
    clear hp hM h32 h12 hop
    rcases h with rfl | rfl | rfl | rfl | rfl | rfl | rfl | rfl | rfl | rfl | rfl | rfl | rfl | rfl | rfl | rfl | rfl | rfl | rfl | rfl
    · exact run34_13 X n z c v pc k ex aq rl ta vv w w' d' n' m' a' imm' off' cond' r' s'
    · exact run34_14 X n z c v pc k ex aq rl ta vv w w' d' n' m' a' imm' off' cond' r' s'
    · exact run34_15 X n z c v pc k ex aq rl ta vv w w' d' n' m' a' imm' off' cond' r' s'
    · exact run34_16 X n z c v pc k ex aq rl ta vv w w' d' n' m' a' imm' off' cond' r' s'
    · exact run34_17 X n z c v pc k ex aq rl ta vv w w' d' n' m' a' imm' off' cond' r' s'
    · exact run34_18 X n z c v pc k ex aq rl ta vv w w' d' n' m' a' imm' off' cond' r' s'
    · exact run34_19 X n z c v pc k ex aq rl ta vv w w' d' n' m' a' imm' off' cond' r' s'
    · exact run34_20 X n z c v pc k ex aq rl ta vv w w' d' n' m' a' imm' off' cond' r' s'
    · exact run34_21 X n z c v pc k ex aq rl ta vv w w' d' n' m' a' imm' off' cond' r' s'
    · exact run34_22 X n z c v pc k ex aq rl ta vv w w' d' n' m' a' imm' off' cond' r' s'
    · exact run34_23 X n z c v pc k ex aq rl ta vv w w' d' n' m' a' imm' off' cond' r' s'
    · exact run34_24 X n z c v pc k ex aq rl ta vv w w' d' n' m' a' imm' off' cond' r' s'
    · exact run34_25 X n z c v pc k ex aq rl ta vv w w' d' n' m' a' imm' off' cond' r' s'
    · exact run34_26 X n z c v pc k ex aq rl ta vv w w' d' n' m' a' imm' off' cond' r' s'
    · exact run34_27 X n z c v pc k ex aq rl ta vv w w' d' n' m' a' imm' off' cond' r' s'
    · exact run34_28 X n z c v pc k ex aq rl ta vv w w' d' n' m' a' imm' off' cond' r' s'
    · exact run34_29 X n z c v pc k ex aq rl ta vv w w' d' n' m' a' imm' off' cond' r' s' ⟨hr1, hr2⟩ ⟨hs1, hs2⟩
    · exact run34_30 X n z c v pc k ex aq rl ta vv w w' d' n' m' a' imm' off' cond' r' s' ⟨hr1, hr2⟩ ⟨hs1, hs2⟩
    · exact run34_31 X n z c v pc k ex aq rl ta vv w w' d' n' m' a' imm' off' cond' r' s'
    · exact run34_32 X n z c v pc k ex aq rl ta vv w w' d' n' m' a' imm' off' cond' r' s'
/- What is asked of memory, for one that may be. -/
def sr12V : CSpec
  | [.agg (cR X n z c v pc k ex aq rl ta vv w), .agg (cI op' w' d' n' m' a' imm' off' cond' r' s')] => (match allU X 31 with
    | true => some ⟨[mayA op' w' d' n' m' a' imm' off' cond' r' s'], .agg (needR true op' w' (getX X n' + imm') (getX X d'))⟩
    | false => none)
  | _ => none
theorem okr12V : FnOk Try.prog 12 sr12V := okC SU0_ok Try.func12 (by kernel_rfl) (by kernel_rfl) 1 <| by
  intro xs r hs
  unfold sr12V at hs; split at hs <;> try cases hs
  rename_i X n z c v pc k ex aq rl ta vv w op' w' d' n' m' a' imm' off' cond' r' s'
  split at hs <;> cases hs
  rename_i hU
  rintro hp _
  have hm := hp _ (List.mem_cons_self ..)
  show (evFn T SU0 noL 1 Try.f12 [.agg ((cR X n z c v pc k ex aq rl ta vv w).map canA), .agg (cI op' w' d' n' m' a' imm' off' cond' r' s')]).run = some (.agg (needR true op' w' (getX X n' + imm') (getX X d')))
  rw [can_cR hU, run12 X n z c v pc k ex aq rl ta vv w w' d' n' m' a' imm' off' cond' r' s' op' (range47_of (may_range hm)), hm]
  rfl
noncomputable abbrev SU4 : FuncId → CSpec := withS (withS SU3 34 sr34) 12 sr12V
theorem SU4_ok : ∀ f, FnOk Try.prog f (SU4 f) := withS_ok (withS_ok SU3_ok okr34) okr12V
end Go.Proofs.Ytocfkaihfjbfnaa
