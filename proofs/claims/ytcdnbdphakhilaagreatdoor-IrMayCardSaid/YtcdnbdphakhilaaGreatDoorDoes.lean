/- Lemmas: what the functions of two words make, by the program and by the reference; what a row's condition says of the library's variables. No condition. -/
import Derived.Test.YtcdnbdphakhilaaGreatDoorBits
import Derived.Handed
import Derived.SizedLaws
import Derived.Lay
import Derived.LaidMore
import Derived.Lib.LaidTab
import Derived.Shelf.Vars
import Derived.Test.YtcdnbdphakhilaaGreatDoorRows
set_option linter.unusedVariables false
set_option linter.unusedSimpArgs false
set_option maxRecDepth 100000
namespace Go.Proofs.YtcdnbdphakhilaaGreatDoor.A
open Go.Proofs.YtcdnbdphakhilaaGreatDoor.Ev Go.RowKit
/- Do: what functions of two words make. -/
theorem wrap_w (x : W64) : IntKind.i64.wrap (x.toNat : Int) = x.toInt := wrap_toInt (k := .i64) rfl x
theorem some_iteW {c : Bool} {a b : W64} : (if c = true then some (AV.u 64 a) else some (.u 64 b)) = some (.u 64 (if c = true then a else b)) := by cases c <;> rfl
def negW (x : W64) : Bool := decide ((BitVec.ofInt 64 9223372036854775808).toNat ≤ x.toNat)
def sizeW (x : W64) : W64 := if negW x = true then BitVec.ofInt 64 0 - x else x
def quoS (x y : W64) : W64 := if (y == BitVec.ofInt 64 18446744073709551615) = true then -x else BitVec.ofInt 64 (IntKind.i64.wrap ((IntKind.i64.wrap (x.toNat : Int)).tdiv (IntKind.i64.wrap (y.toNat : Int))))
/- Shifts to the right with a sign, step by step. -/
def stepS (a : W64) : W64 := a / BitVec.ofInt 64 2 + bitB (negW a) * BitVec.ofInt 64 9223372036854775808
def sarR (a : W64) : Nat → W64
  | 0 => a
  | n + 1 => stepS (sarR a n)
def q59 : St → Option LRes
  | ⟨[(1, .u 64 a), (7, .u 64 k), (13, .u 64 i)], [], [], _⟩ => some ⟨[i == 0#64, decide (k.toNat ≤ 63)], .exit 1, [(1, .u 64 (sarR a k.toNat)), (7, .u 64 k), (13, .u 64 k)], [], []⟩
  | _ => none
def L59 : Nat → Live := fun _ => ⟨[1, 7, 13], [], [], some (evSum q59)⟩
theorem stepS_eq (a : W64) : stepS a = a.sshiftRight 1 := by
  apply BitVec.eq_of_toInt_eq
  rw [BitVec.toInt_sshiftRight, Int.shiftRight_eq_div_pow]
  have ha := a.isLt
  have hs : (stepS a).toNat = (a.toNat / 2 + (if 9223372036854775808 ≤ a.toNat then 9223372036854775808 else 0)) % 18446744073709551616 := by
    unfold stepS negW
    rw [BitVec.toNat_add, BitVec.toNat_udiv, BitVec.toNat_mul]
    by_cases h : 9223372036854775808 ≤ a.toNat
    · have hd : decide ((BitVec.ofInt 64 9223372036854775808 : W64).toNat ≤ a.toNat) = true := by simpa using h
      rw [hd, if_pos h]
      rfl
    · have hd : decide ((BitVec.ofInt 64 9223372036854775808 : W64).toNat ≤ a.toNat) = false := by simpa using h
      rw [hd, if_neg h]
      rfl
  rw [BitVec.toInt_eq_toNat_cond, BitVec.toInt_eq_toNat_cond, hs]
  by_cases h : 9223372036854775808 ≤ a.toNat
  · rw [if_pos h]
    rw [if_neg (by omega), if_neg (by omega)]
    omega
  · rw [if_neg h]
    rw [if_pos (by omega), if_pos (by omega)]
    omega
theorem sarR_eq (a : W64) : ∀ n, sarR a n = a.sshiftRight n
  | 0 => by simp [sarR]
  | n + 1 => by
    show stepS (sarR a n) = _
    rw [sarR_eq a n, stepS_eq, BitVec.sshiftRight_add]
theorem asr_eq (x : W64) (n : Nat) : BitVec.ofInt 64 (IntKind.i64.wrap (x.toNat : Int) / 2 ^ n) = x.sshiftRight n := by
  rw [wrap_w]
  apply BitVec.eq_of_toInt_eq
  have h : (x.sshiftRight n).toInt = x.toInt / 2 ^ n := by
    rw [BitVec.toInt_sshiftRight, Int.shiftRight_eq_div_pow]; rfl
  rw [← h, BitVec.ofInt_toInt]
theorem mod64 (y : W64) : (y % BitVec.ofInt 64 64).toNat = (y &&& BitVec.ofInt 64 63).toNat := by
  rw [BitVec.toNat_umod, BitVec.toNat_and]
  show y.toNat % 64 = y.toNat &&& 63
  exact (Nat.and_two_pow_sub_one_eq_mod y.toNat 6).symm
/- Quotients with a sign. -/
theorem negW_msb (x : W64) : negW x = x.msb := by
  rw [BitVec.msb_eq_decide]
  rfl
theorem quoS_sdiv {x y : W64} : quoS x y = x.sdiv y := by
  unfold quoS
  apply BitVec.eq_of_toInt_eq
  rw [BitVec.toInt_sdiv]
  by_cases h : (y == BitVec.ofInt 64 18446744073709551615) = true
  · rw [if_pos h]
    have hy : y = BitVec.ofInt 64 18446744073709551615 := by simpa using h
    subst hy
    have : (BitVec.ofInt 64 18446744073709551615 : W64).toInt = -1 := by decide
    rw [this, BitVec.toInt_neg, Int.tdiv_neg, Int.tdiv_one]
  · rw [if_neg h, wrap_w, wrap_w, BitVec.toInt_ofInt]
    have hx := @BitVec.toInt_lt 64 x
    have hx2 := @BitVec.le_toInt 64 x
    congr 1
    have hb := Int.natAbs_tdiv_le_natAbs x.toInt y.toInt
    by_cases hy0 : x.toInt.tdiv y.toInt = 9223372036854775808
    · exfalso
      -- only the least number by minus one
      have hyi : y.toInt ≠ -1 := by
        intro hh
        apply h
        have : y = BitVec.ofInt 64 18446744073709551615 := by
          apply BitVec.eq_of_toInt_eq
          rw [hh]; decide
        simp [this]
      have hxv : x.toInt = -9223372036854775808 := by omega
      rw [hxv] at hy0
      have h3 := Int.natAbs_tdiv (-9223372036854775808) y.toInt
      rw [hy0] at h3
      have h4 : (9223372036854775808 : Nat) = 9223372036854775808 / y.toInt.natAbs := h3
      have h5 : y.toInt.natAbs = 1 := by
        rcases Nat.lt_or_ge y.toInt.natAbs 2 with h6 | h6
        · rcases Nat.eq_zero_or_pos y.toInt.natAbs with h7 | h7
          · rw [h7] at h4; simp at h4
          · omega
        · have : 9223372036854775808 / y.toInt.natAbs ≤ 9223372036854775808 / 2 := Nat.div_le_div_left h6 (by omega)
          omega
      have h6 : y.toInt = 1 := by omega
      rw [h6] at hy0
      simp at hy0
    · exact wrap_small _ (by omega) (by omega)
theorem size_sdiv (x y : W64) : (if (negW x != negW y) = true then BitVec.ofInt 64 0 - sizeW x / sizeW y else sizeW x / sizeW y) = x.sdiv y := by
  unfold sizeW
  rw [BitVec.sdiv, negW_msb, negW_msb]
  have h0 : ∀ z : W64, BitVec.ofInt 64 0 - z = -z := fun z => by
    show 0#64 - z = -z
    exact BitVec.zero_sub z
  simp only [h0]
  cases x.msb <;> cases y.msb <;> rfl
theorem size_nz {y : W64} (h : (y == BitVec.ofInt 64 0) = false) : (!(sizeW y == 0#64)) = true := by
  have hne : y ≠ 0#64 := by simpa using h
  have : sizeW y ≠ 0#64 := by
    unfold sizeW
    split
    · intro hh
      apply hne
      have h0 : BitVec.ofInt 64 0 - y = -y := BitVec.zero_sub y
      rw [h0] at hh
      exact BitVec.neg_eq_zero_iff.1 hh
    · exact hne
  simpa using this

theorem wrap_nz {y : W64} (h : (y == BitVec.ofInt 64 0) = false) : (!(IntKind.i64.wrap (y.toNat : Int) == 0)) = true := by
  rw [wrap_w]
  have hne : y ≠ 0#64 := by simpa using h
  have : y.toInt ≠ 0 := fun e => hne (by apply BitVec.eq_of_toInt_eq; rw [e]; rfl)
  simpa using this
def farF (f : Int) (x y : W64) : W64 := if (f == 7) = true then mulHi x y else if (f == 8) = true then mulsHi x y else if (f == 9) = true then (if (y == BitVec.ofInt 64 0) = true then BitVec.ofInt 64 0 else x / y)
  else if (f == 10) = true then (if (y == BitVec.ofInt 64 0) = true then BitVec.ofInt 64 0 else quoS x y) else BitVec.ofInt 64 0
def doF (f : Int) (x y : W64) : W64 := if (f == 1) = true then x + y else if (f == 2) = true then x - y else if (f == 3) = true then x &&& y else if (f == 4) = true then x ||| y else if (f == 5) = true then x ^^^ y else if (f == 6) = true then x * y
  else if (f == 11) = true then x <<< (y &&& BitVec.ofInt 64 63).toNat else if (f == 12) = true then x >>> (y &&& BitVec.ofInt 64 63).toNat else if (f == 13) = true then BitVec.ofInt 64 (IntKind.i64.wrap (x.toNat : Int) / 2 ^ (y &&& BitVec.ofInt 64 63).toNat)
  else if (f == 14) = true then bitB (x == y) else if (f == 15) = true then bitB (decide (x.toNat < y.toNat)) else if (f == 16) = true then bitB (decide (IntKind.i64.wrap (x.toNat : Int) < IntKind.i64.wrap (y.toNat : Int))) else farF f x y
theorem ok46 : FnOk Tryz.prog 46 s59 := okBy noS_ok Tryz.func46 (by kernel_rfl) (by kernel_rfl) 1 <| by
  intro xs r hs
  unfold s59 at hs; split at hs <;> cases hs
  rename_i c
  intro hp _
  cases c <;> kernel_rfl
theorem ok53 : FnOk Tryz.prog 53 s59 := okBy noS_ok Tryz.func53 (by kernel_rfl) (by kernel_rfl) 1 <| by
  intro xs r hs
  unfold s59 at hs; split at hs <;> cases hs
  rename_i c
  intro hp _
  cases c <;> kernel_rfl
def sr52 : CSpec | [.u 64 x] => some ⟨[], .b (negW x)⟩ | _ => none
theorem okr52 : FnOk Tryz.prog 52 sr52 := okBy noS_ok Tryz.func52 (by kernel_rfl) (by kernel_rfl) 1 <| by
  intro xs r hs
  unfold sr52 at hs; split at hs <;> cases hs
  rintro hp _
  kernel_rfl
noncomputable abbrev SV0 : FuncId → CSpec := withS (withS (withS (withS (withS (withS noS 46 s59) 53 s59) 52 sr52) 49 s69) 50 s43) 100 s69
theorem SV0_ok : ∀ f, FnOk Tryz.prog f (SV0 f) := withS_ok (withS_ok (withS_ok (withS_ok (withS_ok (withS_ok noS_ok ok46) ok53) okr52) ok42) ok44) ok41
def sr51 : CSpec | [.u 64 x] => some ⟨[], .u 64 (sizeW x)⟩ | _ => none
theorem okr51 : FnOk Tryz.prog 51 sr51 := okBy SV0_ok Tryz.func51 (by kernel_rfl) (by kernel_rfl) 1 <| by
  intro xs r hs
  unfold sr51 at hs; split at hs <;> cases hs
  rename_i x
  rintro hp _
  have e : (evFn T SV0 noL 1 Tryz.f51 [.u 64 x]).run = if negW x = true then some (.u 64 (BitVec.ofInt 64 0 - x)) else some (.u 64 x) := by kernel_rfl
  rw [e, some_iteW]
  rfl
noncomputable abbrev SV1 : FuncId → CSpec := withS (withS (withS SV0 51 sr51) 101 s43) 48 (rV noS noL 1 Tryz.f48)
theorem SV1_ok : ∀ f, FnOk Tryz.prog f (SV1 f) := withS_ok (withS_ok (withS_ok SV0_ok okr51) ok43) (rV_ok noS_ok noL 1 noL_sum Tryz.func48 (by kernel_rfl) (by kernel_rfl))
def s47 : CSpec | [.i .i64 f, .u 64 x, .u 64 y] => some ⟨[], .u 64 (farF f x y)⟩ | _ => none
theorem ok47 : FnOk Tryz.prog 47 s47 := okBy SV1_ok Tryz.func47 (by kernel_rfl) (by kernel_rfl) 1 <| by
  intro xs r hs
  unfold s47 at hs; split at hs <;> cases hs
  rename_i f x y
  rintro hp _
  have e : (evFn T SV1 noL 1 Tryz.f47 [.i .i64 f, .u 64 x, .u 64 y]).run = if (f == 7) = true then some (.u 64 (mulHi x y)) else if (f == 8) = true then some (.u 64 (mulsHi x y)) else if (f == 9) = true then (if (y == BitVec.ofInt 64 0) = true then some (.u 64 (BitVec.ofInt 64 0)) else if (!(y == 0#64)) = true then some (.u 64 (x / y)) else none)
    else if (f == 10) = true then (if (y == BitVec.ofInt 64 0) = true then some (.u 64 (BitVec.ofInt 64 0)) else if (y == BitVec.ofInt 64 18446744073709551615) = true then some (.u 64 (-x)) else if (!(IntKind.i64.wrap (y.toNat : Int) == 0)) = true then
      some (.u 64 (BitVec.ofInt 64 (IntKind.i64.wrap ((IntKind.i64.wrap (x.toNat : Int)).tdiv (IntKind.i64.wrap (y.toNat : Int)))))) else none) else some (.u 64 (BitVec.ofInt 64 0)) := by kernel_rfl
  rw [e]
  show _ = some (AV.u 64 (farF f x y))
  unfold farF quoS
  cases h : y == BitVec.ofInt 64 0 with
  | true => simp only [if_true]; repeat' (first | rfl | split)
  | false =>
    have h0 : (!(y == 0#64)) = true := by
      have : (y == 0#64) = (y == BitVec.ofInt 64 0) := rfl
      rw [this, h]; rfl
    rw [h0, wrap_nz h]
    simp only [if_true, Bool.false_eq_true, if_false]
    repeat' (first | rfl | split)
noncomputable abbrev SV2 : FuncId → CSpec := withS SV1 47 s47
theorem SV2_ok : ∀ f, FnOk Tryz.prog f (SV2 f) := withS_ok SV1_ok ok47
def s10 : CSpec | [.i .i64 f, .u 64 x, .u 64 y] => some ⟨[], .u 64 (doF f x y)⟩ | _ => none
theorem okd10 : FnOk Tryz.prog 10 s10 := okBy SV2_ok Tryz.func10 (by kernel_rfl) (by kernel_rfl) 1 <| by
  intro xs r hs
  unfold s10 at hs; split at hs <;> cases hs
  rename_i f x y
  rintro hp _
  have e : (evFn T SV2 noL 1 Tryz.f10 [.i .i64 f, .u 64 x, .u 64 y]).run = if (f == 1) = true then some (.u 64 (x + y)) else if (f == 2) = true then some (.u 64 (x - y)) else if (f == 3) = true then some (.u 64 (x &&& y)) else if (f == 4) = true then some (.u 64 (x ||| y)) else if (f == 5) = true then some (.u 64 (x ^^^ y)) else if (f == 6) = true then some (.u 64 (x * y))
    else if (f == 11) = true then some (.u 64 (x <<< (y &&& BitVec.ofInt 64 63).toNat)) else if (f == 12) = true then some (.u 64 (x >>> (y &&& BitVec.ofInt 64 63).toNat)) else if (f == 13) = true then some (.u 64 (BitVec.ofInt 64 (IntKind.i64.wrap (x.toNat : Int) / 2 ^ (y &&& BitVec.ofInt 64 63).toNat)))
    else if (f == 14) = true then some (.u 64 (bitB (x == y))) else if (f == 15) = true then some (.u 64 (bitB (decide (x.toNat < y.toNat)))) else if (f == 16) = true then some (.u 64 (bitB (decide (IntKind.i64.wrap (x.toNat : Int) < IntKind.i64.wrap (y.toNat : Int))))) else some (.u 64 (farF f x y)) := by kernel_rfl
  rw [e]
  show _ = some (AV.u 64 (doF f x y))
  unfold doF
  simp only [some_iteW]
theorem loop11 (N : Nat) : LoopOk T SV1 L59 146 N (loopOf Tryz.f11 0) := LoopOk.of rfl <| by
  intro τ r hcut hr
  unfold q59 at hr; split at hr <;> cases hr
  rename_i a k i c
  obtain rfl : c = 0 := hcut
  intro hp
  simp only [List.mem_cons, List.not_mem_nil, or_false, forall_eq_or_imp, forall_eq, beq_iff_eq, decide_eq_true_eq] at hp
  obtain ⟨rfl, hk⟩ := hp
  have e : ∀ (a i : W64), atHead (evCode T SV1 L59 146 N (loopOf Tryz.f11 0)) (L59 (firstR (loopOf Tryz.f11 0))) ⟨[(1, .u 64 a), (7, .u 64 k), (13, .u 64 i)], [], [], 0⟩ =
      Tr.ite (decide (i.toNat < k.toNat)) (.need (!(BitVec.ofInt 64 2 == 0#64))
        (.leaf (.normal, ⟨[(1, .u 64 (stepS a)), (7, .u 64 k), (13, .u 64 (i + BitVec.ofInt 64 1))], [], [], 0⟩)))
        (.leaf (.exit 1, ⟨[(1, .u 64 a), (7, .u 64 k), (13, .u 64 i)], [], [], 0⟩)) := fun a i => by kernel_rfl
  have h2 : (!((BitVec.ofInt 64 2 : W64) == 0#64)) = true := by decide
  refine ⟨k.toNat + 1, iter_for (fun j => ⟨[(1, .u 64 (sarR a j)), (7, .u 64 k), (13, .u 64 (BitVec.ofNat 64 j))], [], [], 0⟩) k.toNat ?_ ?_ (by simp)⟩
  · intro j hj
    have hj2 : (BitVec.ofNat 64 j).toNat = j := by rw [BitVec.toNat_ofNat, Nat.mod_eq_of_lt (by omega)]
    have hj3 : (BitVec.ofNat 64 j : W64) + BitVec.ofInt 64 1 = BitVec.ofNat 64 (j + 1) := by
      apply BitVec.eq_of_toNat_eq
      rw [BitVec.toNat_add, hj2, BitVec.toNat_ofNat]
      rfl
    rw [e, hj2, hj3, h2]
    simp only [Tr.run, if_true]
    rw [if_pos (by simpa using hj)]
    rfl
  · have hk2 : BitVec.ofNat 64 k.toNat = k := by simp
    rw [e, hk2]
    simp [Tr.run]
theorem run11_1 (x y : W64) : (evFn T SV1 L59 1 Tryz.f11 [.i .i64 1, .u 64 x, .u 64 y]).run = some (.u 64 (x + y)) := by kernel_rfl
theorem run11_2 (x y : W64) : (evFn T SV1 L59 1 Tryz.f11 [.i .i64 2, .u 64 x, .u 64 y]).run = some (.u 64 (x - y)) := by kernel_rfl
theorem run11_3 (x y : W64) : (evFn T SV1 L59 1 Tryz.f11 [.i .i64 3, .u 64 x, .u 64 y]).run = some (.u 64 (x &&& y)) := by kernel_rfl
theorem run11_4 (x y : W64) : (evFn T SV1 L59 1 Tryz.f11 [.i .i64 4, .u 64 x, .u 64 y]).run = some (.u 64 (x ||| y)) := by kernel_rfl
theorem run11_5 (x y : W64) : (evFn T SV1 L59 1 Tryz.f11 [.i .i64 5, .u 64 x, .u 64 y]).run = some (.u 64 (x ^^^ y)) := by kernel_rfl
theorem run11_6 (x y : W64) : (evFn T SV1 L59 1 Tryz.f11 [.i .i64 6, .u 64 x, .u 64 y]).run = some (.u 64 (x * y)) := by kernel_rfl
theorem run11_7 (x y : W64) : (evFn T SV1 L59 1 Tryz.f11 [.i .i64 7, .u 64 x, .u 64 y]).run = some (.u 64 (mulHi x y)) := by kernel_rfl
theorem run11_8 (x y : W64) : (evFn T SV1 L59 1 Tryz.f11 [.i .i64 8, .u 64 x, .u 64 y]).run = some (.u 64 (mulsHi x y)) := by kernel_rfl
theorem run11_9 (x y : W64) : (evFn T SV1 L59 1 Tryz.f11 [.i .i64 9, .u 64 x, .u 64 y]).run = if (y == BitVec.ofInt 64 0) = true then some (.u 64 (BitVec.ofInt 64 0)) else if (!(y == 0#64)) = true then some (.u 64 (x / y)) else none := by kernel_rfl
theorem run11_10 (x y : W64) : (evFn T SV1 L59 1 Tryz.f11 [.i .i64 10, .u 64 x, .u 64 y]).run = if (y == BitVec.ofInt 64 0) = true then some (.u 64 (BitVec.ofInt 64 0)) else if (!(sizeW y == 0#64)) = true then (if (negW x != negW y) = true then some (.u 64 (BitVec.ofInt 64 0 - sizeW x / sizeW y)) else some (.u 64 (sizeW x / sizeW y))) else none := by kernel_rfl
theorem run11_11 (x y : W64) : (evFn T SV1 L59 1 Tryz.f11 [.i .i64 11, .u 64 x, .u 64 y]).run = some (.u 64 (x <<< (y % BitVec.ofInt 64 64).toNat)) := by kernel_rfl
theorem run11_12 (x y : W64) : (evFn T SV1 L59 1 Tryz.f11 [.i .i64 12, .u 64 x, .u 64 y]).run = some (.u 64 (x >>> (y % BitVec.ofInt 64 64).toNat)) := by kernel_rfl
theorem run11_13 (x y : W64) : (evFn T SV1 L59 1 Tryz.f11 [.i .i64 13, .u 64 x, .u 64 y]).run = if decide ((y % BitVec.ofInt 64 64).toNat ≤ 63) = true then some (.u 64 (sarR x (y % BitVec.ofInt 64 64).toNat)) else none := by kernel_rfl
theorem run11_14 (x y : W64) : (evFn T SV1 L59 1 Tryz.f11 [.i .i64 14, .u 64 x, .u 64 y]).run = some (.u 64 (bitB (x == y))) := by kernel_rfl
theorem run11_15 (x y : W64) : (evFn T SV1 L59 1 Tryz.f11 [.i .i64 15, .u 64 x, .u 64 y]).run = some (.u 64 (bitB (decide (x.toNat < y.toNat)))) := by kernel_rfl
theorem run11_16 (x y : W64) : (evFn T SV1 L59 1 Tryz.f11 [.i .i64 16, .u 64 x, .u 64 y]).run = if (negW x != negW y) = true then some (.u 64 (bitB (negW x))) else some (.u 64 (bitB (decide (x.toNat < y.toNat)))) := by kernel_rfl
def elseR : Tr AV → Option AV
  | .ite _ _ e => e.run
  | _ => none
theorem run11_out (f : Int) (x y : W64) : (evFn T SV1 L59 1 Tryz.f11 [.i .i64 f, .u 64 x, .u 64 y]).run = if (if decide (f < 1) = true then true else decide (16 < f)) = true then some (.u 64 (BitVec.ofInt 64 0)) else elseR (evFn T SV1 L59 1 Tryz.f11 [.i .i64 f, .u 64 x, .u 64 y]) := by kernel_rfl
theorem less_eq (x y : W64) : (if (negW x != negW y) = true then bitB (negW x) else bitB (decide (x.toNat < y.toNat))) = bitB (decide (IntKind.i64.wrap (x.toNat : Int) < IntKind.i64.wrap (y.toNat : Int))) := by
  rw [wrap_w, wrap_w]
  have hx := x.isLt
  have hy := y.isLt
  have hn : ∀ z : W64, negW z = decide (9223372036854775808 ≤ z.toNat) := fun z => rfl
  rw [hn, hn, BitVec.toInt_eq_toNat_cond, BitVec.toInt_eq_toNat_cond]
  by_cases h1 : 9223372036854775808 ≤ x.toNat <;> by_cases h2 : 9223372036854775808 ≤ y.toNat
  · rw [decide_eq_true h1, decide_eq_true h2, if_neg (by simp), if_neg (by omega), if_neg (by omega)]
    congr 1; rw [decide_eq_decide]; omega
  · rw [decide_eq_true h1, decide_eq_false h2, if_pos (by simp), if_neg (by omega), if_pos (by omega)]
    congr 1; symm; rw [decide_eq_true_eq]; omega
  · rw [decide_eq_false h1, decide_eq_true h2, if_pos (by simp), if_pos (by omega), if_neg (by omega)]
    congr 1; symm; rw [decide_eq_false_iff_not]; omega
  · rw [decide_eq_false h1, decide_eq_false h2, if_neg (by simp), if_pos (by omega), if_pos (by omega)]
    congr 1; rw [decide_eq_decide]; omega
theorem okd11 : FnOk Tryz.prog 11 s10 := FnOk.of (L := L59) tyOk SV1_ok mixed Tryz.func11 (by kernel_rfl) (by kernel_rfl) <| by
  intro xs r hs hp w R vs hvs
  refine ⟨1, FnLoops.one (by kernel_rfl) (loop11 1), ?_⟩
  unfold s10 at hs
  split at hs <;> try cases hs
  rename_i f x y
  clear hvs
  show (evFn T SV1 L59 1 Tryz.f11 [.i .i64 f, .u 64 x, .u 64 y]).run = some (.u 64 (doF f x y))
  by_cases hf : f < 1 ∨ 16 < f
  · rw [run11_out, if_pos (by rcases hf with h | h <;> simp [h])]
    have : ∀ k : Int, 1 ≤ k → k ≤ 16 → (f == k) = false := fun k h1 h2 => by simp; omega
    unfold doF farF
    simp only [this 1 (by omega) (by omega), this 2 (by omega) (by omega), this 3 (by omega) (by omega), this 4 (by omega) (by omega), this 5 (by omega) (by omega), this 6 (by omega) (by omega), this 7 (by omega) (by omega), this 8 (by omega) (by omega), this 9 (by omega) (by omega), this 10 (by omega) (by omega), this 11 (by omega) (by omega), this 12 (by omega) (by omega), this 13 (by omega) (by omega), this 14 (by omega) (by omega), this 15 (by omega) (by omega), this 16 (by omega) (by omega), Bool.false_eq_true, if_false]
  have hf2 : f = 1 ∨ f = 2 ∨ f = 3 ∨ f = 4 ∨ f = 5 ∨ f = 6 ∨ f = 7 ∨ f = 8 ∨ f = 9 ∨ f = 10 ∨ f = 11 ∨ f = 12 ∨ f = 13 ∨ f = 14 ∨ f = 15 ∨ f = 16 := by omega
  rcases hf2 with rfl | rfl | rfl | rfl | rfl | rfl | rfl | rfl | rfl | rfl | rfl | rfl | rfl | rfl | rfl | rfl
  · exact run11_1 x y
  · exact run11_2 x y
  · exact run11_3 x y
  · exact run11_4 x y
  · exact run11_5 x y
  · exact run11_6 x y
  · exact run11_7 x y
  · exact run11_8 x y
  · rw [run11_9]
    show _ = some (AV.u 64 (if (y == BitVec.ofInt 64 0) = true then BitVec.ofInt 64 0 else x / y))
    cases h : y == BitVec.ofInt 64 0 with
    | true => rfl
    | false =>
      have h0 : (!(y == 0#64)) = true := by
        have : (y == 0#64) = (y == BitVec.ofInt 64 0) := rfl
        rw [this, h]; rfl
      rw [h0]; rfl
  · rw [run11_10]
    show _ = some (AV.u 64 (if (y == BitVec.ofInt 64 0) = true then BitVec.ofInt 64 0 else quoS x y))
    cases h : y == BitVec.ofInt 64 0 with
    | true => rfl
    | false => rw [size_nz h, some_iteW, size_sdiv, quoS_sdiv]; rfl
  · rw [run11_11, mod64]; rfl
  · rw [run11_12, mod64]; rfl
  · have h63 : (y % BitVec.ofInt 64 64).toNat ≤ 63 := by
      rw [BitVec.toNat_umod]
      have := Nat.mod_lt y.toNat (show 0 < (BitVec.ofInt 64 64 : W64).toNat by decide)
      have h64 : (BitVec.ofInt 64 64 : W64).toNat = 64 := rfl
      omega
    rw [run11_13, if_pos (by simpa using h63), sarR_eq, mod64]
    show _ = some (AV.u 64 (BitVec.ofInt 64 (IntKind.i64.wrap (x.toNat : Int) / 2 ^ (y &&& BitVec.ofInt 64 63).toNat)))
    rw [asr_eq]
  · exact run11_14 x y
  · exact run11_15 x y
  · rw [run11_16, some_iteW, less_eq]; rfl
noncomputable abbrev SW : FuncId → CSpec := withS (withS (withS noS 10 s10) 11 s10) 12 s14
end Go.Proofs.YtcdnbdphakhilaaGreatDoor.A
set_option maxRecDepth 100000
namespace Go.Proofs.YtcdnbdphakhilaaGreatDoor
open Go.Proofs.YtcdnbdphakhilaaGreatDoor.Ev Go.RowKit
/- The law of Do. -/
noncomputable abbrev SW1 : FuncId → CSpec := withS (withS (withS noS 10 A.s10) 11 A.s10) 12 s14
theorem SW1_ok : ∀ f, FnOk Tryz.prog f (SW1 f) := withS_ok (withS_ok (withS_ok noS_ok A.okd10) A.okd11) ok14
theorem lawDoes (f : Int) (a b : BitVec 64) : (evFn T SW1 noL 1 Tryz.f3 [.i .i64 f, .u 64 a, .u 64 b]).run = some (.b true) := by
  have e : (evFn T SW1 noL 1 Tryz.f3 [.i .i64 f, .u 64 a, .u 64 b]).run = some (.b (if (A.doF f a b == A.doF f a b) = true then true else false)) := by kernel_rfl
  rw [e]; simp
end Go.Proofs.YtcdnbdphakhilaaGreatDoor
set_option maxRecDepth 100000
namespace Go.Proofs.YtcdnbdphakhilaaGreatDoor
open Go.Proofs.YtcdnbdphakhilaaGreatDoor.Ev Go.RowKit
/- From a row's condition to what is known of the variables. -/
/-- A change's row, whose condition on the world and the world's shape are handed on. -/
theorem returns_laid {H : Type} {enc : TypeId × Value → H} {a : Assume} {C : Checked} {os : Os} {f : FuncId} {fn : Func} {s : ChangeSpec} {conds : List PathCond} {apart fresh handsOn again : Bool} {X : World → Array Value → Prop}
    (hX : ∀ (w w' : World) (args : Array Value), w.heap = w'.heap → X w args → X w' args)
    (own : ownKnob C.prog.godebug = none) (started : os.Started) (noInit : C.prog.inits.idxOf? f = none) (hfn : C.prog.funcs[f]? = some fn)
    (witness : ∃ (w : World) (tape : Tape) (i : Input), w.os = os ∧ (w.forCall tape i).Shaped C.prog ∧ i.vars = [] ∧ Input.okWide C.prog (w.forCall tape i) .any w.heap.size f i ∧
      ((s.pre enc C.prog fn conds apart (w.forCall tape i).memory i.args ∧ X (w.forCall tape i).memory i.args) ∧ sizedMet enc C.prog fn (OpenSpec.ofChange s) apart (w.forCall tape i).memory i.args) ∧ a.holds C.prog (lone (Frame.enter C.prog f i.args .normal) [] (w.forCall tape i)))
    (contract : ∀ (W : World) (base : Nat) (args : Array Value) (ds gs : List (DataW H)) (before : List MemPlace),
      (∀ (j : Nat) t v, fn.params[j]? = some t → args[j]? = some v → Value.okWide C.prog W .any base t v) →
      DataW.Whole enc C.prog fn.params.toList s.vars apart W args.toList ds gs before →
      X W args → W.ShapedOpen C.prog →
      Calls C.prog f args W fun e W' => ∃ v, e = .returned v ∧ s.post enc C.prog fn apart fresh handsOn again W args v W') :
    ReturnsInHanded a C os f .any (fun w args => (s.pre enc C.prog fn conds apart w args ∧ X w args) ∧ sizedMet enc C.prog fn (OpenSpec.ofChange s) apart w args) (s.post enc C.prog fn apart fresh handsOn again) := by
  refine returnsInHanded_of_calls own started noInit witness ?_
  intro w tape i _ hsh _ hok hpre hholds
  obtain ⟨_, _, _, fn', hfn', _, _, _, _, hval⟩ := hok
  have e : fn' = fn := Option.some.inj (hfn'.symm.trans hfn)
  subst e
  obtain ⟨⟨⟨ds, gs, before, hw, hc⟩, hx⟩, hz⟩ := hpre
  have hw' := DataW.Whole.of_heap (w' := w.forCall tape i) (by rfl) hw
  refine (contract (w.forCall tape i) w.heap.size i.args ds gs before hval hw' (hX _ _ _ (by rfl) hx) hsh).mono fun e W' ⟨v, he, hp⟩ => ?_
  subst he
  exact ChangeSpec.post_blind hp

theorem ownK : ownKnob Tryz.prog.godebug = none := by kernel_rfl
theorem laidOut : laidOutB Tryz.prog = true := by kernel_rfl
abbrev laid5 : List (String × DataW Unit) := [("math/bits.deBruijn32tab", Rows.laid_math_bits_deBruijn32tab), ("math/bits.deBruijn64tab", Rows.laid_math_bits_deBruijn64tab), ("internal/strconv.uint64pow10", Rows.laid_internal_strconv_uint64pow10), ("unicode/utf8.acceptRanges", Rows.laid_unicode_utf8_acceptRanges), ("unicode/utf8.first", Rows.laid_unicode_utf8_first)]
theorem laid_met (os : Os) (args : Array Value) : laidMetH Tryz.prog laid5 ((World.laidAll Tryz.prog os laid5).forCall (fun _ _ => 0) ⟨#[], args, []⟩).memory := by
  rw [MakeChecks.laidMetH_plain _ _ _ (by kernel_rfl)]
  exact laidMet_laidAll _ (by kernel_rfl) (by kernel_rfl)
theorem laid_shaped (os : Os) (args : Array Value) : ((World.laidAll Tryz.prog os laid5).forCall (fun _ _ => 0) ⟨#[], args, []⟩).Shaped Tryz.prog := World.shaped_of_ZipB (by kernel_rfl) (by kernel_rfl)
theorem gPow : Tryz.prog.globalNamed "internal/strconv.uint64pow10" = some 0 := by kernel_rfl
theorem vars_of_laid {W : World} (h : laidMetH Tryz.prog laid5 W) (hs : W.ShapedOpen Tryz.prog) : Vars W (fun b => b < W.heap.size) := by
  rw [MakeChecks.laidMetH_plain _ _ _ (by kernel_rfl)] at h
  obtain ⟨ps, ⟨g0, t0, cs0, f0, p0, q0, hg0, ht0, hv0, hd0, ⟨g1, t1, cs1, f1, p1, q1, hg1, ht1, hv1, hd1, ⟨g2, t2, cs2, f2, p2, q2, hg2, ht2, hv2, hd2, _, _⟩, _⟩, _⟩, _⟩ := h
  obtain rfl := Option.some.inj (gPow.symm.trans hg2)
  obtain ⟨m, hm⟩ := cell_of_shapedOpen_int (P := Tryz.prog) (g := 1) (t := 3) (zero := #[.int .i64 0]) hs (of_decide_eq_true (by kernel_rfl)) (by kernel_rfl) rfl (by kernel_rfl) (by kernel_rfl) Tryz.underlying3
  have hlt : 1 < W.heap.size := by
    unfold World.cell? at hm
    cases e : W.heap[1]? with
    | none => rw [e] at hm; cases hm
    | some o => exact (Array.getElem?_eq_some_iff.1 e).1
  refine ⟨⟨hlt, m, hm⟩, by show 0 < _; omega, ?_⟩
  have key : cs2 = (Lib.pow10Tab.map fun z => Value.int .u64 z).toArray := by
    obtain rfl := Option.some.inj ((show (Tryz.prog.globals[0]?).map (·.type) = some 234 by kernel_rfl).symm.trans ht2)
    have h2 : DataW.trod (fun _ => ()) Tryz.prog W 0 (fun _ => true) false f2 234 cs2.toList = some (Lib.tabData .u64 Lib.pow10Tab, p2) := hd2
    have := Lib.cells_of_tab (show Tryz.prog.underlying 234 = some (.array 20 22) by kernel_rfl) Tryz.underlying22 (by kernel_rfl) (by kernel_rfl) h2
    rw [← this]
  unfold World.var? at hv2
  rw [gPow] at hv2
  simp only [Option.bind_some] at hv2
  split at hv2
  · rename_i c a b e
    cases hv2
    exact ⟨a, b, by rw [e, key]⟩
  · cases hv2
end Go.Proofs.YtcdnbdphakhilaaGreatDoor
