/- Lemmas: what the functions of bits and their reference compute, each shown by the evaluator. No condition. -/
import Derived.Test.YtffihbfmdmlbcaaEvB
import Derived.Test.YtffihbfmdmlbcaaProg
set_option linter.unusedVariables false
set_option linter.unusedSimpArgs false
namespace Go.Proofs.Ytffihbfmdmlbcaa
open Go.Proofs.Ytffihbfmdmlbcaa.Ev

def tyL : List (Nat × TyI) := [
  (2, ⟨.int .i64, 1, true, [.i .i64 0]⟩),
  (3, ⟨.int .i64, 1, true, [.i .i64 0]⟩),
  (4, ⟨.bool, 1, true, [.b false]⟩),
  (5, ⟨.int .u8, 1, true, [.u 8 0#8]⟩),
  (9, ⟨.string, 1, true, [.str []]⟩),
  (22, ⟨.int .u64, 1, true, [.u 64 0#64]⟩),
  (36, ⟨.int .u32, 1, true, [.u 32 0#32]⟩),
  (49, ⟨.slice 22, 1, false, [.nils]⟩),
  (55, ⟨.int .u64, 1, true, [.u 64 0#64]⟩),
  (62, ⟨.slice 3, 1, false, [.nils]⟩)]
abbrev T : TypeId → Option TyI := tyList tyL
theorem tyOk : TyOk Try.prog T := by
  refine .cons (.i (by rfl) ⟨by decide, by decide⟩ (by kernel_rfl) (by kernel_rfl)) ?_
  refine .cons (.i (by rfl) ⟨by decide, by decide⟩ (by kernel_rfl) (by kernel_rfl)) ?_
  refine .cons (.b (by kernel_rfl) (by kernel_rfl)) ?_
  refine .cons (.u (by rfl) (by kernel_rfl) (by kernel_rfl)) ?_
  refine .cons (.str (by kernel_rfl) (by kernel_rfl)) ?_
  refine .cons (.u (by rfl) (by kernel_rfl) (by kernel_rfl)) ?_
  refine .cons (.u (by rfl) (by kernel_rfl) (by kernel_rfl)) ?_
  refine .cons (.nils (by kernel_rfl) (by kernel_rfl)) ?_
  refine .cons (.u (by rfl) (by kernel_rfl) (by kernel_rfl)) ?_
  refine .cons (.nils (by kernel_rfl) (by kernel_rfl)) ?_
  exact .nil
theorem mixed : Try.prog.follows .mixedOrders = true := by kernel_rfl

end Go.Proofs.Ytffihbfmdmlbcaa
namespace Go.Proofs.Ytffihbfmdmlbcaa
/- Plain: what the functions of bits compute. -/
abbrev W64 := BitVec 64
def isW (w : Int) : Bool := w == 1 || w == 2 || w == 4 || w == 8
/-- bits of a width -/
def nb (w : Int) : Nat := bif isW w then 8 * w.toNat else 0
def bitB (b : Bool) : W64 := bif b then 1#64 else 0#64
/-- bits told by a function, from the least on -/
def sumBits (f : Nat → Bool) : Nat → W64
  | 0 => 0#64
  | n + 1 => sumBits f n + bitB (f n) <<< n
def low (v : W64) (n : Nat) : W64 := sumBits v.getLsbD n
def zx (v : W64) (w : Int) : W64 := low v (nb w)
def sx (v : W64) (w : Int) : W64 := bif isW w then sumBits (fun j => v.getLsbD (min j (nb w - 1))) 64 else 0#64
def neg (v : W64) (w : Int) : Bool := isW w && v.getLsbD (nb w - 1)
def sum1 (a b : W64) (c : Bool) (w : Int) : W64 := low (a + b + bitB c) (nb w)
def sum2 (a b : W64) (c : Bool) (w : Int) : Bool := isW w && BitVec.carry (nb w) a b c
def sum3 (a b : W64) (c : Bool) (w : Int) : Bool := isW w && (BitVec.carry (nb w) a b c != BitVec.carry (nb w - 1) a b c)

theorem isW_cases {w : Int} (h : isW w = true) : w = 1 ∨ w = 2 ∨ w = 4 ∨ w = 8 := by
  simp only [isW, Bool.or_eq_true, beq_iff_eq] at h; omega
theorem nb_le (w : Int) : nb w ≤ 64 := by
  unfold nb
  cases h : isW w with
  | false => simp
  | true => rcases isW_cases h with rfl | rfl | rfl | rfl <;> decide

theorem bitB_toNat (b : Bool) : (bitB b).toNat = b.toNat := by cases b <;> rfl

theorem sumBits_toNat_lt (f : Nat → Bool) : ∀ n, n ≤ 64 → (sumBits f n).toNat < 2 ^ n
  | 0, h => by simp [sumBits]
  | n + 1, h => by
    have ih := sumBits_toNat_lt f n (by omega)
    have h64 : (2:Nat) ^ (n + 1) ≤ 2 ^ 64 := Nat.pow_le_pow_right (by omega) h
    have hp : (2:Nat) ^ (n + 1) = 2 ^ n * 2 := Nat.pow_succ ..
    have hb : (bitB (f n) <<< n).toNat = (f n).toNat * 2 ^ n := by
      rw [BitVec.toNat_shiftLeft, bitB_toNat, Nat.shiftLeft_eq]
      apply Nat.mod_eq_of_lt
      cases f n <;> simp <;> omega
    rw [sumBits, BitVec.toNat_add, hb]
    have : (f n).toNat * 2 ^ n ≤ 2 ^ n := by cases f n <;> simp
    rw [Nat.mod_eq_of_lt (by omega)]
    omega

theorem sumBits_succ_toNat (f : Nat → Bool) (n : Nat) (h : n < 64) : (sumBits f (n + 1)).toNat = (sumBits f n).toNat + (f n).toNat * 2 ^ n := by
  have ih := sumBits_toNat_lt f n (by omega)
  have h64 : (2:Nat) ^ (n + 1) ≤ 2 ^ 64 := Nat.pow_le_pow_right (by omega) h
  have hp : (2:Nat) ^ (n + 1) = 2 ^ n * 2 := Nat.pow_succ ..
  have hb : (bitB (f n) <<< n).toNat = (f n).toNat * 2 ^ n := by
    rw [BitVec.toNat_shiftLeft, bitB_toNat, Nat.shiftLeft_eq]
    apply Nat.mod_eq_of_lt
    cases f n <;> simp <;> omega
  rw [sumBits, BitVec.toNat_add, hb]
  have : (f n).toNat * 2 ^ n ≤ 2 ^ n := by cases f n <;> simp
  rw [Nat.mod_eq_of_lt (by omega)]

theorem sumBits_testBit (f : Nat → Bool) : ∀ n, n ≤ 64 → ∀ j, (sumBits f n).toNat.testBit j = (decide (j < n) && f j)
  | 0, _, j => by simp [sumBits]
  | n + 1, h, j => by
    have ih := sumBits_testBit f n (by omega)
    rw [sumBits_succ_toNat f n (by omega), Nat.add_comm, Nat.mul_comm, Nat.testBit_two_pow_mul_add _ (sumBits_toNat_lt f n (by omega)), ih]
    split
    · rename_i hj; have : j < n + 1 := by omega
      simp [hj, this]
    · rename_i hj
      by_cases hjn : j = n
      · subst hjn; simp; cases f j <;> rfl
      · have h1 : ¬ j < n + 1 := by omega
        have : (f n).toNat.testBit (j - n) = false := by
          obtain ⟨k, hk⟩ : ∃ k, j - n = k + 1 := ⟨j - n - 1, by omega⟩
          rw [hk]
          cases f n <;> simp [Nat.testBit_succ]
        simp [h1, this]

theorem sumBits_get (f : Nat → Bool) {n : Nat} (h : n ≤ 64) (j : Nat) : (sumBits f n).getLsbD j = (decide (j < n) && f j) := by
  rw [BitVec.getLsbD, sumBits_testBit f n h]

theorem low_get (v : W64) {n : Nat} (h : n ≤ 64) (j : Nat) : (low v n).getLsbD j = (decide (j < n) && v.getLsbD j) := sumBits_get _ h j

theorem low_toNat (v : W64) {n : Nat} (h : n ≤ 64) : (low v n).toNat = v.toNat % 2 ^ n := by
  apply Nat.eq_of_testBit_eq
  intro j
  rw [low, sumBits_testBit _ _ h, Nat.testBit_mod_two_pow]; rfl

theorem low_eq_and (v : W64) {n : Nat} (h : n ≤ 64) : low v n = v &&& (BitVec.allOnes 64 >>> (64 - n)) := by
  apply BitVec.eq_of_getLsbD_eq
  intro j hj
  rw [low_get v h, BitVec.getLsbD_and, BitVec.getLsbD_ushiftRight, BitVec.getLsbD_allOnes, Bool.and_comm]
  congr 1
  simp; omega

theorem bit_eq (v : W64) (n : Nat) : (v >>> n) % 2#64 = bitB (v.getLsbD n) := by
  apply BitVec.eq_of_toNat_eq
  rw [bitB_toNat, BitVec.toNat_umod, BitVec.toNat_ushiftRight, BitVec.getLsbD, Nat.testBit_eq_decide_div_mod_eq, Nat.shiftRight_eq_div_pow]
  show _ % 2 = _
  rcases Nat.mod_two_eq_zero_or_one (v.toNat / 2 ^ n) with e | e <;> simp [e]

end Go.Proofs.Ytffihbfmdmlbcaa
namespace Go.Proofs.Ytffihbfmdmlbcaa
/- Plain: what the functions of bits compute, by the operations on words. -/
theorem nb_cases {w : Int} (h : isW w = true) : nb w = 8 ∨ nb w = 16 ∨ nb w = 32 ∨ nb w = 64 := by
  rcases isW_cases h with rfl | rfl | rfl | rfl <;> simp [nb, isW]
theorem sumBits_congr {f g : Nat → Bool} : ∀ {n : Nat}, (∀ j, j < n → f j = g j) → sumBits f n = sumBits g n
  | 0, _ => rfl
  | n + 1, h => by rw [sumBits, sumBits, sumBits_congr (fun j hj => h j (by omega)), h n (by omega)]
theorem eq_sumBits {x : W64} {f : Nat → Bool} {n : Nat} (hn : n ≤ 64) (h : ∀ j, j < 64 → x.getLsbD j = (decide (j < n) && f j)) : x = sumBits f n := by
  apply BitVec.eq_of_getLsbD_eq
  intro j hj
  rw [h j hj, sumBits_get f hn]

theorem sx_eq (v : W64) {w : Int} (h : isW w = true) : (v <<< (64 - nb w)).sshiftRight (64 - nb w) = sx v w := by
  simp only [sx, h, cond_true]
  apply eq_sumBits (Nat.le_refl _)
  intro j hj
  have hp : nb w ≤ 64 := nb_le w
  have hp0 : 0 < nb w := by rcases nb_cases h with e | e | e | e <;> omega
  rw [BitVec.getLsbD_sshiftRight]
  simp only [hj, decide_true, Bool.true_and]
  have h1 : ¬ 64 ≤ j := by omega
  simp only [h1, decide_false, Bool.not_false, Bool.true_and]
  split
  · rename_i hlt
    rw [BitVec.getLsbD_shiftLeft]
    have e1 : 64 - nb w + j - (64 - nb w) = j := by omega
    have e2 : min j (nb w - 1) = j := by omega
    have e3 : ¬ (64 - nb w + j < 64 - nb w) := by omega
    simp only [hlt, e1, e2, e3, decide_true, decide_false, Bool.not_false, Bool.true_and]
  · rename_i hlt
    rw [BitVec.msb_eq_getLsbD_last, BitVec.getLsbD_shiftLeft]
    have e1 : 64 - 1 - (64 - nb w) = nb w - 1 := by omega
    have e2 : min j (nb w - 1) = nb w - 1 := by omega
    have e3 : ¬ (64 - 1 < 64 - nb w) := by omega
    simp only [e1, e2, e3, decide_true, decide_false, Bool.not_false, Bool.true_and, Nat.sub_lt (by decide : 0 < 64) (by decide : 0 < 1)]

theorem and1_eq (v : W64) (n : Nat) : ((v >>> n) &&& 1#64) = bitB (v.getLsbD n) := by
  rw [← bit_eq]
  apply BitVec.eq_of_toNat_eq
  rw [BitVec.toNat_and, BitVec.toNat_umod]
  exact Nat.and_one_is_mod _
theorem bitB_is (b : Bool) : (bitB b == 1#64) = b := by cases b <;> rfl

theorem low_congr {x y : W64} {n : Nat} (hn : n ≤ 64) (h : x.toNat % 2 ^ n = y.toNat % 2 ^ n) : low x n = low y n := by
  apply BitVec.eq_of_toNat_eq
  rw [low_toNat x hn, low_toNat y hn, h]

theorem sum1_eq (a b : W64) (c : Bool) (w : Int) : zx (zx a w + zx b w + bitB c) w = sum1 a b c w := by
  have hn := nb_le w
  refine low_congr hn ?_
  have hd : 2 ^ nb w ∣ 2 ^ 64 := Nat.pow_dvd_pow 2 hn
  simp only [BitVec.toNat_add, zx, low_toNat _ hn, bitB_toNat]
  rw [Nat.mod_mod_of_dvd _ hd, Nat.mod_mod_of_dvd _ hd]
  rw [Nat.add_mod ((a.toNat % 2 ^ nb w + b.toNat % 2 ^ nb w) % 2 ^ 64), Nat.mod_mod_of_dvd _ hd, ← Nat.add_mod a.toNat, Nat.add_mod ((a.toNat + b.toNat) % 2 ^ 64), Nat.mod_mod_of_dvd _ hd]

theorem carry_eq (a b : W64) (c : Bool) {n : Nat} : BitVec.carry n a b c = decide (2 ^ n ≤ a.toNat % 2 ^ n + b.toNat % 2 ^ n + c.toNat) := rfl

theorem sum2_eq (a b : W64) (c : Bool) {w : Int} (h : isW w = true) :
    (if (bitB (decide (2 ^ 64 ≤ (zx a w).toNat + (zx b w).toNat + (bitB c).toNat)) == 1#64) = true then true else (zx a w + zx b w + bitB c) != zx (zx a w + zx b w + bitB c) w) = sum2 a b c w := by
  have hn := nb_le w
  simp only [sum2, h, Bool.true_and, carry_eq, bitB_is, bitB_toNat]
  have e : ((zx a w + zx b w + bitB c) != zx (zx a w + zx b w + bitB c) w) = decide ((zx a w + zx b w + bitB c).toNat ≠ (zx a w + zx b w + bitB c).toNat % 2 ^ nb w) := by
    rw [Bool.eq_iff_iff, bne_iff_ne, decide_eq_true_eq, ← low_toNat _ hn]
    exact not_congr ⟨fun e => congrArg BitVec.toNat e, fun e => BitVec.eq_of_toNat_eq e⟩
  rw [e]
  simp only [BitVec.toNat_add, zx, low_toNat _ hn, bitB_toNat]
  have := c.toNat_le
  have ha := a.isLt
  have hb := b.isLt
  rcases nb_cases h with e | e | e | e <;> rw [e] <;> simp only [decide_eq_true_eq] <;> split <;> (first | (symm; rw [decide_eq_true_eq]; omega) | (rw [decide_eq_decide]; omega))

theorem bitB_eq (c : Bool) : bitB c = BitVec.setWidth 64 (BitVec.ofBool c) := by cases c <;> rfl
theorem sum_bit (a b : W64) (c : Bool) {j : Nat} (hj : j < 64) : (a + b + bitB c).getLsbD j = (a.getLsbD j ^^ (b.getLsbD j ^^ BitVec.carry j a b c)) := by
  rw [bitB_eq, BitVec.getLsbD_add_add_bool hj]

theorem neg_and (x y : W64) {w : Int} (h : isW w = true) : neg (x &&& y) w = (x.getLsbD (nb w - 1) && y.getLsbD (nb w - 1)) := by
  simp [neg, h]
theorem zx_top (a : W64) {w : Int} (h : isW w = true) : (zx a w).getLsbD (nb w - 1) = a.getLsbD (nb w - 1) := by
  rw [zx, low_get _ (nb_le w)]
  have : nb w - 1 < nb w := by rcases nb_cases h with e | e | e | e <;> omega
  simp [this]
theorem carry_top (a b : W64) (c : Bool) {w : Int} (h : isW w = true) : BitVec.carry (nb w) a b c = Bool.atLeastTwo (a.getLsbD (nb w - 1)) (b.getLsbD (nb w - 1)) (BitVec.carry (nb w - 1) a b c) := by
  rw [← BitVec.carry_succ]
  congr 1
  rcases nb_cases h with e | e | e | e <;> omega

theorem sum3_eq (a b : W64) (c : Bool) {w : Int} (h : isW w = true) : neg ((zx a w ^^^ sum1 a b c w) &&& (zx b w ^^^ sum1 a b c w)) w = sum3 a b c w := by
  have hlt : nb w - 1 < 64 := by have := nb_le w; rcases nb_cases h with e | e | e | e <;> omega
  rw [neg_and _ _ h, BitVec.getLsbD_xor, BitVec.getLsbD_xor, zx_top a h, zx_top b h]
  rw [show sum1 a b c w = zx (a + b + bitB c) w from rfl, zx_top _ h, sum_bit _ _ _ hlt, sum3, carry_top a b c h, h]
  generalize a.getLsbD (nb w - 1) = x
  generalize b.getLsbD (nb w - 1) = y
  generalize BitVec.carry (nb w - 1) a b c = z
  cases x <;> cases y <;> cases z <;> rfl

/- the difference -/
theorem low_not (b : W64) {n : Nat} (hn : n ≤ 64) : (~~~ b).toNat % 2 ^ n = 2 ^ n - 1 - b.toNat % 2 ^ n := by
  apply Nat.eq_of_testBit_eq
  intro j
  rw [Nat.testBit_mod_two_pow, show 2 ^ n - 1 - b.toNat % 2 ^ n = 2 ^ n - (b.toNat % 2 ^ n + 1) by omega, Nat.testBit_two_pow_sub_succ (Nat.mod_lt _ (Nat.two_pow_pos n)), Nat.testBit_mod_two_pow]
  by_cases h : j < n
  · simp only [h, decide_true, Bool.true_and]
    rw [← BitVec.getLsbD, BitVec.getLsbD_not, BitVec.getLsbD]
    have : j < 64 := by omega
    simp [this]
  · simp [h]

theorem sub_as_sum (a b : W64) (c : Bool) : a - b - bitB c = a + ~~~ b + bitB (!c) := by
  rw [BitVec.not_eq_neg_add]
  cases c
  · simp only [bitB, cond_false, Bool.not_false, cond_true]
    rw [BitVec.sub_eq_add_neg a b, BitVec.sub_eq_add_neg (-b), BitVec.add_assoc a, BitVec.add_assoc (-b)]
    simp
  · simp only [bitB, cond_false, Bool.not_true, cond_true, BitVec.add_zero]
    rw [BitVec.sub_eq_add_neg (a - b), BitVec.sub_eq_add_neg a, BitVec.sub_eq_add_neg (-b), BitVec.add_assoc]

theorem less1_eq (a b : W64) (c : Bool) (w : Int) : zx (zx a w - zx b w - bitB c) w = sum1 a (~~~ b) (!c) w := by
  have hn := nb_le w
  rw [sum1, ← sub_as_sum]
  refine low_congr hn ?_
  have hd : (2:Int) ^ nb w ∣ 2 ^ 64 := ⟨2 ^ (64 - nb w), by rw [← Int.pow_add]; congr 1; omega⟩
  apply Int.ofNat.inj
  show ((_ % 2 ^ nb w : Nat) : Int) = ((_ % 2 ^ nb w : Nat) : Int)
  have key : ∀ x y : W64, ((x - y - bitB c).toNat % 2 ^ nb w : Nat) = ((x.toNat : Int) - y.toNat - (bitB c).toNat) % 2 ^ nb w := by
    intro x y
    have e : ((x - y - bitB c).toNat : Int) = ((x.toNat : Int) - y.toNat - (bitB c).toNat) % 2 ^ 64 := by
      rw [BitVec.toNat_sub, BitVec.toNat_sub]
      have := x.isLt; have := y.isLt; have := (bitB c).isLt
      omega
    rw [Int.natCast_emod, e]
    push_cast
    rw [show (18446744073709551616:Int) = 2 ^ 64 by decide, Int.emod_emod_of_dvd _ hd]
  rw [key, key]
  simp only [zx, low_toNat _ hn]
  push_cast
  rw [Int.sub_emod ((a.toNat : Int) % 2 ^ nb w - _), ← Int.sub_emod (a.toNat : Int), ← Int.sub_emod]

theorem less2_eq (a b : W64) (c : Bool) {w : Int} (h : isW w = true) : (bitB (decide ((zx a w).toNat < (zx b w).toNat + (bitB c).toNat)) == 1#64) = !sum2 a (~~~ b) (!c) w := by
  have hn := nb_le w
  simp only [bitB_is, sum2, h, Bool.true_and, carry_eq, low_not b hn, zx, low_toNat _ hn, bitB_toNat]
  have h1 := Nat.mod_lt a.toNat (Nat.two_pow_pos (nb w))
  have h2 := Nat.mod_lt b.toNat (Nat.two_pow_pos (nb w))
  rw [← decide_not, decide_eq_decide]
  cases c <;> simp <;> omega

theorem less3_eq (a b : W64) (c : Bool) {w : Int} (h : isW w = true) : neg ((zx a w ^^^ zx b w) &&& (zx a w ^^^ sum1 a (~~~ b) (!c) w)) w = sum3 a (~~~ b) (!c) w := by
  have hlt : nb w - 1 < 64 := by have := nb_le w; rcases nb_cases h with e | e | e | e <;> omega
  rw [neg_and _ _ h, BitVec.getLsbD_xor, BitVec.getLsbD_xor, zx_top a h, zx_top b h]
  rw [show sum1 a (~~~ b) (!c) w = zx (a + ~~~ b + bitB (!c)) w from rfl, zx_top _ h, sum_bit _ _ _ hlt, sum3, carry_top a (~~~ b) (!c) h, h]
  rw [BitVec.getLsbD_not]
  simp only [hlt, decide_true, Bool.true_and]
  generalize a.getLsbD (nb w - 1) = x
  generalize b.getLsbD (nb w - 1) = y
  generalize BitVec.carry (nb w - 1) a (~~~ b) (!c) = z
  cases x <;> cases y <;> cases z <;> rfl
end Go.Proofs.Ytffihbfmdmlbcaa
namespace Go.Proofs.Ytffihbfmdmlbcaa
/- Plain: turning, counting. -/
def turnN (v : W64) (m n : Nat) : W64 := sumBits (fun j => v.getLsbD ((j + (n - m)) % n)) n
def turn (v : W64) (k : Int) (w : Int) : W64 := turnN v (k % (nb w : Int)).toNat (nb w)

theorem idx1 {j m n : Nat} (hj : j < n) (hm : m < n) : (j + (n - m)) % n = if j < m then j + n - m else j - m := by
  split
  · rw [Nat.mod_eq_of_lt (by omega)]; omega
  · rw [show j + (n - m) = (j - m) + n by omega, Nat.add_mod_right, Nat.mod_eq_of_lt (by omega)]
theorem idx2 {i m n : Nat} (hi : i < n) (hm : m < n) : (i + m) % n = if i + m < n then i + m else i + m - n := by
  split
  · rw [Nat.mod_eq_of_lt (by omega)]
  · rw [show i + m = (i + m - n) + n by omega, Nat.add_mod_right, Nat.mod_eq_of_lt (by omega)]; omega

theorem turn_code (v : W64) {m n : Nat} (hm : m < n) (hn : n ≤ 64) : low (low v n <<< m ||| low v n >>> (n - m)) n = turnN v m n := by
  apply sumBits_congr
  intro j hj
  have hj64 : j < 64 := by omega
  rw [idx1 hj hm, BitVec.getLsbD_or, BitVec.getLsbD_shiftLeft, BitVec.getLsbD_ushiftRight, low_get v hn, low_get v hn]
  simp only [hj64, decide_true, Bool.true_and]
  split
  · rename_i h
    simp only [h, decide_true, Bool.not_true, Bool.false_and, Bool.false_or]
    have e1 : n - m + j < n := by omega
    have e2 : n - m + j = j + n - m := by omega
    have e3 : j + n - m < n := by omega
    simp only [e1, decide_true, Bool.true_and, e2, e3]
  · rename_i h
    have e1 : ¬ n - m + j < n := by omega
    have e2 : j - m < n := by omega
    simp only [h, e1, e2, decide_false, decide_true, Bool.not_false, Bool.true_and, Bool.false_and, Bool.or_false]

def part (v : W64) (m n i : Nat) : W64 := sumBits (fun j => decide ((j + (n - m)) % n < i) && v.getLsbD ((j + (n - m)) % n)) n
theorem sumBits_false {f : Nat → Bool} : ∀ {n : Nat}, (∀ j, j < n → f j = false) → sumBits f n = 0#64
  | 0, _ => rfl
  | n + 1, h => by rw [sumBits, sumBits_false (fun j hj => h j (by omega)), h n (by omega)]; simp [bitB]
theorem part_zero (v : W64) (m n : Nat) : part v m n 0 = 0#64 := sumBits_false fun j _ => by simp
theorem part_all (v : W64) {m n : Nat} (hn : 0 < n) : part v m n n = turnN v m n := sumBits_congr fun j _ => by
  have : (j + (n - m)) % n < n := Nat.mod_lt _ hn
  simp [this]
theorem bitB_shift_get (b : Bool) (p j : Nat) (hp : p < 64) : (bitB b <<< p).getLsbD j = (decide (j = p) && b) := by
  rw [BitVec.getLsbD_shiftLeft]
  cases b
  · simp [bitB]
  · simp only [bitB, cond_true, Bool.and_true]
    by_cases h : j = p
    · subst h; simp [hp]
    · by_cases h2 : j < p
      · simp [h, h2]
      · obtain ⟨d, hd⟩ : ∃ d, j - p = d + 1 := ⟨j - p - 1, by omega⟩
        simp [h, hd, BitVec.getLsbD_one]
theorem part_succ (v : W64) {m n i : Nat} (hm : m < n) (hi : i < n) (hn : n ≤ 64) : part v m n i + bitB (v.getLsbD i) <<< ((i + m) % n) = part v m n (i + 1) := by
  have hp : (i + m) % n < n := Nat.mod_lt _ (by omega)
  have hg : ∀ i' j, (part v m n i').getLsbD j = (decide (j < n) && (decide ((j + (n - m)) % n < i') && v.getLsbD ((j + (n - m)) % n))) := fun i' j => sumBits_get _ hn j
  have key : ∀ j, j < n → (j = (i + m) % n ↔ (j + (n - m)) % n = i) := by
    intro j hj
    rw [idx1 hj hm, idx2 hi hm]
    split <;> split <;> omega
  rw [BitVec.add_eq_or_of_and_eq_zero]
  · apply BitVec.eq_of_getLsbD_eq
    intro j _
    rw [BitVec.getLsbD_or, hg, hg, bitB_shift_get _ _ _ (by omega)]
    by_cases hj : j < n
    · simp only [hj, decide_true, Bool.true_and, decide_eq_decide.2 (key j hj)]
      by_cases h1 : (j + (n - m)) % n = i
      · simp [h1]
      · have : (j + (n - m)) % n < i + 1 ↔ (j + (n - m)) % n < i := by omega
        simp [h1, this]
    · have : j ≠ (i + m) % n := by omega
      simp [hj, this]
  · apply BitVec.eq_of_getLsbD_eq
    intro j _
    rw [BitVec.getLsbD_and, hg, bitB_shift_get _ _ _ (by omega)]
    by_cases hj : j < n
    · simp only [hj, decide_true, Bool.true_and, decide_eq_decide.2 (key j hj)]
      by_cases h1 : (j + (n - m)) % n = i
      · simp [h1]
      · simp [h1]
    · simp [hj]

theorem turn_turn (v : W64) {m p n : Nat} (hm : m < n) (hp : p < n) (hn : n ≤ 64) (h : m + p = 0 ∨ m + p = n) : turnN (turnN v m n) p n = low v n := by
  apply sumBits_congr
  intro j hj
  have h1 : (j + (n - p)) % n < n := Nat.mod_lt _ (by omega)
  rw [turnN, sumBits_get _ hn]
  simp only [h1, decide_true, Bool.true_and]
  congr 1
  rw [idx1 h1 hm, idx1 hj hp]
  split <;> split <;> omega

theorem tmod_turn (k : Int) {n : Nat} (h0 : 0 < n) (h : n ≤ 64) : (k.tmod n + n) % (n : Int) = k % n ∧ 0 < k.tmod n + n ∧ k.tmod n + n < 2 * n := by
  have hn : (0 : Int) < n := by omega
  refine ⟨?_, ?_, ?_⟩
  · rw [Int.add_emod_right, Int.tmod_def, Int.sub_mul_emod_self_left]
  · have := Int.lt_tmod_of_pos k hn; omega
  · have := Int.tmod_lt_of_pos k hn; omega

def popN (f : Nat → Bool) : Nat → Nat
  | 0 => 0
  | n + 1 => popN f n + (f n).toNat
theorem popN_congr {f g : Nat → Bool} : ∀ {n : Nat}, (∀ j, j < n → f j = g j) → popN f n = popN g n
  | 0, _ => rfl
  | n + 1, h => by rw [popN, popN, popN_congr (fun j hj => h j (by omega)), h n (by omega)]
theorem popN_le (f : Nat → Bool) : ∀ n, popN f n ≤ n
  | 0 => Nat.le_refl 0
  | n + 1 => by have := popN_le f n; have := (f n).toNat_le; rw [popN]; omega
theorem popN_above {f : Nat → Bool} {n : Nat} : ∀ {d : Nat}, (∀ j, n ≤ j → f j = false) → popN f (n + d) = popN f n
  | 0, _ => rfl
  | d + 1, h => by rw [← Nat.add_assoc, popN, popN_above h, h _ (by omega)]; rfl
end Go.Proofs.Ytffihbfmdmlbcaa
namespace Go.Proofs.Ytffihbfmdmlbcaa
open Go.Proofs.Ytffihbfmdmlbcaa.Ev
def noL : Nat → Live := fun _ => ⟨[], [], [], none⟩
theorem noL_ok {S : FuncId → CSpec} {N : Nat} {fn : Func} : FnLoops T S noL N fn := FnLoops.no (by simp [noSum, noL])

/-- A function without summaries of loops. -/
theorem okBy {S : FuncId → CSpec} (hS : ∀ f, FnOk Try.prog f (S f)) {f : FuncId} {fn : Func} (hf : Try.prog.funcs[f]? = some fn) (hname : (fn.name == "runtime.NumGoroutine") = false) (hbody : fn.body.isNone = false) {s : CSpec} (N : Nat)
    (h : ∀ xs r, s xs = some r → (∀ c ∈ r.pre, c = true) → (∃ w R vs, TR (baseC w R) xs vs) → (evFn T S noL N fn xs).run = some r.res) : FnOk Try.prog f s :=
  FnOk.of tyOk hS mixed hf hname hbody fun xs r hs hp w R vs hvs => ⟨N, noL_ok, h xs r hs hp ⟨w, R, vs, hvs⟩⟩

def s14 : CSpec | [.i .i64 w] => some ⟨[], .b (isW w)⟩ | _ => none
theorem ok14 : FnOk Try.prog 14 s14 := okBy noS_ok Try.func14 (by kernel_rfl) (by kernel_rfl) 1 <| by
  intro xs r hs
  unfold s14 at hs; split at hs <;> cases hs
  rename_i w
  intro hp _
  have e : evFn T noS noL 1 Try.f14 [.i .i64 w] = .leaf (.b (if (if (if (w == 1) = true then true else w == 2) = true then true else w == 4) = true then true else w == 8)) := by kernel_rfl
  rw [e]
  simp only [Tr.run, isW]
  cases w == 1 <;> cases w == 2 <;> cases w == 4 <;> rfl
theorem ok15 : FnOk Try.prog 15 s14 := okBy noS_ok Try.func15 (by kernel_rfl) (by kernel_rfl) 1 <| by
  intro xs r hs
  unfold s14 at hs; split at hs <;> cases hs
  rename_i w
  intro hp _
  have e : evFn T noS noL 1 Try.f15 [.i .i64 w] = .leaf (.b (if (if (if (w == 1) = true then true else w == 2) = true then true else w == 4) = true then true else w == 8)) := by kernel_rfl
  rw [e]
  simp only [Tr.run, isW]
  cases w == 1 <;> cases w == 2 <;> cases w == 4 <;> rfl
def s49 : CSpec | [.u 64 v, .i .i64 i] => some ⟨[], .u 64 (bitB (v.getLsbD (BitVec.ofInt 64 i).toNat))⟩ | _ => none
theorem ok49 : FnOk Try.prog 49 s49 := okBy noS_ok Try.func49 (by kernel_rfl) (by kernel_rfl) 1 <| by
  intro xs r hs
  unfold s49 at hs; split at hs <;> cases hs
  rename_i v i
  intro hp _
  have e : (evFn T noS noL 1 Try.f49 [.u 64 v, .i .i64 i]).run = some (.u 64 ((v >>> (BitVec.ofInt 64 i).toNat) % 2#64)) := by kernel_rfl
  rw [e, bit_eq]
def s59 : CSpec | [.b c] => some ⟨[], .u 64 (bitB c)⟩ | _ => none
theorem ok59 : FnOk Try.prog 59 s59 := okBy noS_ok Try.func59 (by kernel_rfl) (by kernel_rfl) 1 <| by
  intro xs r hs
  unfold s59 at hs; split at hs <;> cases hs
  rename_i c
  intro hp _
  cases c <;> kernel_rfl
theorem ok60 : FnOk Try.prog 60 s59 := okBy noS_ok Try.func60 (by kernel_rfl) (by kernel_rfl) 1 <| by
  intro xs r hs
  unfold s59 at hs; split at hs <;> cases hs
  rename_i c
  intro hp _
  cases c <;> kernel_rfl
def add1 (a b c : W64) : W64 := a + b + c
def add2 (a b c : W64) : W64 := bitB (decide (2 ^ 64 ≤ a.toNat + b.toNat + c.toNat))
def sub1 (a b c : W64) : W64 := a - b - c
def sub2 (a b c : W64) : W64 := bitB (decide (a.toNat < b.toNat + c.toNat))
def s58 : CSpec | [.u 64 a, .u 64 b, .u 64 c] => some ⟨[decide (c.toNat ≤ 1)], .tup [.u 64 (add1 a b c), .u 64 (add2 a b c)]⟩ | _ => none
def s61 : CSpec | [.u 64 a, .u 64 b, .u 64 c] => some ⟨[decide (c.toNat ≤ 1)], .tup [.u 64 (sub1 a b c), .u 64 (sub2 a b c)]⟩ | _ => none

theorem u64_of {k : IntKind} (h : isU k = some 64) : k = .u64 := by cases k <;> simp [isU] at h <;> rfl
theorem uv {C : Ctx} {x : W64} {v : Value} (h : VR C (.u 64 x) v) : v = .int .u64 (x.toNat : Int) := by
  cases h with
  | u hk => rw [u64_of hk]
theorem args3 {C : Ctx} {a b c : W64} {vs : List Value} (h : TR C [.u 64 a, .u 64 b, .u 64 c] vs) : vs = [.int .u64 (a.toNat : Int), .int .u64 (b.toNat : Int), .int .u64 (c.toNat : Int)] := by
  cases h with | cons h1 h => cases h with | cons h2 h => cases h with | cons h3 h => cases h; rw [uv h1, uv h2, uv h3]
theorem vu {C : Ctx} (x : W64) {n : Nat} (h : n = x.toNat) : VR C (.u 64 x) (.int .u64 (Int.ofNat n)) := by subst h; exact .u rfl

theorem run_three' (nm : String) (x y : Nat) (w : World) : ∀ m : Nat, m ≤ 1 → (Extern.MathBitsCarry.three nm #[.int .u64 (x : Int), .int .u64 (y : Int), .int .u64 (m : Int)]).run Try.prog w = .ok (x, y, m) w
  | 0, _ => by kernel_rfl
  | 1, _ => by kernel_rfl
  | n + 2, h => by omega
theorem run_three (nm : String) (a b c : W64) (hc : c.toNat ≤ 1) (w : World) : (Extern.MathBitsCarry.three nm #[.int .u64 (a.toNat : Int), .int .u64 (b.toNat : Int), .int .u64 (c.toNat : Int)]).run Try.prog w = .ok (a.toNat, b.toNat, c.toNat) w :=
  run_three' nm _ _ w _ hc

theorem ok58 : FnOk Try.prog 58 s58 := FnOk.extern (g := fun args => do
    let (x, y, c) ← Extern.MathBitsCarry.three "Add64" args
    pure (Extern.MathBitsCarry.pair ((x + y + c) % Extern.MathBitsCarry.m64) ((x + y + c) / Extern.MathBitsCarry.m64))) Try.func58 (by kernel_rfl) (by kernel_rfl) (by kernel_rfl) (by kernel_rfl) <| by
  intro xs r hs
  unfold s58 at hs; split at hs <;> cases hs
  rename_i a b c
  intro hp w R vs hvs
  have hc : c.toNat ≤ 1 := by simpa using hp
  rw [args3 hvs]
  refine ⟨Extern.MathBitsCarry.pair ((a.toNat + b.toNat + c.toNat) % Extern.MathBitsCarry.m64) ((a.toNat + b.toNat + c.toNat) / Extern.MathBitsCarry.m64), by rw [Sem.run_bind, run_three _ a b c hc]; rfl, ?_⟩
  refine .tup (.cons (vu _ ?_) (.cons (vu _ ?_) .nil))
  · simp [add1, Extern.MathBitsCarry.m64]
  · have := a.isLt; have := b.isLt
    simp only [add2, bitB_toNat, Extern.MathBitsCarry.m64]
    by_cases h : 2 ^ 64 ≤ a.toNat + b.toNat + c.toNat <;> simp only [h, decide_true, decide_false, Bool.toNat_true, Bool.toNat_false] <;> omega
theorem ok61 : FnOk Try.prog 61 s61 := FnOk.extern (g := fun args => do
    let (x, y, b) ← Extern.MathBitsCarry.three "Sub64" args
    pure (Extern.MathBitsCarry.pair ((x + Extern.MathBitsCarry.m64 - y - b) % Extern.MathBitsCarry.m64) (if x < y + b then 1 else 0))) Try.func61 (by kernel_rfl) (by kernel_rfl) (by kernel_rfl) (by kernel_rfl) <| by
  intro xs r hs
  unfold s61 at hs; split at hs <;> cases hs
  rename_i a b c
  intro hp w R vs hvs
  have hc : c.toNat ≤ 1 := by simpa using hp
  rw [args3 hvs]
  refine ⟨Extern.MathBitsCarry.pair ((a.toNat + Extern.MathBitsCarry.m64 - b.toNat - c.toNat) % Extern.MathBitsCarry.m64) (if a.toNat < b.toNat + c.toNat then 1 else 0), by rw [Sem.run_bind, run_three _ a b c hc]; rfl, ?_⟩
  refine .tup (.cons (vu _ ?_) (.cons (vu _ ?_) .nil))
  · have := a.isLt; have := b.isLt
    simp only [sub1, Extern.MathBitsCarry.m64, BitVec.toNat_sub]
    omega
  · simp only [sub2, bitB_toNat]
    by_cases h : a.toNat < b.toNat + c.toNat <;> simp [h]
abbrev S1 := withS (withS (withS (withS (withS (withS (withS noS 14 s14) 15 s14) 49 s49) 59 s59) 60 s59) 58 s58) 61 s61
theorem S1_ok : ∀ f, FnOk Try.prog f (S1 f) := withS_ok (withS_ok (withS_ok (withS_ok (withS_ok (withS_ok (withS_ok noS_ok ok14) ok15) ok49) ok59) ok60) ok58) ok61
end Go.Proofs.Ytffihbfmdmlbcaa
namespace Go.Proofs.Ytffihbfmdmlbcaa
open Go.Proofs.Ytffihbfmdmlbcaa.Ev
theorem LoopOk.of {S : FuncId → CSpec} {L : Nat → Live} {nt N : Nat} {a : Code} {q : St → Option LRes} (hs : (L (firstR a)).sum = some (evSum q))
    (h : ∀ τ r, τ.cut = 0 → q τ = some r → (∀ b ∈ r.pre, b = true) → ∃ n, (iter (atHead (evCode T S L nt N a) (L (firstR a))) n τ).run = some (r.e, ⟨r.env, r.mem, r.ids, 0⟩)) : LoopOk T S L nt N a := by
  intro q' hq'
  rw [hs] at hq'
  cases hq'
  intro τ e st h1 h2
  unfold evSum at h2
  split at h2
  · rename_i r hr
    obtain ⟨hn, h'⟩ := Tr.run_needs h2
    simp only [Tr.run, Option.some.injEq, Prod.mk.injEq] at h'
    obtain ⟨rfl, rfl⟩ := h'
    obtain ⟨n, hn⟩ := h τ r h1 hr hn
    exact ⟨n, _, hn, fun _ _ h => h, rfl, rfl⟩
  · simp [Tr.run] at h2
theorem LoopOk.sub {S : FuncId → CSpec} {L : Nat → Live} {nt N : Nat} {a : Code} {q : St → Tr (Ex × St)} (hs : (L (firstR a)).sum = some q)
    (h : ∀ τ e st, τ.cut = 0 → (q τ).run = some (e, st) → ∃ n st', (iter (atHead (evCode T S L nt N a) (L (firstR a))) n τ).run = some (e, st') ∧ (∀ t v, Ev.look st.env t = some v → Ev.look st'.env t = some v) ∧ st'.mem = st.mem ∧ st'.ids = st.ids) : LoopOk T S L nt N a := by
  intro q' hq'
  rw [hs] at hq'
  cases hq'
  exact h
theorem ofInt_nat (j : Nat) (h : j < 2 ^ 62) : (BitVec.ofInt 64 (j : Int)).toNat = j := by
  rw [BitVec.toNat_ofInt]; omega
theorem wrap_small (x : Int) (h0 : -9223372036854775808 ≤ x) (h1 : x ≤ 9223372036854775807) : IntKind.i64.wrap x = x := wrap_of_has ⟨by simpa [IntKind.min, IntKind.signed, IntKind.bits] using h0, by simpa [IntKind.max, IntKind.signed, IntKind.bits] using h1⟩
theorem wrap_succ (j : Nat) (h : j < 2 ^ 62) : IntKind.i64.wrap ((j : Int) + 1) = ((j + 1 : Nat) : Int) := by
  rw [wrap_small] <;> omega
theorem nb_eq {w : Int} (h : isW w = true) : (nb w : Int) = 8 * w := by
  rcases isW_cases h with rfl | rfl | rfl | rfl <;> decide
theorem wrap8 {w : Int} (h : isW w = true) : IntKind.i64.wrap (8 * w) = (nb w : Int) := by
  rcases isW_cases h with rfl | rfl | rfl | rfl <;> decide
theorem nb0 {w : Int} (h : isW w = false) : nb w = 0 := by simp [nb, h]
theorem nb_pos {w : Int} (h : isW w = true) : 0 < nb w := by
  rcases isW_cases h with rfl | rfl | rfl | rfl <;> decide

def maskW (w : Int) : W64 := BitVec.allOnes 64 >>> (64 - nb w)
def s16 : CSpec | [.i .i64 w] => some ⟨[], .u 64 (maskW w)⟩ | _ => none
theorem ok16 : FnOk Try.prog 16 s16 := okBy S1_ok Try.func16 (by kernel_rfl) (by kernel_rfl) 1 <| by
  intro xs r hs
  unfold s16 at hs; split at hs <;> cases hs
  rename_i w
  intro hp _
  have e : evFn T S1 noL 1 Try.f16 [.i .i64 w] = Tr.ite (!isW w) (.leaf (.u 64 (BitVec.ofInt 64 0))) (Tr.need (decide (0 ≤ IntKind.i64.wrap (64 - IntKind.i64.wrap (8 * w)))) (.leaf (.u 64 (BitVec.ofInt 64 18446744073709551615 >>> (IntKind.i64.wrap (64 - IntKind.i64.wrap (8 * w))).toNat)))) := by kernel_rfl
  cases h : isW w with
  | true => rw [e]; rcases isW_cases h with rfl | rfl | rfl | rfl <;> (show _ = _; kernel_rfl)
  | false =>
    rw [e]; simp only [h, Tr.run]
    simp [maskW, nb0 h]
def s18 : CSpec | [.u 64 v, .i .i64 w] => some ⟨[], .u 64 (zx v w)⟩ | _ => none
abbrev S2 := withS S1 16 s16
theorem S2_ok : ∀ f, FnOk Try.prog f (S2 f) := withS_ok S1_ok ok16
theorem ok18 : FnOk Try.prog 18 s18 := okBy S2_ok Try.func18 (by kernel_rfl) (by kernel_rfl) 1 <| by
  intro xs r hs
  unfold s18 at hs; split at hs <;> cases hs
  rename_i v w
  intro hp _
  have e : evFn T S2 noL 1 Try.f18 [.u 64 v, .i .i64 w] = .leaf (.u 64 (v &&& maskW w)) := by kernel_rfl
  rw [e, maskW, ← low_eq_and v (nb_le w)]
  rfl

/- the reference's -/
def q17 : St → Option LRes
  | ⟨[(0, .u 64 v), (1, .i .i64 w), (5, .u 64 r), (6, .i .i64 i)], [], [], _⟩ => some ⟨[r == 0#64, i == 0], .exit 0, [(0, .u 64 v), (1, .i .i64 w), (5, .u 64 (zx v w)), (6, .i .i64 (nb w))], [], []⟩
  | _ => none
def L17 : Nat → Live := fun _ => ⟨[0, 1, 5, 6], [], [], some (evSum q17)⟩
theorem loop17 (N : Nat) : LoopOk T S1 L17 26 N (loopOf Try.f17 0) := LoopOk.of rfl <| by
  intro τ r hcut hr
  unfold q17 at hr; split at hr <;> cases hr
  rename_i v w r i c
  obtain rfl : c = 0 := hcut
  intro hp
  simp only [List.mem_cons, List.not_mem_nil, or_false, forall_eq_or_imp, forall_eq, beq_iff_eq] at hp
  obtain ⟨rfl, rfl⟩ := hp
  have e : ∀ (r : W64) (i : Int), atHead (evCode T S1 L17 26 N (loopOf Try.f17 0)) (L17 (firstR (loopOf Try.f17 0))) ⟨[(0, .u 64 v), (1, .i .i64 w), (5, .u 64 r), (6, .i .i64 i)], [], [], 0⟩ =
      Tr.ite (if isW w = true then decide (i < IntKind.i64.wrap (8 * w)) else false)
        (.leaf (.normal, ⟨[(0, .u 64 v), (1, .i .i64 w), (5, .u 64 (r + bitB (v.getLsbD (BitVec.ofInt 64 i).toNat) <<< (BitVec.ofInt 64 i).toNat)), (6, .i .i64 (IntKind.i64.wrap (i + 1)))], [], [], 0⟩))
        (.leaf (.exit 0, ⟨[(0, .u 64 v), (1, .i .i64 w), (5, .u 64 r), (6, .i .i64 i)], [], [], 0⟩)) := fun r i => by kernel_rfl
  refine ⟨nb w + 1, iter_for (fun j => ⟨[(0, .u 64 v), (1, .i .i64 w), (5, .u 64 (low v j)), (6, .i .i64 (j : Int))], [], [], 0⟩) (nb w) ?_ ?_ (by simp)⟩
  · intro j hj
    have h64 := nb_le w
    have hw : isW w = true := by
      cases h : isW w with
      | true => rfl
      | false => rw [nb0 h] at hj; omega
    rw [e, wrap8 hw, wrap_succ j (by omega), ofInt_nat j (by omega)]
    simp only [Tr.run, hw, if_true]
    rw [if_pos (by simpa using hj)]
    rfl
  · rw [e]
    cases h : isW w with
    | true => rw [wrap8 h]; simp [Tr.run, h, zx]
    | false => simp [Tr.run, h, zx]
theorem ok17 : FnOk Try.prog 17 s18 := FnOk.of tyOk S1_ok mixed Try.func17 (by kernel_rfl) (by kernel_rfl) <| by
  intro xs r hs
  unfold s18 at hs; split at hs <;> cases hs
  rename_i v w
  intro hp _ _ _ _
  exact ⟨1, FnLoops.one (by kernel_rfl) (loop17 1), by kernel_rfl⟩
end Go.Proofs.Ytffihbfmdmlbcaa
namespace Go.Proofs.Ytffihbfmdmlbcaa
open Go.Proofs.Ytffihbfmdmlbcaa.Ev
abbrev S3 := withS (withS S2 17 s18) 18 s18
theorem S3_ok : ∀ f, FnOk Try.prog f (S3 f) := withS_ok (withS_ok S2_ok ok17) ok18
theorem ofNat_nb {w : Int} (h : isW w = true) : (IntKind.i64.wrap (64 - IntKind.i64.wrap (8 * w))).toNat = 64 - nb w := by
  rcases isW_cases h with rfl | rfl | rfl | rfl <;> decide
theorem top_nb {w : Int} (h : isW w = true) : IntKind.i64.wrap (IntKind.i64.wrap (8 * w) - 1) = ((nb w - 1 : Nat) : Int) := by
  rcases isW_cases h with rfl | rfl | rfl | rfl <;> decide
theorem sshr_eq (x : W64) (n : Nat) : BitVec.ofInt 64 (IntKind.i64.wrap (x.toNat : Int) / 2 ^ n) = x.sshiftRight n := by
  rw [show IntKind.i64.wrap (x.toNat : Int) = x.toInt from wrap_toInt (k := .i64) rfl x]
  show _ = BitVec.ofInt 64 (x.toInt >>> n)
  rw [Int.shiftRight_eq_div_pow]; rfl

def s19 : CSpec | [.u 64 v, .i .i64 w] => some ⟨[], .u 64 (sx v w)⟩ | _ => none
theorem ok19 : FnOk Try.prog 19 s19 := okBy S3_ok Try.func19 (by kernel_rfl) (by kernel_rfl) 1 <| by
  intro xs r hs
  unfold s19 at hs; split at hs <;> cases hs
  rename_i v w
  intro hp _
  have e : evFn T S3 noL 1 Try.f19 [.u 64 v, .i .i64 w] = Tr.ite (!isW w) (.leaf (.u 64 0#64))
    (Tr.need (decide (0 ≤ IntKind.i64.wrap (64 - IntKind.i64.wrap (8 * w)))) (Tr.need (decide (0 ≤ IntKind.i64.wrap (64 - IntKind.i64.wrap (8 * w))))
        (.leaf (.u 64 (BitVec.ofInt 64 (IntKind.i64.wrap ↑(v <<< (IntKind.i64.wrap (64 - IntKind.i64.wrap (8 * w))).toNat).toNat / 2 ^ (IntKind.i64.wrap (64 - IntKind.i64.wrap (8 * w))).toNat)))))) := by kernel_rfl
  rw [e, sshr_eq]
  cases h : isW w with
  | true =>
    rw [ofNat_nb h, sx_eq v h]
    have : 0 ≤ IntKind.i64.wrap (64 - IntKind.i64.wrap (8 * w)) := by rcases isW_cases h with rfl | rfl | rfl | rfl <;> decide
    simp [Tr.run, this]
  | false => simp [Tr.run, sx, h]
def s21 : CSpec | [.u 64 v, .i .i64 w] => some ⟨[], .b (neg v w)⟩ | _ => none
theorem ok21 : FnOk Try.prog 21 s21 := okBy S3_ok Try.func21 (by kernel_rfl) (by kernel_rfl) 1 <| by
  intro xs r hs
  unfold s21 at hs; split at hs <;> cases hs
  rename_i v w
  intro hp _
  have e : evFn T S3 noL 1 Try.f21 [.u 64 v, .i .i64 w] = Tr.need (if isW w = true then decide (0 ≤ IntKind.i64.wrap (IntKind.i64.wrap (8 * w) - 1)) else true)
    (.leaf (.b (if isW w = true then (v >>> (IntKind.i64.wrap (IntKind.i64.wrap (8 * w) - 1)).toNat &&& 1#64) == 1#64 else false))) := by kernel_rfl
  rw [e, and1_eq, bitB_is]
  cases h : isW w with
  | true => rw [top_nb h]; simp [Tr.run, neg, h]
  | false => simp [Tr.run, neg, h]
theorem ok22 : FnOk Try.prog 22 s21 := okBy S3_ok Try.func22 (by kernel_rfl) (by kernel_rfl) 1 <| by
  intro xs r hs
  unfold s21 at hs; split at hs <;> cases hs
  rename_i v w
  intro hp _
  have e : evFn T S3 noL 1 Try.f22 [.u 64 v, .i .i64 w] = 
    (.leaf (.b (if isW w = true then bitB (v.getLsbD (BitVec.ofInt 64 (IntKind.i64.wrap (IntKind.i64.wrap (8 * w) - 1))).toNat) == 1#64 else false))) := by kernel_rfl
  rw [e, bitB_is]
  cases h : isW w with
  | true => rw [top_nb h, ofInt_nat _ (by have := nb_le w; omega)]; simp [Tr.run, neg, h]
  | false => simp [Tr.run, neg, h]

theorem sumBits_succ (f : Nat → Bool) (n : Nat) : sumBits f (n + 1) = sumBits f n + bitB (f n) <<< n := rfl
def q20 : St → Option LRes
  | ⟨[(0, .u 64 v), (1, .i .i64 w), (5, .u 64 r), (6, .i .i64 i)], [], [], _⟩ => some ⟨[r == zx v w, i == IntKind.i64.wrap (8 * w)], .exit 0, [(0, .u 64 v), (1, .i .i64 w), (5, .u 64 (sx v w)), (6, .i .i64 (bif isW w then 64 else IntKind.i64.wrap (8 * w)))], [], []⟩
  | _ => none
def L20 : Nat → Live := fun _ => ⟨[0, 1, 5, 6], [], [], some (evSum q20)⟩
theorem loop20 (N : Nat) : LoopOk T S3 L20 31 N (loopOf Try.f20 0) := LoopOk.of rfl <| by
  intro τ r hcut hr
  unfold q20 at hr; split at hr <;> cases hr
  rename_i v w r i c
  obtain rfl : c = 0 := hcut
  intro hp
  simp only [List.mem_cons, List.not_mem_nil, or_false, forall_eq_or_imp, forall_eq, beq_iff_eq] at hp
  obtain ⟨rfl, rfl⟩ := hp
  have e : ∀ (r : W64) (i : Int), atHead (evCode T S3 L20 31 N (loopOf Try.f20 0)) (L20 (firstR (loopOf Try.f20 0))) ⟨[(0, .u 64 v), (1, .i .i64 w), (5, .u 64 r), (6, .i .i64 i)], [], [], 0⟩ =
      Tr.ite (if isW w = true then decide (i < 64) else false)
        (.leaf (.normal, ⟨[(0, .u 64 v), (1, .i .i64 w), (5, .u 64 (r + bitB (v.getLsbD (BitVec.ofInt 64 (IntKind.i64.wrap (IntKind.i64.wrap (8 * w) - 1))).toNat) <<< (BitVec.ofInt 64 i).toNat)), (6, .i .i64 (IntKind.i64.wrap (i + 1)))], [], [], 0⟩))
        (.leaf (.exit 0, ⟨[(0, .u 64 v), (1, .i .i64 w), (5, .u 64 r), (6, .i .i64 i)], [], [], 0⟩)) := fun r i => by kernel_rfl
  cases hw : isW w with
  | false =>
    refine ⟨1, iter_for (fun _ => ⟨[(0, .u 64 v), (1, .i .i64 w), (5, .u 64 (zx v w)), (6, .i .i64 (IntKind.i64.wrap (8 * w)))], [], [], 0⟩) 0 (fun j hj => by omega) ?_ (by simp)⟩
    rw [e]
    simp [Tr.run, hw, sx, zx, low, nb, sumBits]
  | true =>
  have h64 := nb_le w
  refine ⟨64 - nb w + 1, ?_⟩
  have hz : zx v w = sumBits (fun j => v.getLsbD (min j (nb w - 1))) (nb w + 0) := sumBits_congr fun j hj => by rw [show min j (nb w - 1) = j by omega]
  rw [wrap8 hw, hz]
  refine iter_for (fun j => ⟨[(0, .u 64 v), (1, .i .i64 w), (5, .u 64 (sumBits (fun j => v.getLsbD (min j (nb w - 1))) (nb w + j))), (6, .i .i64 ((nb w + j : Nat) : Int))], [], [], 0⟩) (64 - nb w) ?_ ?_ (by simp)
  · intro j hj
    have hp := nb_pos hw
    rw [e, top_nb hw, wrap_succ (nb w + j) (by omega), ofInt_nat (nb w + j) (by omega), ofInt_nat (nb w - 1) (by omega)]
    simp only [Tr.run, hw, if_true]
    rw [if_pos (by simp; omega)]
    have e1 : min (nb w + j) (nb w - 1) = nb w - 1 := by omega
    have e2 := sumBits_succ (fun j => v.getLsbD (min j (nb w - 1))) (nb w + j)
    simp only [e1] at e2
    rw [← Nat.add_assoc, e2]
  · rw [e]
    have e2 : nb w + (64 - nb w) = 64 := by omega
    simp only [Tr.run, hw, if_true, e2]
    simp [sx, hw]
theorem ok20 : FnOk Try.prog 20 s19 := FnOk.of tyOk S3_ok mixed Try.func20 (by kernel_rfl) (by kernel_rfl) <| by
  intro xs r hs
  unfold s19 at hs; split at hs <;> cases hs
  rename_i v w
  intro hp _ _ _ _
  refine ⟨1, FnLoops.one (by kernel_rfl) (loop20 1), ?_⟩
  have e : evFn T S3 L20 1 Try.f20 [.u 64 v, .i .i64 w] = Tr.need (zx v w == zx v w) (Tr.need (IntKind.i64.wrap (8 * w) == IntKind.i64.wrap (8 * w)) (.leaf (.u 64 (sx v w)))) := by kernel_rfl
  rw [e]
  simp [Tr.run]

abbrev S4 := withS (withS (withS (withS S3 19 s19) 20 s19) 21 s21) 22 s21
theorem S4_ok : ∀ f, FnOk Try.prog f (S4 f) := withS_ok (withS_ok (withS_ok (withS_ok S3_ok ok19) ok20) ok21) ok22

def s24 : CSpec | [.u 64 a, .u 64 b, .b c, .i .i64 w] => some ⟨[], .tup [.u 64 (sum1 a b c w), .b (sum2 a b c w), .b (sum3 a b c w)]⟩ | _ => none
def s26 : CSpec | [.u 64 a, .u 64 b, .b c, .i .i64 w] => some ⟨[], .tup [.u 64 (sum1 a (~~~ b) (!c) w), .b (isW w && !sum2 a (~~~ b) (!c) w), .b (sum3 a (~~~ b) (!c) w)]⟩ | _ => none
theorem bitB_le (c : Bool) : (bitB c).toNat ≤ 1 := by cases c <;> decide
theorem sum_none (a b : W64) (c : Bool) {w : Int} (h : isW w = false) : sum1 a b c w = 0#64 ∧ sum2 a b c w = false ∧ sum3 a b c w = false := by
  simp [sum1, sum2, sum3, h, nb, low, sumBits]
theorem ok24 : FnOk Try.prog 24 s24 := okBy S4_ok Try.func24 (by kernel_rfl) (by kernel_rfl) 1 <| by
  intro xs r hs
  unfold s24 at hs; split at hs <;> cases hs
  rename_i a b c w
  intro hp _
  have e : evFn T S4 noL 1 Try.f24 [.u 64 a, .u 64 b, .b c, .i .i64 w] = Tr.ite (!isW w) (.leaf (.tup [.u 64 0#64, .b false, .b false]))
    (Tr.need (decide ((bitB c).toNat ≤ 1)) (.leaf (.tup [.u 64 (zx (add1 (zx a w) (zx b w) (bitB c)) w),
      .b (if (add2 (zx a w) (zx b w) (bitB c) == 1#64) = true then true else add1 (zx a w) (zx b w) (bitB c) != zx (add1 (zx a w) (zx b w) (bitB c)) w),
      .b (neg ((zx a w ^^^ zx (add1 (zx a w) (zx b w) (bitB c)) w) &&& (zx b w ^^^ zx (add1 (zx a w) (zx b w) (bitB c)) w)) w)]))) := by kernel_rfl
  rw [e]
  cases h : isW w with
  | false => obtain ⟨h1, h2, h3⟩ := sum_none a b c h; simp [Tr.run, h1, h2, h3]
  | true =>
    simp only [add1, add2]
    have k := sum2_eq a b c h
    simp only [sum1_eq, sum3_eq a b c h] at k ⊢
    simp [Tr.run, bitB_le]
    simpa using k
theorem ok26 : FnOk Try.prog 26 s26 := okBy S4_ok Try.func26 (by kernel_rfl) (by kernel_rfl) 1 <| by
  intro xs r hs
  unfold s26 at hs; split at hs <;> cases hs
  rename_i a b c w
  intro hp _
  have e : evFn T S4 noL 1 Try.f26 [.u 64 a, .u 64 b, .b c, .i .i64 w] = Tr.ite (!isW w) (.leaf (.tup [.u 64 0#64, .b false, .b false]))
    (Tr.need (decide ((bitB c).toNat ≤ 1)) (.leaf (.tup [.u 64 (zx (sub1 (zx a w) (zx b w) (bitB c)) w),
      .b (sub2 (zx a w) (zx b w) (bitB c) == 1#64),
      .b (neg ((zx a w ^^^ zx b w) &&& (zx a w ^^^ zx (sub1 (zx a w) (zx b w) (bitB c)) w)) w)]))) := by kernel_rfl
  rw [e]
  cases h : isW w with
  | false => obtain ⟨h1, h2, h3⟩ := sum_none a (~~~ b) (!c) h; simp [Tr.run, h1, h2, h3]
  | true =>
    simp only [sub1, sub2, less1_eq, less3_eq a b c h, less2_eq a b c h]
    simp [Tr.run, bitB_le]
end Go.Proofs.Ytffihbfmdmlbcaa
namespace Go.Proofs.Ytffihbfmdmlbcaa
open Go.Proofs.Ytffihbfmdmlbcaa.Ev
abbrev S5 := withS (withS S4 24 s24) 26 s26
theorem S5_ok : ∀ f, FnOk Try.prog f (S5 f) := withS_ok (withS_ok S4_ok ok24) ok26
theorem col_mod (x y z : Bool) : (bitB x + bitB y + bitB z) % 2#64 = bitB (x ^^ (y ^^ z)) := by cases x <;> cases y <;> cases z <;> rfl
theorem col_div (x y z : Bool) : (bitB x + bitB y + bitB z) / 2#64 = bitB (Bool.atLeastTwo x y z) := by cases x <;> cases y <;> cases z <;> rfl
theorem carry_zero (a b : W64) (c : Bool) : BitVec.carry 0 a b c = c := by cases c <;> simp [BitVec.carry, Nat.mod_one]
theorem low_succ (v : W64) (j : Nat) : low v (j + 1) = low v j + bitB (v.getLsbD j) <<< j := rfl
def q25 : St → Option LRes
  | ⟨[(0, .u 64 a), (1, .u 64 b), (2, .b x), (3, .i .i64 w), (11, .u 64 r), (12, .u 64 c), (13, .u 64 d), (14, .i .i64 i)], [], [], _⟩ =>
    some ⟨[isW w, r == 0#64, c == bitB x, d == bitB x, i == 0], .exit 0, [(0, .u 64 a), (1, .u 64 b), (2, .b x), (3, .i .i64 w), (11, .u 64 (sum1 a b x w)), (12, .u 64 (bitB (BitVec.carry (nb w) a b x))), (13, .u 64 (bitB (BitVec.carry (nb w - 1) a b x))), (14, .i .i64 (nb w))], [], []⟩
  | _ => none
def L25 : Nat → Live := fun _ => ⟨[0, 1, 2, 3, 11, 12, 13, 14], [], [], some (evSum q25)⟩
theorem loop25 (N : Nat) : LoopOk T S5 L25 53 N (loopOf Try.f25 0) := LoopOk.of rfl <| by
  intro τ r hcut hr
  unfold q25 at hr; split at hr <;> cases hr
  rename_i a b x w r c d i k
  obtain rfl : k = 0 := hcut
  intro hp
  simp only [List.mem_cons, List.not_mem_nil, or_false, forall_eq_or_imp, forall_eq, beq_iff_eq] at hp
  obtain ⟨hw, rfl, rfl, rfl, rfl⟩ := hp
  have e : ∀ (r c d : W64) (i : Int), (atHead (evCode T S5 L25 53 N (loopOf Try.f25 0)) (L25 (firstR (loopOf Try.f25 0))) ⟨[(0, .u 64 a), (1, .u 64 b), (2, .b x), (3, .i .i64 w), (11, .u 64 r), (12, .u 64 c), (13, .u 64 d), (14, .i .i64 i)], [], [], 0⟩).run =
      if decide (i < IntKind.i64.wrap (8 * w)) = true then
        some (.normal, ⟨[(0, .u 64 a), (1, .u 64 b), (2, .b x), (3, .i .i64 w), (11, .u 64 (r + ((bitB (a.getLsbD (BitVec.ofInt 64 i).toNat) + bitB (b.getLsbD (BitVec.ofInt 64 i).toNat) + c) % 2#64) <<< (BitVec.ofInt 64 i).toNat)),
          (12, .u 64 ((bitB (a.getLsbD (BitVec.ofInt 64 i).toNat) + bitB (b.getLsbD (BitVec.ofInt 64 i).toNat) + c) / 2#64)), (13, .u 64 c), (14, .i .i64 (IntKind.i64.wrap (i + 1)))], [], [], 0⟩)
      else some (.exit 0, ⟨[(0, .u 64 a), (1, .u 64 b), (2, .b x), (3, .i .i64 w), (11, .u 64 r), (12, .u 64 c), (13, .u 64 d), (14, .i .i64 i)], [], [], 0⟩) := fun r c d i => by kernel_rfl
  have h64 := nb_le w
  have e0 : ([(0, .u 64 a), (1, .u 64 b), (2, .b x), (3, .i .i64 w), (11, .u 64 0#64), (12, .u 64 (bitB x)), (13, .u 64 (bitB x)), (14, .i .i64 0)] : List (Nat × AV)) =
     [(0, .u 64 a), (1, .u 64 b), (2, .b x), (3, .i .i64 w), (11, .u 64 (low (a + b + bitB x) 0)), (12, .u 64 (bitB (BitVec.carry 0 a b x))), (13, .u 64 (bitB (BitVec.carry (0 - 1) a b x))), (14, .i .i64 ((0 : Nat) : Int))] := by
    rw [show 0 - 1 = 0 from rfl, carry_zero]; rfl
  rw [e0]
  refine ⟨nb w + 1, iter_for (fun j => ⟨[(0, .u 64 a), (1, .u 64 b), (2, .b x), (3, .i .i64 w), (11, .u 64 (low (a + b + bitB x) j)), (12, .u 64 (bitB (BitVec.carry j a b x))), (13, .u 64 (bitB (BitVec.carry (j - 1) a b x))), (14, .i .i64 (j : Int))], [], [], 0⟩) (nb w) ?_ ?_ (by simp)⟩
  · intro j hj
    have hj64 : j < 64 := by omega
    rw [e, wrap8 hw, wrap_succ j (by omega), ofInt_nat j (by omega), col_mod, col_div, ← sum_bit a b x hj64, ← BitVec.carry_succ, ← low_succ]
    rw [if_pos (by simpa using hj)]
    rfl
  · rw [e, wrap8 hw]
    simp [sum1]
theorem ok25 : FnOk Try.prog 25 s24 := FnOk.of tyOk S5_ok mixed Try.func25 (by kernel_rfl) (by kernel_rfl) <| by
  intro xs r hs
  unfold s24 at hs; split at hs <;> cases hs
  rename_i a b c w
  intro hp _ _ _ _
  refine ⟨1, FnLoops.one (by kernel_rfl) (loop25 1), ?_⟩
  have e : evFn T S5 L25 1 Try.f25 [.u 64 a, .u 64 b, .b c, .i .i64 w] = Tr.ite (!isW w) (.leaf (.tup [.u 64 0#64, .b false, .b false]))
    (Tr.need (isW w) (Tr.need true (Tr.need (bitB c == bitB c) (Tr.need (bitB c == bitB c) (Tr.need true
      (.leaf (.tup [.u 64 (sum1 a b c w), .b (bitB (BitVec.carry (nb w) a b c) == 1#64), .b (bitB (BitVec.carry (nb w) a b c) != bitB (BitVec.carry (nb w - 1) a b c))]))))))) := by kernel_rfl
  rw [e]
  cases h : isW w with
  | false => obtain ⟨h1, h2, h3⟩ := sum_none a b c h; simp [Tr.run, h1, h2, h3]
  | true =>
    have hb : ∀ x y : Bool, (bitB x != bitB y) = (x != y) := by intro x y; cases x <;> cases y <;> rfl
    simp only [bitB_is, hb]
    simp [Tr.run, sum2, sum3, h]
abbrev S6 := withS S5 25 s24
theorem S6_ok : ∀ f, FnOk Try.prog f (S6 f) := withS_ok S5_ok ok25
theorem ok27 : FnOk Try.prog 27 s26 := okBy S6_ok Try.func27 (by kernel_rfl) (by kernel_rfl) 1 <| by
  intro xs r hs
  unfold s26 at hs; split at hs <;> cases hs
  rename_i a b c w
  intro hp _
  have e : evFn T S6 noL 1 Try.f27 [.u 64 a, .u 64 b, .b c, .i .i64 w] = .leaf (.tup [.u 64 (sum1 a (18446744073709551615#64 - b) (!c) w), .b (if isW w = true then !sum2 a (18446744073709551615#64 - b) (!c) w else false), .b (sum3 a (18446744073709551615#64 - b) (!c) w)]) := by kernel_rfl
  rw [e, show (18446744073709551615#64 - b) = ~~~ b from BitVec.allOnes_sub_eq_not b]
  cases h : isW w <;> simp [Tr.run]
end Go.Proofs.Ytffihbfmdmlbcaa
namespace Go.Proofs.Ytffihbfmdmlbcaa
open Go.Proofs.Ytffihbfmdmlbcaa.Ev
abbrev S7 := withS S6 27 s26
theorem S7_ok : ∀ f, FnOk Try.prog f (S7 f) := withS_ok S6_ok ok27
def s28 : CSpec | [.u 64 v, .i .i64 k, .i .i64 w] => some ⟨[], .u 64 (turn v k w)⟩ | _ => none
theorem turn_none (v : W64) (k : Int) {w : Int} (h : isW w = false) : turn v k w = 0#64 := by simp [turn, nb, h, turnN, sumBits]
theorem wrap_turn (k : Int) {n : Nat} (h0 : 0 < n) (h : n ≤ 64) : IntKind.i64.wrap (k.tmod n + n) = k.tmod n + n := by
  obtain ⟨_, h1, h2⟩ := tmod_turn k h0 h
  rw [wrap_small] <;> omega
theorem turn_mod (k : Int) {n : Nat} (h0 : 0 < n) (h : n ≤ 64) : (IntKind.i64.wrap (k.tmod n + n)).tmod n = k % n := by
  obtain ⟨h1, h2, h3⟩ := tmod_turn k h0 h
  rw [wrap_turn k h0 h, Int.tmod_eq_emod_of_nonneg (by omega), h1]
theorem ok28 : FnOk Try.prog 28 s28 := okBy S7_ok Try.func28 (by kernel_rfl) (by kernel_rfl) 1 <| by
  intro xs r hs
  unfold s28 at hs; split at hs <;> cases hs
  rename_i v k w
  intro hp _
  have e : (evFn T S7 noL 1 Try.f28 [.u 64 v, .i .i64 k, .i .i64 w]).run = if (!isW w) = true then some (.u 64 0#64) else
    if (!IntKind.i64.wrap (8 * w) == 0) = true then if (!IntKind.i64.wrap (8 * w) == 0) = true then
    if decide (0 ≤ IntKind.i64.wrap (IntKind.i64.wrap (8 * w) - (IntKind.i64.wrap (k.tmod (IntKind.i64.wrap (8 * w)) + IntKind.i64.wrap (8 * w))).tmod (IntKind.i64.wrap (8 * w)))) = true then
    if decide (0 ≤ (IntKind.i64.wrap (k.tmod (IntKind.i64.wrap (8 * w)) + IntKind.i64.wrap (8 * w))).tmod (IntKind.i64.wrap (8 * w))) = true then
    some (.u 64 (zx (zx v w <<< ((IntKind.i64.wrap (k.tmod (IntKind.i64.wrap (8 * w)) + IntKind.i64.wrap (8 * w))).tmod (IntKind.i64.wrap (8 * w))).toNat |||
       zx v w >>> (IntKind.i64.wrap (IntKind.i64.wrap (8 * w) - (IntKind.i64.wrap (k.tmod (IntKind.i64.wrap (8 * w)) + IntKind.i64.wrap (8 * w))).tmod (IntKind.i64.wrap (8 * w)))).toNat) w)) else none else none else none else none := by kernel_rfl
  rw [e]
  cases h : isW w with
  | false => simp [turn_none v k h]
  | true =>
    have h0 := nb_pos h
    have h64 := nb_le w
    rw [wrap8 h, turn_mod k h0 h64]
    have hm0 := Int.emod_nonneg k (by omega : (nb w : Int) ≠ 0)
    have hm1 := Int.emod_lt_of_pos k (by omega : (0 : Int) < nb w)
    rw [wrap_small ((nb w : Int) - k % (nb w : Int)) (by omega) (by omega)]
    have e1 : ((nb w : Int) - k % (nb w : Int)).toNat = nb w - (k % (nb w : Int)).toNat := by omega
    have c1 : (!((nb w : Int) == 0)) = true := by simp; omega
    simp only [c1, Bool.not_true, Bool.false_eq_true, if_false, if_true]
    rw [if_pos (by simp; omega), if_pos (by simpa using hm0), e1]
    have := turn_code v (m := (k % (nb w : Int)).toNat) (n := nb w) (by omega) h64
    simp only [zx] at this ⊢
    rw [this]
    rfl

def q31 : St → Option LRes
  | ⟨[(0, .u 64 v), (1, .i .i64 k), (7, .i .i64 n), (8, .u 64 r), (9, .i .i64 i)], [], [], _⟩ => some ⟨[decide (0 ≤ k), decide (k < n), decide (n ≤ 64), r == 0#64, i == 0], .exit 0, [(0, .u 64 v), (1, .i .i64 k), (7, .i .i64 n), (8, .u 64 (turnN v k.toNat n.toNat)), (9, .i .i64 n)], [], []⟩
  | _ => none
def L31 : Nat → Live := fun _ => ⟨[0, 1, 7, 8, 9], [], [], some (evSum q31)⟩
theorem loop31 (N : Nat) : LoopOk T S7 L31 41 N (loopOf Try.f31 0) := LoopOk.of rfl <| by
  intro τ r hcut hr
  unfold q31 at hr; split at hr <;> cases hr
  rename_i v k n r i c
  obtain rfl : c = 0 := hcut
  intro hp
  simp only [List.mem_cons, List.not_mem_nil, or_false, forall_eq_or_imp, forall_eq, beq_iff_eq, decide_eq_true_eq] at hp
  obtain ⟨hk, hkn, hn, rfl, rfl⟩ := hp
  have e : ∀ (r : W64) (i : Int), (atHead (evCode T S7 L31 41 N (loopOf Try.f31 0)) (L31 (firstR (loopOf Try.f31 0))) ⟨[(0, .u 64 v), (1, .i .i64 k), (7, .i .i64 n), (8, .u 64 r), (9, .i .i64 i)], [], [], 0⟩).run =
      if decide (i < n) = true then if (!n == 0) = true then
        some (.normal, ⟨[(0, .u 64 v), (1, .i .i64 k), (7, .i .i64 n), (8, .u 64 (r + bitB (v.getLsbD (BitVec.ofInt 64 i).toNat) <<< (BitVec.ofInt 64 ((IntKind.i64.wrap (i + k)).tmod n)).toNat)), (9, .i .i64 (IntKind.i64.wrap (i + 1)))], [], [], 0⟩) else none
      else some (.exit 0, ⟨[(0, .u 64 v), (1, .i .i64 k), (7, .i .i64 n), (8, .u 64 r), (9, .i .i64 i)], [], [], 0⟩) := fun r i => by kernel_rfl
  obtain ⟨m, rfl⟩ : ∃ m : Nat, k = m := ⟨k.toNat, by omega⟩
  obtain ⟨n, rfl⟩ : ∃ m : Nat, n = m := ⟨n.toNat, by omega⟩
  have hm : m < n := by omega
  rw [← part_zero v m n, Int.toNat_natCast, Int.toNat_natCast, ← part_all v (by omega : 0 < n)]
  refine ⟨n + 1, iter_for (fun j => ⟨[(0, .u 64 v), (1, .i .i64 (m : Int)), (7, .i .i64 (n : Int)), (8, .u 64 (part v m n j)), (9, .i .i64 (j : Int))], [], [], 0⟩) n ?_ ?_ (by simp)⟩
  · intro j hj
    have e1 : IntKind.i64.wrap ((j : Int) + (m : Int)) = ((j + m : Nat) : Int) := by rw [wrap_small] <;> omega
    have e2 : (((j + m : Nat) : Int).tmod (n : Int)) = (((j + m) % n : Nat) : Int) := rfl
    have e3 : (j + m) % n < n := Nat.mod_lt _ (by omega)
    rw [e, wrap_succ j (by omega), ofInt_nat j (by omega), e1, e2, ofInt_nat _ (by omega), part_succ v hm hj (by omega), if_pos (by simpa using hj), if_pos (by simp; omega)]
  · rw [e, if_neg (by simp)]
theorem ok31 : FnOk Try.prog 31 s28 := FnOk.of tyOk S7_ok mixed Try.func31 (by kernel_rfl) (by kernel_rfl) <| by
  intro xs r hs
  unfold s28 at hs; split at hs <;> cases hs
  rename_i v k w
  intro hp _ _ _ _
  refine ⟨1, FnLoops.one (by kernel_rfl) (loop31 1), ?_⟩
  have e : ∀ n : Int, n = IntKind.i64.wrap (8 * w) → (evFn T S7 L31 1 Try.f31 [.u 64 v, .i .i64 k, .i .i64 w]).run = if (!isW w) = true then some (.u 64 0#64) else
     if (!n == 0) = true then 
     if decide (0 ≤ if decide (k.tmod n < 0) = true then IntKind.i64.wrap (k.tmod n + n) else k.tmod n) = true then
     if decide ((if decide (k.tmod n < 0) = true then IntKind.i64.wrap (k.tmod n + n) else k.tmod n) < n) = true then
     if decide (n ≤ 64) = true then some (.u 64 (turnN v (if decide (k.tmod n < 0) = true then IntKind.i64.wrap (k.tmod n + n) else k.tmod n).toNat n.toNat)) else none else none else none else none := fun n hn => by subst hn; kernel_rfl
  rw [e _ rfl]
  cases h : isW w with
  | false => simp [turn_none v k h]
  | true =>
    have h0 := nb_pos h
    have h64 := nb_le w
    have hm0 := Int.emod_nonneg k (by omega : (nb w : Int) ≠ 0)
    have hm1 := Int.emod_lt_of_pos k (by omega : (0 : Int) < nb w)
    obtain ⟨t1, t2, t3⟩ := tmod_turn k h0 h64
    have c0 : (if decide (k.tmod (nb w : Int) < 0) = true then IntKind.i64.wrap (k.tmod (nb w : Int) + (nb w : Int)) else k.tmod (nb w : Int)) = k % (nb w : Int) := by
      rw [wrap_turn k h0 h64]
      have hs : k.tmod (nb w : Int) % (nb w : Int) = k % (nb w : Int) := by rw [← t1, Int.add_emod_right]
      split
      · rename_i hc
        have hc : k.tmod (nb w : Int) < 0 := by simpa using hc
        rw [← t1, Int.emod_eq_of_lt (by omega) (by omega)]
      · rename_i hc
        have hc : ¬ k.tmod (nb w : Int) < 0 := by simpa using hc
        rw [← hs, Int.emod_eq_of_lt (by omega) (by omega)]
    rw [wrap8 h, c0]
    have c1 : (!((nb w : Int) == 0)) = true := by simp; omega
    simp only [c1, Bool.not_true, Bool.false_eq_true, if_false, if_true]
    rw [if_pos (by simpa using hm0), if_pos (by simpa using hm1), if_pos (by simp; omega)]
    rfl

/- counting -/
def s56 : CSpec | [.u 64 v] => some ⟨[], .i .i64 (popN v.getLsbD 64)⟩ | _ => none
def s62 : CSpec | [.u 8 v] => some ⟨[], .i .i64 (popN v.getLsbD 8)⟩ | _ => none
def q56 : St → Option LRes
  | ⟨[(0, .u 64 v), (3, .i .i64 n), (4, .i .i64 i)], [], [], _⟩ => some ⟨[n == 0, i == 0], .exit 0, [(0, .u 64 v), (3, .i .i64 (popN v.getLsbD 64)), (4, .i .i64 64)], [], []⟩
  | _ => none
def L56 : Nat → Live := fun _ => ⟨[0, 3, 4], [], [], some (evSum q56)⟩
theorem loop56 (N : Nat) : LoopOk T S7 L56 16 N (loopOf Try.f56 0) := LoopOk.of rfl <| by
  intro τ r hcut hr
  unfold q56 at hr; split at hr <;> cases hr
  rename_i v n i c
  obtain rfl : c = 0 := hcut
  intro hp
  simp only [List.mem_cons, List.not_mem_nil, or_false, forall_eq_or_imp, forall_eq, beq_iff_eq, decide_eq_true_eq] at hp
  obtain ⟨rfl, rfl⟩ := hp
  have e : ∀ (n : Int) (i : Int), (atHead (evCode T S7 L56 16 N (loopOf Try.f56 0)) (L56 (firstR (loopOf Try.f56 0))) ⟨[(0, .u 64 v), (3, .i .i64 n), (4, .i .i64 i)], [], [], 0⟩).run =
      if decide (i < 64) = true then 
        some (.normal, ⟨[(0, .u 64 v), (3, .i .i64 (IntKind.i64.wrap (n + IntKind.i64.wrap ((bitB (v.getLsbD (BitVec.ofInt 64 i).toNat)).toNat : Int)))), (4, .i .i64 (IntKind.i64.wrap (i + 1)))], [], [], 0⟩)
      else some (.exit 0, ⟨[(0, .u 64 v), (3, .i .i64 n), (4, .i .i64 i)], [], [], 0⟩) := fun r i => by kernel_rfl
  refine ⟨64 + 1, iter_for (fun j => ⟨[(0, .u 64 v), (3, .i .i64 (popN v.getLsbD j : Int)), (4, .i .i64 (j : Int))], [], [], 0⟩) 64 ?_ ?_ (by simp)⟩
  · intro j hj
    have := popN_le v.getLsbD j
    have hb := (v.getLsbD j).toNat_le
    rw [e, wrap_succ j (by omega), ofInt_nat j (by omega), if_pos (by simp; omega), bitB_toNat, wrap_small ((v.getLsbD j).toNat : Int) (by omega) (by omega), wrap_small _ (by omega) (by omega)]
    rfl
  · rw [e, if_neg (by simp)]; rfl
theorem ok56 : FnOk Try.prog 56 s56 := FnOk.of tyOk S7_ok mixed Try.func56 (by kernel_rfl) (by kernel_rfl) <| by
  intro xs r hs
  unfold s56 at hs; split at hs <;> cases hs
  rename_i v
  intro hp _ _ _ _
  exact ⟨1, FnLoops.one (by kernel_rfl) (loop56 1), by kernel_rfl⟩
def tab8 : List UInt8 := [0, 1, 1, 2, 1, 2, 2, 3, 1, 2, 2, 3, 2, 3, 3, 4, 1, 2, 2, 3, 2, 3, 3, 4, 2, 3, 3, 4, 3, 4, 4, 5, 1, 2, 2, 3, 2, 3, 3, 4, 2, 3, 3, 4, 3, 4, 4, 5, 2, 3, 3, 4, 3, 4, 4, 5, 3, 4, 4, 5, 4, 5, 5, 6, 1, 2, 2, 3, 2, 3, 3, 4, 2, 3, 3, 4, 3, 4, 4, 5, 2, 3, 3, 4, 3, 4, 4, 5, 3, 4, 4, 5, 4, 5, 5, 6, 2, 3, 3, 4, 3, 4, 4, 5, 3, 4, 4, 5, 4, 5, 5, 6, 3, 4, 4, 5, 4, 5, 5, 6, 4, 5, 5, 6, 5, 6, 6, 7, 1, 2, 2, 3, 2, 3, 3, 4, 2, 3, 3, 4, 3, 4, 4, 5, 2, 3, 3, 4, 3, 4, 4, 5, 3, 4, 4, 5, 4, 5, 5, 6, 2, 3, 3, 4, 3, 4, 4, 5, 3, 4, 4, 5, 4, 5, 5, 6, 3, 4, 4, 5, 4, 5, 5, 6, 4, 5, 5, 6, 5, 6, 6, 7, 2, 3, 3, 4, 3, 4, 4, 5, 3, 4, 4, 5, 4, 5, 5, 6, 3, 4, 4, 5, 4, 5, 5, 6, 4, 5, 5, 6, 5, 6, 6, 7, 3, 4, 4, 5, 4, 5, 5, 6, 4, 5, 5, 6, 5, 6, 6, 7, 4, 5, 5, 6, 5, 6, 6, 7, 5, 6, 6, 7, 6, 7, 7, 8]
theorem tab8_all : ∀ n : Fin 256, (tab8.getD n.val 0).toNat = popN (BitVec.ofNat 8 n.val).getLsbD 8 := by decide +kernel
theorem tab8_at (v : BitVec 8) : (tab8.getD v.toNat 0).toNat = popN v.getLsbD 8 := by
  have := tab8_all ⟨v.toNat, v.isLt⟩
  simpa using this
theorem ok62 : FnOk Try.prog 62 s62 := okBy S7_ok Try.func62 (by kernel_rfl) (by kernel_rfl) 1 <| by
  intro xs r hs
  unfold s62 at hs; split at hs <;> cases hs
  rename_i v
  intro hp _
  have e : (evFn T S7 noL 1 Try.f62 [.u 8 v]).run = if decide (0 ≤ (v.toNat : Int)) = true then if decide ((v.toNat : Int) < 256) = true then some (.i .i64 (IntKind.i64.wrap ((tab8.getD v.toNat 0).toNat : Int))) else none else none := by kernel_rfl
  have h := popN_le v.getLsbD 8
  have hv := v.isLt
  rw [e, tab8_at, wrap_small _ (by omega) (by omega), if_pos (by simp), if_pos (by simp; omega)]
abbrev S8 := withS (withS (withS (withS S7 28 s28) 31 s28) 56 s56) 62 s62
theorem S8_ok : ∀ f, FnOk Try.prog f (S8 f) := withS_ok (withS_ok (withS_ok (withS_ok S7_ok ok28) ok31) ok56) ok62
def s29 : CSpec | [.u 64 v] => some ⟨[], .b ((popN v.getLsbD 8 : Int).tmod 2 == 0)⟩ | _ => none
theorem ok29 : FnOk Try.prog 29 s29 := okBy S8_ok Try.func29 (by kernel_rfl) (by kernel_rfl) 1 <| by
  intro xs r hs
  unfold s29 at hs; split at hs <;> cases hs
  rename_i v
  intro hp _
  have e : (evFn T S8 noL 1 Try.f29 [.u 64 v]).run = some (.b ((popN (v.setWidth 8).getLsbD 8 : Int).tmod 2 == 0)) := by kernel_rfl
  rw [e, popN_congr (g := v.getLsbD) (fun j hj => by simp [hj])]
theorem ok30 : FnOk Try.prog 30 s29 := okBy S8_ok Try.func30 (by kernel_rfl) (by kernel_rfl) 1 <| by
  intro xs r hs
  unfold s29 at hs; split at hs <;> cases hs
  rename_i v
  intro hp _
  have e : (evFn T S8 noL 1 Try.f30 [.u 64 v]).run = some (.b ((popN (v % 256#64).getLsbD 64 : Int).tmod 2 == 0)) := by kernel_rfl
  have hg : ∀ j, (v % 256#64).getLsbD j = (decide (j < 8) && v.getLsbD j) := fun j => by
    rw [BitVec.getLsbD, BitVec.toNat_umod, show (256#64).toNat = 2 ^ 8 from rfl, Nat.testBit_mod_two_pow]; rfl
  have h8 : popN (v % 256#64).getLsbD 64 = popN (v % 256#64).getLsbD 8 := popN_above (n := 8) (d := 56) (fun j hj => by rw [hg]; simp; omega)
  rw [e, h8, popN_congr (g := v.getLsbD) (fun j hj => by rw [hg]; simp [hj])]
abbrev S9 := withS (withS S8 29 s29) 30 s29
theorem S9_ok : ∀ f, FnOk Try.prog f (S9 f) := withS_ok (withS_ok S8_ok ok29) ok30
def sTrue : CSpec | [] => some ⟨[], .b true⟩ | _ => none
theorem ok23 : FnOk Try.prog 23 sTrue := okBy S9_ok Try.func23 (by kernel_rfl) (by kernel_rfl) 1 <| by
  intro xs r hs
  unfold sTrue at hs; split at hs <;> cases hs
  intro hp _
  kernel_rfl
abbrev SB := withS S9 23 sTrue
theorem SB_ok : ∀ f, FnOk Try.prog f (SB f) := withS_ok S9_ok ok23
end Go.Proofs.Ytffihbfmdmlbcaa
namespace Go.Proofs.Ytffihbfmdmlbcaa
open Go.Proofs.Ytffihbfmdmlbcaa.Ev Go.RowKit
/-- A law that is true, as a call. -/
theorem law_calls {S : FuncId → CSpec} (hS : ∀ f, FnOk Try.prog f (S f)) {L : Nat → Live} {N : Nat} {f : FuncId} {fn : Func} (hf : Try.prog.funcs[f]? = some fn) (hL : FnLoops T S L N fn) {xs : List AV} (h : (evFn T S L N fn xs).run = some (.b true))
    {W : World} {R : Nat → Prop} (hR : ∀ b, R b → b < W.heap.size) {vs : List Value} (hvs : TR (baseC W R) xs vs) : Calls Try.prog f vs.toArray W fun e W' => e = .returned (.bool true) ∧ Below W.heap.size W W' := by
  refine (calls_ev tyOk hS mixed hf hL h hR hvs).mono fun e W' hd => ?_
  obtain ⟨v, rfl, R', hd⟩ := hd
  have hv := hd.res
  cases hv
  exact ⟨rfl, hd.fr.os, hd.fr.tape, hd.fr.output, hd.fr.size, fun k hk => hd.fr.block k hk (fun h => h)⟩
theorem noR (W : World) : ∀ b, (fun _ => False : Nat → Prop) b → b < W.heap.size := fun _ h => h.elim
theorem wf_u64 {a : Int} (h : (Lit.int .u64 a).wf = true) : ∃ x : W64, a = (x.toNat : Int) := by
  simp [Lit.wf, IntKind.min, IntKind.max, IntKind.signed, IntKind.bits] at h
  exact ⟨BitVec.ofInt 64 a, by rw [BitVec.toNat_ofInt]; omega⟩
theorem wf_u32 {a : Int} (h : (Lit.int .u32 a).wf = true) : ∃ x : BitVec 32, a = (x.toNat : Int) := by
  simp [Lit.wf, IntKind.min, IntKind.max, IntKind.signed, IntKind.bits] at h
  exact ⟨BitVec.ofInt 32 a, by rw [BitVec.toNat_ofInt]; omega⟩
theorem wf_i64 {a : Int} (h : (Lit.int .i64 a).wf = true) : IntKind.i64.has a := by
  simp only [Lit.wf, Bool.and_eq_true, decide_eq_true_eq] at h
  exact h

/- the four laws on widths, sums, turns: plain -/
theorem zx_get (v : W64) (w : Int) (j : Nat) : (zx v w).getLsbD j = (decide (j < nb w) && v.getLsbD j) := low_get v (nb_le w) j
theorem mask_is (w : Int) : maskW w = zx (BitVec.ofInt 64 18446744073709551615) w := by
  rw [zx, low_eq_and _ (nb_le w), maskW]
  apply BitVec.eq_of_getLsbD_eq
  intro j hj
  rw [BitVec.getLsbD_and, show (BitVec.ofInt 64 18446744073709551615) = BitVec.allOnes 64 from rfl]
  rw [BitVec.getLsbD_allOnes]
  simp only [hj, decide_true, Bool.true_and]
theorem zx_sx (v : W64) (w : Int) : zx (sx v w) w = zx v w := by
  apply BitVec.eq_of_getLsbD_eq
  intro j hj
  rw [zx_get, zx_get]
  cases h : isW w with
  | false => simp [nb, h]
  | true =>
    by_cases hj' : j < nb w
    · simp only [hj', decide_true, Bool.true_and, sx, h, cond_true]
      rw [sumBits_get _ (Nat.le_refl _), show min j (nb w - 1) = j by omega]
      simp [hj]
    · simp [hj']
theorem sx_zx (v : W64) (w : Int) : sx (zx v w) w = sx v w := by
  cases h : isW w with
  | false => simp [sx, h]
  | true =>
    have := nb_pos h
    simp only [sx, h, cond_true]
    refine sumBits_congr fun j _ => ?_
    rw [zx_get, decide_eq_true (by omega : min j (nb w - 1) < nb w), Bool.true_and]
theorem law3 (v : W64) (w : Int) : (evFn T SB noL 1 Try.f3 [.u 64 v, .i .i64 w]).run = some (.b true) := by
  have e : (evFn T SB noL 1 Try.f3 [.u 64 v, .i .i64 w]).run = if (if (if (if (if (isW w != isW w) = true then true else maskW w != zx (BitVec.ofInt 64 18446744073709551615) w) = true then true else zx v w != zx v w) = true then true else sx v w != sx v w) = true then true else neg v w != neg v w) = true then some (.b false)
    else some (.b (if (if (zx (sx v w) w == zx v w) = true then sx (zx v w) w == sx v w else false) = true then true else false)) := by kernel_rfl
  rw [e, mask_is, zx_sx, sx_zx]
  simp
theorem law4 (a b : W64) (c : Bool) (w : Int) : (evFn T SB noL 1 Try.f4 [.u 64 a, .u 64 b, .b c, .i .i64 w]).run = some (.b true) := by
  have e : ∀ (p1 p2 : W64) (p3 p4 p5 p6 : Bool), p1 = sum1 a b c w → p2 = sum1 a (~~~ b) (!c) w → p3 = sum2 a b c w → p4 = sum3 a b c w → p5 = (isW w && !sum2 a (~~~ b) (!c) w) → p6 = sum3 a (~~~ b) (!c) w →
     (evFn T SB noL 1 Try.f4 [.u 64 a, .u 64 b, .b c, .i .i64 w]).run = some (.b (if (if (if (if (if (if (p1 == p1) = true then p3 == p3 else false) = true then p4 == p4 else false) = true then p2 == p2 else false) = true then p5 == p5 else false) = true then p6 == p6 else false) = true then true else false)) := by
    intro p1 p2 p3 p4 p5 p6 h1 h2 h3 h4 h5 h6; subst h1; subst h2; subst h3; subst h4; subst h5; subst h6; kernel_rfl
  rw [e _ _ _ _ _ _ rfl rfl rfl rfl rfl rfl]
  simp
theorem sum_back (a b : W64) (w : Int) : sum1 (sum1 a b false w) (~~~ b) true w = zx a w := by
  have hn := nb_le w
  have e2 : ∀ x, zx (zx x w - zx b w - bitB false) w = sum1 x (~~~ b) true w := fun x => less1_eq x b false w
  have e1 : sum1 (sum1 a b false w) (~~~ b) true w = sum1 (a + b) (~~~ b) true w := by
    rw [← e2, ← e2]
    congr 1
    rw [show sum1 a b false w = zx (a + b) w by simp [sum1, zx, bitB]]
    rw [show zx (zx (a + b) w) w = zx (a + b) w from by
      apply BitVec.eq_of_getLsbD_eq; intro j _; rw [zx_get, zx_get]; by_cases h : j < nb w <;> simp [h]]
  rw [e1, sum1, show a + b + ~~~ b + bitB true = a by
    rw [BitVec.not_eq_neg_add]; simp only [bitB, cond_true]
    rw [BitVec.add_assoc a b, BitVec.sub_eq_add_neg, ← BitVec.add_assoc b, ← BitVec.sub_eq_add_neg b b, BitVec.sub_self, BitVec.zero_add, BitVec.add_assoc, BitVec.add_comm (-1#64), ← BitVec.sub_eq_add_neg, BitVec.sub_self, BitVec.add_zero]]
  rfl
theorem carry_back (a b : W64) {w : Int} (h : isW w = true) : sum2 a b false w = !sum2 (sum1 a b false w) (~~~ b) true w := by
  have hn := nb_le w
  have hs : (sum1 a b false w).toNat = (a.toNat + b.toNat) % 2 ^ nb w := by
    rw [sum1, low_toNat _ hn]
    simp only [bitB, cond_false, BitVec.add_zero, BitVec.toNat_add]
    rw [Nat.mod_mod_of_dvd _ (Nat.pow_dvd_pow 2 hn)]
  have hb := Nat.mod_lt b.toNat (Nat.two_pow_pos (nb w))
  have ha := Nat.mod_lt a.toNat (Nat.two_pow_pos (nb w))
  simp only [sum2, h, Bool.true_and, carry_eq, low_not b hn, hs, Nat.mod_mod]
  rw [← decide_not, decide_eq_decide, Nat.add_mod]
  generalize a.toNat % 2 ^ nb w = x at *
  generalize b.toNat % 2 ^ nb w = y at *
  generalize 2 ^ nb w = m at *
  by_cases hc : m ≤ x + y
  · rw [show (x + y) % m = x + y - m from by rw [Nat.mod_eq_sub_mod hc, Nat.mod_eq_of_lt (by omega)]]
    simp; omega
  · rw [Nat.mod_eq_of_lt (by omega)]
    simp; omega
theorem law5 (a b : W64) (w : Int) : (evFn T SB noL 1 Try.f5 [.u 64 a, .u 64 b, .i .i64 w]).run = some (.b true) := by
  have e : (evFn T SB noL 1 Try.f5 [.u 64 a, .u 64 b, .i .i64 w]).run = some (.b (if (if (sum1 (sum1 a b false w) (~~~ b) true w == zx a w) = true then sum2 a b false w == (isW w && !sum2 (sum1 a b false w) (~~~ b) true w) else false) = true then true else false)) := by kernel_rfl
  rw [e, sum_back]
  cases h : isW w with
  | false => simp [(sum_none a b false h).2.1]
  | true => simp [carry_back a b h]
theorem turn_back (v : W64) (k w : Int) (h0 : -64 < k) (h1 : k < 64) : turn (turn v k w) (IntKind.i64.wrap (0 - k)) w = zx v w := by
  rw [wrap_small _ (by omega) (by omega)]
  cases h : isW w with
  | false => rw [turn_none _ _ h]; simp [zx, nb, h, low, sumBits]
  | true =>
    have hp := nb_pos h
    have hm0 := Int.emod_nonneg k (by omega : (nb w : Int) ≠ 0)
    have hm1 := Int.emod_lt_of_pos k (by omega : (0 : Int) < nb w)
    have hp0 := Int.emod_nonneg (0 - k) (by omega : (nb w : Int) ≠ 0)
    have hp1 := Int.emod_lt_of_pos (0 - k) (by omega : (0 : Int) < nb w)
    refine turn_turn v (by omega) (by omega) (nb_le w) ?_
    rcases nb_cases h with e | e | e | e <;> rw [e] at * <;> omega
theorem law6 (v : W64) (k w : Int) : (evFn T SB noL 1 Try.f6 [.u 64 v, .i .i64 k, .i .i64 w]).run = some (.b true) := by
  have e : ∀ p : Bool, p = ((popN v.getLsbD 8 : Int).tmod 2 == 0) → (evFn T SB noL 1 Try.f6 [.u 64 v, .i .i64 k, .i .i64 w]).run = if (if (p != p) = true then true else turn v k w != turn v k w) = true then some (.b false) else
      some (.b (if (turn (turn v (k.tmod 64) w) (IntKind.i64.wrap (0 - k.tmod 64)) w == zx v w) = true then true else false)) := fun p hp => by subst hp; kernel_rfl
  rw [e _ rfl, turn_back v _ w (Int.lt_tmod_of_pos k (by omega)) (Int.tmod_lt_of_pos k (by omega))]
  simp
end Go.Proofs.Ytffihbfmdmlbcaa
