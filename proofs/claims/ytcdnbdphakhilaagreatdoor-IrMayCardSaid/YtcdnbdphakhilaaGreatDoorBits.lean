/- Lemmas: bits, sums, products, by the program and by the reference, each function shown by the evaluator. No condition. -/
import Derived.Test.YtcdnbdphakhilaaGreatDoorWake
set_option linter.unusedVariables false
set_option linter.unusedSimpArgs false
set_option maxRecDepth 100000
namespace Go.Proofs.YtcdnbdphakhilaaGreatDoor.A
open Go.Proofs.YtcdnbdphakhilaaGreatDoor.Ev Go.RowKit
/- Plain: what the functions of bits compute. -/
abbrev W64 := BitVec 64
def isW (w : Int) : Bool := w == 1 || w == 2 || w == 4 || w == 8
/-- bits of a width -/
def nb (w : Int) : Nat := bif isW w then 8 * w.toNat else 0
def bitB (b : Bool) : W64 := bif b then 1#64 else 0#64
/-- bits told by a function, from the least on -/
def sumBits (f : Nat → Bool) : Nat → W64
  | 0 => 0#64
  | n + 1 => sumBits f n + bitB (f n) <<< n
def low (v : W64) (n : Nat) : W64 := sumBits v.getLsbD n
def zx (v : W64) (w : Int) : W64 := low v (nb w)
def sx (v : W64) (w : Int) : W64 := bif isW w then sumBits (fun j => v.getLsbD (min j (nb w - 1))) 64 else 0#64
def neg (v : W64) (w : Int) : Bool := isW w && v.getLsbD (nb w - 1)
def sum1 (a b : W64) (c : Bool) (w : Int) : W64 := low (a + b + bitB c) (nb w)
def sum2 (a b : W64) (c : Bool) (w : Int) : Bool := isW w && BitVec.carry (nb w) a b c
def sum3 (a b : W64) (c : Bool) (w : Int) : Bool := isW w && (BitVec.carry (nb w) a b c != BitVec.carry (nb w - 1) a b c)

theorem isW_cases {w : Int} (h : isW w = true) : w = 1 ∨ w = 2 ∨ w = 4 ∨ w = 8 := by
  simp only [isW, Bool.or_eq_true, beq_iff_eq] at h; omega
theorem nb_le (w : Int) : nb w ≤ 64 := by
  unfold nb
  cases h : isW w with
  | false => simp
  | true => rcases isW_cases h with rfl | rfl | rfl | rfl <;> decide

theorem bitB_toNat (b : Bool) : (bitB b).toNat = b.toNat := by cases b <;> rfl

theorem sumBits_toNat_lt (f : Nat → Bool) : ∀ n, n ≤ 64 → (sumBits f n).toNat < 2 ^ n
  | 0, h => by simp [sumBits]
  | n + 1, h => by
    have ih := sumBits_toNat_lt f n (by omega)
    have h64 : (2:Nat) ^ (n + 1) ≤ 2 ^ 64 := Nat.pow_le_pow_right (by omega) h
    have hp : (2:Nat) ^ (n + 1) = 2 ^ n * 2 := Nat.pow_succ ..
    have hb : (bitB (f n) <<< n).toNat = (f n).toNat * 2 ^ n := by
      rw [BitVec.toNat_shiftLeft, bitB_toNat, Nat.shiftLeft_eq]
      apply Nat.mod_eq_of_lt
      cases f n <;> simp <;> omega
    rw [sumBits, BitVec.toNat_add, hb]
    have : (f n).toNat * 2 ^ n ≤ 2 ^ n := by cases f n <;> simp
    rw [Nat.mod_eq_of_lt (by omega)]
    omega

theorem sumBits_succ_toNat (f : Nat → Bool) (n : Nat) (h : n < 64) : (sumBits f (n + 1)).toNat = (sumBits f n).toNat + (f n).toNat * 2 ^ n := by
  have ih := sumBits_toNat_lt f n (by omega)
  have h64 : (2:Nat) ^ (n + 1) ≤ 2 ^ 64 := Nat.pow_le_pow_right (by omega) h
  have hp : (2:Nat) ^ (n + 1) = 2 ^ n * 2 := Nat.pow_succ ..
  have hb : (bitB (f n) <<< n).toNat = (f n).toNat * 2 ^ n := by
    rw [BitVec.toNat_shiftLeft, bitB_toNat, Nat.shiftLeft_eq]
    apply Nat.mod_eq_of_lt
    cases f n <;> simp <;> omega
  rw [sumBits, BitVec.toNat_add, hb]
  have : (f n).toNat * 2 ^ n ≤ 2 ^ n := by cases f n <;> simp
  rw [Nat.mod_eq_of_lt (by omega)]

theorem sumBits_testBit (f : Nat → Bool) : ∀ n, n ≤ 64 → ∀ j, (sumBits f n).toNat.testBit j = (decide (j < n) && f j)
  | 0, _, j => by simp [sumBits]
  | n + 1, h, j => by
    have ih := sumBits_testBit f n (by omega)
    rw [sumBits_succ_toNat f n (by omega), Nat.add_comm, Nat.mul_comm, Nat.testBit_two_pow_mul_add _ (sumBits_toNat_lt f n (by omega)), ih]
    split
    · rename_i hj; have : j < n + 1 := by omega
      simp [hj, this]
    · rename_i hj
      by_cases hjn : j = n
      · subst hjn; simp; cases f j <;> rfl
      · have h1 : ¬ j < n + 1 := by omega
        have : (f n).toNat.testBit (j - n) = false := by
          obtain ⟨k, hk⟩ : ∃ k, j - n = k + 1 := ⟨j - n - 1, by omega⟩
          rw [hk]
          cases f n <;> simp [Nat.testBit_succ]
        simp [h1, this]

theorem sumBits_get (f : Nat → Bool) {n : Nat} (h : n ≤ 64) (j : Nat) : (sumBits f n).getLsbD j = (decide (j < n) && f j) := by
  rw [BitVec.getLsbD, sumBits_testBit f n h]

theorem low_get (v : W64) {n : Nat} (h : n ≤ 64) (j : Nat) : (low v n).getLsbD j = (decide (j < n) && v.getLsbD j) := sumBits_get _ h j

theorem low_toNat (v : W64) {n : Nat} (h : n ≤ 64) : (low v n).toNat = v.toNat % 2 ^ n := by
  apply Nat.eq_of_testBit_eq
  intro j
  rw [low, sumBits_testBit _ _ h, Nat.testBit_mod_two_pow]; rfl

theorem low_eq_and (v : W64) {n : Nat} (h : n ≤ 64) : low v n = v &&& (BitVec.allOnes 64 >>> (64 - n)) := by
  apply BitVec.eq_of_getLsbD_eq
  intro j hj
  rw [low_get v h, BitVec.getLsbD_and, BitVec.getLsbD_ushiftRight, BitVec.getLsbD_allOnes, Bool.and_comm]
  congr 1
  simp; omega

theorem bit_eq (v : W64) (n : Nat) : (v >>> n) % 2#64 = bitB (v.getLsbD n) := by
  apply BitVec.eq_of_toNat_eq
  rw [bitB_toNat, BitVec.toNat_umod, BitVec.toNat_ushiftRight, BitVec.getLsbD, Nat.testBit_eq_decide_div_mod_eq, Nat.shiftRight_eq_div_pow]
  show _ % 2 = _
  rcases Nat.mod_two_eq_zero_or_one (v.toNat / 2 ^ n) with e | e <;> simp [e]

/- Plain: what the functions of bits compute, by the operations on words. -/
theorem nb_cases {w : Int} (h : isW w = true) : nb w = 8 ∨ nb w = 16 ∨ nb w = 32 ∨ nb w = 64 := by
  rcases isW_cases h with rfl | rfl | rfl | rfl <;> simp [nb, isW]
theorem sumBits_congr {f g : Nat → Bool} : ∀ {n : Nat}, (∀ j, j < n → f j = g j) → sumBits f n = sumBits g n
  | 0, _ => rfl
  | n + 1, h => by rw [sumBits, sumBits, sumBits_congr (fun j hj => h j (by omega)), h n (by omega)]
theorem eq_sumBits {x : W64} {f : Nat → Bool} {n : Nat} (hn : n ≤ 64) (h : ∀ j, j < 64 → x.getLsbD j = (decide (j < n) && f j)) : x = sumBits f n := by
  apply BitVec.eq_of_getLsbD_eq
  intro j hj
  rw [h j hj, sumBits_get f hn]

theorem sx_eq (v : W64) {w : Int} (h : isW w = true) : (v <<< (64 - nb w)).sshiftRight (64 - nb w) = sx v w := by
  simp only [sx, h, cond_true]
  apply eq_sumBits (Nat.le_refl _)
  intro j hj
  have hp : nb w ≤ 64 := nb_le w
  have hp0 : 0 < nb w := by rcases nb_cases h with e | e | e | e <;> omega
  rw [BitVec.getLsbD_sshiftRight]
  simp only [hj, decide_true, Bool.true_and]
  have h1 : ¬ 64 ≤ j := by omega
  simp only [h1, decide_false, Bool.not_false, Bool.true_and]
  split
  · rename_i hlt
    rw [BitVec.getLsbD_shiftLeft]
    have e1 : 64 - nb w + j - (64 - nb w) = j := by omega
    have e2 : min j (nb w - 1) = j := by omega
    have e3 : ¬ (64 - nb w + j < 64 - nb w) := by omega
    simp only [hlt, e1, e2, e3, decide_true, decide_false, Bool.not_false, Bool.true_and]
  · rename_i hlt
    rw [BitVec.msb_eq_getLsbD_last, BitVec.getLsbD_shiftLeft]
    have e1 : 64 - 1 - (64 - nb w) = nb w - 1 := by omega
    have e2 : min j (nb w - 1) = nb w - 1 := by omega
    have e3 : ¬ (64 - 1 < 64 - nb w) := by omega
    simp only [e1, e2, e3, decide_true, decide_false, Bool.not_false, Bool.true_and, Nat.sub_lt (by decide : 0 < 64) (by decide : 0 < 1)]

theorem and1_eq (v : W64) (n : Nat) : ((v >>> n) &&& 1#64) = bitB (v.getLsbD n) := by
  rw [← bit_eq]
  apply BitVec.eq_of_toNat_eq
  rw [BitVec.toNat_and, BitVec.toNat_umod]
  exact Nat.and_one_is_mod _
theorem bitB_is (b : Bool) : (bitB b == 1#64) = b := by cases b <;> rfl

theorem low_congr {x y : W64} {n : Nat} (hn : n ≤ 64) (h : x.toNat % 2 ^ n = y.toNat % 2 ^ n) : low x n = low y n := by
  apply BitVec.eq_of_toNat_eq
  rw [low_toNat x hn, low_toNat y hn, h]

theorem sum1_eq (a b : W64) (c : Bool) (w : Int) : zx (zx a w + zx b w + bitB c) w = sum1 a b c w := by
  have hn := nb_le w
  refine low_congr hn ?_
  have hd : 2 ^ nb w ∣ 2 ^ 64 := Nat.pow_dvd_pow 2 hn
  simp only [BitVec.toNat_add, zx, low_toNat _ hn, bitB_toNat]
  rw [Nat.mod_mod_of_dvd _ hd, Nat.mod_mod_of_dvd _ hd]
  rw [Nat.add_mod ((a.toNat % 2 ^ nb w + b.toNat % 2 ^ nb w) % 2 ^ 64), Nat.mod_mod_of_dvd _ hd, ← Nat.add_mod a.toNat, Nat.add_mod ((a.toNat + b.toNat) % 2 ^ 64), Nat.mod_mod_of_dvd _ hd]

theorem carry_eq (a b : W64) (c : Bool) {n : Nat} : BitVec.carry n a b c = decide (2 ^ n ≤ a.toNat % 2 ^ n + b.toNat % 2 ^ n + c.toNat) := rfl

theorem sum2_eq (a b : W64) (c : Bool) {w : Int} (h : isW w = true) :
    (if (bitB (decide (2 ^ 64 ≤ (zx a w).toNat + (zx b w).toNat + (bitB c).toNat)) == 1#64) = true then true else (zx a w + zx b w + bitB c) != zx (zx a w + zx b w + bitB c) w) = sum2 a b c w := by
  have hn := nb_le w
  simp only [sum2, h, Bool.true_and, carry_eq, bitB_is, bitB_toNat]
  have e : ((zx a w + zx b w + bitB c) != zx (zx a w + zx b w + bitB c) w) = decide ((zx a w + zx b w + bitB c).toNat ≠ (zx a w + zx b w + bitB c).toNat % 2 ^ nb w) := by
    rw [Bool.eq_iff_iff, bne_iff_ne, decide_eq_true_eq, ← low_toNat _ hn]
    exact not_congr ⟨fun e => congrArg BitVec.toNat e, fun e => BitVec.eq_of_toNat_eq e⟩
  rw [e]
  simp only [BitVec.toNat_add, zx, low_toNat _ hn, bitB_toNat]
  have := c.toNat_le
  have ha := a.isLt
  have hb := b.isLt
  rcases nb_cases h with e | e | e | e <;> rw [e] <;> simp only [decide_eq_true_eq] <;> split <;> (first | (symm; rw [decide_eq_true_eq]; omega) | (rw [decide_eq_decide]; omega))

theorem bitB_eq (c : Bool) : bitB c = BitVec.setWidth 64 (BitVec.ofBool c) := by cases c <;> rfl
theorem sum_bit (a b : W64) (c : Bool) {j : Nat} (hj : j < 64) : (a + b + bitB c).getLsbD j = (a.getLsbD j ^^ (b.getLsbD j ^^ BitVec.carry j a b c)) := by
  rw [bitB_eq, BitVec.getLsbD_add_add_bool hj]

theorem neg_and (x y : W64) {w : Int} (h : isW w = true) : neg (x &&& y) w = (x.getLsbD (nb w - 1) && y.getLsbD (nb w - 1)) := by
  simp [neg, h]
theorem zx_top (a : W64) {w : Int} (h : isW w = true) : (zx a w).getLsbD (nb w - 1) = a.getLsbD (nb w - 1) := by
  rw [zx, low_get _ (nb_le w)]
  have : nb w - 1 < nb w := by rcases nb_cases h with e | e | e | e <;> omega
  simp [this]
theorem carry_top (a b : W64) (c : Bool) {w : Int} (h : isW w = true) : BitVec.carry (nb w) a b c = Bool.atLeastTwo (a.getLsbD (nb w - 1)) (b.getLsbD (nb w - 1)) (BitVec.carry (nb w - 1) a b c) := by
  rw [← BitVec.carry_succ]
  congr 1
  rcases nb_cases h with e | e | e | e <;> omega

theorem sum3_eq (a b : W64) (c : Bool) {w : Int} (h : isW w = true) : neg ((zx a w ^^^ sum1 a b c w) &&& (zx b w ^^^ sum1 a b c w)) w = sum3 a b c w := by
  have hlt : nb w - 1 < 64 := by have := nb_le w; rcases nb_cases h with e | e | e | e <;> omega
  rw [neg_and _ _ h, BitVec.getLsbD_xor, BitVec.getLsbD_xor, zx_top a h, zx_top b h]
  rw [show sum1 a b c w = zx (a + b + bitB c) w from rfl, zx_top _ h, sum_bit _ _ _ hlt, sum3, carry_top a b c h, h]
  generalize a.getLsbD (nb w - 1) = x
  generalize b.getLsbD (nb w - 1) = y
  generalize BitVec.carry (nb w - 1) a b c = z
  cases x <;> cases y <;> cases z <;> rfl

/- the difference -/
theorem low_not (b : W64) {n : Nat} (hn : n ≤ 64) : (~~~ b).toNat % 2 ^ n = 2 ^ n - 1 - b.toNat % 2 ^ n := by
  apply Nat.eq_of_testBit_eq
  intro j
  rw [Nat.testBit_mod_two_pow, show 2 ^ n - 1 - b.toNat % 2 ^ n = 2 ^ n - (b.toNat % 2 ^ n + 1) by omega, Nat.testBit_two_pow_sub_succ (Nat.mod_lt _ (Nat.two_pow_pos n)), Nat.testBit_mod_two_pow]
  by_cases h : j < n
  · simp only [h, decide_true, Bool.true_and]
    rw [← BitVec.getLsbD, BitVec.getLsbD_not, BitVec.getLsbD]
    have : j < 64 := by omega
    simp [this]
  · simp [h]

theorem sub_as_sum (a b : W64) (c : Bool) : a - b - bitB c = a + ~~~ b + bitB (!c) := by
  rw [BitVec.not_eq_neg_add]
  cases c
  · simp only [bitB, cond_false, Bool.not_false, cond_true]
    rw [BitVec.sub_eq_add_neg a b, BitVec.sub_eq_add_neg (-b), BitVec.add_assoc a, BitVec.add_assoc (-b)]
    simp
  · simp only [bitB, cond_false, Bool.not_true, cond_true, BitVec.add_zero]
    rw [BitVec.sub_eq_add_neg (a - b), BitVec.sub_eq_add_neg a, BitVec.sub_eq_add_neg (-b), BitVec.add_assoc]

theorem less1_eq (a b : W64) (c : Bool) (w : Int) : zx (zx a w - zx b w - bitB c) w = sum1 a (~~~ b) (!c) w := by
  have hn := nb_le w
  rw [sum1, ← sub_as_sum]
  refine low_congr hn ?_
  have hd : (2:Int) ^ nb w ∣ 2 ^ 64 := ⟨2 ^ (64 - nb w), by rw [← Int.pow_add]; congr 1; omega⟩
  apply Int.ofNat.inj
  show ((_ % 2 ^ nb w : Nat) : Int) = ((_ % 2 ^ nb w : Nat) : Int)
  have key : ∀ x y : W64, ((x - y - bitB c).toNat % 2 ^ nb w : Nat) = ((x.toNat : Int) - y.toNat - (bitB c).toNat) % 2 ^ nb w := by
    intro x y
    have e : ((x - y - bitB c).toNat : Int) = ((x.toNat : Int) - y.toNat - (bitB c).toNat) % 2 ^ 64 := by
      rw [BitVec.toNat_sub, BitVec.toNat_sub]
      have := x.isLt; have := y.isLt; have := (bitB c).isLt
      omega
    rw [Int.natCast_emod, e]
    push_cast
    rw [show (18446744073709551616:Int) = 2 ^ 64 by decide, Int.emod_emod_of_dvd _ hd]
  rw [key, key]
  simp only [zx, low_toNat _ hn]
  push_cast
  rw [Int.sub_emod ((a.toNat : Int) % 2 ^ nb w - _), ← Int.sub_emod (a.toNat : Int), ← Int.sub_emod]

theorem less2_eq (a b : W64) (c : Bool) {w : Int} (h : isW w = true) : (bitB (decide ((zx a w).toNat < (zx b w).toNat + (bitB c).toNat)) == 1#64) = !sum2 a (~~~ b) (!c) w := by
  have hn := nb_le w
  simp only [bitB_is, sum2, h, Bool.true_and, carry_eq, low_not b hn, zx, low_toNat _ hn, bitB_toNat]
  have h1 := Nat.mod_lt a.toNat (Nat.two_pow_pos (nb w))
  have h2 := Nat.mod_lt b.toNat (Nat.two_pow_pos (nb w))
  rw [← decide_not, decide_eq_decide]
  cases c <;> simp <;> omega

theorem less3_eq (a b : W64) (c : Bool) {w : Int} (h : isW w = true) : neg ((zx a w ^^^ zx b w) &&& (zx a w ^^^ sum1 a (~~~ b) (!c) w)) w = sum3 a (~~~ b) (!c) w := by
  have hlt : nb w - 1 < 64 := by have := nb_le w; rcases nb_cases h with e | e | e | e <;> omega
  rw [neg_and _ _ h, BitVec.getLsbD_xor, BitVec.getLsbD_xor, zx_top a h, zx_top b h]
  rw [show sum1 a (~~~ b) (!c) w = zx (a + ~~~ b + bitB (!c)) w from rfl, zx_top _ h, sum_bit _ _ _ hlt, sum3, carry_top a (~~~ b) (!c) h, h]
  rw [BitVec.getLsbD_not]
  simp only [hlt, decide_true, Bool.true_and]
  generalize a.getLsbD (nb w - 1) = x
  generalize b.getLsbD (nb w - 1) = y
  generalize BitVec.carry (nb w - 1) a (~~~ b) (!c) = z
  cases x <;> cases y <;> cases z <;> rfl
/- Plain: turning, counting. -/
def turnN (v : W64) (m n : Nat) : W64 := sumBits (fun j => v.getLsbD ((j + (n - m)) % n)) n
def turn (v : W64) (k : Int) (w : Int) : W64 := turnN v (k % (nb w : Int)).toNat (nb w)

theorem idx1 {j m n : Nat} (hj : j < n) (hm : m < n) : (j + (n - m)) % n = if j < m then j + n - m else j - m := by
  split
  · rw [Nat.mod_eq_of_lt (by omega)]; omega
  · rw [show j + (n - m) = (j - m) + n by omega, Nat.add_mod_right, Nat.mod_eq_of_lt (by omega)]
theorem idx2 {i m n : Nat} (hi : i < n) (hm : m < n) : (i + m) % n = if i + m < n then i + m else i + m - n := by
  split
  · rw [Nat.mod_eq_of_lt (by omega)]
  · rw [show i + m = (i + m - n) + n by omega, Nat.add_mod_right, Nat.mod_eq_of_lt (by omega)]; omega

theorem turn_code (v : W64) {m n : Nat} (hm : m < n) (hn : n ≤ 64) : low (low v n <<< m ||| low v n >>> (n - m)) n = turnN v m n := by
  apply sumBits_congr
  intro j hj
  have hj64 : j < 64 := by omega
  rw [idx1 hj hm, BitVec.getLsbD_or, BitVec.getLsbD_shiftLeft, BitVec.getLsbD_ushiftRight, low_get v hn, low_get v hn]
  simp only [hj64, decide_true, Bool.true_and]
  split
  · rename_i h
    simp only [h, decide_true, Bool.not_true, Bool.false_and, Bool.false_or]
    have e1 : n - m + j < n := by omega
    have e2 : n - m + j = j + n - m := by omega
    have e3 : j + n - m < n := by omega
    simp only [e1, decide_true, Bool.true_and, e2, e3]
  · rename_i h
    have e1 : ¬ n - m + j < n := by omega
    have e2 : j - m < n := by omega
    simp only [h, e1, e2, decide_false, decide_true, Bool.not_false, Bool.true_and, Bool.false_and, Bool.or_false]

def part (v : W64) (m n i : Nat) : W64 := sumBits (fun j => decide ((j + (n - m)) % n < i) && v.getLsbD ((j + (n - m)) % n)) n
theorem sumBits_false {f : Nat → Bool} : ∀ {n : Nat}, (∀ j, j < n → f j = false) → sumBits f n = 0#64
  | 0, _ => rfl
  | n + 1, h => by rw [sumBits, sumBits_false (fun j hj => h j (by omega)), h n (by omega)]; simp [bitB]
theorem part_zero (v : W64) (m n : Nat) : part v m n 0 = 0#64 := sumBits_false fun j _ => by simp
theorem part_all (v : W64) {m n : Nat} (hn : 0 < n) : part v m n n = turnN v m n := sumBits_congr fun j _ => by
  have : (j + (n - m)) % n < n := Nat.mod_lt _ hn
  simp [this]
theorem bitB_shift_get (b : Bool) (p j : Nat) (hp : p < 64) : (bitB b <<< p).getLsbD j = (decide (j = p) && b) := by
  rw [BitVec.getLsbD_shiftLeft]
  cases b
  · simp [bitB]
  · simp only [bitB, cond_true, Bool.and_true]
    by_cases h : j = p
    · subst h; simp [hp]
    · by_cases h2 : j < p
      · simp [h, h2]
      · obtain ⟨d, hd⟩ : ∃ d, j - p = d + 1 := ⟨j - p - 1, by omega⟩
        simp [h, hd, BitVec.getLsbD_one]
theorem part_succ (v : W64) {m n i : Nat} (hm : m < n) (hi : i < n) (hn : n ≤ 64) : part v m n i + bitB (v.getLsbD i) <<< ((i + m) % n) = part v m n (i + 1) := by
  have hp : (i + m) % n < n := Nat.mod_lt _ (by omega)
  have hg : ∀ i' j, (part v m n i').getLsbD j = (decide (j < n) && (decide ((j + (n - m)) % n < i') && v.getLsbD ((j + (n - m)) % n))) := fun i' j => sumBits_get _ hn j
  have key : ∀ j, j < n → (j = (i + m) % n ↔ (j + (n - m)) % n = i) := by
    intro j hj
    rw [idx1 hj hm, idx2 hi hm]
    split <;> split <;> omega
  rw [BitVec.add_eq_or_of_and_eq_zero]
  · apply BitVec.eq_of_getLsbD_eq
    intro j _
    rw [BitVec.getLsbD_or, hg, hg, bitB_shift_get _ _ _ (by omega)]
    by_cases hj : j < n
    · simp only [hj, decide_true, Bool.true_and, decide_eq_decide.2 (key j hj)]
      by_cases h1 : (j + (n - m)) % n = i
      · simp [h1]
      · have : (j + (n - m)) % n < i + 1 ↔ (j + (n - m)) % n < i := by omega
        simp [h1, this]
    · have : j ≠ (i + m) % n := by omega
      simp [hj, this]
  · apply BitVec.eq_of_getLsbD_eq
    intro j _
    rw [BitVec.getLsbD_and, hg, bitB_shift_get _ _ _ (by omega)]
    by_cases hj : j < n
    · simp only [hj, decide_true, Bool.true_and, decide_eq_decide.2 (key j hj)]
      by_cases h1 : (j + (n - m)) % n = i
      · simp [h1]
      · simp [h1]
    · simp [hj]

theorem turn_turn (v : W64) {m p n : Nat} (hm : m < n) (hp : p < n) (hn : n ≤ 64) (h : m + p = 0 ∨ m + p = n) : turnN (turnN v m n) p n = low v n := by
  apply sumBits_congr
  intro j hj
  have h1 : (j + (n - p)) % n < n := Nat.mod_lt _ (by omega)
  rw [turnN, sumBits_get _ hn]
  simp only [h1, decide_true, Bool.true_and]
  congr 1
  rw [idx1 h1 hm, idx1 hj hp]
  split <;> split <;> omega

theorem tmod_turn (k : Int) {n : Nat} (h0 : 0 < n) (h : n ≤ 64) : (k.tmod n + n) % (n : Int) = k % n ∧ 0 < k.tmod n + n ∧ k.tmod n + n < 2 * n := by
  have hn : (0 : Int) < n := by omega
  refine ⟨?_, ?_, ?_⟩
  · rw [Int.add_emod_right, Int.tmod_def, Int.sub_mul_emod_self_left]
  · have := Int.lt_tmod_of_pos k hn; omega
  · have := Int.tmod_lt_of_pos k hn; omega

def popN (f : Nat → Bool) : Nat → Nat
  | 0 => 0
  | n + 1 => popN f n + (f n).toNat
theorem popN_congr {f g : Nat → Bool} : ∀ {n : Nat}, (∀ j, j < n → f j = g j) → popN f n = popN g n
  | 0, _ => rfl
  | n + 1, h => by rw [popN, popN, popN_congr (fun j hj => h j (by omega)), h n (by omega)]
theorem popN_le (f : Nat → Bool) : ∀ n, popN f n ≤ n
  | 0 => Nat.le_refl 0
  | n + 1 => by have := popN_le f n; have := (f n).toNat_le; rw [popN]; omega
theorem popN_above {f : Nat → Bool} {n : Nat} : ∀ {d : Nat}, (∀ j, n ≤ j → f j = false) → popN f (n + d) = popN f n
  | 0, _ => rfl
  | d + 1, h => by rw [← Nat.add_assoc, popN, popN_above h, h _ (by omega)]; rfl
def noL : Nat → Live := fun _ => ⟨[], [], [], none⟩
theorem noL_ok {S : FuncId → CSpec} {N : Nat} {fn : Func} : FnLoops T S noL N fn := FnLoops.no (by simp [noSum, noL])

/-- A function without summaries of loops. -/
theorem okBy {S : FuncId → CSpec} (hS : ∀ f, FnOk Tryz.prog f (S f)) {f : FuncId} {fn : Func} (hf : Tryz.prog.funcs[f]? = some fn) (hname : (fn.name == "runtime.NumGoroutine") = false) (hbody : fn.body.isNone = false) {s : CSpec} (N : Nat)
    (h : ∀ xs r, s xs = some r → (∀ c ∈ r.pre, c = true) → (∃ w R vs, TR (baseC w R) xs vs) → (evFn T S noL N fn xs).run = some r.res) (hlt : f < offO := by decide) : FnOk Tryz.prog f s :=
  FnOk.of tyOk hS mixed hf hname hbody (fun xs r hs hp w R vs hvs => ⟨N, noL_ok, h xs r hs hp ⟨w, R, vs, hvs⟩⟩) hlt

def s14 : CSpec | [.i .i64 w] => some ⟨[], .b (isW w)⟩ | _ => none
theorem ok14 : FnOk Tryz.prog 110 s14 := okBy noS_ok Tryz.func110 (by kernel_rfl) (by kernel_rfl) 1 <| by
  intro xs r hs
  unfold s14 at hs; split at hs <;> cases hs
  rename_i w
  intro hp _
  have e : evFn T noS noL 1 Tryz.f110 [.i .i64 w] = .leaf (.b (if (if (if (w == 1) = true then true else w == 2) = true then true else w == 4) = true then true else w == 8)) := by kernel_rfl
  rw [e]
  simp only [Tr.run, isW]
  cases w == 1 <;> cases w == 2 <;> cases w == 4 <;> rfl
theorem ok15 : FnOk Tryz.prog 116 s14 := okBy noS_ok Tryz.func116 (by kernel_rfl) (by kernel_rfl) 1 <| by
  intro xs r hs
  unfold s14 at hs; split at hs <;> cases hs
  rename_i w
  intro hp _
  have e : evFn T noS noL 1 Tryz.f116 [.i .i64 w] = .leaf (.b (if (if (if (w == 1) = true then true else w == 2) = true then true else w == 4) = true then true else w == 8)) := by kernel_rfl
  rw [e]
  simp only [Tr.run, isW]
  cases w == 1 <;> cases w == 2 <;> cases w == 4 <;> rfl
def s49 : CSpec | [.u 64 v, .i .i64 i] => some ⟨[], .u 64 (bitB (v.getLsbD (BitVec.ofInt 64 i).toNat))⟩ | _ => none
theorem ok49 : FnOk Tryz.prog 102 s49 := okBy noS_ok Tryz.func102 (by kernel_rfl) (by kernel_rfl) 1 <| by
  intro xs r hs
  unfold s49 at hs; split at hs <;> cases hs
  rename_i v i
  intro hp _
  have e : (evFn T noS noL 1 Tryz.f102 [.u 64 v, .i .i64 i]).run = some (.u 64 ((v >>> (BitVec.ofInt 64 i).toNat) % 2#64)) := by kernel_rfl
  rw [e, bit_eq]
def s59 : CSpec | [.b c] => some ⟨[], .u 64 (bitB c)⟩ | _ => none
theorem ok60 : FnOk Tryz.prog 172 s59 := okBy noS_ok Tryz.func172 (by kernel_rfl) (by kernel_rfl) 1 <| by
  intro xs r hs
  unfold s59 at hs; split at hs <;> cases hs
  rename_i c
  intro hp _
  cases c <;> kernel_rfl
def add1 (a b c : W64) : W64 := a + b + c
def add2 (a b c : W64) : W64 := bitB (decide (2 ^ 64 ≤ a.toNat + b.toNat + c.toNat))
def sub1 (a b c : W64) : W64 := a - b - c
def sub2 (a b c : W64) : W64 := bitB (decide (a.toNat < b.toNat + c.toNat))
def s58 : CSpec | [.u 64 a, .u 64 b, .u 64 c] => some ⟨[decide (c.toNat ≤ 1)], .tup [.u 64 (add1 a b c), .u 64 (add2 a b c)]⟩ | _ => none
def s61 : CSpec | [.u 64 a, .u 64 b, .u 64 c] => some ⟨[decide (c.toNat ≤ 1)], .tup [.u 64 (sub1 a b c), .u 64 (sub2 a b c)]⟩ | _ => none

theorem u64_of {k : IntKind} (h : isU k = some 64) : k = .u64 := by cases k <;> simp [isU] at h <;> rfl
theorem uv {C : Ctx} {x : W64} {v : Value} (h : VR C (.u 64 x) v) : v = .int .u64 (x.toNat : Int) := by
  cases h with
  | u hk => rw [u64_of hk]
theorem args3 {C : Ctx} {a b c : W64} {vs : List Value} (h : TR C [.u 64 a, .u 64 b, .u 64 c] vs) : vs = [.int .u64 (a.toNat : Int), .int .u64 (b.toNat : Int), .int .u64 (c.toNat : Int)] := by
  cases h with | cons h1 h => cases h with | cons h2 h => cases h with | cons h3 h => cases h; rw [uv h1, uv h2, uv h3]
theorem vu {C : Ctx} (x : W64) {n : Nat} (h : n = x.toNat) : VR C (.u 64 x) (.int .u64 (Int.ofNat n)) := by subst h; exact .u rfl

theorem run_three' (nm : String) (x y : Nat) (w : World) : ∀ m : Nat, m ≤ 1 → (Extern.MathBitsCarry.three nm #[.int .u64 (x : Int), .int .u64 (y : Int), .int .u64 (m : Int)]).run Tryz.prog w = .ok (x, y, m) w
  | 0, _ => by kernel_rfl
  | 1, _ => by kernel_rfl
  | n + 2, h => by omega
theorem run_three (nm : String) (a b c : W64) (hc : c.toNat ≤ 1) (w : World) : (Extern.MathBitsCarry.three nm #[.int .u64 (a.toNat : Int), .int .u64 (b.toNat : Int), .int .u64 (c.toNat : Int)]).run Tryz.prog w = .ok (a.toNat, b.toNat, c.toNat) w :=
  run_three' nm _ _ w _ hc

noncomputable abbrev S1 : FuncId → CSpec := withS (withS (withS (withS noS 110 s14) 116 s14) 102 s49) 172 s59
theorem S1_ok : ∀ f, FnOk Tryz.prog f (S1 f) := withS_ok (withS_ok (withS_ok (withS_ok noS_ok ok14) ok15) ok49) ok60
theorem LoopOk.of {S : FuncId → CSpec} {L : Nat → Live} {nt N : Nat} {a : Code} {q : St → Option LRes} (hs : (L (firstR a)).sum = some (evSum q))
    (h : ∀ τ r, τ.cut = 0 → q τ = some r → (∀ b ∈ r.pre, b = true) → ∃ n, (iter (atHead (evCode T S L nt N a) (L (firstR a))) n τ).run = some (r.e, ⟨r.env, r.mem, r.ids, 0⟩)) : LoopOk T S L nt N a := by
  intro q' hq'
  rw [hs] at hq'
  cases hq'
  intro τ e st h1 h2
  unfold evSum at h2
  split at h2
  · rename_i r hr
    obtain ⟨hn, h'⟩ := Tr.run_needs h2
    simp only [Tr.run, Option.some.injEq, Prod.mk.injEq] at h'
    obtain ⟨rfl, rfl⟩ := h'
    obtain ⟨n, hn⟩ := h τ r h1 hr hn
    exact ⟨n, _, hn, fun _ _ h => h, rfl, rfl⟩
  · simp [Tr.run] at h2
theorem LoopOk.sub {S : FuncId → CSpec} {L : Nat → Live} {nt N : Nat} {a : Code} {q : St → Tr (Ex × St)} (hs : (L (firstR a)).sum = some q)
    (h : ∀ τ e st, τ.cut = 0 → (q τ).run = some (e, st) → ∃ n st', (iter (atHead (evCode T S L nt N a) (L (firstR a))) n τ).run = some (e, st') ∧ (∀ t v, Ev.look st.env t = some v → Ev.look st'.env t = some v) ∧ st'.mem = st.mem ∧ st'.ids = st.ids) : LoopOk T S L nt N a := by
  intro q' hq'
  rw [hs] at hq'
  cases hq'
  exact h
theorem ofInt_nat (j : Nat) (h : j < 2 ^ 62) : (BitVec.ofInt 64 (j : Int)).toNat = j := by
  rw [BitVec.toNat_ofInt]; omega
theorem wrap_small (x : Int) (h0 : -9223372036854775808 ≤ x) (h1 : x ≤ 9223372036854775807) : IntKind.i64.wrap x = x := wrap_of_has ⟨by simpa [IntKind.min, IntKind.signed, IntKind.bits] using h0, by simpa [IntKind.max, IntKind.signed, IntKind.bits] using h1⟩
theorem wrap_succ (j : Nat) (h : j < 2 ^ 62) : IntKind.i64.wrap ((j : Int) + 1) = ((j + 1 : Nat) : Int) := by
  rw [wrap_small] <;> omega
theorem nb_eq {w : Int} (h : isW w = true) : (nb w : Int) = 8 * w := by
  rcases isW_cases h with rfl | rfl | rfl | rfl <;> decide
theorem wrap8 {w : Int} (h : isW w = true) : IntKind.i64.wrap (8 * w) = (nb w : Int) := by
  rcases isW_cases h with rfl | rfl | rfl | rfl <;> decide
theorem nb0 {w : Int} (h : isW w = false) : nb w = 0 := by simp [nb, h]
theorem nb_pos {w : Int} (h : isW w = true) : 0 < nb w := by
  rcases isW_cases h with rfl | rfl | rfl | rfl <;> decide

def maskW (w : Int) : W64 := BitVec.allOnes 64 >>> (64 - nb w)
def s16 : CSpec | [.i .i64 w] => some ⟨[], .u 64 (maskW w)⟩ | _ => none
theorem ok16 : FnOk Tryz.prog 166 s16 := okBy S1_ok Tryz.func166 (by kernel_rfl) (by kernel_rfl) 1 <| by
  intro xs r hs
  unfold s16 at hs; split at hs <;> cases hs
  rename_i w
  intro hp _
  have e : evFn T S1 noL 1 Tryz.f166 [.i .i64 w] = Tr.ite (!isW w) (.leaf (.u 64 (BitVec.ofInt 64 0))) (Tr.need (decide (0 ≤ IntKind.i64.wrap (64 - IntKind.i64.wrap (8 * w)))) (.leaf (.u 64 (BitVec.ofInt 64 18446744073709551615 >>> (IntKind.i64.wrap (64 - IntKind.i64.wrap (8 * w))).toNat)))) := by kernel_rfl
  cases h : isW w with
  | true => rw [e]; rcases isW_cases h with rfl | rfl | rfl | rfl <;> (show _ = _; kernel_rfl)
  | false =>
    rw [e]; simp only [h, Tr.run]
    simp [maskW, nb0 h]
def s18 : CSpec | [.u 64 v, .i .i64 w] => some ⟨[], .u 64 (zx v w)⟩ | _ => none
noncomputable abbrev S2 : FuncId → CSpec := withS S1 166 s16
theorem S2_ok : ∀ f, FnOk Tryz.prog f (S2 f) := withS_ok S1_ok ok16
theorem ok18 : FnOk Tryz.prog 125 s18 := okBy S2_ok Tryz.func125 (by kernel_rfl) (by kernel_rfl) 1 <| by
  intro xs r hs
  unfold s18 at hs; split at hs <;> cases hs
  rename_i v w
  intro hp _
  have e : evFn T S2 noL 1 Tryz.f125 [.u 64 v, .i .i64 w] = .leaf (.u 64 (v &&& maskW w)) := by kernel_rfl
  rw [e, maskW, ← low_eq_and v (nb_le w)]
  rfl

/- the reference's -/
def q17 : St → Option LRes
  | ⟨[(0, .u 64 v), (1, .i .i64 w), (5, .u 64 r), (6, .i .i64 i)], [], [], _⟩ => some ⟨[r == 0#64, i == 0], .exit 0, [(0, .u 64 v), (1, .i .i64 w), (5, .u 64 (zx v w)), (6, .i .i64 (nb w))], [], []⟩
  | _ => none
def L17 : Nat → Live := fun _ => ⟨[0, 1, 5, 6], [], [], some (evSum q17)⟩
theorem loop17 (N : Nat) : LoopOk T S1 L17 26 N (loopOf Tryz.f74 0) := LoopOk.of rfl <| by
  intro τ r hcut hr
  unfold q17 at hr; split at hr <;> cases hr
  rename_i v w r i c
  obtain rfl : c = 0 := hcut
  intro hp
  simp only [List.mem_cons, List.not_mem_nil, or_false, forall_eq_or_imp, forall_eq, beq_iff_eq] at hp
  obtain ⟨rfl, rfl⟩ := hp
  have e : ∀ (r : W64) (i : Int), atHead (evCode T S1 L17 26 N (loopOf Tryz.f74 0)) (L17 (firstR (loopOf Tryz.f74 0))) ⟨[(0, .u 64 v), (1, .i .i64 w), (5, .u 64 r), (6, .i .i64 i)], [], [], 0⟩ =
      Tr.ite (if isW w = true then decide (i < IntKind.i64.wrap (8 * w)) else false)
        (.leaf (.normal, ⟨[(0, .u 64 v), (1, .i .i64 w), (5, .u 64 (r + bitB (v.getLsbD (BitVec.ofInt 64 i).toNat) <<< (BitVec.ofInt 64 i).toNat)), (6, .i .i64 (IntKind.i64.wrap (i + 1)))], [], [], 0⟩))
        (.leaf (.exit 0, ⟨[(0, .u 64 v), (1, .i .i64 w), (5, .u 64 r), (6, .i .i64 i)], [], [], 0⟩)) := fun r i => by kernel_rfl
  refine ⟨nb w + 1, iter_for (fun j => ⟨[(0, .u 64 v), (1, .i .i64 w), (5, .u 64 (low v j)), (6, .i .i64 (j : Int))], [], [], 0⟩) (nb w) ?_ ?_ (by simp)⟩
  · intro j hj
    have h64 := nb_le w
    have hw : isW w = true := by
      cases h : isW w with
      | true => rfl
      | false => rw [nb0 h] at hj; omega
    rw [e, wrap8 hw, wrap_succ j (by omega), ofInt_nat j (by omega)]
    simp only [Tr.run, hw, if_true]
    rw [if_pos (by simpa using hj)]
    rfl
  · rw [e]
    cases h : isW w with
    | true => rw [wrap8 h]; simp [Tr.run, h, zx]
    | false => simp [Tr.run, h, zx]
theorem ok17 : FnOk Tryz.prog 74 s18 := FnOk.of tyOk S1_ok mixed Tryz.func74 (by kernel_rfl) (by kernel_rfl) <| by
  intro xs r hs
  unfold s18 at hs; split at hs <;> cases hs
  rename_i v w
  intro hp _ _ _ _
  exact ⟨1, FnLoops.one (by kernel_rfl) (loop17 1), by kernel_rfl⟩
noncomputable abbrev S3 : FuncId → CSpec := withS (withS S2 74 s18) 125 s18
theorem S3_ok : ∀ f, FnOk Tryz.prog f (S3 f) := withS_ok (withS_ok S2_ok ok17) ok18
theorem ofNat_nb {w : Int} (h : isW w = true) : (IntKind.i64.wrap (64 - IntKind.i64.wrap (8 * w))).toNat = 64 - nb w := by
  rcases isW_cases h with rfl | rfl | rfl | rfl <;> decide
theorem top_nb {w : Int} (h : isW w = true) : IntKind.i64.wrap (IntKind.i64.wrap (8 * w) - 1) = ((nb w - 1 : Nat) : Int) := by
  rcases isW_cases h with rfl | rfl | rfl | rfl <;> decide
theorem sshr_eq (x : W64) (n : Nat) : BitVec.ofInt 64 (IntKind.i64.wrap (x.toNat : Int) / 2 ^ n) = x.sshiftRight n := by
  rw [show IntKind.i64.wrap (x.toNat : Int) = x.toInt from wrap_toInt (k := .i64) rfl x]
  show _ = BitVec.ofInt 64 (x.toInt >>> n)
  rw [Int.shiftRight_eq_div_pow]; rfl

def s19 : CSpec | [.u 64 v, .i .i64 w] => some ⟨[], .u 64 (sx v w)⟩ | _ => none
theorem ok19 : FnOk Tryz.prog 124 s19 := okBy S3_ok Tryz.func124 (by kernel_rfl) (by kernel_rfl) 1 <| by
  intro xs r hs
  unfold s19 at hs; split at hs <;> cases hs
  rename_i v w
  intro hp _
  have e : evFn T S3 noL 1 Tryz.f124 [.u 64 v, .i .i64 w] = Tr.ite (!isW w) (.leaf (.u 64 0#64))
    (Tr.need (decide (0 ≤ IntKind.i64.wrap (64 - IntKind.i64.wrap (8 * w)))) (Tr.need (decide (0 ≤ IntKind.i64.wrap (64 - IntKind.i64.wrap (8 * w))))
        (.leaf (.u 64 (BitVec.ofInt 64 (IntKind.i64.wrap ↑(v <<< (IntKind.i64.wrap (64 - IntKind.i64.wrap (8 * w))).toNat).toNat / 2 ^ (IntKind.i64.wrap (64 - IntKind.i64.wrap (8 * w))).toNat)))))) := by kernel_rfl
  rw [e, sshr_eq]
  cases h : isW w with
  | true =>
    rw [ofNat_nb h, sx_eq v h]
    have : 0 ≤ IntKind.i64.wrap (64 - IntKind.i64.wrap (8 * w)) := by rcases isW_cases h with rfl | rfl | rfl | rfl <;> decide
    simp [Tr.run, this]
  | false => simp [Tr.run, sx, h]
def s21 : CSpec | [.u 64 v, .i .i64 w] => some ⟨[], .b (neg v w)⟩ | _ => none
theorem ok22 : FnOk Tryz.prog 103 s21 := okBy S3_ok Tryz.func103 (by kernel_rfl) (by kernel_rfl) 1 <| by
  intro xs r hs
  unfold s21 at hs; split at hs <;> cases hs
  rename_i v w
  intro hp _
  have e : evFn T S3 noL 1 Tryz.f103 [.u 64 v, .i .i64 w] = 
    (.leaf (.b (if isW w = true then bitB (v.getLsbD (BitVec.ofInt 64 (IntKind.i64.wrap (IntKind.i64.wrap (8 * w) - 1))).toNat) == 1#64 else false))) := by kernel_rfl
  rw [e, bitB_is]
  cases h : isW w with
  | true => rw [top_nb h, ofInt_nat _ (by have := nb_le w; omega)]; simp [Tr.run, neg, h]
  | false => simp [Tr.run, neg, h]

theorem sumBits_succ (f : Nat → Bool) (n : Nat) : sumBits f (n + 1) = sumBits f n + bitB (f n) <<< n := rfl
def q20 : St → Option LRes
  | ⟨[(0, .u 64 v), (1, .i .i64 w), (5, .u 64 r), (6, .i .i64 i)], [], [], _⟩ => some ⟨[r == zx v w, i == IntKind.i64.wrap (8 * w)], .exit 0, [(0, .u 64 v), (1, .i .i64 w), (5, .u 64 (sx v w)), (6, .i .i64 (bif isW w then 64 else IntKind.i64.wrap (8 * w)))], [], []⟩
  | _ => none
def L20 : Nat → Live := fun _ => ⟨[0, 1, 5, 6], [], [], some (evSum q20)⟩
theorem loop20 (N : Nat) : LoopOk T S3 L20 31 N (loopOf Tryz.f75 0) := LoopOk.of rfl <| by
  intro τ r hcut hr
  unfold q20 at hr; split at hr <;> cases hr
  rename_i v w r i c
  obtain rfl : c = 0 := hcut
  intro hp
  simp only [List.mem_cons, List.not_mem_nil, or_false, forall_eq_or_imp, forall_eq, beq_iff_eq] at hp
  obtain ⟨rfl, rfl⟩ := hp
  have e : ∀ (r : W64) (i : Int), atHead (evCode T S3 L20 31 N (loopOf Tryz.f75 0)) (L20 (firstR (loopOf Tryz.f75 0))) ⟨[(0, .u 64 v), (1, .i .i64 w), (5, .u 64 r), (6, .i .i64 i)], [], [], 0⟩ =
      Tr.ite (if isW w = true then decide (i < 64) else false)
        (.leaf (.normal, ⟨[(0, .u 64 v), (1, .i .i64 w), (5, .u 64 (r + bitB (v.getLsbD (BitVec.ofInt 64 (IntKind.i64.wrap (IntKind.i64.wrap (8 * w) - 1))).toNat) <<< (BitVec.ofInt 64 i).toNat)), (6, .i .i64 (IntKind.i64.wrap (i + 1)))], [], [], 0⟩))
        (.leaf (.exit 0, ⟨[(0, .u 64 v), (1, .i .i64 w), (5, .u 64 r), (6, .i .i64 i)], [], [], 0⟩)) := fun r i => by kernel_rfl
  cases hw : isW w with
  | false =>
    refine ⟨1, iter_for (fun _ => ⟨[(0, .u 64 v), (1, .i .i64 w), (5, .u 64 (zx v w)), (6, .i .i64 (IntKind.i64.wrap (8 * w)))], [], [], 0⟩) 0 (fun j hj => by omega) ?_ (by simp)⟩
    rw [e]
    simp [Tr.run, hw, sx, zx, low, nb, sumBits]
  | true =>
  have h64 := nb_le w
  refine ⟨64 - nb w + 1, ?_⟩
  have hz : zx v w = sumBits (fun j => v.getLsbD (min j (nb w - 1))) (nb w + 0) := sumBits_congr fun j hj => by rw [show min j (nb w - 1) = j by omega]
  rw [wrap8 hw, hz]
  refine iter_for (fun j => ⟨[(0, .u 64 v), (1, .i .i64 w), (5, .u 64 (sumBits (fun j => v.getLsbD (min j (nb w - 1))) (nb w + j))), (6, .i .i64 ((nb w + j : Nat) : Int))], [], [], 0⟩) (64 - nb w) ?_ ?_ (by simp)
  · intro j hj
    have hp := nb_pos hw
    rw [e, top_nb hw, wrap_succ (nb w + j) (by omega), ofInt_nat (nb w + j) (by omega), ofInt_nat (nb w - 1) (by omega)]
    simp only [Tr.run, hw, if_true]
    rw [if_pos (by simp; omega)]
    have e1 : min (nb w + j) (nb w - 1) = nb w - 1 := by omega
    have e2 := sumBits_succ (fun j => v.getLsbD (min j (nb w - 1))) (nb w + j)
    simp only [e1] at e2
    rw [← Nat.add_assoc, e2]
  · rw [e]
    have e2 : nb w + (64 - nb w) = 64 := by omega
    simp only [Tr.run, hw, if_true, e2]
    simp [sx, hw]
theorem ok20 : FnOk Tryz.prog 75 s19 := FnOk.of tyOk S3_ok mixed Tryz.func75 (by kernel_rfl) (by kernel_rfl) <| by
  intro xs r hs
  unfold s19 at hs; split at hs <;> cases hs
  rename_i v w
  intro hp _ _ _ _
  refine ⟨1, FnLoops.one (by kernel_rfl) (loop20 1), ?_⟩
  have e : evFn T S3 L20 1 Tryz.f75 [.u 64 v, .i .i64 w] = Tr.need (zx v w == zx v w) (Tr.need (IntKind.i64.wrap (8 * w) == IntKind.i64.wrap (8 * w)) (.leaf (.u 64 (sx v w)))) := by kernel_rfl
  rw [e]
  simp [Tr.run]

noncomputable abbrev S4 : FuncId → CSpec := withS (withS (withS S3 124 s19) 75 s19) 103 s21
theorem S4_ok : ∀ f, FnOk Tryz.prog f (S4 f) := withS_ok (withS_ok (withS_ok S3_ok ok19) ok20) ok22
def s24 : CSpec | [.u 64 a, .u 64 b, .b c, .i .i64 w] => some ⟨[], .tup [.u 64 (sum1 a b c w), .b (sum2 a b c w), .b (sum3 a b c w)]⟩ | _ => none
def s26 : CSpec | [.u 64 a, .u 64 b, .b c, .i .i64 w] => some ⟨[], .tup [.u 64 (sum1 a (~~~ b) (!c) w), .b (isW w && !sum2 a (~~~ b) (!c) w), .b (sum3 a (~~~ b) (!c) w)]⟩ | _ => none
theorem bitB_le (c : Bool) : (bitB c).toNat ≤ 1 := by cases c <;> decide
theorem sum_none (a b : W64) (c : Bool) {w : Int} (h : isW w = false) : sum1 a b c w = 0#64 ∧ sum2 a b c w = false ∧ sum3 a b c w = false := by
  simp [sum1, sum2, sum3, h, nb, low, sumBits]
noncomputable abbrev S5 : FuncId → CSpec := S4
theorem S5_ok : ∀ f, FnOk Tryz.prog f (S5 f) := S4_ok
theorem col_mod (x y z : Bool) : (bitB x + bitB y + bitB z) % 2#64 = bitB (x ^^ (y ^^ z)) := by cases x <;> cases y <;> cases z <;> rfl
theorem col_div (x y z : Bool) : (bitB x + bitB y + bitB z) / 2#64 = bitB (Bool.atLeastTwo x y z) := by cases x <;> cases y <;> cases z <;> rfl
theorem carry_zero (a b : W64) (c : Bool) : BitVec.carry 0 a b c = c := by cases c <;> simp [BitVec.carry, Nat.mod_one]
theorem low_succ (v : W64) (j : Nat) : low v (j + 1) = low v j + bitB (v.getLsbD j) <<< j := rfl
def q25 : St → Option LRes
  | ⟨[(0, .u 64 a), (1, .u 64 b), (2, .b x), (3, .i .i64 w), (11, .u 64 r), (12, .u 64 c), (13, .u 64 d), (14, .i .i64 i)], [], [], _⟩ =>
    some ⟨[isW w, r == 0#64, c == bitB x, d == bitB x, i == 0], .exit 0, [(0, .u 64 a), (1, .u 64 b), (2, .b x), (3, .i .i64 w), (11, .u 64 (sum1 a b x w)), (12, .u 64 (bitB (BitVec.carry (nb w) a b x))), (13, .u 64 (bitB (BitVec.carry (nb w - 1) a b x))), (14, .i .i64 (nb w))], [], []⟩
  | _ => none
def L25 : Nat → Live := fun _ => ⟨[0, 1, 2, 3, 11, 12, 13, 14], [], [], some (evSum q25)⟩
theorem loop25 (N : Nat) : LoopOk T S5 L25 53 N (loopOf Tryz.f146 0) := LoopOk.of rfl <| by
  intro τ r hcut hr
  unfold q25 at hr; split at hr <;> cases hr
  rename_i a b x w r c d i k
  obtain rfl : k = 0 := hcut
  intro hp
  simp only [List.mem_cons, List.not_mem_nil, or_false, forall_eq_or_imp, forall_eq, beq_iff_eq] at hp
  obtain ⟨hw, rfl, rfl, rfl, rfl⟩ := hp
  have e : ∀ (r c d : W64) (i : Int), (atHead (evCode T S5 L25 53 N (loopOf Tryz.f146 0)) (L25 (firstR (loopOf Tryz.f146 0))) ⟨[(0, .u 64 a), (1, .u 64 b), (2, .b x), (3, .i .i64 w), (11, .u 64 r), (12, .u 64 c), (13, .u 64 d), (14, .i .i64 i)], [], [], 0⟩).run =
      if decide (i < IntKind.i64.wrap (8 * w)) = true then
        some (.normal, ⟨[(0, .u 64 a), (1, .u 64 b), (2, .b x), (3, .i .i64 w), (11, .u 64 (r + ((bitB (a.getLsbD (BitVec.ofInt 64 i).toNat) + bitB (b.getLsbD (BitVec.ofInt 64 i).toNat) + c) % 2#64) <<< (BitVec.ofInt 64 i).toNat)),
          (12, .u 64 ((bitB (a.getLsbD (BitVec.ofInt 64 i).toNat) + bitB (b.getLsbD (BitVec.ofInt 64 i).toNat) + c) / 2#64)), (13, .u 64 c), (14, .i .i64 (IntKind.i64.wrap (i + 1)))], [], [], 0⟩)
      else some (.exit 0, ⟨[(0, .u 64 a), (1, .u 64 b), (2, .b x), (3, .i .i64 w), (11, .u 64 r), (12, .u 64 c), (13, .u 64 d), (14, .i .i64 i)], [], [], 0⟩) := fun r c d i => by kernel_rfl
  have h64 := nb_le w
  have e0 : ([(0, .u 64 a), (1, .u 64 b), (2, .b x), (3, .i .i64 w), (11, .u 64 0#64), (12, .u 64 (bitB x)), (13, .u 64 (bitB x)), (14, .i .i64 0)] : List (Nat × AV)) =
     [(0, .u 64 a), (1, .u 64 b), (2, .b x), (3, .i .i64 w), (11, .u 64 (low (a + b + bitB x) 0)), (12, .u 64 (bitB (BitVec.carry 0 a b x))), (13, .u 64 (bitB (BitVec.carry (0 - 1) a b x))), (14, .i .i64 ((0 : Nat) : Int))] := by
    rw [show 0 - 1 = 0 from rfl, carry_zero]; rfl
  rw [e0]
  refine ⟨nb w + 1, iter_for (fun j => ⟨[(0, .u 64 a), (1, .u 64 b), (2, .b x), (3, .i .i64 w), (11, .u 64 (low (a + b + bitB x) j)), (12, .u 64 (bitB (BitVec.carry j a b x))), (13, .u 64 (bitB (BitVec.carry (j - 1) a b x))), (14, .i .i64 (j : Int))], [], [], 0⟩) (nb w) ?_ ?_ (by simp)⟩
  · intro j hj
    have hj64 : j < 64 := by omega
    rw [e, wrap8 hw, wrap_succ j (by omega), ofInt_nat j (by omega), col_mod, col_div, ← sum_bit a b x hj64, ← BitVec.carry_succ, ← low_succ]
    rw [if_pos (by simpa using hj)]
    rfl
  · rw [e, wrap8 hw]
    simp [sum1]
theorem ok25 : FnOk Tryz.prog 146 s24 := FnOk.of tyOk S5_ok mixed Tryz.func146 (by kernel_rfl) (by kernel_rfl) <| by
  intro xs r hs
  unfold s24 at hs; split at hs <;> cases hs
  rename_i a b c w
  intro hp _ _ _ _
  refine ⟨1, FnLoops.one (by kernel_rfl) (loop25 1), ?_⟩
  have e : evFn T S5 L25 1 Tryz.f146 [.u 64 a, .u 64 b, .b c, .i .i64 w] = Tr.ite (!isW w) (.leaf (.tup [.u 64 0#64, .b false, .b false]))
    (Tr.need (isW w) (Tr.need true (Tr.need (bitB c == bitB c) (Tr.need (bitB c == bitB c) (Tr.need true
      (.leaf (.tup [.u 64 (sum1 a b c w), .b (bitB (BitVec.carry (nb w) a b c) == 1#64), .b (bitB (BitVec.carry (nb w) a b c) != bitB (BitVec.carry (nb w - 1) a b c))]))))))) := by kernel_rfl
  rw [e]
  cases h : isW w with
  | false => obtain ⟨h1, h2, h3⟩ := sum_none a b c h; simp [Tr.run, h1, h2, h3]
  | true =>
    have hb : ∀ x y : Bool, (bitB x != bitB y) = (x != y) := by intro x y; cases x <;> cases y <;> rfl
    simp only [bitB_is, hb]
    simp [Tr.run, sum2, sum3, h]
noncomputable abbrev S6 : FuncId → CSpec := withS S5 146 s24
theorem S6_ok : ∀ f, FnOk Tryz.prog f (S6 f) := withS_ok S5_ok ok25
theorem ok27 : FnOk Tryz.prog 148 s26 := okBy S6_ok Tryz.func148 (by kernel_rfl) (by kernel_rfl) 1 <| by
  intro xs r hs
  unfold s26 at hs; split at hs <;> cases hs
  rename_i a b c w
  intro hp _
  have e : evFn T S6 noL 1 Tryz.f148 [.u 64 a, .u 64 b, .b c, .i .i64 w] = .leaf (.tup [.u 64 (sum1 a (18446744073709551615#64 - b) (!c) w), .b (if isW w = true then !sum2 a (18446744073709551615#64 - b) (!c) w else false), .b (sum3 a (18446744073709551615#64 - b) (!c) w)]) := by kernel_rfl
  rw [e, show (18446744073709551615#64 - b) = ~~~ b from BitVec.allOnes_sub_eq_not b]
  cases h : isW w <;> simp [Tr.run]
noncomputable abbrev S7 : FuncId → CSpec := withS S6 148 s26
theorem S7_ok : ∀ f, FnOk Tryz.prog f (S7 f) := withS_ok S6_ok ok27
def s28 : CSpec | [.u 64 v, .i .i64 k, .i .i64 w] => some ⟨[], .u 64 (turn v k w)⟩ | _ => none
theorem turn_none (v : W64) (k : Int) {w : Int} (h : isW w = false) : turn v k w = 0#64 := by simp [turn, nb, h, turnN, sumBits]
theorem wrap_turn (k : Int) {n : Nat} (h0 : 0 < n) (h : n ≤ 64) : IntKind.i64.wrap (k.tmod n + n) = k.tmod n + n := by
  obtain ⟨_, h1, h2⟩ := tmod_turn k h0 h
  rw [wrap_small] <;> omega
theorem turn_mod (k : Int) {n : Nat} (h0 : 0 < n) (h : n ≤ 64) : (IntKind.i64.wrap (k.tmod n + n)).tmod n = k % n := by
  obtain ⟨h1, h2, h3⟩ := tmod_turn k h0 h
  rw [wrap_turn k h0 h, Int.tmod_eq_emod_of_nonneg (by omega), h1]
def q31 : St → Option LRes
  | ⟨[(0, .u 64 v), (1, .i .i64 k), (7, .i .i64 n), (8, .u 64 r), (9, .i .i64 i)], [], [], _⟩ => some ⟨[decide (0 ≤ k), decide (k < n), decide (n ≤ 64), r == 0#64, i == 0], .exit 0, [(0, .u 64 v), (1, .i .i64 k), (7, .i .i64 n), (8, .u 64 (turnN v k.toNat n.toNat)), (9, .i .i64 n)], [], []⟩
  | _ => none
def L31 : Nat → Live := fun _ => ⟨[0, 1, 7, 8, 9], [], [], some (evSum q31)⟩
theorem loop31 (N : Nat) : LoopOk T S7 L31 41 N (loopOf Tryz.f149 0) := LoopOk.of rfl <| by
  intro τ r hcut hr
  unfold q31 at hr; split at hr <;> cases hr
  rename_i v k n r i c
  obtain rfl : c = 0 := hcut
  intro hp
  simp only [List.mem_cons, List.not_mem_nil, or_false, forall_eq_or_imp, forall_eq, beq_iff_eq, decide_eq_true_eq] at hp
  obtain ⟨hk, hkn, hn, rfl, rfl⟩ := hp
  have e : ∀ (r : W64) (i : Int), (atHead (evCode T S7 L31 41 N (loopOf Tryz.f149 0)) (L31 (firstR (loopOf Tryz.f149 0))) ⟨[(0, .u 64 v), (1, .i .i64 k), (7, .i .i64 n), (8, .u 64 r), (9, .i .i64 i)], [], [], 0⟩).run =
      if decide (i < n) = true then if (!n == 0) = true then
        some (.normal, ⟨[(0, .u 64 v), (1, .i .i64 k), (7, .i .i64 n), (8, .u 64 (r + bitB (v.getLsbD (BitVec.ofInt 64 i).toNat) <<< (BitVec.ofInt 64 ((IntKind.i64.wrap (i + k)).tmod n)).toNat)), (9, .i .i64 (IntKind.i64.wrap (i + 1)))], [], [], 0⟩) else none
      else some (.exit 0, ⟨[(0, .u 64 v), (1, .i .i64 k), (7, .i .i64 n), (8, .u 64 r), (9, .i .i64 i)], [], [], 0⟩) := fun r i => by kernel_rfl
  obtain ⟨m, rfl⟩ : ∃ m : Nat, k = m := ⟨k.toNat, by omega⟩
  obtain ⟨n, rfl⟩ : ∃ m : Nat, n = m := ⟨n.toNat, by omega⟩
  have hm : m < n := by omega
  rw [← part_zero v m n, Int.toNat_natCast, Int.toNat_natCast, ← part_all v (by omega : 0 < n)]
  refine ⟨n + 1, iter_for (fun j => ⟨[(0, .u 64 v), (1, .i .i64 (m : Int)), (7, .i .i64 (n : Int)), (8, .u 64 (part v m n j)), (9, .i .i64 (j : Int))], [], [], 0⟩) n ?_ ?_ (by simp)⟩
  · intro j hj
    have e1 : IntKind.i64.wrap ((j : Int) + (m : Int)) = ((j + m : Nat) : Int) := by rw [wrap_small] <;> omega
    have e2 : (((j + m : Nat) : Int).tmod (n : Int)) = (((j + m) % n : Nat) : Int) := rfl
    have e3 : (j + m) % n < n := Nat.mod_lt _ (by omega)
    rw [e, wrap_succ j (by omega), ofInt_nat j (by omega), e1, e2, ofInt_nat _ (by omega), part_succ v hm hj (by omega), if_pos (by simpa using hj), if_pos (by simp; omega)]
  · rw [e, if_neg (by simp)]
theorem ok31 : FnOk Tryz.prog 149 s28 := FnOk.of tyOk S7_ok mixed Tryz.func149 (by kernel_rfl) (by kernel_rfl) <| by
  intro xs r hs
  unfold s28 at hs; split at hs <;> cases hs
  rename_i v k w
  intro hp _ _ _ _
  refine ⟨1, FnLoops.one (by kernel_rfl) (loop31 1), ?_⟩
  have e : ∀ n : Int, n = IntKind.i64.wrap (8 * w) → (evFn T S7 L31 1 Tryz.f149 [.u 64 v, .i .i64 k, .i .i64 w]).run = if (!isW w) = true then some (.u 64 0#64) else
     if (!n == 0) = true then 
     if decide (0 ≤ if decide (k.tmod n < 0) = true then IntKind.i64.wrap (k.tmod n + n) else k.tmod n) = true then
     if decide ((if decide (k.tmod n < 0) = true then IntKind.i64.wrap (k.tmod n + n) else k.tmod n) < n) = true then
     if decide (n ≤ 64) = true then some (.u 64 (turnN v (if decide (k.tmod n < 0) = true then IntKind.i64.wrap (k.tmod n + n) else k.tmod n).toNat n.toNat)) else none else none else none else none := fun n hn => by subst hn; kernel_rfl
  rw [e _ rfl]
  cases h : isW w with
  | false => simp [turn_none v k h]
  | true =>
    have h0 := nb_pos h
    have h64 := nb_le w
    have hm0 := Int.emod_nonneg k (by omega : (nb w : Int) ≠ 0)
    have hm1 := Int.emod_lt_of_pos k (by omega : (0 : Int) < nb w)
    obtain ⟨t1, t2, t3⟩ := tmod_turn k h0 h64
    have c0 : (if decide (k.tmod (nb w : Int) < 0) = true then IntKind.i64.wrap (k.tmod (nb w : Int) + (nb w : Int)) else k.tmod (nb w : Int)) = k % (nb w : Int) := by
      rw [wrap_turn k h0 h64]
      have hs : k.tmod (nb w : Int) % (nb w : Int) = k % (nb w : Int) := by rw [← t1, Int.add_emod_right]
      split
      · rename_i hc
        have hc : k.tmod (nb w : Int) < 0 := by simpa using hc
        rw [← t1, Int.emod_eq_of_lt (by omega) (by omega)]
      · rename_i hc
        have hc : ¬ k.tmod (nb w : Int) < 0 := by simpa using hc
        rw [← hs, Int.emod_eq_of_lt (by omega) (by omega)]
    rw [wrap8 h, c0]
    have c1 : (!((nb w : Int) == 0)) = true := by simp; omega
    simp only [c1, Bool.not_true, Bool.false_eq_true, if_false, if_true]
    rw [if_pos (by simpa using hm0), if_pos (by simpa using hm1), if_pos (by simp; omega)]
    rfl

/- counting -/
def s56 : CSpec | [.u 64 v] => some ⟨[], .i .i64 (popN v.getLsbD 64)⟩ | _ => none
def s62 : CSpec | [.u 8 v] => some ⟨[], .i .i64 (popN v.getLsbD 8)⟩ | _ => none
def q56 : St → Option LRes
  | ⟨[(0, .u 64 v), (3, .i .i64 n), (4, .i .i64 i)], [], [], _⟩ => some ⟨[n == 0, i == 0], .exit 0, [(0, .u 64 v), (3, .i .i64 (popN v.getLsbD 64)), (4, .i .i64 64)], [], []⟩
  | _ => none
def L56 : Nat → Live := fun _ => ⟨[0, 3, 4], [], [], some (evSum q56)⟩
def tab8 : List UInt8 := [0, 1, 1, 2, 1, 2, 2, 3, 1, 2, 2, 3, 2, 3, 3, 4, 1, 2, 2, 3, 2, 3, 3, 4, 2, 3, 3, 4, 3, 4, 4, 5, 1, 2, 2, 3, 2, 3, 3, 4, 2, 3, 3, 4, 3, 4, 4, 5, 2, 3, 3, 4, 3, 4, 4, 5, 3, 4, 4, 5, 4, 5, 5, 6, 1, 2, 2, 3, 2, 3, 3, 4, 2, 3, 3, 4, 3, 4, 4, 5, 2, 3, 3, 4, 3, 4, 4, 5, 3, 4, 4, 5, 4, 5, 5, 6, 2, 3, 3, 4, 3, 4, 4, 5, 3, 4, 4, 5, 4, 5, 5, 6, 3, 4, 4, 5, 4, 5, 5, 6, 4, 5, 5, 6, 5, 6, 6, 7, 1, 2, 2, 3, 2, 3, 3, 4, 2, 3, 3, 4, 3, 4, 4, 5, 2, 3, 3, 4, 3, 4, 4, 5, 3, 4, 4, 5, 4, 5, 5, 6, 2, 3, 3, 4, 3, 4, 4, 5, 3, 4, 4, 5, 4, 5, 5, 6, 3, 4, 4, 5, 4, 5, 5, 6, 4, 5, 5, 6, 5, 6, 6, 7, 2, 3, 3, 4, 3, 4, 4, 5, 3, 4, 4, 5, 4, 5, 5, 6, 3, 4, 4, 5, 4, 5, 5, 6, 4, 5, 5, 6, 5, 6, 6, 7, 3, 4, 4, 5, 4, 5, 5, 6, 4, 5, 5, 6, 5, 6, 6, 7, 4, 5, 5, 6, 5, 6, 6, 7, 5, 6, 6, 7, 6, 7, 7, 8]
theorem tab8_all : ∀ n : Fin 256, (tab8.getD n.val 0).toNat = popN (BitVec.ofNat 8 n.val).getLsbD 8 := by decide +kernel
theorem tab8_at (v : BitVec 8) : (tab8.getD v.toNat 0).toNat = popN v.getLsbD 8 := by
  have := tab8_all ⟨v.toNat, v.isLt⟩
  simpa using this
noncomputable abbrev S8 : FuncId → CSpec := withS S7 149 s28
theorem S8_ok : ∀ f, FnOk Tryz.prog f (S8 f) := withS_ok S7_ok ok31
def s29 : CSpec | [.u 64 v] => some ⟨[], .b ((popN v.getLsbD 8 : Int).tmod 2 == 0)⟩ | _ => none
noncomputable abbrev S9 : FuncId → CSpec := S8
theorem S9_ok : ∀ f, FnOk Tryz.prog f (S9 f) := S8_ok
def sTrue : CSpec | [] => some ⟨[], .b true⟩ | _ => none
noncomputable abbrev SB : FuncId → CSpec := S9
theorem SB_ok : ∀ f, FnOk Tryz.prog f (SB f) := S9_ok
/-- A law that is true, as a call. -/
theorem law_calls {S : FuncId → CSpec} (hS : ∀ f, FnOk Tryz.prog f (S f)) {L : Nat → Live} {N : Nat} {f : FuncId} {fn : Func} (hf : Tryz.prog.funcs[f]? = some fn) (hL : FnLoops T S L N fn) {xs : List AV} (h : (evFn T S L N fn xs).run = some (.b true))
    {W : World} {R : Nat → Prop} (hR : ∀ b, R b → b < W.heap.size) (hG : Glob.G W R) {vs : List Value} (hvs : TR (baseC W R) xs vs) : Calls Tryz.prog f vs.toArray W fun e W' => e = .returned (.bool true) ∧ Below W.heap.size W W' := by
  refine (calls_ev tyOk hS mixed hf hL h hR hG hvs).mono fun e W' hd => ?_
  obtain ⟨v, rfl, R', hd⟩ := hd
  have hv := hd.res
  cases hv
  exact ⟨rfl, hd.fr.os, hd.fr.tape, hd.fr.output, hd.fr.size, fun k hk => hd.fr.block k hk (fun h => h)⟩
theorem noR (W : World) : ∀ b, (fun _ => False : Nat → Prop) b → b < W.heap.size := fun _ h => h.elim
theorem wf_u64 {a : Int} (h : (Lit.int .u64 a).wf = true) : ∃ x : W64, a = (x.toNat : Int) := by
  simp [Lit.wf, IntKind.min, IntKind.max, IntKind.signed, IntKind.bits] at h
  exact ⟨BitVec.ofInt 64 a, by rw [BitVec.toNat_ofInt]; omega⟩
theorem wf_u32 {a : Int} (h : (Lit.int .u32 a).wf = true) : ∃ x : BitVec 32, a = (x.toNat : Int) := by
  simp [Lit.wf, IntKind.min, IntKind.max, IntKind.signed, IntKind.bits] at h
  exact ⟨BitVec.ofInt 32 a, by rw [BitVec.toNat_ofInt]; omega⟩
theorem wf_i64 {a : Int} (h : (Lit.int .i64 a).wf = true) : IntKind.i64.has a := by
  simp only [Lit.wf, Bool.and_eq_true, decide_eq_true_eq] at h
  exact h

/- the four laws on widths, sums, turns: plain -/
theorem zx_get (v : W64) (w : Int) (j : Nat) : (zx v w).getLsbD j = (decide (j < nb w) && v.getLsbD j) := low_get v (nb_le w) j
theorem mask_is (w : Int) : maskW w = zx (BitVec.ofInt 64 18446744073709551615) w := by
  rw [zx, low_eq_and _ (nb_le w), maskW]
  apply BitVec.eq_of_getLsbD_eq
  intro j hj
  rw [BitVec.getLsbD_and, show (BitVec.ofInt 64 18446744073709551615) = BitVec.allOnes 64 from rfl]
  rw [BitVec.getLsbD_allOnes]
  simp only [hj, decide_true, Bool.true_and]
theorem zx_sx (v : W64) (w : Int) : zx (sx v w) w = zx v w := by
  apply BitVec.eq_of_getLsbD_eq
  intro j hj
  rw [zx_get, zx_get]
  cases h : isW w with
  | false => simp [nb, h]
  | true =>
    by_cases hj' : j < nb w
    · simp only [hj', decide_true, Bool.true_and, sx, h, cond_true]
      rw [sumBits_get _ (Nat.le_refl _), show min j (nb w - 1) = j by omega]
      simp [hj]
    · simp [hj']
theorem sx_zx (v : W64) (w : Int) : sx (zx v w) w = sx v w := by
  cases h : isW w with
  | false => simp [sx, h]
  | true =>
    have := nb_pos h
    simp only [sx, h, cond_true]
    refine sumBits_congr fun j _ => ?_
    rw [zx_get, decide_eq_true (by omega : min j (nb w - 1) < nb w), Bool.true_and]
theorem sum_back (a b : W64) (w : Int) : sum1 (sum1 a b false w) (~~~ b) true w = zx a w := by
  have hn := nb_le w
  have e2 : ∀ x, zx (zx x w - zx b w - bitB false) w = sum1 x (~~~ b) true w := fun x => less1_eq x b false w
  have e1 : sum1 (sum1 a b false w) (~~~ b) true w = sum1 (a + b) (~~~ b) true w := by
    rw [← e2, ← e2]
    congr 1
    rw [show sum1 a b false w = zx (a + b) w by simp [sum1, zx, bitB]]
    rw [show zx (zx (a + b) w) w = zx (a + b) w from by
      apply BitVec.eq_of_getLsbD_eq; intro j _; rw [zx_get, zx_get]; by_cases h : j < nb w <;> simp [h]]
  rw [e1, sum1, show a + b + ~~~ b + bitB true = a by
    rw [BitVec.not_eq_neg_add]; simp only [bitB, cond_true]
    rw [BitVec.add_assoc a b, BitVec.sub_eq_add_neg, ← BitVec.add_assoc b, ← BitVec.sub_eq_add_neg b b, BitVec.sub_self, BitVec.zero_add, BitVec.add_assoc, BitVec.add_comm (-1#64), ← BitVec.sub_eq_add_neg, BitVec.sub_self, BitVec.add_zero]]
  rfl
theorem carry_back (a b : W64) {w : Int} (h : isW w = true) : sum2 a b false w = !sum2 (sum1 a b false w) (~~~ b) true w := by
  have hn := nb_le w
  have hs : (sum1 a b false w).toNat = (a.toNat + b.toNat) % 2 ^ nb w := by
    rw [sum1, low_toNat _ hn]
    simp only [bitB, cond_false, BitVec.add_zero, BitVec.toNat_add]
    rw [Nat.mod_mod_of_dvd _ (Nat.pow_dvd_pow 2 hn)]
  have hb := Nat.mod_lt b.toNat (Nat.two_pow_pos (nb w))
  have ha := Nat.mod_lt a.toNat (Nat.two_pow_pos (nb w))
  simp only [sum2, h, Bool.true_and, carry_eq, low_not b hn, hs, Nat.mod_mod]
  rw [← decide_not, decide_eq_decide, Nat.add_mod]
  generalize a.toNat % 2 ^ nb w = x at *
  generalize b.toNat % 2 ^ nb w = y at *
  generalize 2 ^ nb w = m at *
  by_cases hc : m ≤ x + y
  · rw [show (x + y) % m = x + y - m from by rw [Nat.mod_eq_sub_mod hc, Nat.mod_eq_of_lt (by omega)]]
    simp; omega
  · rw [Nat.mod_eq_of_lt (by omega)]
    simp; omega
theorem turn_back (v : W64) (k w : Int) (h0 : -64 < k) (h1 : k < 64) : turn (turn v k w) (IntKind.i64.wrap (0 - k)) w = zx v w := by
  rw [wrap_small _ (by omega) (by omega)]
  cases h : isW w with
  | false => rw [turn_none _ _ h]; simp [zx, nb, h, low, sumBits]
  | true =>
    have hp := nb_pos h
    have hm0 := Int.emod_nonneg k (by omega : (nb w : Int) ≠ 0)
    have hm1 := Int.emod_lt_of_pos k (by omega : (0 : Int) < nb w)
    have hp0 := Int.emod_nonneg (0 - k) (by omega : (nb w : Int) ≠ 0)
    have hp1 := Int.emod_lt_of_pos (0 - k) (by omega : (0 : Int) < nb w)
    refine turn_turn v (by omega) (by omega) (nb_le w) ?_
    rcases nb_cases h with e | e | e | e <;> rw [e] at * <;> omega
/- Plain: fields of words of 32 bits. -/
abbrev W32 := BitVec 32
def bitB_32 (b : Bool) : W32 := bif b then 1#32 else 0#32
/-- bits told by a function, from the least on -/
def sumBits_32 (f : Nat → Bool) : Nat → W32
  | 0 => 0#32
  | n + 1 => sumBits_32 f n + bitB_32 (f n) <<< n
theorem bitB_toNat_32 (b : Bool) : (bitB_32 b).toNat = b.toNat := by cases b <;> rfl

theorem sumBits_toNat_lt_32 (f : Nat → Bool) : ∀ n, n ≤ 32 → (sumBits_32 f n).toNat < 2 ^ n
  | 0, h => by simp [sumBits_32]
  | n + 1, h => by
    have ih := sumBits_toNat_lt_32 f n (by omega)
    have h64 : (2:Nat) ^ (n + 1) ≤ 2 ^ 32 := Nat.pow_le_pow_right (by omega) h
    have hp : (2:Nat) ^ (n + 1) = 2 ^ n * 2 := Nat.pow_succ ..
    have hb : (bitB_32 (f n) <<< n).toNat = (f n).toNat * 2 ^ n := by
      rw [BitVec.toNat_shiftLeft, bitB_toNat_32, Nat.shiftLeft_eq]
      apply Nat.mod_eq_of_lt
      cases f n <;> simp <;> omega
    rw [sumBits_32, BitVec.toNat_add, hb]
    have : (f n).toNat * 2 ^ n ≤ 2 ^ n := by cases f n <;> simp
    rw [Nat.mod_eq_of_lt (by omega)]
    omega

theorem sumBits_succ_toNat_32 (f : Nat → Bool) (n : Nat) (h : n < 32) : (sumBits_32 f (n + 1)).toNat = (sumBits_32 f n).toNat + (f n).toNat * 2 ^ n := by
  have ih := sumBits_toNat_lt_32 f n (by omega)
  have h64 : (2:Nat) ^ (n + 1) ≤ 2 ^ 32 := Nat.pow_le_pow_right (by omega) h
  have hp : (2:Nat) ^ (n + 1) = 2 ^ n * 2 := Nat.pow_succ ..
  have hb : (bitB_32 (f n) <<< n).toNat = (f n).toNat * 2 ^ n := by
    rw [BitVec.toNat_shiftLeft, bitB_toNat_32, Nat.shiftLeft_eq]
    apply Nat.mod_eq_of_lt
    cases f n <;> simp <;> omega
  rw [sumBits_32, BitVec.toNat_add, hb]
  have : (f n).toNat * 2 ^ n ≤ 2 ^ n := by cases f n <;> simp
  rw [Nat.mod_eq_of_lt (by omega)]

theorem sumBits_testBit_32 (f : Nat → Bool) : ∀ n, n ≤ 32 → ∀ j, (sumBits_32 f n).toNat.testBit j = (decide (j < n) && f j)
  | 0, _, j => by simp [sumBits_32]
  | n + 1, h, j => by
    have ih := sumBits_testBit_32 f n (by omega)
    rw [sumBits_succ_toNat_32 f n (by omega), Nat.add_comm, Nat.mul_comm, Nat.testBit_two_pow_mul_add _ (sumBits_toNat_lt_32 f n (by omega)), ih]
    split
    · rename_i hj; have : j < n + 1 := by omega
      simp [hj, this]
    · rename_i hj
      by_cases hjn : j = n
      · subst hjn; simp; cases f j <;> rfl
      · have h1 : ¬ j < n + 1 := by omega
        have : (f n).toNat.testBit (j - n) = false := by
          obtain ⟨k, hk⟩ : ∃ k, j - n = k + 1 := ⟨j - n - 1, by omega⟩
          rw [hk]
          cases f n <;> simp [Nat.testBit_succ]
        simp [h1, this]

theorem sumBits_get_32 (f : Nat → Bool) {n : Nat} (h : n ≤ 32) (j : Nat) : (sumBits_32 f n).getLsbD j = (decide (j < n) && f j) := by
  rw [BitVec.getLsbD, sumBits_testBit_32 f n h]

theorem bit_eq_32 (v : W32) (n : Nat) : (v >>> n) % 2#32 = bitB_32 (v.getLsbD n) := by
  apply BitVec.eq_of_toNat_eq
  rw [bitB_toNat_32, BitVec.toNat_umod, BitVec.toNat_ushiftRight, BitVec.getLsbD, Nat.testBit_eq_decide_div_mod_eq, Nat.shiftRight_eq_div_pow]
  show _ % 2 = _
  rcases Nat.mod_two_eq_zero_or_one (v.toNat / 2 ^ n) with e | e <;> simp [e]


theorem sumBits_congr_32 {f g : Nat → Bool} : ∀ {n : Nat}, (∀ j, j < n → f j = g j) → sumBits_32 f n = sumBits_32 g n
  | 0, _ => rfl
  | n + 1, h => by rw [sumBits_32, sumBits_32, sumBits_congr_32 (fun j hj => h j (by omega)), h n (by omega)]
theorem eq_sumBits_32 {x : W32} {f : Nat → Bool} {n : Nat} (hn : n ≤ 32) (h : ∀ j, j < 32 → x.getLsbD j = (decide (j < n) && f j)) : x = sumBits_32 f n := by
  apply BitVec.eq_of_getLsbD_eq
  intro j hj
  rw [h j hj, sumBits_get_32 f hn]
theorem sumBits_succ_32 (f : Nat → Bool) (n : Nat) : sumBits_32 f (n + 1) = sumBits_32 f n + bitB_32 (f n) <<< n := rfl
def within (at_ n : Int) : Bool := decide (0 ≤ at_) && decide (at_ < 32) && decide (1 ≤ n) && decide (n ≤ 32 - at_)
theorem within_nat {at_ n : Int} (h : within at_ n = true) : ∃ a m : Nat, at_ = a ∧ n = m ∧ 1 ≤ m ∧ a + m ≤ 32 := by
  simp only [within, Bool.and_eq_true, decide_eq_true_eq] at h
  exact ⟨at_.toNat, n.toNat, by omega, by omega, by omega, by omega⟩
def fieldN (v : W32) (a m : Nat) : W32 := sumBits_32 (fun i => v.getLsbD (a + i)) m
def field (v : W32) (at_ n : Int) : W32 := bif within at_ n then fieldN v at_.toNat n.toNat else 0#32
def withN (v : W32) (a m : Nat) (f : W32) : W32 := sumBits_32 (fun i => bif decide (a ≤ i) && decide (i - a < m) then f.getLsbD (i - a) else v.getLsbD i) 32
def with_ (v : W32) (at_ n : Int) (f : W32) : W32 := bif within at_ n then withN v at_.toNat n.toNat f else v
theorem ones_get {m : Nat} (h : m ≤ 32) (j : Nat) : (BitVec.allOnes 32 >>> (32 - m)).getLsbD j = decide (j < m) := by
  rw [BitVec.getLsbD_ushiftRight, BitVec.getLsbD_allOnes, decide_eq_decide]; omega
theorem field_code (v : W32) {a m : Nat} (h : a + m ≤ 32) : v >>> a &&& (BitVec.allOnes 32 >>> (32 - m)) = fieldN v a m := by
  refine eq_sumBits_32 (by omega) fun j hj => ?_
  rw [BitVec.getLsbD_and, ones_get (by omega), BitVec.getLsbD_ushiftRight, Bool.and_comm]
theorem with_code (v f : W32) {a m : Nat} (h : a + m ≤ 32) : (v &&& ~~~((BitVec.allOnes 32 >>> (32 - m)) <<< a)) ||| (f <<< a &&& (BitVec.allOnes 32 >>> (32 - m)) <<< a) = withN v a m f := by
  refine eq_sumBits_32 (by omega) fun j hj => ?_
  rw [BitVec.getLsbD_or, BitVec.getLsbD_and, BitVec.getLsbD_and, BitVec.getLsbD_not, BitVec.getLsbD_shiftLeft, BitVec.getLsbD_shiftLeft, ones_get (by omega)]
  simp only [hj, decide_true, Bool.true_and]
  by_cases h1 : j < a
  · have : ¬ a ≤ j := by omega
    simp [h1, this]
  · have h2 : a ≤ j := by omega
    by_cases h3 : j - a < m <;> simp [h1, h2, h3]
theorem field_with (v f : W32) {a m : Nat} (h : a + m ≤ 32) : withN (withN v a m f) a m (fieldN v a m) = v := by
  symm
  refine eq_sumBits_32 (by omega) fun j hj => ?_
  simp only [fieldN, withN]
  rw [sumBits_get_32 _ (by omega), sumBits_get_32 _ (by omega)]
  by_cases h1 : a ≤ j
  · by_cases h2 : j - a < m
    · rw [show a + (j - a) = j by omega]; simp [hj, h1, h2]
    · simp [hj, h1, h2]
  · simp [hj, h1]
def s66 : CSpec | [.i .i64 a, .i .i64 n] => some ⟨[], .b (within a n)⟩ | _ => none
theorem within_code (a n : Int) : (if (if (if decide (0 ≤ a) = true then decide (a < 32) else false) = true then decide (1 ≤ n) else false) = true then decide (n ≤ IntKind.i64.wrap (32 - a)) else false) = within a n := by
  by_cases h1 : 0 ≤ a
  · by_cases h2 : a < 32
    · rw [wrap_small (32 - a) (by omega) (by omega)]
      by_cases h3 : 1 ≤ n <;> simp [within, h1, h2, h3]
    · simp [within, h1, h2]
  · simp [within, h1]
def s67 : CSpec | [.i .i64 n] => some ⟨[decide (0 ≤ IntKind.i64.wrap (32 - n))], .u 32 (BitVec.allOnes 32 >>> (IntKind.i64.wrap (32 - n)).toNat)⟩ | _ => none
noncomputable abbrev S10 : FuncId → CSpec := SB
theorem S10_ok : ∀ f, FnOk Tryz.prog f (S10 f) := SB_ok
def s38 : CSpec | [.u 32 v, .i .i64 a, .i .i64 n] => some ⟨[], .u 32 (field v a n)⟩ | _ => none
def s37 : CSpec | [.u 32 v, .i .i64 a, .i .i64 n, .u 32 f] => some ⟨[], .u 32 (with_ v a n f)⟩ | _ => none
def q39 : St → Option LRes
  | ⟨[(0, .u 32 v), (1, .i .i64 a), (2, .i .i64 n), (7, .u 32 r), (8, .i .i64 i)], [], [], _⟩ => some ⟨[r == 0#32, i == 0], .exit 0, [(0, .u 32 v), (1, .i .i64 a), (2, .i .i64 n), (7, .u 32 (field v a n)), (8, .i .i64 (bif within a n then n else 0))], [], []⟩
  | _ => none
def L39 : Nat → Live := fun _ => ⟨[0, 1, 2, 7, 8], [], [], some (evSum q39)⟩
def q40 : St → Option LRes
  | ⟨[(0, .u 32 v), (1, .i .i64 a), (2, .i .i64 n), (3, .u 32 f), (9, .u 32 r), (10, .i .i64 i)], [], [], _⟩ => some ⟨[r == 0#32, i == 0], .exit 0, [(0, .u 32 v), (1, .i .i64 a), (2, .i .i64 n), (3, .u 32 f), (9, .u 32 (with_ v a n f)), (10, .i .i64 32)], [], []⟩
  | _ => none
def L40 : Nat → Live := fun _ => ⟨[0, 1, 2, 3, 9, 10], [], [], some (evSum q40)⟩
def wbit (v f : W32) (a n : Int) (i : Nat) : Bool := bif within a n then bif decide (a.toNat ≤ i) && decide (i - a.toNat < n.toNat) then f.getLsbD (i - a.toNat) else v.getLsbD i else v.getLsbD i
theorem with_bits (v f : W32) (a n : Int) : with_ v a n f = sumBits_32 (wbit v f a n) 32 := by
  cases h : within a n with
  | true => simp only [with_, h, cond_true, withN]; exact sumBits_congr_32 fun j _ => by simp [wbit, h]
  | false =>
    simp only [with_, h, cond_false]
    refine eq_sumBits_32 (Nat.le_refl _) fun j hj => ?_
    simp [wbit, h, hj]
noncomputable abbrev S11 : FuncId → CSpec := S10
theorem S11_ok : ∀ f, FnOk Tryz.prog f (S11 f) := S10_ok
theorem with_back (v f : W32) (a n : Int) : with_ (with_ v a n f) a n (field v a n) = v := by
  cases h : within a n with
  | false => simp [with_, h]
  | true =>
    obtain ⟨a, m, rfl, rfl, h1, h2⟩ := within_nat h
    simp only [with_, field, h, cond_true, Int.toNat_natCast]
    exact field_with v f h2
/- Plain: products. -/
def mulHi (a b : W64) : W64 := BitVec.ofNat 64 (a.toNat * b.toNat / 2 ^ 64)
theorem mulHi_toNat (a b : W64) : (mulHi a b).toNat = a.toNat * b.toNat / 2 ^ 64 := by
  rw [mulHi, BitVec.toNat_ofNat]
  apply Nat.mod_eq_of_lt
  have ha := a.isLt; have hb := b.isLt
  have : a.toNat * b.toNat < 2 ^ 64 * 2 ^ 64 := Nat.mul_lt_mul_of_lt_of_lt ha hb
  omega
theorem halves (v : W64) : (v &&& 4294967295#64).toNat = v.toNat % 4294967296 ∧ (v >>> 32).toNat = v.toNat / 4294967296 := by
  refine ⟨?_, ?_⟩
  · rw [BitVec.toNat_and]; exact Nat.and_two_pow_sub_one_eq_mod v.toNat 32
  · rw [BitVec.toNat_ushiftRight, Nat.shiftRight_eq_div_pow]
theorem mul_lt {x y : Nat} (hx : x < 4294967296) (hy : y < 4294967296) : x * y ≤ 18446744065119617025 := by
  have : x * y ≤ 4294967295 * 4294967295 := Nat.mul_le_mul (by omega) (by omega)
  omega
theorem mul_code (a b : W64) :
    a >>> 32 * b >>> 32 + (a >>> 32 * (b &&& 4294967295#64) + ((a &&& 4294967295#64) * (b &&& 4294967295#64)) >>> 32) >>> 32 +
    ((a >>> 32 * (b &&& 4294967295#64) + ((a &&& 4294967295#64) * (b &&& 4294967295#64)) >>> 32 &&& 4294967295#64) + (a &&& 4294967295#64) * b >>> 32) >>> 32 = mulHi a b := by
  apply BitVec.eq_of_toNat_eq
  rw [mulHi_toNat]
  obtain ⟨ha0, ha1⟩ := halves a
  obtain ⟨hb0, hb1⟩ := halves b
  have ha := a.isLt; have hb := b.isLt
  have ea : a.toNat = (a >>> 32).toNat * 4294967296 + (a &&& 4294967295#64).toNat := by rw [ha0, ha1]; omega
  have eb : b.toNat = (b >>> 32).toNat * 4294967296 + (b &&& 4294967295#64).toNat := by rw [hb0, hb1]; omega
  have la0 : (a &&& 4294967295#64).toNat < 4294967296 := by rw [ha0]; omega
  have la1 : (a >>> 32).toNat < 4294967296 := by rw [ha1]; omega
  have lb0 : (b &&& 4294967295#64).toNat < 4294967296 := by rw [hb0]; omega
  have lb1 : (b >>> 32).toNat < 4294967296 := by rw [hb1]; omega
  rw [ea, eb]
  generalize a >>> 32 = a1 at *
  generalize a &&& 4294967295#64 = a0 at *
  generalize b >>> 32 = b1 at *
  generalize b &&& 4294967295#64 = b0 at *
  have h00 := mul_lt la0 lb0
  have h01 := mul_lt la0 lb1
  have h10 := mul_lt la1 lb0
  have h11 := mul_lt la1 lb1
  have e00 : (a0 * b0).toNat = a0.toNat * b0.toNat := by rw [BitVec.toNat_mul]; exact Nat.mod_eq_of_lt (by omega)
  have e01 : (a0 * b1).toNat = a0.toNat * b1.toNat := by rw [BitVec.toNat_mul]; exact Nat.mod_eq_of_lt (by omega)
  have e10 : (a1 * b0).toNat = a1.toNat * b0.toNat := by rw [BitVec.toNat_mul]; exact Nat.mod_eq_of_lt (by omega)
  have e11 : (a1 * b1).toNat = a1.toNat * b1.toNat := by rw [BitVec.toNat_mul]; exact Nat.mod_eq_of_lt (by omega)
  have ht : (a1 * b0 + (a0 * b0) >>> 32).toNat = a1.toNat * b0.toNat + a0.toNat * b0.toNat / 4294967296 := by
    rw [BitVec.toNat_add, (halves _).2, e10, e00]; exact Nat.mod_eq_of_lt (by omega)
  generalize a1 * b0 + (a0 * b0) >>> 32 = t at *
  rw [BitVec.toNat_add, BitVec.toNat_add, (halves _).2, (halves _).2, BitVec.toNat_add, (halves t).1, e01, e11, ht]
  have ex : (a1.toNat * 4294967296 + a0.toNat) * (b1.toNat * 4294967296 + b0.toNat) = a1.toNat * b1.toNat * 18446744073709551616 + a1.toNat * b0.toNat * 4294967296 + a0.toNat * b1.toNat * 4294967296 + a0.toNat * b0.toNat := by
    rw [Nat.add_mul, Nat.mul_add, Nat.mul_add]
    rw [show a1.toNat * 4294967296 * (b1.toNat * 4294967296) = a1.toNat * b1.toNat * 18446744073709551616 by rw [Nat.mul_assoc, Nat.mul_left_comm 4294967296, ← Nat.mul_assoc]]
    rw [show a1.toNat * 4294967296 * b0.toNat = a1.toNat * b0.toNat * 4294967296 by rw [Nat.mul_right_comm]]
    rw [← Nat.mul_assoc]; omega
  rw [ex]
  generalize a0.toNat * b0.toNat = p00 at *
  generalize a0.toNat * b1.toNat = p01 at *
  generalize a1.toNat * b0.toNat = p10 at *
  generalize a1.toNat * b1.toNat = p11 at *
  omega

/- by rounds: the product by the top j bits of b -/
def prod (a b : W64) (j : Nat) : Nat := a.toNat * (b.toNat / 2 ^ (64 - j))
theorem prod_succ (a b : W64) {j : Nat} (hj : j < 64) : prod a b (j + 1) = 2 * prod a b j + (bif b.getLsbD (63 - j) then a.toNat else 0) := by
  have e : b.toNat / 2 ^ (64 - (j + 1)) = 2 * (b.toNat / 2 ^ (64 - j)) + (b.getLsbD (63 - j)).toNat := by
    rw [show 64 - j = (64 - (j + 1)) + 1 by omega, show 63 - j = 64 - (j + 1) by omega, Nat.pow_succ, ← Nat.div_div_eq_div_mul, BitVec.getLsbD, Nat.testBit_eq_decide_div_mod_eq]
    generalize b.toNat / 2 ^ (64 - (j + 1)) = x
    rcases Nat.mod_two_eq_zero_or_one x with h | h <;> simp [h] <;> omega
  rw [prod, e, Nat.mul_add, prod, Nat.mul_left_comm]
  cases b.getLsbD (63 - j) <;> simp
theorem prod_lt (a b : W64) (j : Nat) : prod a b j < 2 ^ 64 * 2 ^ 64 := by
  refine Nat.mul_lt_mul_of_lt_of_lt a.isLt (Nat.lt_of_le_of_lt (Nat.div_le_self _ _) b.isLt)
theorem top_bit (l : W64) : (l.getLsbD 63).toNat = l.toNat / 9223372036854775808 := by
  have := l.isLt
  rw [BitVec.getLsbD, Nat.testBit_eq_decide_div_mod_eq]
  show (decide (l.toNat / 9223372036854775808 % 2 = 1)).toNat = _
  rcases (by omega : l.toNat / 9223372036854775808 = 0 ∨ l.toNat / 9223372036854775808 = 1) with h | h <;> simp [h]
def hiR (h l a : W64) (x : Bool) : W64 := if x = true then (if decide ((l * 2#64 + a).toNat < a.toNat) = true then h * 2#64 + bitB (l.getLsbD 63) + 1#64 else h * 2#64 + bitB (l.getLsbD 63)) else h * 2#64 + bitB (l.getLsbD 63)
def loR (l a : W64) (x : Bool) : W64 := if x = true then l * 2#64 + a else l * 2#64
def hiJ (a b : W64) (j : Nat) : W64 := BitVec.ofNat 64 (prod a b j / 2 ^ 64)
def loJ (a b : W64) (j : Nat) : W64 := BitVec.ofNat 64 (prod a b j)
theorem round_prod (a b : W64) {j : Nat} (hj : j < 64) : hiR (hiJ a b j) (loJ a b j) a (b.getLsbD (63 - j)) = hiJ a b (j + 1) ∧ loR (loJ a b j) a (b.getLsbD (63 - j)) = loJ a b (j + 1) := by
  have h1 := prod_lt a b j
  have h2 := prod_lt a b (j + 1)
  have e := prod_succ a b hj
  have ha := a.isLt
  have hh : (hiJ a b j).toNat = prod a b j / 18446744073709551616 := by rw [hiJ, BitVec.toNat_ofNat]; exact Nat.mod_eq_of_lt (by omega)
  have hl : (loJ a b j).toNat = prod a b j % 18446744073709551616 := by rw [loJ, BitVec.toNat_ofNat]
  have hh' : (hiJ a b (j + 1)).toNat = prod a b (j + 1) / 18446744073709551616 := by rw [hiJ, BitVec.toNat_ofNat]; exact Nat.mod_eq_of_lt (by omega)
  have hl' : (loJ a b (j + 1)).toNat = prod a b (j + 1) % 18446744073709551616 := by rw [loJ, BitVec.toNat_ofNat]
  have ht := top_bit (loJ a b j)
  generalize hP : prod a b j = P at *
  generalize hP' : prod a b (j + 1) = P' at *
  cases hx : b.getLsbD (63 - j) with
  | false =>
    rw [hx] at e
    simp only [cond_false, Nat.add_zero] at e
    refine ⟨?_, ?_⟩
    · apply BitVec.eq_of_toNat_eq
      simp only [hiR, Bool.false_eq_true, if_false]
      rw [BitVec.toNat_add, BitVec.toNat_mul, bitB_toNat, ht, hl, hh, hh']
      simp; omega
    · apply BitVec.eq_of_toNat_eq
      simp only [loR, Bool.false_eq_true, if_false]
      rw [BitVec.toNat_mul, hl, hl', e]
      simp only [BitVec.reduceToNat]; omega
  | true =>
    rw [hx] at e
    simp only [cond_true] at e
    have hlo : (loJ a b j * 2#64 + a).toNat = (prod a b j * 2 + a.toNat) % 18446744073709551616 := by
      rw [BitVec.toNat_add, BitVec.toNat_mul, hl, hP]; simp
    refine ⟨?_, ?_⟩
    · apply BitVec.eq_of_toNat_eq
      simp only [hiR, if_true]
      rw [hlo, hP, hh']
      by_cases hc : (P * 2 + a.toNat) % 18446744073709551616 < a.toNat
      · rw [if_pos (by simpa using hc), BitVec.toNat_add, BitVec.toNat_add, BitVec.toNat_mul, bitB_toNat, ht, hl, hh]
        simp; omega
      · rw [if_neg (by simpa using hc), BitVec.toNat_add, BitVec.toNat_mul, bitB_toNat, ht, hl, hh]
        simp; omega
    · apply BitVec.eq_of_toNat_eq
      simp only [loR, if_true]
      rw [hlo, hP, hl']
      omega

/- with signs -/
def mulsHi (a b : W64) : W64 := mulHi a b - (bif b.getLsbD 63 then a else 0#64) - (bif a.getLsbD 63 then b else 0#64)
def absW (a : W64) : W64 := if a.getLsbD 63 = true then 0#64 - a else a
def mulsR (a b : W64) : W64 := if (a.getLsbD 63 != b.getLsbD 63) = true then (if (0#64 - absW a * absW b == 0#64) = true then 18446744073709551615#64 - mulHi (absW a) (absW b) + 1#64 else 18446744073709551615#64 - mulHi (absW a) (absW b)) else mulHi (absW a) (absW b)
def mulsL (a b : W64) : W64 := if (a.getLsbD 63 != b.getLsbD 63) = true then 0#64 - absW a * absW b else absW a * absW b
theorem mulsL_eq (a b : W64) : mulsL a b = a * b := by
  simp only [mulsL, absW, BitVec.zero_sub]
  cases a.getLsbD 63 <;> cases b.getLsbD 63 <;> simp [BitVec.neg_mul, BitVec.mul_neg]
theorem mul_comp_left (x y : Nat) (h : x ≤ 18446744073709551616) : (18446744073709551616 - x) * y = 18446744073709551616 * y - x * y := Nat.sub_mul ..
theorem mulsR_eq (a b : W64) : mulsR a b = mulsHi a b := by
  have ha := a.isLt; have hb := b.isLt
  have ta := top_bit a; have tb := top_bit b
  have hneg : ∀ x : W64, (0#64 - x).toNat = (18446744073709551616 - x.toNat) % 18446744073709551616 := fun x => by rw [BitVec.toNat_sub]; simp
  have hP : a.toNat * b.toNat < 2 ^ 64 * 2 ^ 64 := Nat.mul_lt_mul_of_lt_of_lt ha hb
  have hm := mulHi_toNat a b
  cases hx : a.getLsbD 63 <;> cases hy : b.getLsbD 63
  · simp only [mulsR, mulsHi, absW, hx, hy, cond_false, bne_self_eq_false, Bool.false_eq_true, if_false, BitVec.sub_zero]
  · -- b below zero
    rw [hy] at tb
    simp only [Bool.toNat_true] at tb
    have eb : (0#64 - b).toNat = 18446744073709551616 - b.toNat := by rw [hneg]; exact Nat.mod_eq_of_lt (by omega)
    have hQ : a.toNat * (0#64 - b).toNat = 18446744073709551616 * a.toNat - a.toNat * b.toNat := by rw [eb, Nat.mul_sub, Nat.mul_comm a.toNat 18446744073709551616]
    have hle : a.toNat * b.toNat ≤ 18446744073709551616 * a.toNat := by rw [Nat.mul_comm 18446744073709551616]; exact Nat.mul_le_mul_left _ (by omega)
    have hh := mulHi_toNat a (0#64 - b)
    rw [hQ] at hh
    have hz : (0#64 - a * (0#64 - b) == 0#64) = decide ((a.toNat * b.toNat) % 18446744073709551616 = 0) := by
      rw [Bool.eq_iff_iff, beq_iff_eq, decide_eq_true_eq, BitVec.zero_sub, BitVec.zero_sub, BitVec.mul_neg, BitVec.neg_neg]
      exact ⟨fun e => by have := congrArg BitVec.toNat e; rwa [BitVec.toNat_mul] at this, fun e => BitVec.eq_of_toNat_eq (by rw [BitVec.toNat_mul]; exact e)⟩
    simp only [mulsR, mulsHi, absW, hx, hy, hz, cond_true, cond_false]
    apply BitVec.eq_of_toNat_eq
    generalize a.toNat * b.toNat = P at *
    by_cases hc : P % 18446744073709551616 = 0
    · simp only [hz, hc, decide_true, if_true, bne_self_eq_false, Bool.false_eq_true, if_false, Bool.bne_true, Bool.not_false, BitVec.sub_zero]
      rw [BitVec.toNat_add, BitVec.toNat_sub, BitVec.toNat_sub, hh, hm]
      simp; omega
    · simp only [hz, hc, decide_false, if_true, Bool.false_eq_true, if_false, Bool.bne_true, Bool.not_false, BitVec.sub_zero]
      rw [BitVec.toNat_sub, BitVec.toNat_sub, hh, hm]
      simp; omega
  · -- a below zero
    rw [hx] at ta
    simp only [Bool.toNat_true] at ta
    have ea : (0#64 - a).toNat = 18446744073709551616 - a.toNat := by rw [hneg]; exact Nat.mod_eq_of_lt (by omega)
    have hQ : (0#64 - a).toNat * b.toNat = 18446744073709551616 * b.toNat - a.toNat * b.toNat := by rw [ea, Nat.sub_mul]
    have hle : a.toNat * b.toNat ≤ 18446744073709551616 * b.toNat := Nat.mul_le_mul_right _ (by omega)
    have hh := mulHi_toNat (0#64 - a) b
    rw [hQ] at hh
    have hz : (0#64 - (0#64 - a) * b == 0#64) = decide ((a.toNat * b.toNat) % 18446744073709551616 = 0) := by
      rw [Bool.eq_iff_iff, beq_iff_eq, decide_eq_true_eq, BitVec.zero_sub, BitVec.zero_sub, BitVec.neg_mul, BitVec.neg_neg]
      exact ⟨fun e => by have := congrArg BitVec.toNat e; rwa [BitVec.toNat_mul] at this, fun e => BitVec.eq_of_toNat_eq (by rw [BitVec.toNat_mul]; exact e)⟩
    simp only [mulsR, mulsHi, absW, hx, hy, hz, cond_true, cond_false]
    apply BitVec.eq_of_toNat_eq
    generalize a.toNat * b.toNat = P at *
    by_cases hc : P % 18446744073709551616 = 0
    · simp only [hz, hc, decide_true, if_true, Bool.false_eq_true, if_false, Bool.bne_false, BitVec.sub_zero]
      rw [BitVec.toNat_add, BitVec.toNat_sub, BitVec.toNat_sub, hh, hm]
      simp; omega
    · simp only [hz, hc, decide_false, if_true, Bool.false_eq_true, if_false, Bool.bne_false, BitVec.sub_zero]
      rw [BitVec.toNat_sub, BitVec.toNat_sub, hh, hm]
      simp; omega
  · -- both
    rw [hx] at ta
    rw [hy] at tb
    simp only [Bool.toNat_true] at ta tb
    have ea : (0#64 - a).toNat = 18446744073709551616 - a.toNat := by rw [hneg]; exact Nat.mod_eq_of_lt (by omega)
    have eb : (0#64 - b).toNat = 18446744073709551616 - b.toNat := by rw [hneg]; exact Nat.mod_eq_of_lt (by omega)
    have hle : a.toNat * b.toNat ≤ 18446744073709551616 * b.toNat := Nat.mul_le_mul_right _ (by omega)
    have hQ : (0#64 - a).toNat * (0#64 - b).toNat = 340282366920938463463374607431768211456 - 18446744073709551616 * a.toNat - (18446744073709551616 * b.toNat - a.toNat * b.toNat) := by
      rw [ea, eb, Nat.sub_mul, Nat.mul_sub, Nat.mul_sub, Nat.mul_comm a.toNat 18446744073709551616]
      have h3 : 18446744073709551616 * b.toNat ≤ 18446744073709551616 * 18446744073709551616 := Nat.mul_le_mul_left _ (by omega)
      have h4 : a.toNat * b.toNat ≤ 18446744073709551616 * a.toNat := by rw [Nat.mul_comm 18446744073709551616]; exact Nat.mul_le_mul_left _ (by omega)
      omega
    have h3 : 18446744073709551616 * a.toNat + 18446744073709551616 * b.toNat ≤ 340282366920938463463374607431768211456 + a.toNat * b.toNat := by
      have := Nat.mul_le_mul (by omega : 9223372036854775808 ≤ a.toNat) (by omega : 9223372036854775808 ≤ b.toNat)
      have h5 : (18446744073709551616 - a.toNat) * (18446744073709551616 - b.toNat) = (18446744073709551616 - a.toNat) * 18446744073709551616 - (18446744073709551616 - a.toNat) * b.toNat := Nat.mul_sub ..
      have h6 : (18446744073709551616 - a.toNat) * b.toNat = 18446744073709551616 * b.toNat - a.toNat * b.toNat := Nat.sub_mul ..
      have h7 : (18446744073709551616 - a.toNat) * b.toNat ≤ (18446744073709551616 - a.toNat) * 18446744073709551616 := Nat.mul_le_mul_left _ (by omega)
      omega
    have hh := mulHi_toNat (0#64 - a) (0#64 - b)
    rw [hQ] at hh
    simp only [mulsR, mulsHi, absW, hx, hy, cond_true, bne_self_eq_false, Bool.false_eq_true, if_false, if_true]
    apply BitVec.eq_of_toNat_eq
    generalize a.toNat * b.toNat = P at *
    rw [hh, BitVec.toNat_sub, BitVec.toNat_sub, hm]
    omega
def s69 : CSpec | [.u 64 a, .u 64 b] => some ⟨[], .tup [.u 64 (mulHi a b), .u 64 (a * b)]⟩ | _ => none
theorem ok69 : FnOk Tryz.prog 158 s69 := okBy SB_ok Tryz.func158 (by kernel_rfl) (by kernel_rfl) 1 <| by
  intro xs r hs
  unfold s69 at hs; split at hs <;> cases hs
  rename_i a b
  intro hp _
  have e : (evFn T SB noL 1 Tryz.f158 [.u 64 a, .u 64 b]).run = some (.tup [.u 64 (a >>> 32 * b >>> 32 + (a >>> 32 * (b &&& 4294967295#64) + ((a &&& 4294967295#64) * (b &&& 4294967295#64)) >>> 32) >>> 32 +
    ((a >>> 32 * (b &&& 4294967295#64) + ((a &&& 4294967295#64) * (b &&& 4294967295#64)) >>> 32 &&& 4294967295#64) + (a &&& 4294967295#64) * b >>> 32) >>> 32), .u 64 (a * b)]) := by kernel_rfl
  rw [e, mul_code]
noncomputable abbrev S12 : FuncId → CSpec := withS SB 158 s69
theorem S12_ok : ∀ f, FnOk Tryz.prog f (S12 f) := withS_ok SB_ok ok69
theorem ok41 : FnOk Tryz.prog 100 s69 := okBy S12_ok Tryz.func100 (by kernel_rfl) (by kernel_rfl) 1 <| by
  intro xs r hs
  unfold s69 at hs; split at hs <;> cases hs
  intro hp _
  kernel_rfl
def q42 : St → Option LRes
  | ⟨[(0, .u 64 a), (1, .u 64 b), (6, .u 64 h), (7, .u 64 l), (8, .i .i64 i)], [], [], _⟩ => some ⟨[h == 0#64, l == 0#64, i == 63], .exit 0, [(0, .u 64 a), (1, .u 64 b), (6, .u 64 (mulHi a b)), (7, .u 64 (a * b)), (8, .i .i64 (-1))], [], []⟩
  | _ => none
def L42 : Nat → Live := fun _ => ⟨[0, 1, 6, 7, 8], [], [], some (evSum q42)⟩
theorem loop42 (N : Nat) : LoopOk T S12 L42 34 N (loopOf Tryz.f49 0) := LoopOk.of rfl <| by
  intro τ r hcut hr
  unfold q42 at hr; split at hr <;> cases hr
  rename_i a b h l i c
  obtain rfl : c = 0 := hcut
  intro hp
  simp only [List.mem_cons, List.not_mem_nil, or_false, forall_eq_or_imp, forall_eq, beq_iff_eq, decide_eq_true_eq] at hp
  obtain ⟨rfl, rfl, rfl⟩ := hp
  have e : ∀ (h l : W64) (i : Int) (p : Bool), p = (bitB (b.getLsbD (BitVec.ofInt 64 i).toNat) == 1#64) → (atHead (evCode T S12 L42 34 N (loopOf Tryz.f49 0)) (L42 (firstR (loopOf Tryz.f49 0))) ⟨[(0, .u 64 a), (1, .u 64 b), (6, .u 64 h), (7, .u 64 l), (8, .i .i64 i)], [], [], 0⟩).run =
      if decide (0 ≤ i) = true then
        some (.normal, ⟨[(0, .u 64 a), (1, .u 64 b), (6, .u 64 (hiR h l a p)), (7, .u 64 (loR l a p)), (8, .i .i64 (IntKind.i64.wrap (i - 1)))], [], [], 0⟩)
      else some (.exit 0, ⟨[(0, .u 64 a), (1, .u 64 b), (6, .u 64 h), (7, .u 64 l), (8, .i .i64 i)], [], [], 0⟩) := fun h l i p hp => by subst hp; kernel_rfl
  refine ⟨64 + 1, ?_⟩
  have z : ∀ j, j = 64 → hiJ a b j = mulHi a b ∧ loJ a b j = a * b := by
    rintro _ rfl
    refine ⟨by simp [hiJ, mulHi, prod], ?_⟩
    apply BitVec.eq_of_toNat_eq; simp [loJ, prod]
  have z0 : hiJ a b 0 = 0#64 ∧ loJ a b 0 = 0#64 := by
    have : b.toNat / 2 ^ 64 = 0 := Nat.div_eq_of_lt b.isLt
    simp [hiJ, loJ, prod, this]
  have h0 : (⟨[(0, .u 64 a), (1, .u 64 b), (6, .u 64 0#64), (7, .u 64 0#64), (8, .i .i64 63)], [], [], 0⟩ : St) = ⟨[(0, .u 64 a), (1, .u 64 b), (6, .u 64 (hiJ a b 0)), (7, .u 64 (loJ a b 0)), (8, .i .i64 (63 - ((0 : Nat) : Int)))], [], [], 0⟩ := by rw [z0.1, z0.2]; rfl
  rw [h0]
  refine iter_for (fun j => ⟨[(0, .u 64 a), (1, .u 64 b), (6, .u 64 (hiJ a b j)), (7, .u 64 (loJ a b j)), (8, .i .i64 (63 - (j : Int)))], [], [], 0⟩) 64 ?_ ?_ (by simp)
  · intro j hj
    rw [e _ _ _ _ rfl, if_pos (by simp; omega), bitB_is, show (63 - (j : Int)) = ((63 - j : Nat) : Int) by omega, ofInt_nat (63 - j) (by omega), (round_prod a b hj).1, (round_prod a b hj).2, wrap_small (((63 - j : Nat) : Int) - 1) (by omega) (by omega),
      show ((63 - j : Nat) : Int) - 1 = 63 - ((j + 1 : Nat) : Int) by omega]
  · rw [e _ _ _ _ rfl, if_neg (by simp), (z 64 rfl).1, (z 64 rfl).2]; rfl
theorem ok42 : FnOk Tryz.prog 49 s69 := FnOk.of tyOk S12_ok mixed Tryz.func49 (by kernel_rfl) (by kernel_rfl) <| by
  intro xs r hs
  unfold s69 at hs; split at hs <;> cases hs
  intro hp _ _ _ _
  exact ⟨1, FnLoops.one (by kernel_rfl) (loop42 1), by kernel_rfl⟩
noncomputable abbrev S13 : FuncId → CSpec := withS (withS S12 100 s69) 49 s69
theorem S13_ok : ∀ f, FnOk Tryz.prog f (S13 f) := withS_ok (withS_ok S12_ok ok41) ok42
def s43 : CSpec | [.u 64 a, .u 64 b] => some ⟨[], .tup [.u 64 (mulsHi a b), .u 64 (a * b)]⟩ | _ => none
theorem wrap_neg (a : W64) : decide (IntKind.i64.wrap (a.toNat : Int) < 0) = a.getLsbD 63 := by
  have h := top_bit a
  have ha := a.isLt
  have e : IntKind.i64.wrap (a.toNat : Int) = a.toInt := wrap_toInt (k := .i64) rfl a
  rw [e, BitVec.toInt]
  cases hx : a.getLsbD 63 <;> rw [hx] at h <;> simp at h <;> simp <;> omega
theorem ok43 : FnOk Tryz.prog 101 s43 := okBy S13_ok Tryz.func101 (by kernel_rfl) (by kernel_rfl) 1 <| by
  intro xs r hs
  unfold s43 at hs; split at hs <;> cases hs
  rename_i a b
  intro hp _
  have e : (evFn T S13 noL 1 Tryz.f101 [.u 64 a, .u 64 b]).run = some (.tup [.u 64 (if decide (IntKind.i64.wrap (b.toNat : Int) < 0) = true then (if decide (IntKind.i64.wrap (a.toNat : Int) < 0) = true then mulHi a b - b else mulHi a b) - a else (if decide (IntKind.i64.wrap (a.toNat : Int) < 0) = true then mulHi a b - b else mulHi a b)), .u 64 (a * b)]) := by kernel_rfl
  rw [e, wrap_neg, wrap_neg]
  have k : (if b.getLsbD 63 = true then (if a.getLsbD 63 = true then mulHi a b - b else mulHi a b) - a else if a.getLsbD 63 = true then mulHi a b - b else mulHi a b) = mulsHi a b := by
    cases hx : a.getLsbD 63 <;> cases hy : b.getLsbD 63 <;> simp only [mulsHi, hx, hy, cond_true, cond_false, if_true, if_false, Bool.false_eq_true, BitVec.sub_zero]
    simp only [BitVec.sub_eq_add_neg]
    rw [BitVec.add_assoc, BitVec.add_comm (-b), ← BitVec.add_assoc]
  rw [k]
def mulsG (p q : Bool) (x y : W64) : W64 := if (p != q) = true then (if (0#64 - x * y == 0#64) = true then 18446744073709551615#64 - mulHi x y + 1#64 else 18446744073709551615#64 - mulHi x y) else mulHi x y
def mulsGL (p q : Bool) (x y : W64) : W64 := if (p != q) = true then 0#64 - x * y else x * y
theorem ok44 : FnOk Tryz.prog 50 s43 := okBy S13_ok Tryz.func50 (by kernel_rfl) (by kernel_rfl) 1 <| by
  intro xs r hs
  unfold s43 at hs; split at hs <;> cases hs
  rename_i a b
  intro hp _
  have e : ∀ (p q : Bool) (x y : W64), p = neg a 8 → q = neg b 8 → x = (if p = true then 0#64 - a else a) → y = (if q = true then 0#64 - b else b) → (evFn T S13 noL 1 Tryz.f50 [.u 64 a, .u 64 b]).run = some (.tup [.u 64 (mulsG p q x y), .u 64 (mulsGL p q x y)]) := by
    intro p q x y h1 h2 h3 h4; subst h3; subst h4; subst h1; subst h2; kernel_rfl
  rw [e (a.getLsbD 63) (b.getLsbD 63) (absW a) (absW b) rfl rfl rfl rfl]
  have k : mulsG (a.getLsbD 63) (b.getLsbD 63) (absW a) (absW b) = mulsHi a b := mulsR_eq a b
  have k2 : mulsGL (a.getLsbD 63) (b.getLsbD 63) (absW a) (absW b) = a * b := mulsL_eq a b
  rw [k, k2]
noncomputable abbrev S14 : FuncId → CSpec := withS (withS S13 101 s43) 50 s43
theorem S14_ok : ∀ f, FnOk Tryz.prog f (S14 f) := withS_ok (withS_ok S13_ok ok43) ok44
end Go.Proofs.YtcdnbdphakhilaaGreatDoor.A
