/- Lemmas: fields and products, and the functions that compute them, each shown by the evaluator. No condition. -/
import Derived.Test.YtffihbfmdmlbcaaBits
set_option linter.unusedVariables false
set_option linter.unusedSimpArgs false
namespace Go.Proofs.Ytffihbfmdmlbcaa
/- Plain: fields of words of 32 bits. -/
abbrev W32 := BitVec 32
def bitB_32 (b : Bool) : W32 := bif b then 1#32 else 0#32
/-- bits told by a function, from the least on -/
def sumBits_32 (f : Nat → Bool) : Nat → W32
  | 0 => 0#32
  | n + 1 => sumBits_32 f n + bitB_32 (f n) <<< n
theorem bitB_toNat_32 (b : Bool) : (bitB_32 b).toNat = b.toNat := by cases b <;> rfl

theorem sumBits_toNat_lt_32 (f : Nat → Bool) : ∀ n, n ≤ 32 → (sumBits_32 f n).toNat < 2 ^ n
  | 0, h => by simp [sumBits_32]
  | n + 1, h => by
    have ih := sumBits_toNat_lt_32 f n (by omega)
    have h64 : (2:Nat) ^ (n + 1) ≤ 2 ^ 32 := Nat.pow_le_pow_right (by omega) h
    have hp : (2:Nat) ^ (n + 1) = 2 ^ n * 2 := Nat.pow_succ ..
    have hb : (bitB_32 (f n) <<< n).toNat = (f n).toNat * 2 ^ n := by
      rw [BitVec.toNat_shiftLeft, bitB_toNat_32, Nat.shiftLeft_eq]
      apply Nat.mod_eq_of_lt
      cases f n <;> simp <;> omega
    rw [sumBits_32, BitVec.toNat_add, hb]
    have : (f n).toNat * 2 ^ n ≤ 2 ^ n := by cases f n <;> simp
    rw [Nat.mod_eq_of_lt (by omega)]
    omega

theorem sumBits_succ_toNat_32 (f : Nat → Bool) (n : Nat) (h : n < 32) : (sumBits_32 f (n + 1)).toNat = (sumBits_32 f n).toNat + (f n).toNat * 2 ^ n := by
  have ih := sumBits_toNat_lt_32 f n (by omega)
  have h64 : (2:Nat) ^ (n + 1) ≤ 2 ^ 32 := Nat.pow_le_pow_right (by omega) h
  have hp : (2:Nat) ^ (n + 1) = 2 ^ n * 2 := Nat.pow_succ ..
  have hb : (bitB_32 (f n) <<< n).toNat = (f n).toNat * 2 ^ n := by
    rw [BitVec.toNat_shiftLeft, bitB_toNat_32, Nat.shiftLeft_eq]
    apply Nat.mod_eq_of_lt
    cases f n <;> simp <;> omega
  rw [sumBits_32, BitVec.toNat_add, hb]
  have : (f n).toNat * 2 ^ n ≤ 2 ^ n := by cases f n <;> simp
  rw [Nat.mod_eq_of_lt (by omega)]

theorem sumBits_testBit_32 (f : Nat → Bool) : ∀ n, n ≤ 32 → ∀ j, (sumBits_32 f n).toNat.testBit j = (decide (j < n) && f j)
  | 0, _, j => by simp [sumBits_32]
  | n + 1, h, j => by
    have ih := sumBits_testBit_32 f n (by omega)
    rw [sumBits_succ_toNat_32 f n (by omega), Nat.add_comm, Nat.mul_comm, Nat.testBit_two_pow_mul_add _ (sumBits_toNat_lt_32 f n (by omega)), ih]
    split
    · rename_i hj; have : j < n + 1 := by omega
      simp [hj, this]
    · rename_i hj
      by_cases hjn : j = n
      · subst hjn; simp; cases f j <;> rfl
      · have h1 : ¬ j < n + 1 := by omega
        have : (f n).toNat.testBit (j - n) = false := by
          obtain ⟨k, hk⟩ : ∃ k, j - n = k + 1 := ⟨j - n - 1, by omega⟩
          rw [hk]
          cases f n <;> simp [Nat.testBit_succ]
        simp [h1, this]

theorem sumBits_get_32 (f : Nat → Bool) {n : Nat} (h : n ≤ 32) (j : Nat) : (sumBits_32 f n).getLsbD j = (decide (j < n) && f j) := by
  rw [BitVec.getLsbD, sumBits_testBit_32 f n h]

theorem bit_eq_32 (v : W32) (n : Nat) : (v >>> n) % 2#32 = bitB_32 (v.getLsbD n) := by
  apply BitVec.eq_of_toNat_eq
  rw [bitB_toNat_32, BitVec.toNat_umod, BitVec.toNat_ushiftRight, BitVec.getLsbD, Nat.testBit_eq_decide_div_mod_eq, Nat.shiftRight_eq_div_pow]
  show _ % 2 = _
  rcases Nat.mod_two_eq_zero_or_one (v.toNat / 2 ^ n) with e | e <;> simp [e]


theorem sumBits_congr_32 {f g : Nat → Bool} : ∀ {n : Nat}, (∀ j, j < n → f j = g j) → sumBits_32 f n = sumBits_32 g n
  | 0, _ => rfl
  | n + 1, h => by rw [sumBits_32, sumBits_32, sumBits_congr_32 (fun j hj => h j (by omega)), h n (by omega)]
theorem eq_sumBits_32 {x : W32} {f : Nat → Bool} {n : Nat} (hn : n ≤ 32) (h : ∀ j, j < 32 → x.getLsbD j = (decide (j < n) && f j)) : x = sumBits_32 f n := by
  apply BitVec.eq_of_getLsbD_eq
  intro j hj
  rw [h j hj, sumBits_get_32 f hn]
theorem sumBits_succ_32 (f : Nat → Bool) (n : Nat) : sumBits_32 f (n + 1) = sumBits_32 f n + bitB_32 (f n) <<< n := rfl
def within (at_ n : Int) : Bool := decide (0 ≤ at_) && decide (at_ < 32) && decide (1 ≤ n) && decide (n ≤ 32 - at_)
theorem within_nat {at_ n : Int} (h : within at_ n = true) : ∃ a m : Nat, at_ = a ∧ n = m ∧ 1 ≤ m ∧ a + m ≤ 32 := by
  simp only [within, Bool.and_eq_true, decide_eq_true_eq] at h
  exact ⟨at_.toNat, n.toNat, by omega, by omega, by omega, by omega⟩
def fieldN (v : W32) (a m : Nat) : W32 := sumBits_32 (fun i => v.getLsbD (a + i)) m
def field (v : W32) (at_ n : Int) : W32 := bif within at_ n then fieldN v at_.toNat n.toNat else 0#32
def withN (v : W32) (a m : Nat) (f : W32) : W32 := sumBits_32 (fun i => bif decide (a ≤ i) && decide (i - a < m) then f.getLsbD (i - a) else v.getLsbD i) 32
def with_ (v : W32) (at_ n : Int) (f : W32) : W32 := bif within at_ n then withN v at_.toNat n.toNat f else v
theorem ones_get {m : Nat} (h : m ≤ 32) (j : Nat) : (BitVec.allOnes 32 >>> (32 - m)).getLsbD j = decide (j < m) := by
  rw [BitVec.getLsbD_ushiftRight, BitVec.getLsbD_allOnes, decide_eq_decide]; omega
theorem field_code (v : W32) {a m : Nat} (h : a + m ≤ 32) : v >>> a &&& (BitVec.allOnes 32 >>> (32 - m)) = fieldN v a m := by
  refine eq_sumBits_32 (by omega) fun j hj => ?_
  rw [BitVec.getLsbD_and, ones_get (by omega), BitVec.getLsbD_ushiftRight, Bool.and_comm]
theorem with_code (v f : W32) {a m : Nat} (h : a + m ≤ 32) : (v &&& ~~~((BitVec.allOnes 32 >>> (32 - m)) <<< a)) ||| (f <<< a &&& (BitVec.allOnes 32 >>> (32 - m)) <<< a) = withN v a m f := by
  refine eq_sumBits_32 (by omega) fun j hj => ?_
  rw [BitVec.getLsbD_or, BitVec.getLsbD_and, BitVec.getLsbD_and, BitVec.getLsbD_not, BitVec.getLsbD_shiftLeft, BitVec.getLsbD_shiftLeft, ones_get (by omega)]
  simp only [hj, decide_true, Bool.true_and]
  by_cases h1 : j < a
  · have : ¬ a ≤ j := by omega
    simp [h1, this]
  · have h2 : a ≤ j := by omega
    by_cases h3 : j - a < m <;> simp [h1, h2, h3]
theorem field_with (v f : W32) {a m : Nat} (h : a + m ≤ 32) : withN (withN v a m f) a m (fieldN v a m) = v := by
  symm
  refine eq_sumBits_32 (by omega) fun j hj => ?_
  simp only [fieldN, withN]
  rw [sumBits_get_32 _ (by omega), sumBits_get_32 _ (by omega)]
  by_cases h1 : a ≤ j
  · by_cases h2 : j - a < m
    · rw [show a + (j - a) = j by omega]; simp [hj, h1, h2]
    · simp [hj, h1, h2]
  · simp [hj, h1]
end Go.Proofs.Ytffihbfmdmlbcaa
namespace Go.Proofs.Ytffihbfmdmlbcaa
open Go.Proofs.Ytffihbfmdmlbcaa.Ev
def s66 : CSpec | [.i .i64 a, .i .i64 n] => some ⟨[], .b (within a n)⟩ | _ => none
theorem within_code (a n : Int) : (if (if (if decide (0 ≤ a) = true then decide (a < 32) else false) = true then decide (1 ≤ n) else false) = true then decide (n ≤ IntKind.i64.wrap (32 - a)) else false) = within a n := by
  by_cases h1 : 0 ≤ a
  · by_cases h2 : a < 32
    · rw [wrap_small (32 - a) (by omega) (by omega)]
      by_cases h3 : 1 ≤ n <;> simp [within, h1, h2, h3]
    · simp [within, h1, h2]
  · simp [within, h1]
theorem ok66 : FnOk Try.prog 66 s66 := okBy noS_ok Try.func66 (by kernel_rfl) (by kernel_rfl) 1 <| by
  intro xs r hs
  unfold s66 at hs; split at hs <;> cases hs
  rename_i a n
  intro hp _
  have e : (evFn T noS noL 1 Try.f66 [.i .i64 a, .i .i64 n]).run = some (.b (if (if (if decide (0 ≤ a) = true then decide (a < 32) else false) = true then decide (1 ≤ n) else false) = true then decide (n ≤ IntKind.i64.wrap (32 - a)) else false)) := by kernel_rfl
  rw [e, within_code]
theorem ok68 : FnOk Try.prog 68 s66 := okBy noS_ok Try.func68 (by kernel_rfl) (by kernel_rfl) 1 <| by
  intro xs r hs
  unfold s66 at hs; split at hs <;> cases hs
  rename_i a n
  intro hp _
  have e : (evFn T noS noL 1 Try.f68 [.i .i64 a, .i .i64 n]).run = some (.b (if (if (if decide (0 ≤ a) = true then decide (a ≤ 31) else false) = true then decide (1 ≤ n) else false) = true then decide (n ≤ IntKind.i64.wrap (32 - a)) else false)) := by kernel_rfl
  have e1 : decide (a ≤ 31) = decide (a < 32) := by rw [decide_eq_decide]; omega
  rw [e, e1, within_code]
def s67 : CSpec | [.i .i64 n] => some ⟨[decide (0 ≤ IntKind.i64.wrap (32 - n))], .u 32 (BitVec.allOnes 32 >>> (IntKind.i64.wrap (32 - n)).toNat)⟩ | _ => none
theorem ok67 : FnOk Try.prog 67 s67 := okBy noS_ok Try.func67 (by kernel_rfl) (by kernel_rfl) 1 <| by
  intro xs r hs
  unfold s67 at hs; split at hs <;> cases hs
  rename_i n
  intro hp _
  have hp : decide (0 ≤ IntKind.i64.wrap (32 - n)) = true := by simpa using hp
  have e : (evFn T noS noL 1 Try.f67 [.i .i64 n]).run = if decide (0 ≤ IntKind.i64.wrap (32 - n)) = true then some (.u 32 (BitVec.allOnes 32 >>> (IntKind.i64.wrap (32 - n)).toNat)) else none := by kernel_rfl
  rw [e, if_pos hp]
abbrev S10 := withS (withS (withS SB 66 s66) 68 s66) 67 s67
theorem S10_ok : ∀ f, FnOk Try.prog f (S10 f) := withS_ok (withS_ok (withS_ok SB_ok ok66) ok68) ok67
def s38 : CSpec | [.u 32 v, .i .i64 a, .i .i64 n] => some ⟨[], .u 32 (field v a n)⟩ | _ => none
def s37 : CSpec | [.u 32 v, .i .i64 a, .i .i64 n, .u 32 f] => some ⟨[], .u 32 (with_ v a n f)⟩ | _ => none
theorem ok38 : FnOk Try.prog 38 s38 := okBy S10_ok Try.func38 (by kernel_rfl) (by kernel_rfl) 1 <| by
  intro xs r hs
  unfold s38 at hs; split at hs <;> cases hs
  rename_i v a n
  intro hp _
  have e : (evFn T S10 noL 1 Try.f38 [.u 32 v, .i .i64 a, .i .i64 n]).run = if (!within a n) = true then some (.u 32 0#32) else if decide (0 ≤ IntKind.i64.wrap (32 - n)) = true then if decide (0 ≤ a) = true then
     some (.u 32 (v >>> a.toNat &&& BitVec.allOnes 32 >>> (IntKind.i64.wrap (32 - n)).toNat)) else none else none := by kernel_rfl
  rw [e]
  cases h : within a n with
  | false => simp [field, h]
  | true =>
    obtain ⟨a, m, rfl, rfl, h1, h2⟩ := within_nat h
    rw [wrap_small (32 - (m : Int)) (by omega) (by omega), show (32 - (m : Int)).toNat = 32 - m by omega, Int.toNat_natCast, field_code v h2]
    rw [if_neg (by simp), if_pos (by simp; omega), if_pos (by simp)]
    simp [field, h]
theorem ok37 : FnOk Try.prog 37 s37 := okBy S10_ok Try.func37 (by kernel_rfl) (by kernel_rfl) 1 <| by
  intro xs r hs
  unfold s37 at hs; split at hs <;> cases hs
  rename_i v a n f
  intro hp _
  have e : (evFn T S10 noL 1 Try.f37 [.u 32 v, .i .i64 a, .i .i64 n, .u 32 f]).run = if (!within a n) = true then some (.u 32 v) else if decide (0 ≤ a) = true then if decide (0 ≤ IntKind.i64.wrap (32 - n)) = true then if decide (0 ≤ a) = true then
     some (.u 32 ((v &&& ~~~((BitVec.allOnes 32 >>> (IntKind.i64.wrap (32 - n)).toNat) <<< a.toNat)) ||| (f <<< a.toNat &&& (BitVec.allOnes 32 >>> (IntKind.i64.wrap (32 - n)).toNat) <<< a.toNat))) else none else none else none := by kernel_rfl
  rw [e]
  cases h : within a n with
  | false => simp [with_, h]
  | true =>
    obtain ⟨a, m, rfl, rfl, h1, h2⟩ := within_nat h
    rw [wrap_small (32 - (m : Int)) (by omega) (by omega), show (32 - (m : Int)).toNat = 32 - m by omega, Int.toNat_natCast, with_code v f h2]
    rw [if_neg (by simp), if_pos (by simp), if_pos (by simp; omega), if_pos (by simp)]
    simp [with_, h]
def q39 : St → Option LRes
  | ⟨[(0, .u 32 v), (1, .i .i64 a), (2, .i .i64 n), (7, .u 32 r), (8, .i .i64 i)], [], [], _⟩ => some ⟨[r == 0#32, i == 0], .exit 0, [(0, .u 32 v), (1, .i .i64 a), (2, .i .i64 n), (7, .u 32 (field v a n)), (8, .i .i64 (bif within a n then n else 0))], [], []⟩
  | _ => none
def L39 : Nat → Live := fun _ => ⟨[0, 1, 2, 7, 8], [], [], some (evSum q39)⟩
theorem loop39 (N : Nat) : LoopOk T S10 L39 32 N (loopOf Try.f39 0) := LoopOk.of rfl <| by
  intro τ r hcut hr
  unfold q39 at hr; split at hr <;> cases hr
  rename_i v a n r i c
  obtain rfl : c = 0 := hcut
  intro hp
  simp only [List.mem_cons, List.not_mem_nil, or_false, forall_eq_or_imp, forall_eq, beq_iff_eq, decide_eq_true_eq] at hp
  obtain ⟨rfl, rfl⟩ := hp
  have e : ∀ (r : W32) (i : Int), (atHead (evCode T S10 L39 32 N (loopOf Try.f39 0)) (L39 (firstR (loopOf Try.f39 0))) ⟨[(0, .u 32 v), (1, .i .i64 a), (2, .i .i64 n), (7, .u 32 r), (8, .i .i64 i)], [], [], 0⟩).run =
      if (if within a n = true then decide (i < n) else false) = true then
        some (.normal, ⟨[(0, .u 32 v), (1, .i .i64 a), (2, .i .i64 n), (7, .u 32 (r + ((v >>> (BitVec.ofInt 64 (IntKind.i64.wrap (a + i))).toNat) % 2#32) <<< (BitVec.ofInt 64 i).toNat)), (8, .i .i64 (IntKind.i64.wrap (i + 1)))], [], [], 0⟩)
      else some (.exit 0, ⟨[(0, .u 32 v), (1, .i .i64 a), (2, .i .i64 n), (7, .u 32 r), (8, .i .i64 i)], [], [], 0⟩) := fun r i => by kernel_rfl
  cases h : within a n with
  | false =>
    refine ⟨1, ?_⟩
    refine iter_for (fun j => ⟨[(0, .u 32 v), (1, .i .i64 a), (2, .i .i64 n), (7, .u 32 0#32), (8, .i .i64 0)], [], [], 0⟩) 0 (fun j hj => by omega) ?_ (by simp)
    rw [e]; simp [h, field]
  | true =>
    obtain ⟨a, m, rfl, rfl, h1, h2⟩ := within_nat h
    refine ⟨m + 1, ?_⟩
    refine iter_for (fun j => ⟨[(0, .u 32 v), (1, .i .i64 (a : Int)), (2, .i .i64 (m : Int)), (7, .u 32 (sumBits_32 (fun i => v.getLsbD (a + i)) j)), (8, .i .i64 (j : Int))], [], [], 0⟩) m ?_ ?_ (by simp)
    · intro j hj
      rw [e, wrap_succ j (by omega), ofInt_nat j (by omega), wrap_small ((a : Int) + (j : Int)) (by omega) (by omega), show (a : Int) + (j : Int) = ((a + j : Nat) : Int) by omega, ofInt_nat (a + j) (by omega), bit_eq_32]
      rw [if_pos (by rw [h]; simp; omega)]
      rfl
    · rw [e, if_neg (by simp)]
      simp [field, h, fieldN]
theorem ok39 : FnOk Try.prog 39 s38 := FnOk.of tyOk S10_ok mixed Try.func39 (by kernel_rfl) (by kernel_rfl) <| by
  intro xs r hs
  unfold s38 at hs; split at hs <;> cases hs
  rename_i v a n
  intro hp _ _ _ _
  exact ⟨1, FnLoops.one (by kernel_rfl) (loop39 1), by kernel_rfl⟩
def q40 : St → Option LRes
  | ⟨[(0, .u 32 v), (1, .i .i64 a), (2, .i .i64 n), (3, .u 32 f), (9, .u 32 r), (10, .i .i64 i)], [], [], _⟩ => some ⟨[r == 0#32, i == 0], .exit 0, [(0, .u 32 v), (1, .i .i64 a), (2, .i .i64 n), (3, .u 32 f), (9, .u 32 (with_ v a n f)), (10, .i .i64 32)], [], []⟩
  | _ => none
def L40 : Nat → Live := fun _ => ⟨[0, 1, 2, 3, 9, 10], [], [], some (evSum q40)⟩
def wbit (v f : W32) (a n : Int) (i : Nat) : Bool := bif within a n then bif decide (a.toNat ≤ i) && decide (i - a.toNat < n.toNat) then f.getLsbD (i - a.toNat) else v.getLsbD i else v.getLsbD i
theorem with_bits (v f : W32) (a n : Int) : with_ v a n f = sumBits_32 (wbit v f a n) 32 := by
  cases h : within a n with
  | true => simp only [with_, h, cond_true, withN]; exact sumBits_congr_32 fun j _ => by simp [wbit, h]
  | false =>
    simp only [with_, h, cond_false]
    refine eq_sumBits_32 (Nat.le_refl _) fun j hj => ?_
    simp [wbit, h, hj]
theorem loop40 (N : Nat) : LoopOk T S10 L40 50 N (loopOf Try.f40 0) := LoopOk.of rfl <| by
  intro τ r hcut hr
  unfold q40 at hr; split at hr <;> cases hr
  rename_i v a n f r i c
  obtain rfl : c = 0 := hcut
  intro hp
  simp only [List.mem_cons, List.not_mem_nil, or_false, forall_eq_or_imp, forall_eq, beq_iff_eq, decide_eq_true_eq] at hp
  obtain ⟨rfl, rfl⟩ := hp
  have e : ∀ (r : W32) (i : Int) (p : Bool), p = (if (if within a n = true then decide (a ≤ i) else false) = true then decide (IntKind.i64.wrap (i - a) < n) else false) →
     (atHead (evCode T S10 L40 50 N (loopOf Try.f40 0)) (L40 (firstR (loopOf Try.f40 0))) ⟨[(0, .u 32 v), (1, .i .i64 a), (2, .i .i64 n), (3, .u 32 f), (9, .u 32 r), (10, .i .i64 i)], [], [], 0⟩).run =
      if decide (i < 32) = true then if (if p = true then true else true) = true then
        some (.normal, ⟨[(0, .u 32 v), (1, .i .i64 a), (2, .i .i64 n), (3, .u 32 f), (9, .u 32 (r + (if p = true then (f >>> (BitVec.ofInt 64 (IntKind.i64.wrap (i - a))).toNat) % 2#32 else (v >>> (BitVec.ofInt 64 i).toNat) % 2#32) <<< (BitVec.ofInt 64 i).toNat)), (10, .i .i64 (IntKind.i64.wrap (i + 1)))], [], [], 0⟩) else none
      else some (.exit 0, ⟨[(0, .u 32 v), (1, .i .i64 a), (2, .i .i64 n), (3, .u 32 f), (9, .u 32 r), (10, .i .i64 i)], [], [], 0⟩) := fun r i p hp => by subst hp; kernel_rfl
  refine ⟨32 + 1, ?_⟩
  rw [with_bits]
  refine iter_for (fun j => ⟨[(0, .u 32 v), (1, .i .i64 a), (2, .i .i64 n), (3, .u 32 f), (9, .u 32 (sumBits_32 (wbit v f a n) j)), (10, .i .i64 (j : Int))], [], [], 0⟩) 32 ?_ ?_ (by simp)
  · intro j hj
    rw [e _ _ _ rfl, wrap_succ j (by omega), if_pos (by simp; omega), if_pos (by simp), sumBits_succ_32]
    have key : (if (if (if within a n = true then decide (a ≤ (j : Int)) else false) = true then decide (IntKind.i64.wrap ((j : Int) - a) < n) else false) = true then (f >>> (BitVec.ofInt 64 (IntKind.i64.wrap ((j : Int) - a))).toNat) % 2#32 else (v >>> (BitVec.ofInt 64 (j : Int)).toNat) % 2#32) = bitB_32 (wbit v f a n j) := by
      rw [bit_eq_32, bit_eq_32, ofInt_nat j (by omega)]
      cases h : within a n with
      | false => simp [wbit, h]
      | true =>
        obtain ⟨a, m, rfl, rfl, h1, h2⟩ := within_nat h
        by_cases h3 : a ≤ j
        · rw [wrap_small ((j : Int) - (a : Int)) (by omega) (by omega), show (j : Int) - (a : Int) = ((j - a : Nat) : Int) by omega, ofInt_nat (j - a) (by omega)]
          by_cases h4 : j - a < m
          · simp [wbit, h, h3, h4]
          · simp [wbit, h, h3, h4]
        · simp [wbit, h, h3]
    rw [key, ofInt_nat j (by omega)]
  · rw [e _ _ _ rfl, if_neg (by simp)]; rfl
theorem ok40 : FnOk Try.prog 40 s37 := FnOk.of tyOk S10_ok mixed Try.func40 (by kernel_rfl) (by kernel_rfl) <| by
  intro xs r hs
  unfold s37 at hs; split at hs <;> cases hs
  rename_i v a n f
  intro hp _ _ _ _
  exact ⟨1, FnLoops.one (by kernel_rfl) (loop40 1), by kernel_rfl⟩
abbrev S11 := withS (withS (withS (withS S10 37 s37) 38 s38) 39 s38) 40 s37
theorem S11_ok : ∀ f, FnOk Try.prog f (S11 f) := withS_ok (withS_ok (withS_ok (withS_ok S10_ok ok37) ok38) ok39) ok40
theorem with_back (v f : W32) (a n : Int) : with_ (with_ v a n f) a n (field v a n) = v := by
  cases h : within a n with
  | false => simp [with_, h]
  | true =>
    obtain ⟨a, m, rfl, rfl, h1, h2⟩ := within_nat h
    simp only [with_, field, h, cond_true, Int.toNat_natCast]
    exact field_with v f h2
theorem law9 (v : W32) (a n : Int) (f : W32) : (evFn T S11 noL 1 Try.f9 [.u 32 v, .i .i64 a, .i .i64 n, .u 32 f]).run = some (.b true) := by
  have e : (evFn T S11 noL 1 Try.f9 [.u 32 v, .i .i64 a, .i .i64 n, .u 32 f]).run = if (if (field v a n != field v a n) = true then true else with_ v a n f != with_ v a n f) = true then some (.b false) else
    some (.b (if (if (field (with_ v a n f) a n == field (with_ v a n f) a n) = true then with_ (with_ v a n f) a n (field v a n) == v else false) = true then true else false)) := by kernel_rfl
  rw [e, with_back]
  simp
end Go.Proofs.Ytffihbfmdmlbcaa
namespace Go.Proofs.Ytffihbfmdmlbcaa
/- Plain: products. -/
def mulHi (a b : W64) : W64 := BitVec.ofNat 64 (a.toNat * b.toNat / 2 ^ 64)
theorem mulHi_toNat (a b : W64) : (mulHi a b).toNat = a.toNat * b.toNat / 2 ^ 64 := by
  rw [mulHi, BitVec.toNat_ofNat]
  apply Nat.mod_eq_of_lt
  have ha := a.isLt; have hb := b.isLt
  have : a.toNat * b.toNat < 2 ^ 64 * 2 ^ 64 := Nat.mul_lt_mul_of_lt_of_lt ha hb
  omega
theorem halves (v : W64) : (v &&& 4294967295#64).toNat = v.toNat % 4294967296 ∧ (v >>> 32).toNat = v.toNat / 4294967296 := by
  refine ⟨?_, ?_⟩
  · rw [BitVec.toNat_and]; exact Nat.and_two_pow_sub_one_eq_mod v.toNat 32
  · rw [BitVec.toNat_ushiftRight, Nat.shiftRight_eq_div_pow]
theorem mul_lt {x y : Nat} (hx : x < 4294967296) (hy : y < 4294967296) : x * y ≤ 18446744065119617025 := by
  have : x * y ≤ 4294967295 * 4294967295 := Nat.mul_le_mul (by omega) (by omega)
  omega
theorem mul_code (a b : W64) :
    a >>> 32 * b >>> 32 + (a >>> 32 * (b &&& 4294967295#64) + ((a &&& 4294967295#64) * (b &&& 4294967295#64)) >>> 32) >>> 32 +
    ((a >>> 32 * (b &&& 4294967295#64) + ((a &&& 4294967295#64) * (b &&& 4294967295#64)) >>> 32 &&& 4294967295#64) + (a &&& 4294967295#64) * b >>> 32) >>> 32 = mulHi a b := by
  apply BitVec.eq_of_toNat_eq
  rw [mulHi_toNat]
  obtain ⟨ha0, ha1⟩ := halves a
  obtain ⟨hb0, hb1⟩ := halves b
  have ha := a.isLt; have hb := b.isLt
  have ea : a.toNat = (a >>> 32).toNat * 4294967296 + (a &&& 4294967295#64).toNat := by rw [ha0, ha1]; omega
  have eb : b.toNat = (b >>> 32).toNat * 4294967296 + (b &&& 4294967295#64).toNat := by rw [hb0, hb1]; omega
  have la0 : (a &&& 4294967295#64).toNat < 4294967296 := by rw [ha0]; omega
  have la1 : (a >>> 32).toNat < 4294967296 := by rw [ha1]; omega
  have lb0 : (b &&& 4294967295#64).toNat < 4294967296 := by rw [hb0]; omega
  have lb1 : (b >>> 32).toNat < 4294967296 := by rw [hb1]; omega
  rw [ea, eb]
  generalize a >>> 32 = a1 at *
  generalize a &&& 4294967295#64 = a0 at *
  generalize b >>> 32 = b1 at *
  generalize b &&& 4294967295#64 = b0 at *
  have h00 := mul_lt la0 lb0
  have h01 := mul_lt la0 lb1
  have h10 := mul_lt la1 lb0
  have h11 := mul_lt la1 lb1
  have e00 : (a0 * b0).toNat = a0.toNat * b0.toNat := by rw [BitVec.toNat_mul]; exact Nat.mod_eq_of_lt (by omega)
  have e01 : (a0 * b1).toNat = a0.toNat * b1.toNat := by rw [BitVec.toNat_mul]; exact Nat.mod_eq_of_lt (by omega)
  have e10 : (a1 * b0).toNat = a1.toNat * b0.toNat := by rw [BitVec.toNat_mul]; exact Nat.mod_eq_of_lt (by omega)
  have e11 : (a1 * b1).toNat = a1.toNat * b1.toNat := by rw [BitVec.toNat_mul]; exact Nat.mod_eq_of_lt (by omega)
  have ht : (a1 * b0 + (a0 * b0) >>> 32).toNat = a1.toNat * b0.toNat + a0.toNat * b0.toNat / 4294967296 := by
    rw [BitVec.toNat_add, (halves _).2, e10, e00]; exact Nat.mod_eq_of_lt (by omega)
  generalize a1 * b0 + (a0 * b0) >>> 32 = t at *
  rw [BitVec.toNat_add, BitVec.toNat_add, (halves _).2, (halves _).2, BitVec.toNat_add, (halves t).1, e01, e11, ht]
  have ex : (a1.toNat * 4294967296 + a0.toNat) * (b1.toNat * 4294967296 + b0.toNat) = a1.toNat * b1.toNat * 18446744073709551616 + a1.toNat * b0.toNat * 4294967296 + a0.toNat * b1.toNat * 4294967296 + a0.toNat * b0.toNat := by
    rw [Nat.add_mul, Nat.mul_add, Nat.mul_add]
    rw [show a1.toNat * 4294967296 * (b1.toNat * 4294967296) = a1.toNat * b1.toNat * 18446744073709551616 by rw [Nat.mul_assoc, Nat.mul_left_comm 4294967296, ← Nat.mul_assoc]]
    rw [show a1.toNat * 4294967296 * b0.toNat = a1.toNat * b0.toNat * 4294967296 by rw [Nat.mul_right_comm]]
    rw [← Nat.mul_assoc]; omega
  rw [ex]
  generalize a0.toNat * b0.toNat = p00 at *
  generalize a0.toNat * b1.toNat = p01 at *
  generalize a1.toNat * b0.toNat = p10 at *
  generalize a1.toNat * b1.toNat = p11 at *
  omega

/- by rounds: the product by the top j bits of b -/
def prod (a b : W64) (j : Nat) : Nat := a.toNat * (b.toNat / 2 ^ (64 - j))
theorem prod_succ (a b : W64) {j : Nat} (hj : j < 64) : prod a b (j + 1) = 2 * prod a b j + (bif b.getLsbD (63 - j) then a.toNat else 0) := by
  have e : b.toNat / 2 ^ (64 - (j + 1)) = 2 * (b.toNat / 2 ^ (64 - j)) + (b.getLsbD (63 - j)).toNat := by
    rw [show 64 - j = (64 - (j + 1)) + 1 by omega, show 63 - j = 64 - (j + 1) by omega, Nat.pow_succ, ← Nat.div_div_eq_div_mul, BitVec.getLsbD, Nat.testBit_eq_decide_div_mod_eq]
    generalize b.toNat / 2 ^ (64 - (j + 1)) = x
    rcases Nat.mod_two_eq_zero_or_one x with h | h <;> simp [h] <;> omega
  rw [prod, e, Nat.mul_add, prod, Nat.mul_left_comm]
  cases b.getLsbD (63 - j) <;> simp
theorem prod_lt (a b : W64) (j : Nat) : prod a b j < 2 ^ 64 * 2 ^ 64 := by
  refine Nat.mul_lt_mul_of_lt_of_lt a.isLt (Nat.lt_of_le_of_lt (Nat.div_le_self _ _) b.isLt)
theorem top_bit (l : W64) : (l.getLsbD 63).toNat = l.toNat / 9223372036854775808 := by
  have := l.isLt
  rw [BitVec.getLsbD, Nat.testBit_eq_decide_div_mod_eq]
  show (decide (l.toNat / 9223372036854775808 % 2 = 1)).toNat = _
  rcases (by omega : l.toNat / 9223372036854775808 = 0 ∨ l.toNat / 9223372036854775808 = 1) with h | h <;> simp [h]
def hiR (h l a : W64) (x : Bool) : W64 := if x = true then (if decide ((l * 2#64 + a).toNat < a.toNat) = true then h * 2#64 + bitB (l.getLsbD 63) + 1#64 else h * 2#64 + bitB (l.getLsbD 63)) else h * 2#64 + bitB (l.getLsbD 63)
def loR (l a : W64) (x : Bool) : W64 := if x = true then l * 2#64 + a else l * 2#64
def hiJ (a b : W64) (j : Nat) : W64 := BitVec.ofNat 64 (prod a b j / 2 ^ 64)
def loJ (a b : W64) (j : Nat) : W64 := BitVec.ofNat 64 (prod a b j)
theorem round_prod (a b : W64) {j : Nat} (hj : j < 64) : hiR (hiJ a b j) (loJ a b j) a (b.getLsbD (63 - j)) = hiJ a b (j + 1) ∧ loR (loJ a b j) a (b.getLsbD (63 - j)) = loJ a b (j + 1) := by
  have h1 := prod_lt a b j
  have h2 := prod_lt a b (j + 1)
  have e := prod_succ a b hj
  have ha := a.isLt
  have hh : (hiJ a b j).toNat = prod a b j / 18446744073709551616 := by rw [hiJ, BitVec.toNat_ofNat]; exact Nat.mod_eq_of_lt (by omega)
  have hl : (loJ a b j).toNat = prod a b j % 18446744073709551616 := by rw [loJ, BitVec.toNat_ofNat]
  have hh' : (hiJ a b (j + 1)).toNat = prod a b (j + 1) / 18446744073709551616 := by rw [hiJ, BitVec.toNat_ofNat]; exact Nat.mod_eq_of_lt (by omega)
  have hl' : (loJ a b (j + 1)).toNat = prod a b (j + 1) % 18446744073709551616 := by rw [loJ, BitVec.toNat_ofNat]
  have ht := top_bit (loJ a b j)
  generalize hP : prod a b j = P at *
  generalize hP' : prod a b (j + 1) = P' at *
  cases hx : b.getLsbD (63 - j) with
  | false =>
    rw [hx] at e
    simp only [cond_false, Nat.add_zero] at e
    refine ⟨?_, ?_⟩
    · apply BitVec.eq_of_toNat_eq
      simp only [hiR, Bool.false_eq_true, if_false]
      rw [BitVec.toNat_add, BitVec.toNat_mul, bitB_toNat, ht, hl, hh, hh']
      simp; omega
    · apply BitVec.eq_of_toNat_eq
      simp only [loR, Bool.false_eq_true, if_false]
      rw [BitVec.toNat_mul, hl, hl', e]
      simp only [BitVec.reduceToNat]; omega
  | true =>
    rw [hx] at e
    simp only [cond_true] at e
    have hlo : (loJ a b j * 2#64 + a).toNat = (prod a b j * 2 + a.toNat) % 18446744073709551616 := by
      rw [BitVec.toNat_add, BitVec.toNat_mul, hl, hP]; simp
    refine ⟨?_, ?_⟩
    · apply BitVec.eq_of_toNat_eq
      simp only [hiR, if_true]
      rw [hlo, hP, hh']
      by_cases hc : (P * 2 + a.toNat) % 18446744073709551616 < a.toNat
      · rw [if_pos (by simpa using hc), BitVec.toNat_add, BitVec.toNat_add, BitVec.toNat_mul, bitB_toNat, ht, hl, hh]
        simp; omega
      · rw [if_neg (by simpa using hc), BitVec.toNat_add, BitVec.toNat_mul, bitB_toNat, ht, hl, hh]
        simp; omega
    · apply BitVec.eq_of_toNat_eq
      simp only [loR, if_true]
      rw [hlo, hP, hl']
      omega

/- with signs -/
def mulsHi (a b : W64) : W64 := mulHi a b - (bif b.getLsbD 63 then a else 0#64) - (bif a.getLsbD 63 then b else 0#64)
def absW (a : W64) : W64 := if a.getLsbD 63 = true then 0#64 - a else a
def mulsR (a b : W64) : W64 := if (a.getLsbD 63 != b.getLsbD 63) = true then (if (0#64 - absW a * absW b == 0#64) = true then 18446744073709551615#64 - mulHi (absW a) (absW b) + 1#64 else 18446744073709551615#64 - mulHi (absW a) (absW b)) else mulHi (absW a) (absW b)
def mulsL (a b : W64) : W64 := if (a.getLsbD 63 != b.getLsbD 63) = true then 0#64 - absW a * absW b else absW a * absW b
theorem mulsL_eq (a b : W64) : mulsL a b = a * b := by
  simp only [mulsL, absW, BitVec.zero_sub]
  cases a.getLsbD 63 <;> cases b.getLsbD 63 <;> simp [BitVec.neg_mul, BitVec.mul_neg]
theorem mul_comp_left (x y : Nat) (h : x ≤ 18446744073709551616) : (18446744073709551616 - x) * y = 18446744073709551616 * y - x * y := Nat.sub_mul ..
theorem mulsR_eq (a b : W64) : mulsR a b = mulsHi a b := by
  have ha := a.isLt; have hb := b.isLt
  have ta := top_bit a; have tb := top_bit b
  have hneg : ∀ x : W64, (0#64 - x).toNat = (18446744073709551616 - x.toNat) % 18446744073709551616 := fun x => by rw [BitVec.toNat_sub]; simp
  have hP : a.toNat * b.toNat < 2 ^ 64 * 2 ^ 64 := Nat.mul_lt_mul_of_lt_of_lt ha hb
  have hm := mulHi_toNat a b
  cases hx : a.getLsbD 63 <;> cases hy : b.getLsbD 63
  · simp only [mulsR, mulsHi, absW, hx, hy, cond_false, bne_self_eq_false, Bool.false_eq_true, if_false, BitVec.sub_zero]
  · -- b below zero
    rw [hy] at tb
    simp only [Bool.toNat_true] at tb
    have eb : (0#64 - b).toNat = 18446744073709551616 - b.toNat := by rw [hneg]; exact Nat.mod_eq_of_lt (by omega)
    have hQ : a.toNat * (0#64 - b).toNat = 18446744073709551616 * a.toNat - a.toNat * b.toNat := by rw [eb, Nat.mul_sub, Nat.mul_comm a.toNat 18446744073709551616]
    have hle : a.toNat * b.toNat ≤ 18446744073709551616 * a.toNat := by rw [Nat.mul_comm 18446744073709551616]; exact Nat.mul_le_mul_left _ (by omega)
    have hh := mulHi_toNat a (0#64 - b)
    rw [hQ] at hh
    have hz : (0#64 - a * (0#64 - b) == 0#64) = decide ((a.toNat * b.toNat) % 18446744073709551616 = 0) := by
      rw [Bool.eq_iff_iff, beq_iff_eq, decide_eq_true_eq, BitVec.zero_sub, BitVec.zero_sub, BitVec.mul_neg, BitVec.neg_neg]
      exact ⟨fun e => by have := congrArg BitVec.toNat e; rwa [BitVec.toNat_mul] at this, fun e => BitVec.eq_of_toNat_eq (by rw [BitVec.toNat_mul]; exact e)⟩
    simp only [mulsR, mulsHi, absW, hx, hy, hz, cond_true, cond_false]
    apply BitVec.eq_of_toNat_eq
    generalize a.toNat * b.toNat = P at *
    by_cases hc : P % 18446744073709551616 = 0
    · simp only [hz, hc, decide_true, if_true, bne_self_eq_false, Bool.false_eq_true, if_false, Bool.bne_true, Bool.not_false, BitVec.sub_zero]
      rw [BitVec.toNat_add, BitVec.toNat_sub, BitVec.toNat_sub, hh, hm]
      simp; omega
    · simp only [hz, hc, decide_false, if_true, Bool.false_eq_true, if_false, Bool.bne_true, Bool.not_false, BitVec.sub_zero]
      rw [BitVec.toNat_sub, BitVec.toNat_sub, hh, hm]
      simp; omega
  · -- a below zero
    rw [hx] at ta
    simp only [Bool.toNat_true] at ta
    have ea : (0#64 - a).toNat = 18446744073709551616 - a.toNat := by rw [hneg]; exact Nat.mod_eq_of_lt (by omega)
    have hQ : (0#64 - a).toNat * b.toNat = 18446744073709551616 * b.toNat - a.toNat * b.toNat := by rw [ea, Nat.sub_mul]
    have hle : a.toNat * b.toNat ≤ 18446744073709551616 * b.toNat := Nat.mul_le_mul_right _ (by omega)
    have hh := mulHi_toNat (0#64 - a) b
    rw [hQ] at hh
    have hz : (0#64 - (0#64 - a) * b == 0#64) = decide ((a.toNat * b.toNat) % 18446744073709551616 = 0) := by
      rw [Bool.eq_iff_iff, beq_iff_eq, decide_eq_true_eq, BitVec.zero_sub, BitVec.zero_sub, BitVec.neg_mul, BitVec.neg_neg]
      exact ⟨fun e => by have := congrArg BitVec.toNat e; rwa [BitVec.toNat_mul] at this, fun e => BitVec.eq_of_toNat_eq (by rw [BitVec.toNat_mul]; exact e)⟩
    simp only [mulsR, mulsHi, absW, hx, hy, hz, cond_true, cond_false]
    apply BitVec.eq_of_toNat_eq
    generalize a.toNat * b.toNat = P at *
    by_cases hc : P % 18446744073709551616 = 0
    · simp only [hz, hc, decide_true, if_true, Bool.false_eq_true, if_false, Bool.bne_false, BitVec.sub_zero]
      rw [BitVec.toNat_add, BitVec.toNat_sub, BitVec.toNat_sub, hh, hm]
      simp; omega
    · simp only [hz, hc, decide_false, if_true, Bool.false_eq_true, if_false, Bool.bne_false, BitVec.sub_zero]
      rw [BitVec.toNat_sub, BitVec.toNat_sub, hh, hm]
      simp; omega
  · -- both
    rw [hx] at ta
    rw [hy] at tb
    simp only [Bool.toNat_true] at ta tb
    have ea : (0#64 - a).toNat = 18446744073709551616 - a.toNat := by rw [hneg]; exact Nat.mod_eq_of_lt (by omega)
    have eb : (0#64 - b).toNat = 18446744073709551616 - b.toNat := by rw [hneg]; exact Nat.mod_eq_of_lt (by omega)
    have hle : a.toNat * b.toNat ≤ 18446744073709551616 * b.toNat := Nat.mul_le_mul_right _ (by omega)
    have hQ : (0#64 - a).toNat * (0#64 - b).toNat = 340282366920938463463374607431768211456 - 18446744073709551616 * a.toNat - (18446744073709551616 * b.toNat - a.toNat * b.toNat) := by
      rw [ea, eb, Nat.sub_mul, Nat.mul_sub, Nat.mul_sub, Nat.mul_comm a.toNat 18446744073709551616]
      have h3 : 18446744073709551616 * b.toNat ≤ 18446744073709551616 * 18446744073709551616 := Nat.mul_le_mul_left _ (by omega)
      have h4 : a.toNat * b.toNat ≤ 18446744073709551616 * a.toNat := by rw [Nat.mul_comm 18446744073709551616]; exact Nat.mul_le_mul_left _ (by omega)
      omega
    have h3 : 18446744073709551616 * a.toNat + 18446744073709551616 * b.toNat ≤ 340282366920938463463374607431768211456 + a.toNat * b.toNat := by
      have := Nat.mul_le_mul (by omega : 9223372036854775808 ≤ a.toNat) (by omega : 9223372036854775808 ≤ b.toNat)
      have h5 : (18446744073709551616 - a.toNat) * (18446744073709551616 - b.toNat) = (18446744073709551616 - a.toNat) * 18446744073709551616 - (18446744073709551616 - a.toNat) * b.toNat := Nat.mul_sub ..
      have h6 : (18446744073709551616 - a.toNat) * b.toNat = 18446744073709551616 * b.toNat - a.toNat * b.toNat := Nat.sub_mul ..
      have h7 : (18446744073709551616 - a.toNat) * b.toNat ≤ (18446744073709551616 - a.toNat) * 18446744073709551616 := Nat.mul_le_mul_left _ (by omega)
      omega
    have hh := mulHi_toNat (0#64 - a) (0#64 - b)
    rw [hQ] at hh
    simp only [mulsR, mulsHi, absW, hx, hy, cond_true, bne_self_eq_false, Bool.false_eq_true, if_false, if_true]
    apply BitVec.eq_of_toNat_eq
    generalize a.toNat * b.toNat = P at *
    rw [hh, BitVec.toNat_sub, BitVec.toNat_sub, hm]
    omega
end Go.Proofs.Ytffihbfmdmlbcaa
namespace Go.Proofs.Ytffihbfmdmlbcaa
open Go.Proofs.Ytffihbfmdmlbcaa.Ev
def s69 : CSpec | [.u 64 a, .u 64 b] => some ⟨[], .tup [.u 64 (mulHi a b), .u 64 (a * b)]⟩ | _ => none
theorem ok69 : FnOk Try.prog 69 s69 := okBy SB_ok Try.func69 (by kernel_rfl) (by kernel_rfl) 1 <| by
  intro xs r hs
  unfold s69 at hs; split at hs <;> cases hs
  rename_i a b
  intro hp _
  have e : (evFn T SB noL 1 Try.f69 [.u 64 a, .u 64 b]).run = some (.tup [.u 64 (a >>> 32 * b >>> 32 + (a >>> 32 * (b &&& 4294967295#64) + ((a &&& 4294967295#64) * (b &&& 4294967295#64)) >>> 32) >>> 32 +
    ((a >>> 32 * (b &&& 4294967295#64) + ((a &&& 4294967295#64) * (b &&& 4294967295#64)) >>> 32 &&& 4294967295#64) + (a &&& 4294967295#64) * b >>> 32) >>> 32), .u 64 (a * b)]) := by kernel_rfl
  rw [e, mul_code]
abbrev S12 := withS SB 69 s69
theorem S12_ok : ∀ f, FnOk Try.prog f (S12 f) := withS_ok SB_ok ok69
theorem ok41 : FnOk Try.prog 41 s69 := okBy S12_ok Try.func41 (by kernel_rfl) (by kernel_rfl) 1 <| by
  intro xs r hs
  unfold s69 at hs; split at hs <;> cases hs
  intro hp _
  kernel_rfl
def q42 : St → Option LRes
  | ⟨[(0, .u 64 a), (1, .u 64 b), (6, .u 64 h), (7, .u 64 l), (8, .i .i64 i)], [], [], _⟩ => some ⟨[h == 0#64, l == 0#64, i == 63], .exit 0, [(0, .u 64 a), (1, .u 64 b), (6, .u 64 (mulHi a b)), (7, .u 64 (a * b)), (8, .i .i64 (-1))], [], []⟩
  | _ => none
def L42 : Nat → Live := fun _ => ⟨[0, 1, 6, 7, 8], [], [], some (evSum q42)⟩
theorem loop42 (N : Nat) : LoopOk T S12 L42 34 N (loopOf Try.f42 0) := LoopOk.of rfl <| by
  intro τ r hcut hr
  unfold q42 at hr; split at hr <;> cases hr
  rename_i a b h l i c
  obtain rfl : c = 0 := hcut
  intro hp
  simp only [List.mem_cons, List.not_mem_nil, or_false, forall_eq_or_imp, forall_eq, beq_iff_eq, decide_eq_true_eq] at hp
  obtain ⟨rfl, rfl, rfl⟩ := hp
  have e : ∀ (h l : W64) (i : Int) (p : Bool), p = (bitB (b.getLsbD (BitVec.ofInt 64 i).toNat) == 1#64) → (atHead (evCode T S12 L42 34 N (loopOf Try.f42 0)) (L42 (firstR (loopOf Try.f42 0))) ⟨[(0, .u 64 a), (1, .u 64 b), (6, .u 64 h), (7, .u 64 l), (8, .i .i64 i)], [], [], 0⟩).run =
      if decide (0 ≤ i) = true then
        some (.normal, ⟨[(0, .u 64 a), (1, .u 64 b), (6, .u 64 (hiR h l a p)), (7, .u 64 (loR l a p)), (8, .i .i64 (IntKind.i64.wrap (i - 1)))], [], [], 0⟩)
      else some (.exit 0, ⟨[(0, .u 64 a), (1, .u 64 b), (6, .u 64 h), (7, .u 64 l), (8, .i .i64 i)], [], [], 0⟩) := fun h l i p hp => by subst hp; kernel_rfl
  refine ⟨64 + 1, ?_⟩
  have z : ∀ j, j = 64 → hiJ a b j = mulHi a b ∧ loJ a b j = a * b := by
    rintro _ rfl
    refine ⟨by simp [hiJ, mulHi, prod], ?_⟩
    apply BitVec.eq_of_toNat_eq; simp [loJ, prod]
  have z0 : hiJ a b 0 = 0#64 ∧ loJ a b 0 = 0#64 := by
    have : b.toNat / 2 ^ 64 = 0 := Nat.div_eq_of_lt b.isLt
    simp [hiJ, loJ, prod, this]
  have h0 : (⟨[(0, .u 64 a), (1, .u 64 b), (6, .u 64 0#64), (7, .u 64 0#64), (8, .i .i64 63)], [], [], 0⟩ : St) = ⟨[(0, .u 64 a), (1, .u 64 b), (6, .u 64 (hiJ a b 0)), (7, .u 64 (loJ a b 0)), (8, .i .i64 (63 - ((0 : Nat) : Int)))], [], [], 0⟩ := by rw [z0.1, z0.2]; rfl
  rw [h0]
  refine iter_for (fun j => ⟨[(0, .u 64 a), (1, .u 64 b), (6, .u 64 (hiJ a b j)), (7, .u 64 (loJ a b j)), (8, .i .i64 (63 - (j : Int)))], [], [], 0⟩) 64 ?_ ?_ (by simp)
  · intro j hj
    rw [e _ _ _ _ rfl, if_pos (by simp; omega), bitB_is, show (63 - (j : Int)) = ((63 - j : Nat) : Int) by omega, ofInt_nat (63 - j) (by omega), (round_prod a b hj).1, (round_prod a b hj).2, wrap_small (((63 - j : Nat) : Int) - 1) (by omega) (by omega),
      show ((63 - j : Nat) : Int) - 1 = 63 - ((j + 1 : Nat) : Int) by omega]
  · rw [e _ _ _ _ rfl, if_neg (by simp), (z 64 rfl).1, (z 64 rfl).2]; rfl
theorem ok42 : FnOk Try.prog 42 s69 := FnOk.of tyOk S12_ok mixed Try.func42 (by kernel_rfl) (by kernel_rfl) <| by
  intro xs r hs
  unfold s69 at hs; split at hs <;> cases hs
  intro hp _ _ _ _
  exact ⟨1, FnLoops.one (by kernel_rfl) (loop42 1), by kernel_rfl⟩
abbrev S13 := withS (withS S12 41 s69) 42 s69
theorem S13_ok : ∀ f, FnOk Try.prog f (S13 f) := withS_ok (withS_ok S12_ok ok41) ok42
def s43 : CSpec | [.u 64 a, .u 64 b] => some ⟨[], .tup [.u 64 (mulsHi a b), .u 64 (a * b)]⟩ | _ => none
theorem wrap_neg (a : W64) : decide (IntKind.i64.wrap (a.toNat : Int) < 0) = a.getLsbD 63 := by
  have h := top_bit a
  have ha := a.isLt
  have e : IntKind.i64.wrap (a.toNat : Int) = a.toInt := wrap_toInt (k := .i64) rfl a
  rw [e, BitVec.toInt]
  cases hx : a.getLsbD 63 <;> rw [hx] at h <;> simp at h <;> simp <;> omega
theorem ok43 : FnOk Try.prog 43 s43 := okBy S13_ok Try.func43 (by kernel_rfl) (by kernel_rfl) 1 <| by
  intro xs r hs
  unfold s43 at hs; split at hs <;> cases hs
  rename_i a b
  intro hp _
  have e : (evFn T S13 noL 1 Try.f43 [.u 64 a, .u 64 b]).run = some (.tup [.u 64 (if decide (IntKind.i64.wrap (b.toNat : Int) < 0) = true then (if decide (IntKind.i64.wrap (a.toNat : Int) < 0) = true then mulHi a b - b else mulHi a b) - a else (if decide (IntKind.i64.wrap (a.toNat : Int) < 0) = true then mulHi a b - b else mulHi a b)), .u 64 (a * b)]) := by kernel_rfl
  rw [e, wrap_neg, wrap_neg]
  have k : (if b.getLsbD 63 = true then (if a.getLsbD 63 = true then mulHi a b - b else mulHi a b) - a else if a.getLsbD 63 = true then mulHi a b - b else mulHi a b) = mulsHi a b := by
    cases hx : a.getLsbD 63 <;> cases hy : b.getLsbD 63 <;> simp only [mulsHi, hx, hy, cond_true, cond_false, if_true, if_false, Bool.false_eq_true, BitVec.sub_zero]
    simp only [BitVec.sub_eq_add_neg]
    rw [BitVec.add_assoc, BitVec.add_comm (-b), ← BitVec.add_assoc]
  rw [k]
def mulsG (p q : Bool) (x y : W64) : W64 := if (p != q) = true then (if (0#64 - x * y == 0#64) = true then 18446744073709551615#64 - mulHi x y + 1#64 else 18446744073709551615#64 - mulHi x y) else mulHi x y
def mulsGL (p q : Bool) (x y : W64) : W64 := if (p != q) = true then 0#64 - x * y else x * y
theorem ok44 : FnOk Try.prog 44 s43 := okBy S13_ok Try.func44 (by kernel_rfl) (by kernel_rfl) 1 <| by
  intro xs r hs
  unfold s43 at hs; split at hs <;> cases hs
  rename_i a b
  intro hp _
  have e : ∀ (p q : Bool) (x y : W64), p = neg a 8 → q = neg b 8 → x = (if p = true then 0#64 - a else a) → y = (if q = true then 0#64 - b else b) → (evFn T S13 noL 1 Try.f44 [.u 64 a, .u 64 b]).run = some (.tup [.u 64 (mulsG p q x y), .u 64 (mulsGL p q x y)]) := by
    intro p q x y h1 h2 h3 h4; subst h3; subst h4; subst h1; subst h2; kernel_rfl
  rw [e (a.getLsbD 63) (b.getLsbD 63) (absW a) (absW b) rfl rfl rfl rfl]
  have k : mulsG (a.getLsbD 63) (b.getLsbD 63) (absW a) (absW b) = mulsHi a b := mulsR_eq a b
  have k2 : mulsGL (a.getLsbD 63) (b.getLsbD 63) (absW a) (absW b) = a * b := mulsL_eq a b
  rw [k, k2]
abbrev S14 := withS (withS S13 43 s43) 44 s43
theorem S14_ok : ∀ f, FnOk Try.prog f (S14 f) := withS_ok (withS_ok S13_ok ok43) ok44
theorem law10 (a b : W64) : (evFn T S14 noL 1 Try.f10 [.u 64 a, .u 64 b]).run = some (.b true) := by
  have e : (evFn T S14 noL 1 Try.f10 [.u 64 a, .u 64 b]).run = some (.b (if (if (if (if (mulHi a b == mulHi a b) = true then a * b == a * b else false) = true then mulsHi a b == mulsHi a b else false) = true then a * b == a * b else false) = true then true else false)) := by kernel_rfl
  rw [e]; simp
end Go.Proofs.Ytffihbfmdmlbcaa
