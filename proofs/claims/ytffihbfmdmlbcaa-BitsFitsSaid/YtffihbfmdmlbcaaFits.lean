/- Lemmas: whether a number fits, and its length: the functions of bits and of the reference, each shown by the evaluator. No condition. -/
import Derived.Test.YtffihbfmdmlbcaaBits2
import Derived.Test.YtffihbfmdmlbcaaLogim
set_option linter.unusedVariables false
set_option linter.unusedSimpArgs false
namespace Go.Proofs.Ytffihbfmdmlbcaa
open Go.Proofs.Ytffihbfmdmlbcaa.Ev
/- lengths -/
def bitLen (v : W64) : Nat := if v.toNat = 0 then 0 else v.toNat.log2 + 1
def len1 (v : W64) : W64 := if decide (4294967296 ≤ v.toNat) = true then v >>> 32 else v
def len2 (v : W64) : W64 := if decide (65536 ≤ (len1 v).toNat) = true then len1 v >>> 16 else len1 v
def len3 (v : W64) : W64 := if decide (256 ≤ (len2 v).toNat) = true then len2 v >>> 8 else len2 v
def lenN (v : W64) : Int :=
  let a : Int := if decide (4294967296 ≤ v.toNat) = true then 32 else 0
  let b : Int := if decide (65536 ≤ (len1 v).toNat) = true then IntKind.i64.wrap (a + 16) else a
  if decide (256 ≤ (len2 v).toNat) = true then IntKind.i64.wrap (b + 8) else b
def lenTab : List UInt8 := [0, 1] ++ List.replicate 2 2 ++ List.replicate 4 3 ++ List.replicate 8 4 ++ List.replicate 16 5 ++ List.replicate 32 6 ++ List.replicate 64 7 ++ List.replicate 128 8
theorem run71 (v : W64) : (evFn T SB noL 1 Try.f71 [.u 64 v]).run = if decide (0 ≤ (((len3 v).setWidth 8).toNat : Int)) = true then if decide ((((len3 v).setWidth 8).toNat : Int) < 256) = true then
    some (.i .i64 (IntKind.i64.wrap (lenN v + IntKind.i64.wrap ((lenTab.getD ((len3 v).setWidth 8).toNat 0).toNat : Int)))) else none else none := by kernel_rfl
end Go.Proofs.Ytffihbfmdmlbcaa
namespace Go.Proofs.Ytffihbfmdmlbcaa
open Go.Proofs.Ytffihbfmdmlbcaa.Ev
theorem log2_div {x k : Nat} (h : 2 ^ k ≤ x) : x.log2 = (x / 2 ^ k).log2 + k := by
  have hp := Nat.two_pow_pos k
  have h0 : x / 2 ^ k ≠ 0 := by have := (Nat.le_div_iff_mul_le hp (x := 1) (y := x)).2 (by omega); omega
  obtain ⟨h1, h2⟩ := (Nat.log2_eq_iff h0).1 rfl
  refine (Nat.log2_eq_iff (by omega)).2 ⟨?_, ?_⟩
  · rw [Nat.pow_add]; exact (Nat.le_div_iff_mul_le hp).1 h1
  · rw [show (x / 2 ^ k).log2 + k + 1 = (x / 2 ^ k).log2 + 1 + k by omega, Nat.pow_add]; exact (Nat.div_lt_iff_lt_mul hp).1 h2
theorem lenTab_all : ∀ n : Fin 256, (lenTab.getD n.val 0).toNat = if n.val = 0 then 0 else n.val.log2 + 1 := by decide +kernel
theorem bitLen_shift {v : W64} {k : Nat} (h : 2 ^ k ≤ v.toNat) : bitLen v = bitLen (v >>> k) + k := by
  have hp := Nat.two_pow_pos k
  have e : (v >>> k).toNat = v.toNat / 2 ^ k := by rw [BitVec.toNat_ushiftRight, Nat.shiftRight_eq_div_pow]
  have h0 : v.toNat / 2 ^ k ≠ 0 := by have := (Nat.le_div_iff_mul_le hp (x := 1) (y := v.toNat)).2 (by omega); omega
  have h1 : v.toNat ≠ 0 := by omega
  simp only [bitLen, e, h0, h1, if_false]
  rw [log2_div h]; omega
theorem len3_small (v : W64) : (len3 v).toNat < 256 := by
  have hv := v.isLt
  have h1 : (len1 v).toNat < 4294967296 := by
    unfold len1; split
    · rw [BitVec.toNat_ushiftRight, Nat.shiftRight_eq_div_pow]; omega
    · rename_i h; simpa using h
  have h2 : (len2 v).toNat < 65536 := by
    unfold len2; split
    · rw [BitVec.toNat_ushiftRight, Nat.shiftRight_eq_div_pow]; omega
    · rename_i h; simpa using h
  unfold len3; split
  · rw [BitVec.toNat_ushiftRight, Nat.shiftRight_eq_div_pow]; omega
  · rename_i h; simpa using h
theorem lenN_eq (v : W64) : lenN v + (bitLen (len3 v) : Int) = bitLen v ∧ 0 ≤ lenN v ∧ lenN v ≤ 56 := by
  have e3 : bitLen (len2 v) = bitLen (len3 v) + (if decide (256 ≤ (len2 v).toNat) = true then 8 else 0) := by
    unfold len3; split
    · rename_i h; exact bitLen_shift (k := 8) (by simpa using h)
    · rfl
  have e2 : bitLen (len1 v) = bitLen (len2 v) + (if decide (65536 ≤ (len1 v).toNat) = true then 16 else 0) := by
    unfold len2; split
    · rename_i h; exact bitLen_shift (k := 16) (by simpa using h)
    · rfl
  have e1 : bitLen v = bitLen (len1 v) + (if decide (4294967296 ≤ v.toNat) = true then 32 else 0) := by
    unfold len1; split
    · rename_i h; exact bitLen_shift (k := 32) (by simpa using h)
    · rfl
  rw [e1, e2, e3]
  unfold lenN
  cases decide (4294967296 ≤ v.toNat) <;> cases decide (65536 ≤ (len1 v).toNat) <;> cases decide (256 ≤ (len2 v).toNat) <;> simp [wrap_small] <;> omega
def s71 : CSpec | [.u 64 v] => some ⟨[], .i .i64 (bitLen v)⟩ | _ => none
theorem ok71 : FnOk Try.prog 71 s71 := okBy SB_ok Try.func71 (by kernel_rfl) (by kernel_rfl) 1 <| by
  intro xs r hs
  unfold s71 at hs; split at hs <;> cases hs
  rename_i v
  intro hp _
  have h3 := len3_small v
  have e8 : ((len3 v).setWidth 8).toNat = (len3 v).toNat := by rw [BitVec.toNat_setWidth]; exact Nat.mod_eq_of_lt h3
  have ht : (lenTab.getD (len3 v).toNat 0).toNat = bitLen (len3 v) := lenTab_all ⟨_, h3⟩
  obtain ⟨k1, k2, k3⟩ := lenN_eq v
  have hb : bitLen v ≤ 64 := by
    unfold bitLen; split
    · omega
    · rename_i h0
      have := (Nat.log2_lt h0).2 v.isLt; omega
  rw [run71, e8, ht, if_pos (by simp), if_pos (by simp; omega), wrap_small ((bitLen (len3 v) : Nat) : Int) (by omega) (by omega), wrap_small _ (by omega) (by omega), k1]
end Go.Proofs.Ytffihbfmdmlbcaa
namespace Go.Proofs.Ytffihbfmdmlbcaa
open Go.Proofs.Ytffihbfmdmlbcaa.Ev
/- fitting -/
def allFrom (p : Nat → Bool) (m : Nat) : Nat → Bool
  | 0 => true
  | n + 1 => allFrom p m n && (decide (n < m) || p n)
theorem allFrom_iff {p : Nat → Bool} {m : Nat} : ∀ {n : Nat}, allFrom p m n = true ↔ ∀ j, m ≤ j → j < n → p j = true
  | 0 => by simp [allFrom]
  | n + 1 => by
    simp only [allFrom, Bool.and_eq_true, Bool.or_eq_true, decide_eq_true_eq, allFrom_iff (n := n)]
    constructor
    · rintro ⟨h1, h2⟩ j hj hn
      by_cases e : j = n
      · subst e; rcases h2 with h | h
        · omega
        · exact h
      · exact h1 j hj (by omega)
    · intro h
      refine ⟨fun j hj hn => h j hj (by omega), ?_⟩
      by_cases e : n < m
      · exact .inl e
      · exact .inr (h n (by omega) (by omega))
def fits (v n : Int) : Bool := decide (1 ≤ n) && (decide (n ≤ 64) && allFrom (fun j => (BitVec.ofInt 64 v).getLsbD j == (BitVec.ofInt 64 v).getLsbD 63) (n.toNat - 1) 64)
def s51 : CSpec | [.i .i64 v, .i .i64 n] => some ⟨[], .b (fits v n)⟩ | _ => none
theorem wrap_congr {a b : Int} (h : a % 18446744073709551616 = b % 18446744073709551616) : IntKind.i64.wrap a = IntKind.i64.wrap b := by
  rw [IntKind.wrap_i64, IntKind.wrap_i64]
  omega
theorem wrap_w (x : W64) : IntKind.i64.wrap (x.toNat : Int) = x.toInt := wrap_toInt (k := .i64) rfl x
theorem fits_code {v : Int} (hv : IntKind.i64.has v) {n : Nat} (h1 : 1 ≤ n) (h2 : n ≤ 64) : (IntKind.i64.wrap (v * 2 ^ (64 - n)) / 2 ^ (64 - n) == v) = allFrom (fun j => (BitVec.ofInt 64 v).getLsbD j == (BitVec.ofInt 64 v).getLsbD 63) (n - 1) 64 := by
  have hv' : (BitVec.ofInt 64 v).toInt = v := by
    have := wrap_toInt (k := .i64) rfl (BitVec.ofInt 64 v)
    have h := hv.1; have h' := hv.2
    simp only [IntKind.min, IntKind.max, IntKind.signed, IntKind.bits] at h h'
    rw [BitVec.toInt_ofInt]
    simp at h h'
    exact Int.bmod_eq_of_le (by omega) (by omega)
  generalize hx : BitVec.ofInt 64 v = x at *
  have e1 : IntKind.i64.wrap (v * 2 ^ (64 - n)) = (x <<< (64 - n)).toInt := by
    refine Eq.trans ?_ (wrap_w (x <<< (64 - n)))
    refine wrap_congr ?_
    rw [BitVec.toNat_shiftLeft, Nat.shiftLeft_eq]
    obtain ⟨b, hb⟩ : ∃ b : Int, v = (x.toNat : Int) - 18446744073709551616 * b := by
      rw [← hv', BitVec.toInt]
      split
      · exact ⟨0, by omega⟩
      · exact ⟨1, by omega⟩
    rw [hb, Int.sub_mul, Int.mul_assoc, Int.sub_mul_emod_self_left]
    generalize 64 - n = k
    have : ((x.toNat * 2 ^ k % 2 ^ 64 : Nat) : Int) = ((x.toNat : Int) * 2 ^ k) % 18446744073709551616 := by
      rw [Int.natCast_emod, Int.natCast_mul, Int.natCast_pow]; rfl
    rw [this, Int.emod_emod]
  have e2 : (x <<< (64 - n)).toInt / 2 ^ (64 - n) = ((x <<< (64 - n)).sshiftRight (64 - n)).toInt := by
    rw [BitVec.toInt_sshiftRight, Int.shiftRight_eq_div_pow]; rfl
  have key : ((x <<< (64 - n)).sshiftRight (64 - n) = x) ↔ ∀ j, n - 1 ≤ j → j < 64 → (x.getLsbD j == x.getLsbD 63) = true := by
    have hg : ∀ j, j < 64 → ((x <<< (64 - n)).sshiftRight (64 - n)).getLsbD j = if j < n then x.getLsbD j else x.getLsbD (n - 1) := by
      intro j hj
      rw [BitVec.getLsbD_sshiftRight]
      have h3 : ¬ 64 ≤ j := by omega
      simp only [h3, decide_false, Bool.not_false, Bool.true_and]
      by_cases hjn : j < n
      · rw [if_pos (by omega), if_pos hjn, BitVec.getLsbD_shiftLeft]
        have e4 : 64 - n + j - (64 - n) = j := by omega
        have e5 : ¬ 64 - n + j < 64 - n := by omega
        have e6 : 64 - n + j < 64 := by omega
        simp only [e4, e5, e6, decide_true, decide_false, Bool.not_false, Bool.true_and]
      · rw [if_neg (by omega), if_neg hjn, BitVec.msb_eq_getLsbD_last, BitVec.getLsbD_shiftLeft]
        have e4 : 64 - 1 - (64 - n) = n - 1 := by omega
        have e5 : ¬ 64 - 1 < 64 - n := by omega
        simp only [e4, e5, decide_true, decide_false, Bool.not_false, Bool.true_and, Nat.sub_lt (by decide : 0 < 64) (by decide : 0 < 1)]
    constructor
    · intro h j hj hj64
      have a1 := hg j hj64
      have a2 := hg 63 (by omega)
      rw [h] at a1 a2
      rw [beq_iff_eq]
      by_cases h3 : j < n
      · by_cases h4 : 63 < n
        · rw [show j = 63 by omega]
        · rw [if_neg h4] at a2; rw [a2, show j = n - 1 by omega]
      · rw [if_neg h3] at a1
        by_cases h4 : 63 < n
        · omega
        · rw [if_neg h4] at a2; rw [a1, a2]
    · intro h
      apply BitVec.eq_of_getLsbD_eq
      intro j hj
      rw [hg j hj]
      split
      · rfl
      · have a1 := h j (by omega) hj
        have a2 := h (n - 1) (Nat.le_refl _) (by omega)
        rw [beq_iff_eq] at a1 a2
        rw [a1, a2]
  rw [e1, e2, Bool.eq_iff_iff, beq_iff_eq, allFrom_iff, ← key]
  constructor
  · intro h; apply BitVec.eq_of_toInt_eq; rw [h, hv']
  · intro h; rw [h, hv']
end Go.Proofs.Ytffihbfmdmlbcaa
namespace Go.Proofs.Ytffihbfmdmlbcaa
open Go.Proofs.Ytffihbfmdmlbcaa.Ev
theorem has_arg {C : Ctx} {n : Int} {v : Value} (h : VR C (.i .i64 n) v) : IntKind.i64.has n := by
  cases h with
  | i _ h => exact h
theorem has_bounds {n : Int} (h : IntKind.i64.has n) : -9223372036854775808 ≤ n ∧ n ≤ 9223372036854775807 := by
  have := h.1; have := h.2
  simp only [IntKind.min, IntKind.max, IntKind.signed, IntKind.bits] at *
  simp at *; omega
/- the first place where a test fails -/
theorem first_from {p : Nat → Bool} {a b : Nat} : (∀ j, a ≤ j → j < b → p j = true) ∨ ∃ k, a ≤ k ∧ k < b ∧ p k = false ∧ ∀ j, a ≤ j → j < k → p j = true := by
  cases h : first (fun j => decide (a ≤ j) && !p j) b with
  | none =>
    left
    intro j h1 h2
    have := first_none.1 h j h2
    simp [h1] at this; exact this
  | some k =>
    obtain ⟨h1, h2, h3⟩ := first_some h
    simp only [Bool.and_eq_true, decide_eq_true_eq, Bool.not_eq_true'] at h2
    refine .inr ⟨k, h2.1, h1, h2.2, fun j hj hk => ?_⟩
    have := h3 j hk
    simp [hj] at this; exact this
theorem iter_from {g : St → Tr (Ex × St)} (τ : Nat → St) (a n : Nat) (han : a ≤ n) {e : Ex} {st' : St} (hs : ∀ j, a ≤ j → j < n → (g (τ j)).run = some (.normal, τ (j + 1))) (he : (g (τ n)).run = some (e, st')) (hne : e ≠ .normal) : ∃ N, (iter g N (τ a)).run = some (e, st') :=
  ⟨n - a + 1, iter_for (fun j => τ (a + j)) (n - a) (fun j hj => hs (a + j) (by omega) (by omega)) (by rw [show a + (n - a) = n by omega]; exact he) hne⟩
/- does it fit -/
theorem ok51 : FnOk Try.prog 51 s51 := okBy SB_ok Try.func51 (by kernel_rfl) (by kernel_rfl) 1 <| by
  intro xs r hs
  unfold s51 at hs; split at hs <;> cases hs
  rename_i v n
  intro hp ⟨w, R, vs, hvs⟩
  have hv : IntKind.i64.has v := by cases hvs with | cons h _ => exact has_arg h
  have e : (evFn T SB noL 1 Try.f51 [.i .i64 v, .i .i64 n]).run = if (if decide (n < 1) = true then true else decide (64 < n)) = true then some (.b false) else
      if decide (0 ≤ IntKind.i64.wrap (64 - n)) = true then if decide (0 ≤ IntKind.i64.wrap (64 - n)) = true then some (.b (IntKind.i64.wrap (v * 2 ^ (IntKind.i64.wrap (64 - n)).toNat) / 2 ^ (IntKind.i64.wrap (64 - n)).toNat == v)) else none else none := by kernel_rfl
  rw [e]
  show _ = some (AV.b (fits v n))
  by_cases h1 : 1 ≤ n
  · by_cases h2 : n ≤ 64
    · obtain ⟨m, rfl⟩ : ∃ m : Nat, n = m := ⟨n.toNat, by omega⟩
      rw [wrap_small _ (by omega) (by omega), show (64 - (m : Int)).toNat = 64 - m by omega, fits_code hv (by omega) (by omega)]
      have c1 : ¬ (m : Int) < 1 := by omega
      have c2 : ¬ (64 : Int) < m := by omega
      have c3 : (0 : Int) ≤ 64 - m := by omega
      simp [c1, c2, c3, fits, h1, h2]
    · have c1 : ¬ n < 1 := by omega
      have c2 : 64 < n := by omega
      simp [c1, c2, fits, h2]
  · have c1 : n < 1 := by omega
    simp [c1, fits, h1]
def st52 (v n : Int) (b : Bool) (i : Int) : St := ⟨[(0, .i .i64 v), (1, .i .i64 n), (4, .b b), (5, .i .i64 i)], [], [], 0⟩
def q52 : St → Tr (Ex × St)
  | ⟨[(0, .i .i64 v), (1, .i .i64 n), (4, .b b), (5, .i .i64 i)], [], [], _⟩ => .need (decide (1 ≤ n) && decide (n ≤ 64)) (.need (i == n - 1) (.ite (fits v n) (.leaf (.exit 0, st52 v n b 64)) (.leaf (.ret, ⟨[(4, .b false)], [], [], 0⟩))))
  | _ => .fail
def L52 : Nat → Live := fun _ => ⟨[0, 1, 4, 5], [], [], some q52⟩
theorem loop52 (N : Nat) : LoopOk T SB L52 26 N (loopOf Try.f52 0) := LoopOk.sub rfl <| by
  intro τ e st hcut hr
  unfold q52 at hr
  split at hr
  case h_2 => exact (Tr.of_fail hr).elim
  rename_i v n b i c
  obtain rfl : c = 0 := hcut
  replace hr := Tr.of_need2 hr
  obtain ⟨hn, hi, hr⟩ := hr
  simp only [Bool.and_eq_true, decide_eq_true_eq] at hn
  obtain rfl : i = n - 1 := by simpa using hi
  obtain ⟨m, rfl⟩ : ∃ m : Nat, n = (m + 1 : Nat) := ⟨(n - 1).toNat, by omega⟩
  have step : ∀ (i : Int), (atHead (evCode T SB L52 26 N (loopOf Try.f52 0)) (L52 (firstR (loopOf Try.f52 0))) (st52 v ((m + 1 : Nat) : Int) b i)).run =
      if decide (i < 64) = true then
        if (bitB ((BitVec.ofInt 64 v).getLsbD (BitVec.ofInt 64 i).toNat) != bitB ((BitVec.ofInt 64 v).getLsbD 63)) = true then some (.ret, st52 v ((m + 1 : Nat) : Int) false i)
        else some (.normal, st52 v ((m + 1 : Nat) : Int) b (IntKind.i64.wrap (i + 1)))
      else some (.exit 0, st52 v ((m + 1 : Nat) : Int) b i) := by
    intro i
    kernel_rfl
  have hstep : ∀ j : Nat, j < 64 → (atHead (evCode T SB L52 26 N (loopOf Try.f52 0)) (L52 (firstR (loopOf Try.f52 0))) (st52 v ((m + 1 : Nat) : Int) b j)).run =
      if ((BitVec.ofInt 64 v).getLsbD j == (BitVec.ofInt 64 v).getLsbD 63) = true then some (.normal, st52 v ((m + 1 : Nat) : Int) b (j + 1 : Nat)) else some (.ret, st52 v ((m + 1 : Nat) : Int) false j) := by
    intro j hj
    rw [step, if_pos (by simp; omega), ofInt_nat j (by omega), bitB_ne, wrap_succ j (by omega), bne]
    cases (BitVec.ofInt 64 v).getLsbD j == (BitVec.ofInt 64 v).getLsbD 63 <;> rfl
  have hf : fits v ((m + 1 : Nat) : Int) = true ↔ ∀ j, m ≤ j → j < 64 → ((BitVec.ofInt 64 v).getLsbD j == (BitVec.ofInt 64 v).getLsbD 63) = true := by
    have h1 : (1 : Int) ≤ ((m + 1 : Nat) : Int) := by omega
    have h2 : (((m + 1 : Nat) : Int).toNat - 1) = m := by omega
    unfold fits
    rw [h2]
    simp only [h1, hn.2, decide_true, Bool.true_and, allFrom_iff]
  have e0 : (((m + 1 : Nat) : Int) - 1) = (m : Int) := by omega
  rw [e0]
  rcases Tr.of_ite hr with ⟨hp, hr⟩ | ⟨hp, hr⟩
  · cases Tr.of_leaf hr
    obtain ⟨k, hk⟩ := iter_from (g := atHead (evCode T SB L52 26 N (loopOf Try.f52 0)) (L52 (firstR (loopOf Try.f52 0)))) (fun j => st52 v ((m + 1 : Nat) : Int) b (j : Nat)) m 64 (by omega) (fun j h1 h2 => by rw [hstep j h2, if_pos (hf.1 hp j h1 h2)]) (e := .exit 0) (by rw [step, if_neg (by decide)]) (by simp)
    exact ⟨k, _, hk, fun _ _ h => h, rfl, rfl⟩
  · cases Tr.of_leaf hr
    rcases first_from (p := fun j => (BitVec.ofInt 64 v).getLsbD j == (BitVec.ofInt 64 v).getLsbD 63) (a := m) (b := 64) with h | ⟨k, k1, k2, k3, k4⟩
    · rw [hf.2 h] at hp; cases hp
    · obtain ⟨k', hk⟩ := iter_from (g := atHead (evCode T SB L52 26 N (loopOf Try.f52 0)) (L52 (firstR (loopOf Try.f52 0)))) (fun j => st52 v ((m + 1 : Nat) : Int) b (j : Nat)) m k k1 (fun j h1 h2 => by rw [hstep j (by omega), if_pos (k4 j h1 h2)]) (e := .ret) (by rw [hstep k k2, if_neg (by rw [k3]; simp)]) (by simp)
      refine ⟨k', _, hk, ?_, rfl, rfl⟩
      intro t v h
      simp only [Ev.look] at h
      split at h
      · rename_i h4
        obtain rfl : 4 = t := by simpa using h4
        exact h
      · cases h
theorem ok52 : FnOk Try.prog 52 s51 := FnOk.of (L := L52) tyOk SB_ok mixed Try.func52 (by kernel_rfl) (by kernel_rfl) <| by
  intro xs r hs
  unfold s51 at hs; split at hs <;> cases hs
  rename_i v n
  intro hp w R vs hvs
  have hn : IntKind.i64.has n := by cases hvs with | cons _ h => cases h with | cons h _ => exact has_arg h
  have hn := has_bounds hn
  refine ⟨1, FnLoops.one (by kernel_rfl) (loop52 1), ?_⟩
  have e : (evFn T SB L52 1 Try.f52 [.i .i64 v, .i .i64 n]).run = if (if decide (n < 1) = true then true else decide (64 < n)) = true then some (.b false) else
      if (decide (1 ≤ n) && decide (n ≤ 64)) = true then if (IntKind.i64.wrap (n - 1) == n - 1) = true then if fits v n = true then some (.b true) else some (.b false) else none else none := by kernel_rfl
  rw [e]
  show _ = some (AV.b (fits v n))
  by_cases h1 : 1 ≤ n
  · by_cases h2 : n ≤ 64
    · rw [wrap_small _ (by omega) (by omega)]
      have c1 : ¬ n < 1 := by omega
      have c2 : ¬ (64 : Int) < n := by omega
      simp only [c1, c2, h1, h2, decide_false, decide_true, Bool.and_self, Bool.false_eq_true, if_false, if_true, beq_self_eq_true]
      cases fits v n <;> rfl
    · have c1 : ¬ n < 1 := by omega
      have c2 : 64 < n := by omega
      simp [c1, c2, fits, h2]
  · have c1 : n < 1 := by omega
    simp [c1, fits, h1]
end Go.Proofs.Ytffihbfmdmlbcaa
namespace Go.Proofs.Ytffihbfmdmlbcaa
open Go.Proofs.Ytffihbfmdmlbcaa.Ev
noncomputable abbrev SG1 := withS (withS (withS SM3 71 s71) 51 s51) 52 s51
theorem SG1_ok : ∀ f, FnOk Try.prog f (SG1 f) := withS_ok (withS_ok (withS_ok SM3_ok ok71) ok51) ok52
/- without a sign -/
def fitsU (v : W64) (n : Int) : Bool := decide (1 ≤ n) && (decide (n ≤ 64) && decide ((bitLen v : Int) ≤ n))
theorem bitLen_le {v : W64} {n : Nat} : bitLen v ≤ n ↔ v.toNat < 2 ^ n := by
  unfold bitLen
  split
  · rename_i h; rw [h]; simp [Nat.two_pow_pos]
  · rename_i h; rw [← Nat.log2_lt h]; omega
theorem bitLen_bits {v : W64} {n : Nat} : bitLen v ≤ n ↔ ∀ j, n ≤ j → j < 64 → v.getLsbD j = false := by
  rw [bitLen_le]
  constructor
  · intro h j hj _
    rw [← BitVec.testBit_toNat]
    exact Nat.testBit_lt_two_pow (Nat.lt_of_lt_of_le h (Nat.pow_le_pow_right (by omega) hj))
  · intro h
    refine Nat.lt_pow_two_of_testBit _ fun j hj => ?_
    rw [BitVec.testBit_toNat]
    by_cases h64 : j < 64
    · exact h j hj h64
    · exact BitVec.getLsbD_of_ge v j (by omega)
def s53 : CSpec | [.u 64 v, .i .i64 n] => some ⟨[], .b (fitsU v n)⟩ | _ => none
theorem ok53 : FnOk Try.prog 53 s53 := okBy SG1_ok Try.func53 (by kernel_rfl) (by kernel_rfl) 1 <| by
  intro xs r hs
  unfold s53 at hs; split at hs <;> cases hs
  rename_i v n
  intro hp _
  have e : (evFn T SG1 noL 1 Try.f53 [.u 64 v, .i .i64 n]).run = some (.b (if (if decide (1 ≤ n) = true then decide (n ≤ 64) else false) = true then decide ((bitLen v : Int) ≤ n) else false)) := by kernel_rfl
  rw [e]
  show _ = some (AV.b (fitsU v n))
  unfold fitsU
  cases decide (1 ≤ n) <;> cases decide (n ≤ 64) <;> rfl
def st54 (v : W64) (n : Int) (b : Bool) (i : Int) : St := ⟨[(0, .u 64 v), (1, .i .i64 n), (4, .b b), (5, .i .i64 i)], [], [], 0⟩
def end54 (n : Int) : Int := if decide (1 ≤ n) = true then if decide (n < 64) = true then 64 else n else n
def q54 : St → Tr (Ex × St)
  | ⟨[(0, .u 64 v), (1, .i .i64 n), (4, .b b), (5, .i .i64 i)], [], [], _⟩ => .need (i == n) (.ite (if decide (1 ≤ n) = true then (if decide (n < 64) = true then decide ((bitLen v : Int) ≤ n) else true) else true) (.leaf (.exit 0, st54 v n b (end54 n))) (.leaf (.ret, ⟨[(4, .b false)], [], [], 0⟩)))
  | _ => .fail
def L54 : Nat → Live := fun _ => ⟨[0, 1, 4, 5], [], [], some q54⟩
theorem loop54 (N : Nat) : LoopOk T SG1 L54 25 N (loopOf Try.f54 0) := LoopOk.sub rfl <| by
  intro τ e st hcut hr
  unfold q54 at hr
  split at hr
  case h_2 => exact (Tr.of_fail hr).elim
  rename_i v n b i c
  obtain rfl : c = 0 := hcut
  replace hr := Tr.of_need hr
  obtain ⟨hi, hr⟩ := hr
  obtain rfl : i = n := by simpa using hi
  have step : ∀ (n i : Int), (atHead (evCode T SG1 L54 25 N (loopOf Try.f54 0)) (L54 (firstR (loopOf Try.f54 0))) (st54 v n b i)).run =
      if (if decide (1 ≤ n) = true then decide (i < 64) else false) = true then
        if (bitB (v.getLsbD (BitVec.ofInt 64 i).toNat) == 1#64) = true then some (.ret, st54 v n false i)
        else some (.normal, st54 v n b (IntKind.i64.wrap (i + 1)))
      else some (.exit 0, st54 v n b i) := by
    intro n i
    kernel_rfl
  have hb1 : ∀ x, (bitB x == 1#64) = x := fun x => by cases x <;> rfl
  by_cases h1 : 1 ≤ i
  · by_cases h2 : i < 64
    · obtain ⟨m, rfl⟩ : ∃ m : Nat, i = m := ⟨i.toNat, by omega⟩
      have hstep : ∀ j : Nat, j < 64 → (atHead (evCode T SG1 L54 25 N (loopOf Try.f54 0)) (L54 (firstR (loopOf Try.f54 0))) (st54 v m b j)).run =
          if (!v.getLsbD j) = true then some (.normal, st54 v m b (j + 1 : Nat)) else some (.ret, st54 v m false j) := by
        intro j hj
        rw [step, if_pos (by simp [h1]; omega), ofInt_nat j (by omega), hb1, wrap_succ j (by omega)]
        cases v.getLsbD j <;> rfl
      have ha : decide ((1 : Int) ≤ (m : Int)) = true := by simpa using h1
      have hb : decide ((m : Int) < 64) = true := by simpa using h2
      simp only [end54, ha, hb, if_true] at hr
      rcases Tr.of_ite hr with ⟨hp, hr⟩ | ⟨hp, hr⟩
      · cases Tr.of_leaf hr
        have hl : bitLen v ≤ m := by simpa using hp
        have hl := bitLen_bits.1 hl
        obtain ⟨k, hk⟩ := iter_from (g := atHead (evCode T SG1 L54 25 N (loopOf Try.f54 0)) (L54 (firstR (loopOf Try.f54 0)))) (fun j => st54 v m b (j : Nat)) m 64 (by omega) (fun j h1 h2 => by rw [hstep j h2, if_pos (by rw [hl j h1 h2]; rfl)]) (e := .exit 0) (by rw [step, if_neg (by rw [ha]; decide)]) (by simp)
        exact ⟨k, _, hk, fun _ _ h => h, rfl, rfl⟩
      · cases Tr.of_leaf hr
        rcases first_from (p := fun j => !v.getLsbD j) (a := m) (b := 64) with h | ⟨k, k1, k2, k3, k4⟩
        · have : bitLen v ≤ m := bitLen_bits.2 fun j h1 h2 => by simpa using h j h1 h2
          have : decide ((bitLen v : Int) ≤ (m : Int)) = true := by simpa using this
          rw [this] at hp; cases hp
        · obtain ⟨k', hk⟩ := iter_from (g := atHead (evCode T SG1 L54 25 N (loopOf Try.f54 0)) (L54 (firstR (loopOf Try.f54 0)))) (fun j => st54 v m b (j : Nat)) m k k1 (fun j h1 h2 => by rw [hstep j (by omega), if_pos (k4 j h1 h2)]) (e := .ret) (by rw [hstep k k2, if_neg (by rw [k3]; simp)]) (by simp)
          refine ⟨k', _, hk, ?_, rfl, rfl⟩
          intro t v h
          simp only [Ev.look] at h
          split at h
          · rename_i h4
            obtain rfl : 4 = t := by simpa using h4
            exact h
          · cases h
    · have ha : decide ((1 : Int) ≤ i) = true := by simpa using h1
      have hb : decide (i < 64) = false := by simpa using h2
      simp only [end54, ha, hb, if_true, Bool.false_eq_true, if_false] at hr
      rcases Tr.of_ite hr with ⟨hp, hr⟩ | ⟨hp, hr⟩
      · cases Tr.of_leaf hr
        exact ⟨1, _, iter_for (fun _ => st54 v i b i) 0 (fun j hj => by omega) (e := .exit 0) (by rw [step, ha, hb]; rfl) (by simp), fun _ _ h => h, rfl, rfl⟩
      · cases hp
  · have ha : decide ((1 : Int) ≤ i) = false := by simpa using h1
    simp only [end54, ha, Bool.false_eq_true, if_false] at hr
    rcases Tr.of_ite hr with ⟨hp, hr⟩ | ⟨hp, hr⟩
    · cases Tr.of_leaf hr
      exact ⟨1, _, iter_for (fun _ => st54 v i b i) 0 (fun j hj => by omega) (e := .exit 0) (by rw [step, ha]; rfl) (by simp), fun _ _ h => h, rfl, rfl⟩
    · cases hp
theorem ok54 : FnOk Try.prog 54 s53 := FnOk.of (L := L54) tyOk SG1_ok mixed Try.func54 (by kernel_rfl) (by kernel_rfl) <| by
  intro xs r hs
  unfold s53 at hs; split at hs <;> cases hs
  rename_i v n
  intro hp w R vs hvs
  refine ⟨1, FnLoops.one (by kernel_rfl) (loop54 1), ?_⟩
  have e : ∀ c, c = (n == n) → (evFn T SG1 L54 1 Try.f54 [.u 64 v, .i .i64 n]).run = if c = true then if (if decide (1 ≤ n) = true then (if decide (n < 64) = true then decide ((bitLen v : Int) ≤ n) else true) else true) = true then some (.b (if decide (1 ≤ n) = true then decide (n ≤ 64) else false)) else some (.b false) else none := fun c h => by subst h; kernel_rfl
  rw [e _ rfl, beq_self_eq_true]
  show _ = some (AV.b (fitsU v n))
  simp only [if_true]
  have hl : (bitLen v : Int) ≤ 64 := by
    have : bitLen v ≤ 64 := bitLen_le.2 v.isLt
    omega
  unfold fitsU
  by_cases h1 : 1 ≤ n
  · by_cases h2 : n < 64
    · have h3 : n ≤ 64 := by omega
      simp only [h1, h2, h3, decide_true, if_true, Bool.true_and]
      cases decide ((bitLen v : Int) ≤ n) <;> rfl
    · by_cases h3 : n ≤ 64
      · have : (bitLen v : Int) ≤ n := by omega
        simp [h1, h2, h3, this]
      · simp [h1, h2, h3]
  · simp [h1]
/- how often 2 is doubled -/
def logN (n : Int) : Int := if decide (n < 2) = true then 0 else (bitLen (BitVec.ofInt 64 (n - 1)) : Int)
def s50 : CSpec | [.i .i64 n] => some ⟨[], .i .i64 (logN n)⟩ | _ => none
theorem ok50 : FnOk Try.prog 50 s50 := okBy SG1_ok Try.func50 (by kernel_rfl) (by kernel_rfl) 1 <| by
  intro xs r hs
  unfold s50 at hs; split at hs <;> cases hs
  rename_i n
  intro hp ⟨w, R, vs, hvs⟩
  have hn : IntKind.i64.has n := by cases hvs with | cons h _ => exact has_arg h
  have hn := has_bounds hn
  have e : (evFn T SG1 noL 1 Try.f50 [.i .i64 n]).run = if decide (n < 2) = true then some (.i .i64 0) else some (.i .i64 (bitLen (BitVec.ofInt 64 (IntKind.i64.wrap (n - 1))))) := by kernel_rfl
  rw [e]
  show _ = some (AV.i .i64 (logN n))
  unfold logN
  by_cases h : n < 2
  · simp [h]
  · rw [wrap_small _ (by omega) (by omega)]; simp [h]
def st57 (n k : Int) : St := ⟨[(0, .i .i64 n), (3, .i .i64 k)], [], [], 0⟩
def q57 : St → Tr (Ex × St)
  | ⟨[(0, .i .i64 n), (3, .i .i64 k)], [], [], _⟩ => .need (k == 0) (.need (decide (n ≤ 9223372036854775807)) (.leaf (.exit 0, st57 n (logN n))))
  | _ => .fail
def L57 : Nat → Live := fun _ => ⟨[0, 3], [], [], some q57⟩
theorem shl1 : ∀ j : Fin 63, IntKind.i64.wrap (1 * 2 ^ (BitVec.ofInt 64 (j.val : Int)).toNat) = ((2 ^ j.val : Nat) : Int) := by decide +kernel
theorem loop57 (N : Nat) : LoopOk T SG1 L57 22 N (loopOf Try.f57 0) := LoopOk.sub rfl <| by
  intro τ e st hcut hr
  unfold q57 at hr
  split at hr
  case h_2 => exact (Tr.of_fail hr).elim
  rename_i n k c
  obtain rfl : c = 0 := hcut
  replace hr := Tr.of_need2 hr
  obtain ⟨hk, hn, hr⟩ := hr
  obtain rfl : k = 0 := by simpa using hk
  have hn : n ≤ 9223372036854775807 := by simpa using hn
  cases Tr.of_leaf hr
  have step : ∀ (k : Int), (atHead (evCode T SG1 L57 22 N (loopOf Try.f57 0)) (L57 (firstR (loopOf Try.f57 0))) (st57 n k)).run =
      if (if (if decide (k < 63) = true then decide (IntKind.i64.wrap (1 * 2 ^ (BitVec.ofInt 64 k).toNat) < n) else false) = true then decide (0 < IntKind.i64.wrap (1 * 2 ^ (BitVec.ofInt 64 k).toNat)) else false) = true then some (.normal, st57 n (IntKind.i64.wrap (k + 1)))
      else some (.exit 0, st57 n k) := by
    intro k
    kernel_rfl
  have hstep : ∀ j : Nat, j < 63 → (atHead (evCode T SG1 L57 22 N (loopOf Try.f57 0)) (L57 (firstR (loopOf Try.f57 0))) (st57 n j)).run = if decide (((2 ^ j : Nat) : Int) < n) = true then some (.normal, st57 n (j + 1 : Nat)) else some (.exit 0, st57 n j) := by
    intro j hj
    have h1 := shl1 ⟨j, hj⟩
    simp only at h1
    have h2 : (0 : Int) < ((2 ^ j : Nat) : Int) := by have := Nat.two_pow_pos j; omega
    have h3 : (j : Int) < 63 := by omega
    rw [step, h1, wrap_succ j (by omega)]
    simp only [h2, h3, decide_true, if_true]
    cases decide (((2 ^ j : Nat) : Int) < n) <;> rfl
  have hlast : (atHead (evCode T SG1 L57 22 N (loopOf Try.f57 0)) (L57 (firstR (loopOf Try.f57 0))) (st57 n (63 : Nat))).run = some (.exit 0, st57 n (63 : Nat)) := by
    rw [step, if_neg (by simp)]
  by_cases h2 : n < 2
  · have e1 : logN n = ((0 : Nat) : Int) := by simp [logN, h2]
    rw [e1]
    refine ⟨0 + 1, _, iter_for (fun j => st57 n (j : Nat)) 0 (fun j hj => by omega) (e := .exit 0) (by rw [hstep 0 (by omega), if_neg (by simp; omega)]) (by simp), fun _ _ h => h, rfl, rfl⟩
  · have e1 : logN n = ((bitLen (BitVec.ofInt 64 (n - 1)) : Nat) : Int) := by simp [logN, h2]
    have hx : (BitVec.ofInt 64 (n - 1)).toNat = (n - 1).toNat := by rw [BitVec.toNat_ofInt]; omega
    have hl : bitLen (BitVec.ofInt 64 (n - 1)) ≤ 63 := bitLen_le.2 (by rw [hx]; omega)
    have hlt : ∀ j, j < bitLen (BitVec.ofInt 64 (n - 1)) → ((2 ^ j : Nat) : Int) < n := by
      intro j hj
      have := mt (bitLen_le (v := BitVec.ofInt 64 (n - 1)) (n := j)).2 (by omega)
      rw [hx] at this; omega
    have hge : ¬ ((2 ^ bitLen (BitVec.ofInt 64 (n - 1)) : Nat) : Int) < n := by
      have := (bitLen_le (v := BitVec.ofInt 64 (n - 1)) (n := bitLen (BitVec.ofInt 64 (n - 1)))).1 (Nat.le_refl _)
      rw [hx] at this; omega
    rw [e1]
    generalize bitLen (BitVec.ofInt 64 (n - 1)) = K at *
    refine ⟨K + 1, _, iter_for (fun j => st57 n (j : Nat)) K (fun j hj => by rw [hstep j (by omega), if_pos (by rw [decide_eq_true_eq]; exact hlt j hj)]) (e := .exit 0) ?_ (by simp), fun _ _ h => h, rfl, rfl⟩
    by_cases h63 : K < 63
    · rw [hstep K h63, if_neg (by rw [decide_eq_true_eq]; exact hge)]
    · obtain rfl : K = 63 := by omega
      exact hlast
theorem ok57 : FnOk Try.prog 57 s50 := FnOk.of (L := L57) tyOk SG1_ok mixed Try.func57 (by kernel_rfl) (by kernel_rfl) <| by
  intro xs r hs
  unfold s50 at hs; split at hs <;> cases hs
  rename_i n
  intro hp w R vs hvs
  have hn : IntKind.i64.has n := by cases hvs with | cons h _ => exact has_arg h
  have hn := has_bounds hn
  refine ⟨1, FnLoops.one (by kernel_rfl) (loop57 1), ?_⟩
  have e : (evFn T SG1 L57 1 Try.f57 [.i .i64 n]).run = if decide (n ≤ 9223372036854775807) = true then some (.i .i64 (logN n)) else none := by kernel_rfl
  rw [e, if_pos (by simpa using hn.2)]
/- ones -/
def st56 (v : W64) (o i : Int) : St := ⟨[(0, .u 64 v), (3, .i .i64 o), (4, .i .i64 i)], [], [], 0⟩
def q56b : St → Tr (Ex × St)
  | ⟨[(0, .u 64 v), (3, .i .i64 o), (4, .i .i64 i)], [], [], _⟩ => .need (o == 0) (.need (i == 0) (.leaf (.exit 0, st56 v (popN v.getLsbD 64) 64)))
  | _ => .fail
def L56b : Nat → Live := fun _ => ⟨[0, 3, 4], [], [], some q56b⟩
theorem loop56b (N : Nat) : LoopOk T SG1 L56b 16 N (loopOf Try.f56 0) := LoopOk.sub rfl <| by
  intro τ e st hcut hr
  unfold q56b at hr
  split at hr
  case h_2 => exact (Tr.of_fail hr).elim
  rename_i v o i c
  obtain rfl : c = 0 := hcut
  replace hr := Tr.of_need2 hr
  obtain ⟨ho, hi, hr⟩ := hr
  cases Tr.of_leaf hr
  obtain rfl : o = 0 := by simpa using ho
  obtain rfl : i = 0 := by simpa using hi
  have step : ∀ (o i : Int), (atHead (evCode T SG1 L56b 16 N (loopOf Try.f56 0)) (L56b (firstR (loopOf Try.f56 0))) (st56 v o i)).run =
      if decide (i < 64) = true then some (.normal, st56 v (IntKind.i64.wrap (o + IntKind.i64.wrap ((bitB (v.getLsbD (BitVec.ofInt 64 i).toNat)).toNat : Int))) (IntKind.i64.wrap (i + 1)))
      else some (.exit 0, st56 v o i) := by
    intro o i
    kernel_rfl
  refine ⟨64 + 1, st56 v (popN v.getLsbD 64 : Nat) (64 : Nat), iter_for (fun j => st56 v (popN v.getLsbD j : Nat) (j : Nat)) 64 ?_ (e := .exit 0) (by rw [step, if_neg (by decide)]) (by simp), fun _ _ h => h, rfl, rfl⟩
  intro j hj
  have hle := popN_le v.getLsbD j
  have hb := Bool.toNat_le (v.getLsbD j)
  rw [step, if_pos (by simp; omega), ofInt_nat j (by omega), bitB_toNat, wrap_succ j (by omega), wrap_small ((v.getLsbD j).toNat : Int) (by omega) (by omega), wrap_small _ (by omega) (by omega), popN]
  rfl
theorem ok56b : FnOk Try.prog 56 s72 := FnOk.of (L := L56b) tyOk SG1_ok mixed Try.func56 (by kernel_rfl) (by kernel_rfl) <| by
  intro xs r hs
  unfold s72 at hs; split at hs <;> cases hs
  rename_i v
  intro hp w R vs hvs
  exact ⟨1, FnLoops.one (by kernel_rfl) (loop56b 1), by kernel_rfl⟩
end Go.Proofs.Ytffihbfmdmlbcaa
namespace Go.Proofs.Ytffihbfmdmlbcaa
open Go.Proofs.Ytffihbfmdmlbcaa.Ev
noncomputable abbrev SG2 := withS (withS (withS (withS (withS SG1 53 s53) 54 s53) 50 s50) 57 s50) 56 s72
theorem SG2_ok : ∀ f, FnOk Try.prog f (SG2 f) := withS_ok (withS_ok (withS_ok (withS_ok (withS_ok SG1_ok ok53) ok54) ok50) ok57) ok56b
/- which any has -/
def orN (xs : List W64) : Nat → W64
  | 0 => 0#64
  | j + 1 => orN xs j ||| xs.getD j 0#64
def st48 (a : W64) (xs : List W64) (n i : Int) : St := ⟨[(3, .u 64 a), (6, .vw 0 xs), (7, .i .i64 n), (8, .i .i64 i)], [], [], 0⟩
def q48 : St → Tr (Ex × St)
  | ⟨[(3, .u 64 a), (6, .vw 0 xs), (7, .i .i64 n), (8, .i .i64 i)], [], [], _⟩ => .need (a == 0#64) (.need (n == (xs.length : Int)) (.need (i == 0) (.need (decide (xs.length < 1000)) (.leaf (.exit 0, st48 (orN xs xs.length) xs n n)))))
  | _ => .fail
def L48 : Nat → Live := fun _ => ⟨[3, 6, 7, 8], [], [], some q48⟩
theorem loop48 (N : Nat) : LoopOk T SG2 L48 17 N (loopOf Try.f48 0) := LoopOk.sub rfl <| by
  intro τ e st hcut hr
  unfold q48 at hr
  split at hr
  case h_2 => exact (Tr.of_fail hr).elim
  rename_i a xs n i c
  obtain rfl : c = 0 := hcut
  replace hr := Tr.of_need3 hr
  obtain ⟨ha, hn, hi, hr⟩ := hr
  replace hr := Tr.of_need hr
  obtain ⟨hl, hr⟩ := hr
  have hl : xs.length < 1000 := by simpa using hl
  cases Tr.of_leaf hr
  obtain rfl : a = 0#64 := by simpa using ha
  obtain rfl : n = (xs.length : Int) := by simpa using hn
  obtain rfl : i = 0 := by simpa using hi
  have step : ∀ (a : W64) (n i : Int), (atHead (evCode T SG2 L48 17 N (loopOf Try.f48 0)) (L48 (firstR (loopOf Try.f48 0))) (st48 a xs n i)).run =
      if decide (i < n) = true then if decide (0 ≤ i) = true then if decide (i < (xs.length : Int)) = true then some (.normal, st48 (a ||| xs.getD i.toNat 0#64) xs n (IntKind.i64.wrap (i + 1))) else none else none
      else some (.exit 0, st48 a xs n i) := by
    intro a n i
    kernel_rfl
  refine ⟨xs.length + 1, st48 (orN xs xs.length) xs xs.length xs.length, iter_for (fun j => st48 (orN xs j) xs xs.length (j : Nat)) xs.length ?_ (e := .exit 0) (by rw [step, if_neg (by simp)]) (by simp), fun _ _ h => h, rfl, rfl⟩
  intro j hj
  rw [step, if_pos (by simp; omega), if_pos (by simp), if_pos (by simp; omega), wrap_succ j (by omega)]
  rfl
def s48 : CSpec | [.vw 0 xs] => some ⟨[decide (xs.length < 1000)], .u 64 (orN xs xs.length)⟩ | _ => none
theorem ok48 : FnOk Try.prog 48 s48 := FnOk.of (L := L48) tyOk SG2_ok mixed Try.func48 (by kernel_rfl) (by kernel_rfl) <| by
  intro xs r hs
  unfold s48 at hs; split at hs <;> cases hs
  rename_i xs
  intro hp w R vs hvs
  have hp : decide (xs.length < 1000) = true := by simpa using hp
  refine ⟨1, FnLoops.one (by kernel_rfl) (loop48 1), ?_⟩
  have e : ∀ c, c = ((xs.length : Int) == (xs.length : Int)) → (evFn T SG2 L48 1 Try.f48 [.vw 0 xs]).run = if c = true then if decide (xs.length < 1000) = true then some (.u 64 (orN xs xs.length)) else none else none := fun c h => by subst h; kernel_rfl
  rw [e _ rfl, beq_self_eq_true, if_pos rfl, if_pos hp]
noncomputable abbrev SG3 := withS SG2 48 s48
theorem SG3_ok : ∀ f, FnOk Try.prog f (SG3 f) := withS_ok SG2_ok ok48
/- the law -/
def inB (xs : List W64) (i : Int) : Nat → W64
  | 0 => 0#64
  | j + 1 => inB xs i j ||| bitB ((xs.getD j 0#64).getLsbD (BitVec.ofInt 64 i).toNat)
theorem inB_eq (xs : List W64) (i : Int) : ∀ j, inB xs i j = bitB ((orN xs j).getLsbD (BitVec.ofInt 64 i).toNat)
  | 0 => by simp [inB, orN, bitB]
  | j + 1 => by
    rw [inB, inB_eq xs i j, orN, BitVec.getLsbD_or]
    cases (orN xs j).getLsbD (BitVec.ofInt 64 i).toNat <;> cases (xs.getD j 0#64).getLsbD (BitVec.ofInt 64 i).toNat <;> rfl
def st13b (v n : Int) (xs : List W64) (a : W64) (i : Int) (o : W64) (ys : List W64) (m j : Int) : St := ⟨[(0, .i .i64 v), (1, .i .i64 n), (2, .vw 0 xs), (6, .b false), (7, .u 64 a), (8, .i .i64 i), (9, .u 64 o), (24, .vw 0 ys), (25, .i .i64 m), (26, .i .i64 j)], [], [], 0⟩
def q13b : St → Tr (Ex × St)
  | ⟨[(0, .i .i64 v), (1, .i .i64 n), (2, .vw 0 xs), (6, .b false), (7, .u 64 a), (8, .i .i64 i), (9, .u 64 o), (k1, .vw 0 ys), (k2, .i .i64 m), (k3, .i .i64 j)], [], [], _⟩ => .need (k1 == 24 && (k2 == 25 && k3 == 26)) (.need (o == 0#64) (.need (m == (ys.length : Int)) (.need (j == 0) (.need (decide (ys.length < 1000)) (.leaf (.exit 2, st13b v n xs a i (inB ys i ys.length) ys m m))))))
  | _ => .fail
def st13a (v n : Int) (xs : List W64) (a : W64) (i : Int) : St := ⟨[(0, .i .i64 v), (1, .i .i64 n), (2, .vw 0 xs), (6, .b false), (7, .u 64 a), (8, .i .i64 i)], [], [], 0⟩
def q13a : St → Tr (Ex × St)
  | ⟨[(0, .i .i64 v), (1, .i .i64 n), (2, .vw 0 xs), (6, .b false), (7, .u 64 a), (8, .i .i64 i)], [], [], _⟩ => .need (a == orN xs xs.length) (.need (i == 0) (.need (decide (xs.length < 1000)) (.leaf (.exit 0, st13a v n xs a 64))))
  | _ => .fail
def L13 : Nat → Live := fun r => match r with
  | 5 => ⟨[0, 1, 2, 6, 7, 8], [], [], some q13a⟩
  | _ => ⟨[0, 1, 2, 6, 7, 8, 9, 24, 25, 26], [], [], some q13b⟩
theorem loop13b (N : Nat) : LoopOk T SG3 L13 79 N (loopOf Try.f13 1) := LoopOk.sub (q := q13b) (by kernel_rfl) <| by
  intro τ e st hcut hr
  unfold q13b at hr
  split at hr
  case h_2 => exact (Tr.of_fail hr).elim
  rename_i v n xs a i o k1 ys k2 m k3 j c
  obtain rfl : c = 0 := hcut
  replace hr := Tr.of_need hr
  obtain ⟨hk, hr⟩ := hr
  simp only [Bool.and_eq_true, beq_iff_eq] at hk
  obtain ⟨rfl, rfl, rfl⟩ := hk
  replace hr := Tr.of_need3 hr
  obtain ⟨ho, hm, hj, hr⟩ := hr
  replace hr := Tr.of_need hr
  obtain ⟨hl, hr⟩ := hr
  have hl : ys.length < 1000 := by simpa using hl
  cases Tr.of_leaf hr
  obtain rfl : o = 0#64 := by simpa using ho
  obtain rfl : m = (ys.length : Int) := by simpa using hm
  obtain rfl : j = 0 := by simpa using hj
  have step : ∀ (o : W64) (m j : Int), (atHead (evCode T SG3 L13 79 N (loopOf Try.f13 1)) (L13 (firstR (loopOf Try.f13 1))) (st13b v n xs a i o ys m j)).run =
      if decide (j < m) = true then if decide (0 ≤ j) = true then if decide (j < (ys.length : Int)) = true then some (.normal, st13b v n xs a i (o ||| bitB ((ys.getD j.toNat 0#64).getLsbD (BitVec.ofInt 64 i).toNat)) ys m (IntKind.i64.wrap (j + 1))) else none else none
      else some (.exit 2, st13b v n xs a i o ys m j) := by
    intro o m j
    kernel_rfl
  refine ⟨ys.length + 1, st13b v n xs a i (inB ys i ys.length) ys ys.length ys.length, iter_for (fun j => st13b v n xs a i (inB ys i j) ys ys.length (j : Nat)) ys.length ?_ (e := .exit 2) (by rw [step, if_neg (by simp)]) (by simp), fun _ _ h => h, rfl, rfl⟩
  intro j hj
  rw [step, if_pos (by simp; omega), if_pos (by simp), if_pos (by simp; omega), wrap_succ j (by omega)]
  rfl
theorem loop13a (N : Nat) : LoopOk T SG3 L13 79 N (loopOf Try.f13 0) := LoopOk.sub (q := q13a) (by kernel_rfl) <| by
  intro τ e st hcut hr
  unfold q13a at hr
  split at hr
  case h_2 => exact (Tr.of_fail hr).elim
  rename_i v n xs a i c
  obtain rfl : c = 0 := hcut
  replace hr := Tr.of_need3 hr
  obtain ⟨ha, hi, hl, hr⟩ := hr
  have hl : decide (xs.length < 1000) = true := hl
  cases Tr.of_leaf hr
  obtain rfl : a = orN xs xs.length := by simpa using ha
  obtain rfl : i = 0 := by simpa using hi
  have step : ∀ (a : W64) (i : Int), (atHead (evCode T SG3 L13 79 N (loopOf Try.f13 0)) (L13 (firstR (loopOf Try.f13 0))) (st13a v n xs a i)).run =
      if decide (i < 64) = true then if ((xs.length : Int) == (xs.length : Int)) = true then if decide (xs.length < 1000) = true then
        if (bitB (a.getLsbD (BitVec.ofInt 64 i).toNat) != inB xs i xs.length) = true then some (.ret, st13a v n xs a i) else some (.normal, st13a v n xs a (IntKind.i64.wrap (i + 1))) else none else none
      else some (.exit 0, st13a v n xs a i) := by
    intro a i
    kernel_rfl
  refine ⟨64 + 1, st13a v n xs (orN xs xs.length) (64 : Nat), iter_for (fun j => st13a v n xs (orN xs xs.length) (j : Nat)) 64 ?_ (e := .exit 0) (by rw [step, if_neg (by decide)]) (by simp), fun _ _ h => h, rfl, rfl⟩
  intro j hj
  rw [step, if_pos (by simp; omega), beq_self_eq_true, if_pos rfl, if_pos hl, inB_eq, bne_self_eq_false, if_neg (by simp), wrap_succ j (by omega)]
def cut9 (xs : List W64) : List W64 := if decide (9 < (xs.length : Int)) = true then (xs.drop 0).take 9 else xs
theorem cut9_len (xs : List W64) : (cut9 xs).length < 1000 := by
  unfold cut9
  split
  · rw [List.length_take]; omega
  · rename_i h
    have : ¬ 9 < (xs.length : Int) := by simpa using h
    omega
theorem law13 (v n : Int) (xs : List W64) : ∃ N, FnLoops T SG3 L13 N Try.f13 ∧ (evFn T SG3 L13 N Try.f13 [.i .i64 v, .i .i64 n, .vw 0 xs]).run = some (.b true) := by
  refine ⟨1, FnLoops.two (by kernel_rfl) (loop13a 1) (loop13b 1), ?_⟩
  have e : ∀ c f g (u w : Int) (k : W64), k = orN (cut9 xs) (cut9 xs).length → f = fits v n → g = fitsU (BitVec.ofInt 64 v) n → u = (popN (BitVec.ofInt 64 v).getLsbD 64 : Nat) → w = logN n → c = decide ((cut9 xs).length < 1000) →
      (evFn T SG3 L13 1 Try.f13 [.i .i64 v, .i .i64 n, .vw 0 xs]).run = ndN (decide (9 < (xs.length : Int))) (if (if decide (9 < (xs.length : Int)) = true then decide ((9 : Int) ≤ (xs.length : Int)) else true) = true then if c = true then if (k == k) = true then if c = true then
        some (.b (if (if (if (if (f == f) = true then g == g else false) = true then u == u else false) = true then w == w else false) = true then true else false)) else none else none else none else none) 2 := by
    intro c f g u w k h1 h2 h3 h4 h5 h6
    subst h1; subst h2; subst h3; subst h4; subst h5; subst h6
    kernel_rfl
  rw [e _ _ _ _ _ _ rfl rfl rfl rfl rfl rfl]
  have hc : decide ((cut9 xs).length < 1000) = true := by simpa using cut9_len xs
  have h9 : (if decide (9 < (xs.length : Int)) = true then decide ((9 : Int) ≤ (xs.length : Int)) else true) = true := by
    by_cases h : 9 < (xs.length : Int)
    · have : (9 : Int) ≤ (xs.length : Int) := by omega
      simp [h, this]
    · simp [h]
  rw [hc, h9, ndN_eq]
  simp
end Go.Proofs.Ytffihbfmdmlbcaa
