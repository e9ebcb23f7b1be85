/- Lemmas: both say alike which code there may be. No condition. -/
import Derived.Test.YtcdnbdphakhilaaGreatDoorMayB
set_option linter.unusedVariables false
set_option linter.unusedSimpArgs false
set_option maxRecDepth 100000
namespace Go.Proofs.YtcdnbdphakhilaaGreatDoor
open Go.Proofs.YtcdnbdphakhilaaGreatDoor.Ev Go.RowKit
/- Plain: one step is alike for both. -/
theorem hasB_out {k : Int} (h : k < 1 ∨ 13 < k) (c : BitVec 8) : hasB k c = false := by unfold hasB; rw [rowS_out h]; rfl
theorem pureP_eq (k : Int) : pureP k = pureR k := by
  rcases kind_cases k with h | rfl | rfl | rfl | rfl | rfl | rfl | rfl | rfl | rfl | rfl | rfl | rfl | rfl
  · unfold pureR
    rw [hasB_out h]
    have : ∀ m : Int, 1 ≤ m → m ≤ 13 → (k == m) = false := fun m h1 h2 => by simp; omega
    unfold pureP
    simp [this 1 (by omega) (by omega), this 2 (by omega) (by omega), this 4 (by omega) (by omega), this 5 (by omega) (by omega), this 6 (by omega) (by omega)]
  all_goals rfl
theorem makesP_eq (k : Int) : makesP k = makesR k := by
  rcases kind_cases k with h | rfl | rfl | rfl | rfl | rfl | rfl | rfl | rfl | rfl | rfl | rfl | rfl | rfl
  · unfold makesP makesR
    rw [hasB_out h, pureP_eq, show pureR k = false from hasB_out h _]
    have : ∀ m : Int, 1 ≤ m → m ≤ 13 → (k == m) = false := fun m h1 h2 => by simp; omega
    simp [this 7 (by omega) (by omega), this 9 (by omega) (by omega)]
  all_goals rfl
theorem usesP_eq (k a b c : Int) : usesP k a b c = usesR k a b c := by
  rcases kind_cases k with h | rfl | rfl | rfl | rfl | rfl | rfl | rfl | rfl | rfl | rfl | rfl | rfl | rfl
  · unfold usesR useB useA
    rw [hasB_out h, hasB_out h, hasB_out h]
    have : ∀ m : Int, 1 ≤ m → m ≤ 13 → (k == m) = false := fun m h1 h2 => by simp; omega
    unfold usesP is2 is1
    simp [this 3 (by omega) (by omega), this 4 (by omega) (by omega), this 5 (by omega) (by omega), this 6 (by omega) (by omega), this 7 (by omega) (by omega), this 8 (by omega) (by omega), this 9 (by omega) (by omega), this 10 (by omega) (by omega), this 12 (by omega) (by omega), this 13 (by omega) (by omega)]
  all_goals rfl
theorem valP_eq (xs : List IOp) (k h : Int) : valP xs k h = valR xs k h := by unfold valP valR; rw [makesP_eq]
theorem badV_eq (xs : List IOp) (i : Int) : badV xs i = badU xs i := by funext k; unfold badV badU; rw [valP_eq]
theorem rng (o : Int) : (decide (0 ≤ o) && decide (o ≤ 1)) = (o == 0 || o == 1) := by
  by_cases h0 : o = 0
  · subst h0; rfl
  · by_cases h1 : o = 1
    · subst h1; rfl
    · have : (o == 0) = false := by simpa using h0
      have h2 : (o == 1) = false := by simpa using h1
      rw [this, h2]
      by_cases h : 0 ≤ o
      · have : ¬ o ≤ 1 := by omega
        simp [this]
      · simp [h]
theorem may_1 (f w a b c : Int) (n : BitVec 64) (s : Bool) (o : Int) (U : Bool) : orB (!mayP 1 f w a b c n s o) U = !(if badR (⟨1, f, w, a, b, c, n, s, o⟩ : IOp) = true then false else if U = true then false else if wrongR (⟨1, f, w, a, b, c, n, s, o⟩ : IOp) = true then false else goodR (⟨1, f, w, a, b, c, n, s, o⟩ : IOp)) := by
  have e1 : mayP 1 f w a b c n s o = if (!((1 : Int) == 1 && (f == 0 && (w == 0 && (a == 0 && (b == 0 && (c == 0 && (n == n && (s == false && (o == 0 && true)))))))))) = true then false else true := by kernel_rfl
  have e2 : badR (⟨1, f, w, a, b, c, n, s, o⟩ : IOp) = orB (orB (orB (orB (orB (orB (orB (orB (false) ((a != 0))) ((b != 0))) ((c != 0))) (false)) ((f != 0))) ((w != 0))) (s)) ((o != 0)) := by kernel_rfl
  have e3 : wrongR (⟨1, f, w, a, b, c, n, s, o⟩ : IOp) = orB (false) (andB (o != 0) (o != 1)) := by kernel_rfl
  have e4 : goodR (⟨1, f, w, a, b, c, n, s, o⟩ : IOp) = true := by kernel_rfl
  rw [e1, e2, e3, e4]
  clear e1 e2 e3 e4
  simp only [orB_eq, andB_eq, Bool.and_assoc, rng, bne, beq_self_eq_true, Bool.true_and]
  generalize (f == 0) = x1
  generalize (w == 0) = x2
  generalize (a == 0) = x3
  generalize (b == 0) = x4
  generalize (c == 0) = x5
  generalize (n == 0#64) = x6
  generalize (o == 0) = x7
  generalize (o == 1) = x8
  generalize A.isW w = x9
  clear f w a b c n o
  revert U s x1 x2 x3 x4 x5 x6 x7 x8 x9
  decide +kernel
theorem may_2 (f w a b c : Int) (n : BitVec 64) (s : Bool) (o : Int) (U : Bool) : orB (!mayP 2 f w a b c n s o) U = !(if badR (⟨2, f, w, a, b, c, n, s, o⟩ : IOp) = true then false else if U = true then false else if wrongR (⟨2, f, w, a, b, c, n, s, o⟩ : IOp) = true then false else goodR (⟨2, f, w, a, b, c, n, s, o⟩ : IOp)) := by
  have e1 : mayP 2 f w a b c n s o = if (!((2 : Int) == 2 && (f == 0 && (w == 0 && (a == 0 && (b == 0 && (c == 0 && (n == n && (s == false && (o == 0 && true)))))))))) = true then false else decide (n.toNat < (BitVec.ofInt 64 19).toNat) := by kernel_rfl
  have e2 : badR (⟨2, f, w, a, b, c, n, s, o⟩ : IOp) = orB (orB (orB (orB (orB (orB (orB (orB (false) ((a != 0))) ((b != 0))) ((c != 0))) (false)) ((f != 0))) ((w != 0))) (s)) ((o != 0)) := by kernel_rfl
  have e3 : wrongR (⟨2, f, w, a, b, c, n, s, o⟩ : IOp) = orB (false) (andB (o != 0) (o != 1)) := by kernel_rfl
  have e4 : goodR (⟨2, f, w, a, b, c, n, s, o⟩ : IOp) = decide (n.toNat < (BitVec.ofInt 64 19).toNat) := by kernel_rfl
  rw [e1, e2, e3, e4]
  clear e1 e2 e3 e4
  simp only [orB_eq, andB_eq, Bool.and_assoc, rng, bne, beq_self_eq_true, Bool.true_and]
  generalize (f == 0) = x1
  generalize (w == 0) = x2
  generalize (a == 0) = x3
  generalize (b == 0) = x4
  generalize (c == 0) = x5
  generalize (n == 0#64) = x6
  generalize (o == 0) = x7
  generalize (o == 1) = x8
  generalize A.isW w = x9
  generalize decide (n.toNat < (BitVec.ofInt 64 19).toNat) = x0
  clear f w a b c n o
  revert U s x1 x2 x3 x4 x5 x6 x7 x8 x9 x0
  decide +kernel
theorem may_3 (f w a b c : Int) (n : BitVec 64) (s : Bool) (o : Int) (U : Bool) : orB (!mayP 3 f w a b c n s o) U = !(if badR (⟨3, f, w, a, b, c, n, s, o⟩ : IOp) = true then false else if U = true then false else if wrongR (⟨3, f, w, a, b, c, n, s, o⟩ : IOp) = true then false else goodR (⟨3, f, w, a, b, c, n, s, o⟩ : IOp)) := by
  have e1 : mayP 3 f w a b c n s o = if (!((3 : Int) == 3 && (f == 0 && (w == 0 && (a == a && (b == 0 && (c == 0 && (n == n && (s == false && (o == 0 && true)))))))))) = true then false else decide (n.toNat < (BitVec.ofInt 64 19).toNat) := by kernel_rfl
  have e2 : badR (⟨3, f, w, a, b, c, n, s, o⟩ : IOp) = orB (orB (orB (orB (orB (orB (orB (orB (false) (false)) ((b != 0))) ((c != 0))) (false)) ((f != 0))) ((w != 0))) (s)) ((o != 0)) := by kernel_rfl
  have e3 : wrongR (⟨3, f, w, a, b, c, n, s, o⟩ : IOp) = orB (false) (andB (o != 0) (o != 1)) := by kernel_rfl
  have e4 : goodR (⟨3, f, w, a, b, c, n, s, o⟩ : IOp) = decide (n.toNat < (BitVec.ofInt 64 19).toNat) := by kernel_rfl
  rw [e1, e2, e3, e4]
  clear e1 e2 e3 e4
  simp only [orB_eq, andB_eq, Bool.and_assoc, rng, bne, beq_self_eq_true, Bool.true_and]
  generalize (f == 0) = x1
  generalize (w == 0) = x2
  generalize (a == 0) = x3
  generalize (b == 0) = x4
  generalize (c == 0) = x5
  generalize (n == 0#64) = x6
  generalize (o == 0) = x7
  generalize (o == 1) = x8
  generalize A.isW w = x9
  generalize decide (n.toNat < (BitVec.ofInt 64 19).toNat) = x0
  clear f w a b c n o
  revert U s x1 x2 x3 x4 x5 x6 x7 x8 x9 x0
  decide +kernel
theorem may_4 (f w a b c : Int) (n : BitVec 64) (s : Bool) (o : Int) (U : Bool) : orB (!mayP 4 f w a b c n s o) U = !(if badR (⟨4, f, w, a, b, c, n, s, o⟩ : IOp) = true then false else if U = true then false else if wrongR (⟨4, f, w, a, b, c, n, s, o⟩ : IOp) = true then false else goodR (⟨4, f, w, a, b, c, n, s, o⟩ : IOp)) := by
  have e1 : mayP 4 f w a b c n s o = if (!((4 : Int) == 4 && (f == f && (w == 0 && (a == a && (b == b && (c == 0 && (n == 0#64 && (s == false && (o == 0 && true)))))))))) = true then false else andB (decide (1 ≤ f)) (decide (f ≤ 16)) := by kernel_rfl
  have e2 : badR (⟨4, f, w, a, b, c, n, s, o⟩ : IOp) = orB (orB (orB (orB (orB (orB (orB (orB (false) (false)) (false)) ((c != 0))) ((n != 0#64))) (false)) ((w != 0))) (s)) ((o != 0)) := by kernel_rfl
  have e3 : wrongR (⟨4, f, w, a, b, c, n, s, o⟩ : IOp) = orB (false) (andB (o != 0) (o != 1)) := by kernel_rfl
  have e4 : goodR (⟨4, f, w, a, b, c, n, s, o⟩ : IOp) = andB (decide (1 ≤ f)) (decide (f ≤ 16)) := by kernel_rfl
  rw [e1, e2, e3, e4]
  clear e1 e2 e3 e4
  simp only [orB_eq, andB_eq, Bool.and_assoc, rng, bne, beq_self_eq_true, Bool.true_and]
  generalize (f == 0) = x1
  generalize (w == 0) = x2
  generalize (a == 0) = x3
  generalize (b == 0) = x4
  generalize (c == 0) = x5
  generalize (n == 0#64) = x6
  generalize (o == 0) = x7
  generalize (o == 1) = x8
  generalize A.isW w = x9
  generalize (decide (1 ≤ f) && decide (f ≤ 16)) = x0
  clear f w a b c n o
  revert U s x1 x2 x3 x4 x5 x6 x7 x8 x9 x0
  decide +kernel
theorem may_5 (f w a b c : Int) (n : BitVec 64) (s : Bool) (o : Int) (U : Bool) : orB (!mayP 5 f w a b c n s o) U = !(if badR (⟨5, f, w, a, b, c, n, s, o⟩ : IOp) = true then false else if U = true then false else if wrongR (⟨5, f, w, a, b, c, n, s, o⟩ : IOp) = true then false else goodR (⟨5, f, w, a, b, c, n, s, o⟩ : IOp)) := by
  have e1 : mayP 5 f w a b c n s o = if (!((5 : Int) == 5 && (f == 0 && (w == w && (a == a && (b == 0 && (c == 0 && (n == 0#64 && (s == s && (o == 0 && true)))))))))) = true then false else andB (andB (A.isW w) (decide (0 ≤ o))) (decide (o ≤ 1)) := by kernel_rfl
  have e2 : badR (⟨5, f, w, a, b, c, n, s, o⟩ : IOp) = orB (orB (orB (orB (orB (orB (orB (orB (false) (false)) ((b != 0))) ((c != 0))) ((n != 0#64))) ((f != 0))) (false)) (false)) ((o != 0)) := by kernel_rfl
  have e3 : wrongR (⟨5, f, w, a, b, c, n, s, o⟩ : IOp) = orB (!A.isW w) (andB (o != 0) (o != 1)) := by kernel_rfl
  have e4 : goodR (⟨5, f, w, a, b, c, n, s, o⟩ : IOp) = true := by kernel_rfl
  rw [e1, e2, e3, e4]
  clear e1 e2 e3 e4
  simp only [orB_eq, andB_eq, Bool.and_assoc, rng, bne, beq_self_eq_true, Bool.true_and]
  generalize (f == 0) = x1
  generalize (w == 0) = x2
  generalize (a == 0) = x3
  generalize (b == 0) = x4
  generalize (c == 0) = x5
  generalize (n == 0#64) = x6
  generalize (o == 0) = x7
  generalize (o == 1) = x8
  generalize A.isW w = x9
  clear f w a b c n o
  revert U s x1 x2 x3 x4 x5 x6 x7 x8 x9
  decide +kernel
theorem may_6 (f w a b c : Int) (n : BitVec 64) (s : Bool) (o : Int) (U : Bool) : orB (!mayP 6 f w a b c n s o) U = !(if badR (⟨6, f, w, a, b, c, n, s, o⟩ : IOp) = true then false else if U = true then false else if wrongR (⟨6, f, w, a, b, c, n, s, o⟩ : IOp) = true then false else goodR (⟨6, f, w, a, b, c, n, s, o⟩ : IOp)) := by
  have e1 : mayP 6 f w a b c n s o = if (!((6 : Int) == 6 && (f == 0 && (w == 0 && (a == a && (b == b && (c == c && (n == 0#64 && (s == false && (o == 0 && true)))))))))) = true then false else true := by kernel_rfl
  have e2 : badR (⟨6, f, w, a, b, c, n, s, o⟩ : IOp) = orB (orB (orB (orB (orB (orB (orB (orB (false) (false)) (false)) (false)) ((n != 0#64))) ((f != 0))) ((w != 0))) (s)) ((o != 0)) := by kernel_rfl
  have e3 : wrongR (⟨6, f, w, a, b, c, n, s, o⟩ : IOp) = orB (false) (andB (o != 0) (o != 1)) := by kernel_rfl
  have e4 : goodR (⟨6, f, w, a, b, c, n, s, o⟩ : IOp) = true := by kernel_rfl
  rw [e1, e2, e3, e4]
  clear e1 e2 e3 e4
  simp only [orB_eq, andB_eq, Bool.and_assoc, rng, bne, beq_self_eq_true, Bool.true_and]
  generalize (f == 0) = x1
  generalize (w == 0) = x2
  generalize (a == 0) = x3
  generalize (b == 0) = x4
  generalize (c == 0) = x5
  generalize (n == 0#64) = x6
  generalize (o == 0) = x7
  generalize (o == 1) = x8
  generalize A.isW w = x9
  clear f w a b c n o
  revert U s x1 x2 x3 x4 x5 x6 x7 x8 x9
  decide +kernel
theorem may_7 (f w a b c : Int) (n : BitVec 64) (s : Bool) (o : Int) (U : Bool) : orB (!mayP 7 f w a b c n s o) U = !(if badR (⟨7, f, w, a, b, c, n, s, o⟩ : IOp) = true then false else if U = true then false else if wrongR (⟨7, f, w, a, b, c, n, s, o⟩ : IOp) = true then false else goodR (⟨7, f, w, a, b, c, n, s, o⟩ : IOp)) := by
  have e1 : mayP 7 f w a b c n s o = if (!((7 : Int) == 7 && (f == 0 && (w == w && (a == a && (b == 0 && (c == 0 && (n == 0#64 && (s == false && (o == o && true)))))))))) = true then false else andB (andB (A.isW w) (decide (0 ≤ o))) (decide (o ≤ 1)) := by kernel_rfl
  have e2 : badR (⟨7, f, w, a, b, c, n, s, o⟩ : IOp) = orB (orB (orB (orB (orB (orB (orB (orB (false) (false)) ((b != 0))) ((c != 0))) ((n != 0#64))) ((f != 0))) (false)) (s)) (false) := by kernel_rfl
  have e3 : wrongR (⟨7, f, w, a, b, c, n, s, o⟩ : IOp) = orB (!A.isW w) (andB (o != 0) (o != 1)) := by kernel_rfl
  have e4 : goodR (⟨7, f, w, a, b, c, n, s, o⟩ : IOp) = true := by kernel_rfl
  rw [e1, e2, e3, e4]
  clear e1 e2 e3 e4
  simp only [orB_eq, andB_eq, Bool.and_assoc, rng, bne, beq_self_eq_true, Bool.true_and]
  generalize (f == 0) = x1
  generalize (w == 0) = x2
  generalize (a == 0) = x3
  generalize (b == 0) = x4
  generalize (c == 0) = x5
  generalize (n == 0#64) = x6
  generalize (o == 0) = x7
  generalize (o == 1) = x8
  generalize A.isW w = x9
  clear f w a b c n o
  revert U s x1 x2 x3 x4 x5 x6 x7 x8 x9
  decide +kernel
theorem may_8 (f w a b c : Int) (n : BitVec 64) (s : Bool) (o : Int) (U : Bool) : orB (!mayP 8 f w a b c n s o) U = !(if badR (⟨8, f, w, a, b, c, n, s, o⟩ : IOp) = true then false else if U = true then false else if wrongR (⟨8, f, w, a, b, c, n, s, o⟩ : IOp) = true then false else goodR (⟨8, f, w, a, b, c, n, s, o⟩ : IOp)) := by
  have e1 : mayP 8 f w a b c n s o = if (!((8 : Int) == 8 && (f == 0 && (w == w && (a == a && (b == b && (c == 0 && (n == 0#64 && (s == false && (o == o && true)))))))))) = true then false else andB (andB (A.isW w) (decide (0 ≤ o))) (decide (o ≤ 1)) := by kernel_rfl
  have e2 : badR (⟨8, f, w, a, b, c, n, s, o⟩ : IOp) = orB (orB (orB (orB (orB (orB (orB (orB (false) (false)) (false)) ((c != 0))) ((n != 0#64))) ((f != 0))) (false)) (s)) (false) := by kernel_rfl
  have e3 : wrongR (⟨8, f, w, a, b, c, n, s, o⟩ : IOp) = orB (!A.isW w) (andB (o != 0) (o != 1)) := by kernel_rfl
  have e4 : goodR (⟨8, f, w, a, b, c, n, s, o⟩ : IOp) = true := by kernel_rfl
  rw [e1, e2, e3, e4]
  clear e1 e2 e3 e4
  simp only [orB_eq, andB_eq, Bool.and_assoc, rng, bne, beq_self_eq_true, Bool.true_and]
  generalize (f == 0) = x1
  generalize (w == 0) = x2
  generalize (a == 0) = x3
  generalize (b == 0) = x4
  generalize (c == 0) = x5
  generalize (n == 0#64) = x6
  generalize (o == 0) = x7
  generalize (o == 1) = x8
  generalize A.isW w = x9
  clear f w a b c n o
  revert U s x1 x2 x3 x4 x5 x6 x7 x8 x9
  decide +kernel
theorem may_9 (f w a b c : Int) (n : BitVec 64) (s : Bool) (o : Int) (U : Bool) : orB (!mayP 9 f w a b c n s o) U = !(if badR (⟨9, f, w, a, b, c, n, s, o⟩ : IOp) = true then false else if U = true then false else if wrongR (⟨9, f, w, a, b, c, n, s, o⟩ : IOp) = true then false else goodR (⟨9, f, w, a, b, c, n, s, o⟩ : IOp)) := by
  have e1 : mayP 9 f w a b c n s o = if (!((9 : Int) == 9 && (f == 0 && (w == w && (a == a && (b == 0 && (c == 0 && (n == 0#64 && (s == false && (o == 0 && true)))))))))) = true then false else andB (andB (A.isW w) (decide (0 ≤ o))) (decide (o ≤ 1)) := by kernel_rfl
  have e2 : badR (⟨9, f, w, a, b, c, n, s, o⟩ : IOp) = orB (orB (orB (orB (orB (orB (orB (orB (false) (false)) ((b != 0))) ((c != 0))) ((n != 0#64))) ((f != 0))) (false)) (s)) ((o != 0)) := by kernel_rfl
  have e3 : wrongR (⟨9, f, w, a, b, c, n, s, o⟩ : IOp) = orB (!A.isW w) (andB (o != 0) (o != 1)) := by kernel_rfl
  have e4 : goodR (⟨9, f, w, a, b, c, n, s, o⟩ : IOp) = true := by kernel_rfl
  rw [e1, e2, e3, e4]
  clear e1 e2 e3 e4
  simp only [orB_eq, andB_eq, Bool.and_assoc, rng, bne, beq_self_eq_true, Bool.true_and]
  generalize (f == 0) = x1
  generalize (w == 0) = x2
  generalize (a == 0) = x3
  generalize (b == 0) = x4
  generalize (c == 0) = x5
  generalize (n == 0#64) = x6
  generalize (o == 0) = x7
  generalize (o == 1) = x8
  generalize A.isW w = x9
  clear f w a b c n o
  revert U s x1 x2 x3 x4 x5 x6 x7 x8 x9
  decide +kernel
theorem may_10 (f w a b c : Int) (n : BitVec 64) (s : Bool) (o : Int) (U : Bool) : orB (!mayP 10 f w a b c n s o) U = !(if badR (⟨10, f, w, a, b, c, n, s, o⟩ : IOp) = true then false else if U = true then false else if wrongR (⟨10, f, w, a, b, c, n, s, o⟩ : IOp) = true then false else goodR (⟨10, f, w, a, b, c, n, s, o⟩ : IOp)) := by
  have e1 : mayP 10 f w a b c n s o = if (!((10 : Int) == 10 && (f == 0 && (w == w && (a == a && (b == b && (c == 0 && (n == 0#64 && (s == false && (o == 0 && true)))))))))) = true then false else andB (andB (A.isW w) (decide (0 ≤ o))) (decide (o ≤ 1)) := by kernel_rfl
  have e2 : badR (⟨10, f, w, a, b, c, n, s, o⟩ : IOp) = orB (orB (orB (orB (orB (orB (orB (orB (false) (false)) (false)) ((c != 0))) ((n != 0#64))) ((f != 0))) (false)) (s)) ((o != 0)) := by kernel_rfl
  have e3 : wrongR (⟨10, f, w, a, b, c, n, s, o⟩ : IOp) = orB (!A.isW w) (andB (o != 0) (o != 1)) := by kernel_rfl
  have e4 : goodR (⟨10, f, w, a, b, c, n, s, o⟩ : IOp) = true := by kernel_rfl
  rw [e1, e2, e3, e4]
  clear e1 e2 e3 e4
  simp only [orB_eq, andB_eq, Bool.and_assoc, rng, bne, beq_self_eq_true, Bool.true_and]
  generalize (f == 0) = x1
  generalize (w == 0) = x2
  generalize (a == 0) = x3
  generalize (b == 0) = x4
  generalize (c == 0) = x5
  generalize (n == 0#64) = x6
  generalize (o == 0) = x7
  generalize (o == 1) = x8
  generalize A.isW w = x9
  clear f w a b c n o
  revert U s x1 x2 x3 x4 x5 x6 x7 x8 x9
  decide +kernel
theorem may_11 (f w a b c : Int) (n : BitVec 64) (s : Bool) (o : Int) (U : Bool) : orB (!mayP 11 f w a b c n s o) U = !(if badR (⟨11, f, w, a, b, c, n, s, o⟩ : IOp) = true then false else if U = true then false else if wrongR (⟨11, f, w, a, b, c, n, s, o⟩ : IOp) = true then false else goodR (⟨11, f, w, a, b, c, n, s, o⟩ : IOp)) := by
  have e1 : mayP 11 f w a b c n s o = if (!((11 : Int) == 11 && (f == f && (w == 0 && (a == 0 && (b == 0 && (c == 0 && (n == 0#64 && (s == false && (o == 0 && true)))))))))) = true then false else andB (decide (1 ≤ f)) (decide (f ≤ 3)) := by kernel_rfl
  have e2 : badR (⟨11, f, w, a, b, c, n, s, o⟩ : IOp) = orB (orB (orB (orB (orB (orB (orB (orB (false) ((a != 0))) ((b != 0))) ((c != 0))) ((n != 0#64))) (false)) ((w != 0))) (s)) ((o != 0)) := by kernel_rfl
  have e3 : wrongR (⟨11, f, w, a, b, c, n, s, o⟩ : IOp) = orB (false) (andB (o != 0) (o != 1)) := by kernel_rfl
  have e4 : goodR (⟨11, f, w, a, b, c, n, s, o⟩ : IOp) = andB (decide (1 ≤ f)) (decide (f ≤ 3)) := by kernel_rfl
  rw [e1, e2, e3, e4]
  clear e1 e2 e3 e4
  simp only [orB_eq, andB_eq, Bool.and_assoc, rng, bne, beq_self_eq_true, Bool.true_and]
  generalize (f == 0) = x1
  generalize (w == 0) = x2
  generalize (a == 0) = x3
  generalize (b == 0) = x4
  generalize (c == 0) = x5
  generalize (n == 0#64) = x6
  generalize (o == 0) = x7
  generalize (o == 1) = x8
  generalize A.isW w = x9
  generalize (decide (1 ≤ f) && decide (f ≤ 3)) = x0
  clear f w a b c n o
  revert U s x1 x2 x3 x4 x5 x6 x7 x8 x9 x0
  decide +kernel
theorem may_12 (f w a b c : Int) (n : BitVec 64) (s : Bool) (o : Int) (U : Bool) : orB (!mayP 12 f w a b c n s o) U = !(if badR (⟨12, f, w, a, b, c, n, s, o⟩ : IOp) = true then false else if U = true then false else if wrongR (⟨12, f, w, a, b, c, n, s, o⟩ : IOp) = true then false else goodR (⟨12, f, w, a, b, c, n, s, o⟩ : IOp)) := by
  have e1 : mayP 12 f w a b c n s o = if (!((12 : Int) == 12 && (f == 0 && (w == 0 && (a == a && (b == 0 && (c == 0 && (n == n && (s == false && (o == 0 && true)))))))))) = true then false else andB (decide ((BitVec.ofInt 64 1).toNat ≤ n.toNat)) (decide (n.toNat ≤ (BitVec.ofInt 64 6).toNat)) := by kernel_rfl
  have e2 : badR (⟨12, f, w, a, b, c, n, s, o⟩ : IOp) = orB (orB (orB (orB (orB (orB (orB (orB (false) (false)) ((b != 0))) ((c != 0))) (false)) ((f != 0))) ((w != 0))) (s)) ((o != 0)) := by kernel_rfl
  have e3 : wrongR (⟨12, f, w, a, b, c, n, s, o⟩ : IOp) = orB (false) (andB (o != 0) (o != 1)) := by kernel_rfl
  have e4 : goodR (⟨12, f, w, a, b, c, n, s, o⟩ : IOp) = andB (decide ((BitVec.ofInt 64 1).toNat ≤ n.toNat)) (decide (n.toNat ≤ (BitVec.ofInt 64 6).toNat)) := by kernel_rfl
  rw [e1, e2, e3, e4]
  clear e1 e2 e3 e4
  simp only [orB_eq, andB_eq, Bool.and_assoc, rng, bne, beq_self_eq_true, Bool.true_and]
  generalize (f == 0) = x1
  generalize (w == 0) = x2
  generalize (a == 0) = x3
  generalize (b == 0) = x4
  generalize (c == 0) = x5
  generalize (n == 0#64) = x6
  generalize (o == 0) = x7
  generalize (o == 1) = x8
  generalize A.isW w = x9
  generalize (decide ((BitVec.ofInt 64 1).toNat ≤ n.toNat) && decide (n.toNat ≤ (BitVec.ofInt 64 6).toNat)) = x0
  clear f w a b c n o
  revert U s x1 x2 x3 x4 x5 x6 x7 x8 x9 x0
  decide +kernel
theorem may_13 (f w a b c : Int) (n : BitVec 64) (s : Bool) (o : Int) (U : Bool) : orB (!mayP 13 f w a b c n s o) U = !(if badR (⟨13, f, w, a, b, c, n, s, o⟩ : IOp) = true then false else if U = true then false else if wrongR (⟨13, f, w, a, b, c, n, s, o⟩ : IOp) = true then false else goodR (⟨13, f, w, a, b, c, n, s, o⟩ : IOp)) := by
  have e1 : mayP 13 f w a b c n s o = if (!((13 : Int) == 13 && (f == 0 && (w == 0 && (a == a && (b == 0 && (c == 0 && (n == n && (s == false && (o == 0 && true)))))))))) = true then false else true := by kernel_rfl
  have e2 : badR (⟨13, f, w, a, b, c, n, s, o⟩ : IOp) = orB (orB (orB (orB (orB (orB (orB (orB (false) (false)) ((b != 0))) ((c != 0))) (false)) ((f != 0))) ((w != 0))) (s)) ((o != 0)) := by kernel_rfl
  have e3 : wrongR (⟨13, f, w, a, b, c, n, s, o⟩ : IOp) = orB (false) (andB (o != 0) (o != 1)) := by kernel_rfl
  have e4 : goodR (⟨13, f, w, a, b, c, n, s, o⟩ : IOp) = true := by kernel_rfl
  rw [e1, e2, e3, e4]
  clear e1 e2 e3 e4
  simp only [orB_eq, andB_eq, Bool.and_assoc, rng, bne, beq_self_eq_true, Bool.true_and]
  generalize (f == 0) = x1
  generalize (w == 0) = x2
  generalize (a == 0) = x3
  generalize (b == 0) = x4
  generalize (c == 0) = x5
  generalize (n == 0#64) = x6
  generalize (o == 0) = x7
  generalize (o == 1) = x8
  generalize A.isW w = x9
  clear f w a b c n o
  revert U s x1 x2 x3 x4 x5 x6 x7 x8 x9
  decide +kernel
theorem may_out {p : IOp} (h : p.Kind < 1 ∨ 13 < p.Kind) (xs : List IOp) (j : Int) : badP xs j p = true ∧ mayR xs j p = false := by
  constructor
  · have : mayQ p = false := by
      unfold mayQ mayP
      rw [if_pos (by
        rw [orB_eq, orB_eq]
        rcases h with h | h <;> simp [h])]
    unfold badP
    rw [this]; rfl
  · unfold mayR
    have hb : badR p = true := by
      unfold badR
      simp only [rowS_out h, orB_eq, beq_self_eq_true, Bool.true_or]
    rw [hb]; rfl
/-- One step is bad for the program if and only if it may not be for the reference. -/
theorem step_eq (xs : List IOp) (j : Int) (p : IOp) : badP xs j p = !mayR xs j p := by
  have hu : (usesQ p).any (badV xs j) = (usesO p).any (badU xs j) := by
    unfold usesQ usesO
    rw [usesP_eq, badV_eq]
  obtain ⟨k, f, w, a, b, c, n, s, o⟩ := p
  rcases kind_cases k with h | rfl | rfl | rfl | rfl | rfl | rfl | rfl | rfl | rfl | rfl | rfl | rfl | rfl
  · obtain ⟨h1, h2⟩ := may_out (p := ⟨k, f, w, a, b, c, n, s, o⟩) h xs j
    rw [h1, h2]; rfl
  · unfold badP mayR; rw [hu]; exact may_1 f w a b c n s o _
  · unfold badP mayR; rw [hu]; exact may_2 f w a b c n s o _
  · unfold badP mayR; rw [hu]; exact may_3 f w a b c n s o _
  · unfold badP mayR; rw [hu]; exact may_4 f w a b c n s o _
  · unfold badP mayR; rw [hu]; exact may_5 f w a b c n s o _
  · unfold badP mayR; rw [hu]; exact may_6 f w a b c n s o _
  · unfold badP mayR; rw [hu]; exact may_7 f w a b c n s o _
  · unfold badP mayR; rw [hu]; exact may_8 f w a b c n s o _
  · unfold badP mayR; rw [hu]; exact may_9 f w a b c n s o _
  · unfold badP mayR; rw [hu]; exact may_10 f w a b c n s o _
  · unfold badP mayR; rw [hu]; exact may_11 f w a b c n s o _
  · unfold badP mayR; rw [hu]; exact may_12 f w a b c n s o _
  · unfold badP mayR; rw [hu]; exact may_13 f w a b c n s o _
end Go.Proofs.YtcdnbdphakhilaaGreatDoor
set_option maxRecDepth 100000
namespace Go.Proofs.YtcdnbdphakhilaaGreatDoor
open Go.Proofs.YtcdnbdphakhilaaGreatDoor.Ev Go.RowKit
/- Plain: pairs, told by lists and by a machine. -/
theorem isLx_eq (p : IOp) : isLx p = (p.Kind == 9) := by
  unfold isLx wordS
  rcases kind_cases p.Kind with h | h | h | h | h | h | h | h | h | h | h | h | h | h
  · have hk : (p.Kind == 9) = false := by simp; omega
    rw [hk]
    rcases h with h | h
    · rw [show p.Kind.toNat = 0 by omega]; rfl
    · rw [List.getD_eq_getElem?_getD, List.getElem?_eq_none (by show 14 ≤ _; omega)]; rfl
  all_goals rw [h]; rfl
theorem isSx_eq (p : IOp) : isSx p = (p.Kind == 10) := by
  unfold isSx wordS
  rcases kind_cases p.Kind with h | h | h | h | h | h | h | h | h | h | h | h | h | h
  · have hk : (p.Kind == 10) = false := by simp; omega
    rw [hk]
    rcases h with h | h
    · rw [show p.Kind.toNat = 0 by omega]; rfl
    · rw [List.getD_eq_getElem?_getD, List.getElem?_eq_none (by show 14 ≤ _; omega)]; rfl
  all_goals rw [h]; rfl
def M2 : List IOp → Bool
  | [] => true
  | o :: r => if isLx o = true then false else if isSx o = true then false else M2 r
def M1 (x : IOp) : List IOp → Bool
  | [] => false
  | o :: r => if isLx o = true then false else if isSx o = true then (if unlike 1 x o = true then false else M2 r) else if (!pureR o.Kind) = true then false else M1 x r
def M0 : List IOp → Bool
  | [] => true
  | o :: r => if isLx o = true then M1 o r else if isSx o = true then false else M0 r
theorem kindN_cons (k : Int) (o : IOp) (r : List IOp) (i : Int) : kindN k (o :: r) i = if (o.Kind == k) = true then i :: kindN k r (i + 1) else kindN k r (i + 1) := rfl
theorem kindN_ge {k : Int} {l : List IOp} {i v : Int} (h : v ∈ kindN k l i) : i ≤ v := (kindN_mem k l i v h).1
theorem M2_eq : ∀ (r : List IOp) (i : Int), M2 r = ((kindN 9 r i).isEmpty && (kindN 10 r i).isEmpty)
  | [], i => rfl
  | o :: r, i => by
    unfold M2
    rw [kindN_cons, kindN_cons, isLx_eq, isSx_eq]
    cases h9 : o.Kind == 9 with
    | true => rfl
    | false =>
      cases h10 : o.Kind == 10 with
      | true => simp
      | false => simp only [Bool.false_eq_true, if_false]; exact M2_eq r (i + 1)
/-- Not one of each: no pair. -/
theorem pairs_len {xs : List IOp} {l s : List (Dat 2)} (h0 : ¬ (l.length = 0 ∧ s.length = 0)) (h : ¬ (l.length = 1 ∧ s.length = 1)) : pairsP xs l s = false := by
  unfold pairsP
  have h1 : andB ((l.length : Int) == 0) ((s.length : Int) == 0) = false := by
    rw [andB_eq, Bool.and_eq_false_iff]
    by_cases hl : l.length = 0
    · right; rw [beq_eq_false_iff_ne]; intro e; exact h0 ⟨hl, by omega⟩
    · left; rw [beq_eq_false_iff_ne]; intro e; exact hl (by omega)
  have h2 : g4 xs l s = true := by
    unfold g4 g3 g2 g1
    simp only [orB_eq]
    have : ((l.length : Int) != 1 || (s.length : Int) != 1) = true := by
      rw [Bool.or_eq_true]
      by_cases hl : l.length = 1
      · right; rw [bne_iff_ne]; intro e; exact h ⟨hl, by omega⟩
      · left; rw [bne_iff_ne]; intro e; exact hl (by omega)
    rw [this]; rfl
  rw [h1, h2]; rfl
theorem pairs_one {xs : List IOp} {l s : List (Dat 2)} (h : l.length = 1 ∧ s.length = 1) : pairsP xs l s = !(decide (at0 s < at0 l) || ((atO xs (at0 l)).A != (atO xs (at0 s)).A) || ((atO xs (at0 l)).W != (atO xs (at0 s)).W) || (midL xs l s).any badQ) := by
  unfold pairsP g4 g3 g2 g1
  simp only [orB_eq, andB_eq, h.1, h.2]
  have e1 : (((1 : Nat) : Int) == 0) = false := rfl
  have e2 : (((1 : Nat) : Int) != 1) = false := rfl
  rw [e1, e2]
  simp only [Bool.false_and, Bool.false_or, Bool.false_eq_true, if_false]
  cases (decide (at0 s < at0 l) || ((atO xs (at0 l)).A != (atO xs (at0 s)).A) || ((atO xs (at0 l)).W != (atO xs (at0 s)).W)) <;> rfl
theorem atO_nat {xs : List IOp} {i : Nat} {o : IOp} {r : List IOp} (h : xs.drop i = o :: r) : atO xs (i : Int) = o ∧ i < xs.length := by
  have hi : i < xs.length := by
    rcases Nat.lt_or_ge i xs.length with h' | h'
    · exact h'
    · rw [List.drop_eq_nil_of_le h'] at h; cases h
  refine ⟨?_, hi⟩
  rw [List.drop_eq_getElem_cons hi] at h
  unfold atO
  rw [Int.toNat_natCast, List.getD_eq_getElem?_getD, List.getElem?_eq_getElem hi]
  exact (List.cons.inj h).1
theorem at0_cons (x : Int) (l : List (Dat 2)) : at0 (x :: l) = x := rfl
theorem at0_ge {k : Int} {l : List IOp} {i : Int} (h : (kindN k l i).length = 1) : i ≤ at0 (kindN k l i) := kindN_ge (at0_mem h)
/-- The steps between. -/
theorem mid_nat {xs : List IOp} {i j : Nat} (hi : i < 1000000) (l s : List (Dat 2)) (hl : at0 l = (i : Int)) (hs : at0 s = (j : Int)) : midL xs l s = (xs.drop (i + 1)).take (j - (i + 1)) := by
  unfold midL
  rw [hl, hs, wrap_small _ (by omega) (by omega), Int.toNat_natCast, show ((i : Int) + 1).toNat = i + 1 by omega]
theorem pair1 (xs : List IOp) (hlen : xs.length ≤ 1000000) (i : Nat) (x : IOp) (hx : atO xs (i : Int) = x) (hi : i < xs.length) : ∀ (r : List IOp) (j : Nat), xs.drop j = r → i < j → (∀ m, i < m → m < j → pureR (atO xs (m : Int)).Kind = true) → pairsP xs ((i : Int) :: kindN 9 r (j : Int)) (kindN 10 r (j : Int)) = M1 x r
  | [], j, hr, hij, hp => pairs_len (by simp [kindN]) (by simp [kindN])
  | o :: r, j, hr, hij, hp => by
    obtain ⟨ho, hj⟩ := atO_nat hr
    have hr2 : xs.drop (j + 1) = r := by
      rw [List.drop_eq_getElem_cons hj] at hr
      exact (List.cons.inj hr).2
    have hcast : ((j : Int) + 1) = ((j + 1 : Nat) : Int) := by omega
    unfold M1
    rw [kindN_cons, kindN_cons, isLx_eq, isSx_eq, hcast]
    cases h9 : o.Kind == 9 with
    | true =>
      simp only [if_true]
      exact pairs_len (by simp) (by simp)
    | false =>
      simp only [Bool.false_eq_true, if_false]
      cases h10 : o.Kind == 10 with
      | true =>
        simp only [if_true]
        have hm2 := M2_eq r ((j + 1 : Nat) : Int)
        by_cases hone : (kindN 9 r ((j + 1 : Nat) : Int)).length = 0 ∧ (kindN 10 r ((j + 1 : Nat) : Int)).length = 0
        · have e9 := List.eq_nil_of_length_eq_zero hone.1
          have e10 := List.eq_nil_of_length_eq_zero hone.2
          rw [e9, e10] at hm2 ⊢
          rw [hm2, pairs_one ⟨rfl, rfl⟩, at0_cons, at0_cons, hx, ho]
          have hmid : (midL xs [(i : Int)] [(j : Int)]).any badQ = false := by
            rw [mid_nat (by omega) _ _ (at0_cons _ _) (at0_cons _ _), List.any_eq_false]
            intro y hy
            obtain ⟨m, hm, rfl⟩ := List.mem_iff_getElem.1 hy
            rw [List.length_take, List.length_drop] at hm
            have := hp (i + 1 + m) (by omega) (by omega)
            rw [List.getElem_take, List.getElem_drop]
            have e : atO xs ((i + 1 + m : Nat) : Int) = xs[i + 1 + m]'(by omega) := by
              unfold atO
              rw [Int.toNat_natCast, List.getD_eq_getElem?_getD, List.getElem?_eq_getElem (by omega)]; rfl
            rw [e] at this
            show ¬ (!pureP (show IOp from xs[i + 1 + m]'(by omega)).Kind) = true
            rw [pureP_eq, this]; simp
          have hlt : decide ((j : Int) < (i : Int)) = false := by simp; omega
          rw [hmid, hlt]
          unfold unlike
          simp only [orB_eq]
          cases (x.A != o.A) <;> cases (x.W != o.W) <;> rfl
        · have hf : M2 r = false := by
            rw [hm2, Bool.and_eq_false_iff]
            by_cases h : (kindN 9 r ((j + 1 : Nat) : Int)).length = 0
            · right
              cases hk : kindN 10 r ((j + 1 : Nat) : Int) with
              | nil => rw [hk] at hone; exact absurd ⟨h, rfl⟩ hone
              | cons => rfl
            · left
              cases hk : kindN 9 r ((j + 1 : Nat) : Int) with
              | nil => rw [hk] at h; exact absurd rfl h
              | cons => rfl
          rw [hf, ite_self]
          refine pairs_len (by simp) ?_
          simp only [List.length_cons]
          intro h; exact hone ⟨by omega, by omega⟩
      | false =>
        simp only [Bool.false_eq_true, if_false]
        cases hpu : pureR o.Kind with
        | true =>
          simp only [Bool.not_true, Bool.false_eq_true, if_false]
          refine pair1 xs hlen i x hx hi r (j + 1) hr2 (by omega) ?_
          intro m h1 h2
          by_cases hm : m = j
          · subst hm; rw [ho]; exact hpu
          · exact hp m h1 (by omega)
        | false =>
          simp only [Bool.not_false, if_true]
          by_cases hone : ((i : Int) :: kindN 9 r ((j + 1 : Nat) : Int)).length = 1 ∧ (kindN 10 r ((j + 1 : Nat) : Int)).length = 1
          · rw [pairs_one hone]
            have hge := at0_ge hone.2
            obtain ⟨y1, y2, _⟩ := kindN_mem 10 r _ _ (at0_mem hone.2)
            have hrl : r.length = xs.length - (j + 1) := by rw [← hr2, List.length_drop]
            obtain ⟨y, hy⟩ : ∃ y : Nat, at0 (kindN 10 r ((j + 1 : Nat) : Int)) = (y : Int) := ⟨(at0 (kindN 10 r ((j + 1 : Nat) : Int))).toNat, by omega⟩
            have hmid : (midL xs ((i : Int) :: kindN 9 r ((j + 1 : Nat) : Int)) (kindN 10 r ((j + 1 : Nat) : Int))).any badQ = true := by
              rw [mid_nat (by omega) _ _ (at0_cons _ _) hy, List.any_eq_true]
              refine ⟨xs[j], ?_, ?_⟩
              · rw [List.mem_iff_getElem]
                refine ⟨j - (i + 1), by rw [List.length_take, List.length_drop]; omega, ?_⟩
                rw [List.getElem_take, List.getElem_drop]
                congr 1; omega
              · have e : atO xs (j : Int) = xs[j] := by
                  unfold atO
                  rw [Int.toNat_natCast, List.getD_eq_getElem?_getD, List.getElem?_eq_getElem hj]; rfl
                show (!pureP (show IOp from xs[j]).Kind) = true
                rw [pureP_eq, ← e, ho, hpu]; rfl
            rw [hmid, Bool.or_true]; rfl
          · exact pairs_len (by simp) hone
theorem pair0 (xs : List IOp) (hlen : xs.length ≤ 1000000) : ∀ (r : List IOp) (j : Nat), xs.drop j = r → pairsP xs (kindN 9 r (j : Int)) (kindN 10 r (j : Int)) = M0 r
  | [], j, hr => rfl
  | o :: r, j, hr => by
    obtain ⟨ho, hj⟩ := atO_nat hr
    have hr2 : xs.drop (j + 1) = r := by
      rw [List.drop_eq_getElem_cons hj] at hr
      exact (List.cons.inj hr).2
    have hcast : ((j : Int) + 1) = ((j + 1 : Nat) : Int) := by omega
    unfold M0
    rw [kindN_cons, kindN_cons, isLx_eq, isSx_eq, hcast]
    cases h9 : o.Kind == 9 with
    | true =>
      have h10 : (o.Kind == 10) = false := by
        have : o.Kind = 9 := by simpa using h9
        rw [this]; rfl
      simp only [h10, if_true, Bool.false_eq_true, if_false]
      exact pair1 xs hlen j o ho hj r (j + 1) hr2 (by omega) (fun m h1 h2 => by omega)
    | false =>
      simp only [Bool.false_eq_true, if_false]
      cases h10 : o.Kind == 10 with
      | true =>
        simp only [if_true]
        by_cases hone : (kindN 9 r ((j + 1 : Nat) : Int)).length = 1 ∧ ((j : Int) :: kindN 10 r ((j + 1 : Nat) : Int)).length = 1
        · rw [pairs_one hone, at0_cons]
          have hge := at0_ge hone.1
          have : decide ((j : Int) < at0 (kindN 9 r ((j + 1 : Nat) : Int))) = true := by rw [decide_eq_true_eq]; omega
          rw [this]; rfl
        · exact pairs_len (by simp) hone
      | false =>
        simp only [Bool.false_eq_true, if_false]
        exact pair0 xs hlen r (j + 1) hr2
end Go.Proofs.YtcdnbdphakhilaaGreatDoor
set_option maxRecDepth 100000
namespace Go.Proofs.YtcdnbdphakhilaaGreatDoor
open Go.Proofs.YtcdnbdphakhilaaGreatDoor.Ev Go.RowKit
/- Plain: both say alike which code may be. -/
theorem stepR_may {xs : List IOp} {j : Nat} {s : Int × IOp} (h : mayR xs (j : Int) (xs.getD j (dat0 11)) = false) : stepR xs j s = none := by
  unfold stepR; rw [h]; rfl
theorem mrunR_bad (xs : List IOp) : ∀ (n j : Nat) (s : Int × IOp), (∃ i : Nat, j ≤ i ∧ i < j + n ∧ mayR xs (i : Int) (xs.getD i (dat0 11)) = false) → (mrun (stepR xs) n j s).1 = true
  | 0, j, s, ⟨i, h1, h2, _⟩ => by omega
  | n + 1, j, s, ⟨i, h1, h2, h3⟩ => by
    unfold mrun
    cases hs : stepR xs j s with
    | none => rfl
    | some s' =>
      have hne : i ≠ j := fun e => by subst e; rw [stepR_may h3] at hs; cases hs
      exact mrunR_bad xs n (j + 1) s' ⟨i, by omega, by omega, h3⟩
theorem mrunP_eq (xs : List IOp) : ∀ (n j : Nat), (mrun (stepP xs) n j ()).1 = true ↔ ∃ i : Nat, j ≤ i ∧ i < j + n ∧ mayR xs (i : Int) (xs.getD i (dat0 11)) = false
  | 0, j => by
    constructor
    · intro h; cases h
    · intro ⟨i, h1, h2, _⟩; omega
  | n + 1, j => by
    unfold mrun
    have ih := mrunP_eq xs n (j + 1)
    cases hb : mayR xs (j : Int) (xs.getD j (dat0 11)) with
    | false =>
      have hs : stepP xs j () = none := by unfold stepP; rw [step_eq, hb]; rfl
      rw [hs]
      exact ⟨fun _ => ⟨j, Nat.le_refl _, by omega, hb⟩, fun _ => rfl⟩
    | true =>
      have hs : stepP xs j () = some () := by unfold stepP; rw [step_eq, hb]; rfl
      rw [hs]
      refine ih.trans ⟨fun ⟨i, h1, h2, h3⟩ => ⟨i, by omega, by omega, h3⟩, fun ⟨i, h1, h2, h3⟩ => ⟨i, ?_, by omega, h3⟩⟩
      have hne : i ≠ j := fun e => by subst e; rw [hb] at h3; cases h3
      omega
def Mst (s : Int × IOp) (l : List IOp) : Bool := if s.1 = 0 then M0 l else if s.1 = 1 then M1 s.2 l else M2 l
def stepO (o : IOp) (s : Int × IOp) : Option (Int × IOp) := if isLx o = true then (if (s.1 != 0) = true then none else some (1, o)) else if isSx o = true then (if unlike s.1 s.2 o = true then none else some (2, s.2)) else if andB (s.1 == 1) (!pureR o.Kind) = true then none else some s
def in3 (s : Int × IOp) : Prop := s.1 = 0 ∨ s.1 = 1 ∨ s.1 = 2
theorem stepO_in {o : IOp} {s s' : Int × IOp} (h : stepO o s = some s') (hs : in3 s) : in3 s' := by
  unfold stepO at h
  repeat' (first | (cases h; done) | split at h)
  all_goals (simp only [Option.some.injEq] at h; subst h)
  · exact .inr (.inl rfl)
  · exact .inr (.inr rfl)
  · exact hs
theorem Mst_none {o : IOp} {s : Int × IOp} {r : List IOp} (h : stepO o s = none) (hs : in3 s) : Mst s (o :: r) = false := by
  obtain ⟨st, x⟩ := s
  unfold stepO at h
  rcases hs with hs | hs | hs <;> (have hs : st = _ := hs; subst hs)
  · show (if isLx o = true then M1 o r else if isSx o = true then false else M0 r) = false
    cases h9 : isLx o with
    | true => rw [h9] at h; cases h
    | false =>
      rw [h9] at h
      cases h10 : isSx o with
      | true => rfl
      | false => rw [h10] at h; cases h
  · show (if isLx o = true then false else if isSx o = true then (if unlike 1 x o = true then false else M2 r) else if (!pureR o.Kind) = true then false else M1 x r) = false
    cases h9 : isLx o with
    | true => rfl
    | false =>
      rw [h9] at h
      cases h10 : isSx o with
      | true =>
        rw [h10] at h
        cases hu : unlike 1 x o with
        | true => rfl
        | false =>
          have h' : (if unlike 1 x o = true then none else some ((2 : Int), x)) = none := h
          rw [hu] at h'; cases h'
      | false =>
        rw [h10] at h
        cases hp : pureR o.Kind with
        | false => rfl
        | true =>
          have h' : (if andB ((1 : Int) == 1) (!pureR o.Kind) = true then none else some ((1 : Int), x)) = none := h
          rw [hp] at h'; cases h'
  · show (if isLx o = true then false else if isSx o = true then false else M2 r) = false
    cases h9 : isLx o with
    | true => rfl
    | false =>
      rw [h9] at h
      cases h10 : isSx o with
      | true => rfl
      | false => rw [h10] at h; cases h
theorem Mst_some {o : IOp} {s s' : Int × IOp} {r : List IOp} (h : stepO o s = some s') (hs : in3 s) : Mst s (o :: r) = Mst s' r := by
  obtain ⟨st, x⟩ := s
  unfold stepO at h
  rcases hs with hs | hs | hs <;> (have hs : st = _ := hs; subst hs)
  · show (if isLx o = true then M1 o r else if isSx o = true then false else M0 r) = _
    cases h9 : isLx o with
    | true => rw [h9] at h; cases h; rfl
    | false =>
      rw [h9] at h
      cases h10 : isSx o with
      | true => rw [h10] at h; cases h
      | false => rw [h10] at h; cases h; rfl
  · show (if isLx o = true then false else if isSx o = true then (if unlike 1 x o = true then false else M2 r) else if (!pureR o.Kind) = true then false else M1 x r) = _
    cases h9 : isLx o with
    | true => rw [h9] at h; cases h
    | false =>
      rw [h9] at h
      cases h10 : isSx o with
      | true =>
        rw [h10] at h
        have h' : (if unlike 1 x o = true then none else some ((2 : Int), x)) = some s' := h
        cases hu : unlike 1 x o with
        | true => rw [hu] at h'; cases h'
        | false => rw [hu] at h'; cases h'; rfl
      | false =>
        rw [h10] at h
        have h' : (if andB ((1 : Int) == 1) (!pureR o.Kind) = true then none else some ((1 : Int), x)) = some s' := h
        cases hp : pureR o.Kind with
        | false => rw [hp] at h'; cases h'
        | true => rw [hp] at h'; cases h'; rfl
  · show (if isLx o = true then false else if isSx o = true then false else M2 r) = _
    cases h9 : isLx o with
    | true => rw [h9] at h; cases h
    | false =>
      rw [h9] at h
      cases h10 : isSx o with
      | true => rw [h10] at h; cases h
      | false => rw [h10] at h; cases h; rfl
theorem mach_eq (xs : List IOp) : ∀ (n j : Nat) (s : Int × IOp), j + n ≤ xs.length → (∀ i : Nat, j ≤ i → i < j + n → mayR xs (i : Int) (xs.getD i (dat0 11)) = true) → in3 s →
    (!(mrun (stepR xs) n j s).1 && !((mrun (stepR xs) n j s).2.2.1 == 1)) = Mst s ((xs.drop j).take n)
  | 0, j, s, hl, hm, hs => by
    obtain ⟨st, x⟩ := s
    simp only [List.take_zero, mrun]
    rcases hs with hs | hs | hs <;> (have hs : st = _ := hs; subst hs; rfl)
  | n + 1, j, s, hl, hm, hs => by
    have hj : j < xs.length := by omega
    have hseg : (xs.drop j).take (n + 1) = xs[j] :: (xs.drop (j + 1)).take n := by
      rw [List.drop_eq_getElem_cons hj, List.take_succ_cons]
    have hg : xs.getD j (dat0 11) = xs[j] := getD_at (t := 11) hj
    have hmj := hm j (Nat.le_refl _) (by omega)
    have hst : stepR xs j s = stepO xs[j] s := by
      unfold stepR
      rw [hmj, hg]; rfl
    rw [hseg]
    unfold mrun
    rw [hst]
    cases hso : stepO xs[j] s with
    | none => rw [Mst_none hso hs]; rfl
    | some s' => rw [Mst_some hso hs]; exact mach_eq xs n (j + 1) s' (by omega) (fun i h1 h2 => hm i (by omega) (by omega)) (stepO_in hso hs)
theorem endsP_eq (xs : List IOp) (ek ea : Int) (et el : BitVec 64) : endsP xs ek ea et el = endsR xs ek ea et el := by
  unfold endsP endsR
  rw [valP_eq]
/-- Both say alike which code may be. -/
theorem May_eq (xs : List IOp) (ek ea : Int) (et el : BitVec 64) : MayP xs ek ea et el = MayR xs ek ea et el := by
  unfold MayP MayR
  by_cases hl : (250 : Int) < (xs.length : Int)
  · rw [decide_eq_true hl]; rfl
  rw [decide_eq_false hl]
  simp only [Bool.false_eq_true, if_false]
  cases hb : (mrun (stepP xs) xs.length 0 ()).1 with
  | true =>
    have := mrunR_bad xs xs.length 0 (0, op0) ((mrunP_eq xs xs.length 0).1 hb)
    rw [this]; rfl
  | false =>
    have hall : ∀ i : Nat, 0 ≤ i → i < 0 + xs.length → mayR xs (i : Int) (xs.getD i (dat0 11)) = true := by
      intro i h1 h2
      cases hm : mayR xs (i : Int) (xs.getD i (dat0 11)) with
      | true => rfl
      | false => rw [(mrunP_eq xs xs.length 0).2 ⟨i, h1, h2, hm⟩] at hb; cases hb
    have hm := mach_eq xs xs.length 0 (0, op0) (by omega) hall (.inl rfl)
    have hp := pair0 xs (by omega) xs 0 rfl
    have hseg : (xs.drop 0).take xs.length = xs := by simp
    rw [hseg] at hm
    have hst : Mst (0, op0) xs = M0 xs := rfl
    have hz : (((0 : Nat) : Int)) = 0 := rfl
    rw [hst, ← hp, hz] at hm
    rw [← hm, endsP_eq, andB_eq]
    cases (mrun (stepR xs) xs.length 0 (0, op0)).1 with
    | true => rfl
    | false =>
      cases ((mrun (stepR xs) xs.length 0 (0, op0)).2.2.1 == 1) with
      | true => rfl
      | false => rfl
end Go.Proofs.YtcdnbdphakhilaaGreatDoor
