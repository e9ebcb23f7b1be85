/- Lemmas: each operation's word is read back, first part. No condition. -/
import Derived.Test.YtocfkaihfjbfnaaDoorWords
set_option linter.unusedVariables false
set_option linter.unusedSimpArgs false
set_option maxRecDepth 100000
namespace Go.Proofs.YtocfkaihfjbfnaaDoor
open Go.Proofs.YtocfkaihfjbfnaaDoor.Ev Go.RowKit
/- Plain: the words of operations (printed by decops.py). -/
set_option maxHeartbeats 1000000 in
theorem good_1 {w d n m a : Int} {imm : W64} {off cond r s : Int} (ho : IntKind.i64.has off) (h : mayA 1 w d n m a imm off cond r s = true) : Good 1 w d n m a imm off cond r s := by
  have f := may_facts h
  have hw : w = 8 := f.h8.resolve_left (by decide)
  have hI : imm.toNat < 4096 := of_decide_eq_true f.nums
  obtain ⟨D, eD, hD⟩ := nat_of (b := 31) f.d0
  obtain ⟨N, eN, hN⟩ := nat_of (b := 31) f.n0
  have eM : m = 0 := f.sM
  have eA : a = 0 := f.sA
  have eS : s = 0 := f.sS
  have eR : r = 0 := f.sR
  have eC : cond = 0 := f.sC
  have eO : off = 0 := f.sO
  clear f h
  subst hw eD eN eM eA eS eR eC  eO
  have E : (encP 1 8 D N 0 0 imm 0 0 0 0).toNat = 2432696320 + N * 2 ^ 5 + imm.toNat * 2 ^ 10 + D * 2 ^ 0 := by
    have ex : encP 1 8 D N 0 0 imm 0 0 0 0 = orF (baseW 1) [(N, 5, 5), (imm.toNat, 12, 10), (D, 5, 0)] := by
      show ((((baseW 1 ||| fieldW (N : Int) 5) ||| fieldW (0 : Int) 16) ||| fieldW (0 : Int) 10) ||| (fieldW (IntKind.i64.wrap (imm.toNat : Int)) 10)) ||| fieldW (D : Int) 0 = _
      rw [wrap_small (imm.toNat : Int) (by omega) (by omega)]
      try simp only [or0, ← BitVec.or_assoc]
      rfl
    rw [ex, orF_sum _ (baseW 1) (baseW 1) (BitVec.and_self ..) (by simp only [ltF, and_true] <;> omega) (by kernel_rfl), show (baseW 1).toNat = 2432696320 by kernel_rfl]
    simp only [sumF, Nat.reducePow, Nat.reduceMul, Nat.one_mul, Nat.zero_mul] <;> omega
  obtain ⟨Hz, Hde, Hnb, Hmt, Ha, Hf, Hu, Hw, Hl, Hi, Hg, Hj, Hk, Hc, Hr, Hh, Hs⟩ := hasAll (k := 1) (show _ = [false, true, true, false, false, false, false, false, false, true, false, false, false, false, false, false, false] by kernel_rfl)
  have A : (encR 1 8 D N 0 0 imm 0 0 0 0).setWidth 32 = encP 1 8 D N 0 0 imm 0 0 0 0 := by
    have T : (encR 1 8 D N 0 0 imm 0 0 0 0).toNat = 2432696320 + (D + N * 32 + 0 * 65536 + 0 * 1024 + 0 * 65536) + imm.toNat * 1024 := by
      simp only [encR, Hz, Ha, Hf, Hu, Hw, Hl, Hi, Hg, Hj, Hk, Hc, Hr, Hh, Hs, addIf_t, addIf_f]
      exact t_add (encR0_toNat D N 0 0 0 (B := 2432696320) (by kernel_rfl) (by omega) (by omega) (by omega) (by omega) (by omega) (by omega)) (t_mul (rfl : imm.toNat = imm.toNat) (t_lit 1024) (by omega)) (by omega)
    have hlt := (encP 1 8 D N 0 0 imm 0 0 0 0).isLt
    rw [E] at hlt
    apply BitVec.eq_of_toNat_eq
    rw [BitVec.toNat_setWidth, T, E, Nat.mod_eq_of_lt (by omega)] <;> omega
  refine ⟨A, ?_, ?_, ?_⟩ <;> clear A <;> generalize encP 1 8 D N 0 0 imm 0 0 0 0 = x at E ⊢
  · have hB : (bw 1).toNat = 2432696320 := by kernel_rfl
    exact near24 Hz Hj (by rw [hB, E] <;> omega)
  · intro α f
    have g25_4 : gt x 25 4 = 8 := gt_is E 25 4 (c := 8) (by omega)
    have hk8 : k8 x = true := by unfold k8; rw [g25_4]; rfl
    have hk5 : k5 x = false := by unfold k5; rw [g25_4]; rfl
    have hk6 : k6 x = false := by unfold k6; rw [g25_4]; rfl
    have g23_6 : gt x 23 6 = 34 := gt_is E 23 6 (c := 34) (by omega)
    have g29_2 : gt x 29 2 = 0 := gt_is E 29 2 (c := 0) (by omega)
    have hmO : mO x = 1 := by unfold mO; rw [g23_6, g29_2]; rfl
    have g5_5 : gt x 5 5 = N := gt_is E 5 5 (c := N) (by omega)
    have hmN : mN x = (N : Int) := by unfold mN; rw [g23_6, g5_5]; rfl
    have g10_12 : gt x 10 12 = (imm.toNat : Int) := gt_is E 10 12 (c := imm.toNat) (by omega)
    have hmI : mI x = imm := by unfold mI; rw [g23_6, g10_12]; exact ofInt_toNat imm
    have hmR : mR x = 0 := by unfold mR; rw [g23_6]; rfl
    have hmS : mS x = 0 := by unfold mS; rw [g23_6]; rfl
    have g0_5 : gt x 0 5 = D := gt_is E 0 5 (c := D) (by omega)
    simp only [onP, kk, hk8, hk5, hk6, if_true, if_false, Bool.false_eq_true, hmO, hmN, hmI, hmR, hmS, g0_5]
  · intro α f
    have g0_5 : gt x 0 5 = D := gt_is E 0 5 (c := D) (by omega)
    have g5_5 : gt x 5 5 = N := gt_is E 5 5 (c := N) (by omega)
    have htW : tW 1 x = 8 := by unfold tW; rw [Hz]; rfl
    have g10_12 : gt x 10 12 = (imm.toNat : Int) := gt_is E 10 12 (c := imm.toNat) (by omega)
    have htI : tI 1 x = imm := by unfold tI; simp only [Hf, Hu, Hw, Hl, Hi, if_true, if_false, Bool.false_eq_true]; rw [g10_12]; exact ofInt_toNat imm
    simp only [onT, htW, htI, Hde, Hnb, Hmt, Ha, Hg, Hj, Hk, Hc, Hr, Hh, Hs, if_true, if_false, Bool.false_eq_true, g0_5, g5_5]
set_option maxHeartbeats 1000000 in
theorem good_2 {w d n m a : Int} {imm : W64} {off cond r s : Int} (ho : IntKind.i64.has off) (h : mayA 2 w d n m a imm off cond r s = true) : Good 2 w d n m a imm off cond r s := by
  have f := may_facts h
  have hw : w = 8 := f.h8.resolve_left (by decide)
  have hI : imm.toNat < 4096 := of_decide_eq_true f.nums
  obtain ⟨D, eD, hD⟩ := nat_of (b := 31) f.d0
  obtain ⟨N, eN, hN⟩ := nat_of (b := 31) f.n0
  have eM : m = 0 := f.sM
  have eA : a = 0 := f.sA
  have eS : s = 0 := f.sS
  have eR : r = 0 := f.sR
  have eC : cond = 0 := f.sC
  have eO : off = 0 := f.sO
  clear f h
  subst hw eD eN eM eA eS eR eC  eO
  have E : (encP 2 8 D N 0 0 imm 0 0 0 0).toNat = 3506438144 + N * 2 ^ 5 + imm.toNat * 2 ^ 10 + D * 2 ^ 0 := by
    have ex : encP 2 8 D N 0 0 imm 0 0 0 0 = orF (baseW 2) [(N, 5, 5), (imm.toNat, 12, 10), (D, 5, 0)] := by
      show ((((baseW 2 ||| fieldW (N : Int) 5) ||| fieldW (0 : Int) 16) ||| fieldW (0 : Int) 10) ||| (fieldW (IntKind.i64.wrap (imm.toNat : Int)) 10)) ||| fieldW (D : Int) 0 = _
      rw [wrap_small (imm.toNat : Int) (by omega) (by omega)]
      try simp only [or0, ← BitVec.or_assoc]
      rfl
    rw [ex, orF_sum _ (baseW 2) (baseW 2) (BitVec.and_self ..) (by simp only [ltF, and_true] <;> omega) (by kernel_rfl), show (baseW 2).toNat = 3506438144 by kernel_rfl]
    simp only [sumF, Nat.reducePow, Nat.reduceMul, Nat.one_mul, Nat.zero_mul] <;> omega
  obtain ⟨Hz, Hde, Hnb, Hmt, Ha, Hf, Hu, Hw, Hl, Hi, Hg, Hj, Hk, Hc, Hr, Hh, Hs⟩ := hasAll (k := 2) (show _ = [false, true, true, false, false, false, false, false, false, true, false, false, false, false, false, false, false] by kernel_rfl)
  have A : (encR 2 8 D N 0 0 imm 0 0 0 0).setWidth 32 = encP 2 8 D N 0 0 imm 0 0 0 0 := by
    have T : (encR 2 8 D N 0 0 imm 0 0 0 0).toNat = 3506438144 + (D + N * 32 + 0 * 65536 + 0 * 1024 + 0 * 65536) + imm.toNat * 1024 := by
      simp only [encR, Hz, Ha, Hf, Hu, Hw, Hl, Hi, Hg, Hj, Hk, Hc, Hr, Hh, Hs, addIf_t, addIf_f]
      exact t_add (encR0_toNat D N 0 0 0 (B := 3506438144) (by kernel_rfl) (by omega) (by omega) (by omega) (by omega) (by omega) (by omega)) (t_mul (rfl : imm.toNat = imm.toNat) (t_lit 1024) (by omega)) (by omega)
    have hlt := (encP 2 8 D N 0 0 imm 0 0 0 0).isLt
    rw [E] at hlt
    apply BitVec.eq_of_toNat_eq
    rw [BitVec.toNat_setWidth, T, E, Nat.mod_eq_of_lt (by omega)] <;> omega
  refine ⟨A, ?_, ?_, ?_⟩ <;> clear A <;> generalize encP 2 8 D N 0 0 imm 0 0 0 0 = x at E ⊢
  · have hB : (bw 2).toNat = 3506438144 := by kernel_rfl
    exact near24 Hz Hj (by rw [hB, E] <;> omega)
  · intro α f
    have g25_4 : gt x 25 4 = 8 := gt_is E 25 4 (c := 8) (by omega)
    have hk8 : k8 x = true := by unfold k8; rw [g25_4]; rfl
    have hk5 : k5 x = false := by unfold k5; rw [g25_4]; rfl
    have hk6 : k6 x = false := by unfold k6; rw [g25_4]; rfl
    have g23_6 : gt x 23 6 = 34 := gt_is E 23 6 (c := 34) (by omega)
    have g29_2 : gt x 29 2 = 2 := gt_is E 29 2 (c := 2) (by omega)
    have hmO : mO x = 2 := by unfold mO; rw [g23_6, g29_2]; rfl
    have g5_5 : gt x 5 5 = N := gt_is E 5 5 (c := N) (by omega)
    have hmN : mN x = (N : Int) := by unfold mN; rw [g23_6, g5_5]; rfl
    have g10_12 : gt x 10 12 = (imm.toNat : Int) := gt_is E 10 12 (c := imm.toNat) (by omega)
    have hmI : mI x = imm := by unfold mI; rw [g23_6, g10_12]; exact ofInt_toNat imm
    have hmR : mR x = 0 := by unfold mR; rw [g23_6]; rfl
    have hmS : mS x = 0 := by unfold mS; rw [g23_6]; rfl
    have g0_5 : gt x 0 5 = D := gt_is E 0 5 (c := D) (by omega)
    simp only [onP, kk, hk8, hk5, hk6, if_true, if_false, Bool.false_eq_true, hmO, hmN, hmI, hmR, hmS, g0_5]
  · intro α f
    have g0_5 : gt x 0 5 = D := gt_is E 0 5 (c := D) (by omega)
    have g5_5 : gt x 5 5 = N := gt_is E 5 5 (c := N) (by omega)
    have htW : tW 2 x = 8 := by unfold tW; rw [Hz]; rfl
    have g10_12 : gt x 10 12 = (imm.toNat : Int) := gt_is E 10 12 (c := imm.toNat) (by omega)
    have htI : tI 2 x = imm := by unfold tI; simp only [Hf, Hu, Hw, Hl, Hi, if_true, if_false, Bool.false_eq_true]; rw [g10_12]; exact ofInt_toNat imm
    simp only [onT, htW, htI, Hde, Hnb, Hmt, Ha, Hg, Hj, Hk, Hc, Hr, Hh, Hs, if_true, if_false, Bool.false_eq_true, g0_5, g5_5]
set_option maxHeartbeats 1000000 in
theorem good_3 {w d n m a : Int} {imm : W64} {off cond r s : Int} (ho : IntKind.i64.has off) (h : mayA 3 w d n m a imm off cond r s = true) : Good 3 w d n m a imm off cond r s := by
  have f := may_facts h
  have hw : w = 8 := f.h8.resolve_left (by decide)
  have hI : imm.toNat < 4096 := of_decide_eq_true f.nums
  obtain ⟨D, eD, hD⟩ := nat_of (b := 31) f.d0
  obtain ⟨N, eN, hN⟩ := nat_of (b := 31) f.n0
  have eM : m = 0 := f.sM
  have eA : a = 0 := f.sA
  have eS : s = 0 := f.sS
  have eR : r = 0 := f.sR
  have eC : cond = 0 := f.sC
  have eO : off = 0 := f.sO
  clear f h
  subst hw eD eN eM eA eS eR eC  eO
  have E : (encP 3 8 D N 0 0 imm 0 0 0 0).toNat = 2969567232 + N * 2 ^ 5 + imm.toNat * 2 ^ 10 + D * 2 ^ 0 := by
    have ex : encP 3 8 D N 0 0 imm 0 0 0 0 = orF (baseW 3) [(N, 5, 5), (imm.toNat, 12, 10), (D, 5, 0)] := by
      show ((((baseW 3 ||| fieldW (N : Int) 5) ||| fieldW (0 : Int) 16) ||| fieldW (0 : Int) 10) ||| (fieldW (IntKind.i64.wrap (imm.toNat : Int)) 10)) ||| fieldW (D : Int) 0 = _
      rw [wrap_small (imm.toNat : Int) (by omega) (by omega)]
      try simp only [or0, ← BitVec.or_assoc]
      rfl
    rw [ex, orF_sum _ (baseW 3) (baseW 3) (BitVec.and_self ..) (by simp only [ltF, and_true] <;> omega) (by kernel_rfl), show (baseW 3).toNat = 2969567232 by kernel_rfl]
    simp only [sumF, Nat.reducePow, Nat.reduceMul, Nat.one_mul, Nat.zero_mul] <;> omega
  obtain ⟨Hz, Hde, Hnb, Hmt, Ha, Hf, Hu, Hw, Hl, Hi, Hg, Hj, Hk, Hc, Hr, Hh, Hs⟩ := hasAll (k := 3) (show _ = [false, true, true, false, false, false, false, false, false, true, false, false, false, false, false, false, false] by kernel_rfl)
  have A : (encR 3 8 D N 0 0 imm 0 0 0 0).setWidth 32 = encP 3 8 D N 0 0 imm 0 0 0 0 := by
    have T : (encR 3 8 D N 0 0 imm 0 0 0 0).toNat = 2969567232 + (D + N * 32 + 0 * 65536 + 0 * 1024 + 0 * 65536) + imm.toNat * 1024 := by
      simp only [encR, Hz, Ha, Hf, Hu, Hw, Hl, Hi, Hg, Hj, Hk, Hc, Hr, Hh, Hs, addIf_t, addIf_f]
      exact t_add (encR0_toNat D N 0 0 0 (B := 2969567232) (by kernel_rfl) (by omega) (by omega) (by omega) (by omega) (by omega) (by omega)) (t_mul (rfl : imm.toNat = imm.toNat) (t_lit 1024) (by omega)) (by omega)
    have hlt := (encP 3 8 D N 0 0 imm 0 0 0 0).isLt
    rw [E] at hlt
    apply BitVec.eq_of_toNat_eq
    rw [BitVec.toNat_setWidth, T, E, Nat.mod_eq_of_lt (by omega)] <;> omega
  refine ⟨A, ?_, ?_, ?_⟩ <;> clear A <;> generalize encP 3 8 D N 0 0 imm 0 0 0 0 = x at E ⊢
  · have hB : (bw 3).toNat = 2969567232 := by kernel_rfl
    exact near24 Hz Hj (by rw [hB, E] <;> omega)
  · intro α f
    have g25_4 : gt x 25 4 = 8 := gt_is E 25 4 (c := 8) (by omega)
    have hk8 : k8 x = true := by unfold k8; rw [g25_4]; rfl
    have hk5 : k5 x = false := by unfold k5; rw [g25_4]; rfl
    have hk6 : k6 x = false := by unfold k6; rw [g25_4]; rfl
    have g23_6 : gt x 23 6 = 34 := gt_is E 23 6 (c := 34) (by omega)
    have g29_2 : gt x 29 2 = 1 := gt_is E 29 2 (c := 1) (by omega)
    have hmO : mO x = 3 := by unfold mO; rw [g23_6, g29_2]; rfl
    have g5_5 : gt x 5 5 = N := gt_is E 5 5 (c := N) (by omega)
    have hmN : mN x = (N : Int) := by unfold mN; rw [g23_6, g5_5]; rfl
    have g10_12 : gt x 10 12 = (imm.toNat : Int) := gt_is E 10 12 (c := imm.toNat) (by omega)
    have hmI : mI x = imm := by unfold mI; rw [g23_6, g10_12]; exact ofInt_toNat imm
    have hmR : mR x = 0 := by unfold mR; rw [g23_6]; rfl
    have hmS : mS x = 0 := by unfold mS; rw [g23_6]; rfl
    have g0_5 : gt x 0 5 = D := gt_is E 0 5 (c := D) (by omega)
    simp only [onP, kk, hk8, hk5, hk6, if_true, if_false, Bool.false_eq_true, hmO, hmN, hmI, hmR, hmS, g0_5]
  · intro α f
    have g0_5 : gt x 0 5 = D := gt_is E 0 5 (c := D) (by omega)
    have g5_5 : gt x 5 5 = N := gt_is E 5 5 (c := N) (by omega)
    have htW : tW 3 x = 8 := by unfold tW; rw [Hz]; rfl
    have g10_12 : gt x 10 12 = (imm.toNat : Int) := gt_is E 10 12 (c := imm.toNat) (by omega)
    have htI : tI 3 x = imm := by unfold tI; simp only [Hf, Hu, Hw, Hl, Hi, if_true, if_false, Bool.false_eq_true]; rw [g10_12]; exact ofInt_toNat imm
    simp only [onT, htW, htI, Hde, Hnb, Hmt, Ha, Hg, Hj, Hk, Hc, Hr, Hh, Hs, if_true, if_false, Bool.false_eq_true, g0_5, g5_5]
set_option maxHeartbeats 1000000 in
theorem good_4 {w d n m a : Int} {imm : W64} {off cond r s : Int} (ho : IntKind.i64.has off) (h : mayA 4 w d n m a imm off cond r s = true) : Good 4 w d n m a imm off cond r s := by
  have f := may_facts h
  have hw : w = 8 := f.h8.resolve_left (by decide)
  have hI : imm.toNat < 4096 := of_decide_eq_true f.nums
  obtain ⟨D, eD, hD⟩ := nat_of (b := 31) f.d0
  obtain ⟨N, eN, hN⟩ := nat_of (b := 31) f.n0
  have eM : m = 0 := f.sM
  have eA : a = 0 := f.sA
  have eS : s = 0 := f.sS
  have eR : r = 0 := f.sR
  have eC : cond = 0 := f.sC
  have eO : off = 0 := f.sO
  clear f h
  subst hw eD eN eM eA eS eR eC  eO
  have E : (encP 4 8 D N 0 0 imm 0 0 0 0).toNat = 4043309056 + N * 2 ^ 5 + imm.toNat * 2 ^ 10 + D * 2 ^ 0 := by
    have ex : encP 4 8 D N 0 0 imm 0 0 0 0 = orF (baseW 4) [(N, 5, 5), (imm.toNat, 12, 10), (D, 5, 0)] := by
      show ((((baseW 4 ||| fieldW (N : Int) 5) ||| fieldW (0 : Int) 16) ||| fieldW (0 : Int) 10) ||| (fieldW (IntKind.i64.wrap (imm.toNat : Int)) 10)) ||| fieldW (D : Int) 0 = _
      rw [wrap_small (imm.toNat : Int) (by omega) (by omega)]
      try simp only [or0, ← BitVec.or_assoc]
      rfl
    rw [ex, orF_sum _ (baseW 4) (baseW 4) (BitVec.and_self ..) (by simp only [ltF, and_true] <;> omega) (by kernel_rfl), show (baseW 4).toNat = 4043309056 by kernel_rfl]
    simp only [sumF, Nat.reducePow, Nat.reduceMul, Nat.one_mul, Nat.zero_mul] <;> omega
  obtain ⟨Hz, Hde, Hnb, Hmt, Ha, Hf, Hu, Hw, Hl, Hi, Hg, Hj, Hk, Hc, Hr, Hh, Hs⟩ := hasAll (k := 4) (show _ = [false, true, true, false, false, false, false, false, false, true, false, false, false, false, false, false, false] by kernel_rfl)
  have A : (encR 4 8 D N 0 0 imm 0 0 0 0).setWidth 32 = encP 4 8 D N 0 0 imm 0 0 0 0 := by
    have T : (encR 4 8 D N 0 0 imm 0 0 0 0).toNat = 4043309056 + (D + N * 32 + 0 * 65536 + 0 * 1024 + 0 * 65536) + imm.toNat * 1024 := by
      simp only [encR, Hz, Ha, Hf, Hu, Hw, Hl, Hi, Hg, Hj, Hk, Hc, Hr, Hh, Hs, addIf_t, addIf_f]
      exact t_add (encR0_toNat D N 0 0 0 (B := 4043309056) (by kernel_rfl) (by omega) (by omega) (by omega) (by omega) (by omega) (by omega)) (t_mul (rfl : imm.toNat = imm.toNat) (t_lit 1024) (by omega)) (by omega)
    have hlt := (encP 4 8 D N 0 0 imm 0 0 0 0).isLt
    rw [E] at hlt
    apply BitVec.eq_of_toNat_eq
    rw [BitVec.toNat_setWidth, T, E, Nat.mod_eq_of_lt (by omega)] <;> omega
  refine ⟨A, ?_, ?_, ?_⟩ <;> clear A <;> generalize encP 4 8 D N 0 0 imm 0 0 0 0 = x at E ⊢
  · have hB : (bw 4).toNat = 4043309056 := by kernel_rfl
    exact near24 Hz Hj (by rw [hB, E] <;> omega)
  · intro α f
    have g25_4 : gt x 25 4 = 8 := gt_is E 25 4 (c := 8) (by omega)
    have hk8 : k8 x = true := by unfold k8; rw [g25_4]; rfl
    have hk5 : k5 x = false := by unfold k5; rw [g25_4]; rfl
    have hk6 : k6 x = false := by unfold k6; rw [g25_4]; rfl
    have g23_6 : gt x 23 6 = 34 := gt_is E 23 6 (c := 34) (by omega)
    have g29_2 : gt x 29 2 = 3 := gt_is E 29 2 (c := 3) (by omega)
    have hmO : mO x = 4 := by unfold mO; rw [g23_6, g29_2]; rfl
    have g5_5 : gt x 5 5 = N := gt_is E 5 5 (c := N) (by omega)
    have hmN : mN x = (N : Int) := by unfold mN; rw [g23_6, g5_5]; rfl
    have g10_12 : gt x 10 12 = (imm.toNat : Int) := gt_is E 10 12 (c := imm.toNat) (by omega)
    have hmI : mI x = imm := by unfold mI; rw [g23_6, g10_12]; exact ofInt_toNat imm
    have hmR : mR x = 0 := by unfold mR; rw [g23_6]; rfl
    have hmS : mS x = 0 := by unfold mS; rw [g23_6]; rfl
    have g0_5 : gt x 0 5 = D := gt_is E 0 5 (c := D) (by omega)
    simp only [onP, kk, hk8, hk5, hk6, if_true, if_false, Bool.false_eq_true, hmO, hmN, hmI, hmR, hmS, g0_5]
  · intro α f
    have g0_5 : gt x 0 5 = D := gt_is E 0 5 (c := D) (by omega)
    have g5_5 : gt x 5 5 = N := gt_is E 5 5 (c := N) (by omega)
    have htW : tW 4 x = 8 := by unfold tW; rw [Hz]; rfl
    have g10_12 : gt x 10 12 = (imm.toNat : Int) := gt_is E 10 12 (c := imm.toNat) (by omega)
    have htI : tI 4 x = imm := by unfold tI; simp only [Hf, Hu, Hw, Hl, Hi, if_true, if_false, Bool.false_eq_true]; rw [g10_12]; exact ofInt_toNat imm
    simp only [onT, htW, htI, Hde, Hnb, Hmt, Ha, Hg, Hj, Hk, Hc, Hr, Hh, Hs, if_true, if_false, Bool.false_eq_true, g0_5, g5_5]
set_option maxHeartbeats 1000000 in
theorem good_5 {w d n m a : Int} {imm : W64} {off cond r s : Int} (ho : IntKind.i64.has off) (h : mayA 5 w d n m a imm off cond r s = true) : Good 5 w d n m a imm off cond r s := by
  have f := may_facts h
  have hw : w = 8 := f.h8.resolve_left (by decide)
  obtain ⟨D, eD, hD⟩ := nat_of (b := 31) f.d0
  obtain ⟨N, eN, hN⟩ := nat_of (b := 31) f.n0
  obtain ⟨M, eM, hM⟩ := nat_of (b := 31) f.m0
  have eA : a = 0 := f.sA
  obtain ⟨S, eS, hS⟩ := nat_of (b := 63) f.s0
  have eR : r = 0 := f.sR
  have eC : cond = 0 := f.sC
  have eI : imm = 0#64 := f.sI
  have eO : off = 0 := f.sO
  clear f h
  subst hw eD eN eM eA eS eR eC eI eO
  have E : (encP 5 8 D N M 0 0#64 0 0 0 S).toNat = 2332033024 + N * 2 ^ 5 + M * 2 ^ 16 + S * 2 ^ 10 + D * 2 ^ 0 := by
    have ex : encP 5 8 D N M 0 0#64 0 0 0 S = orF (baseW 5) [(N, 5, 5), (M, 5, 16), (S, 6, 10), (D, 5, 0)] := by
      show ((((baseW 5 ||| fieldW (N : Int) 5) ||| fieldW (M : Int) 16) ||| fieldW (0 : Int) 10) ||| (fieldW (S : Int) 10 ||| fieldW (0 : Int) 16)) ||| fieldW (D : Int) 0 = _
      try simp only [or0, ← BitVec.or_assoc]
      rfl
    rw [ex, orF_sum _ (baseW 5) (baseW 5) (BitVec.and_self ..) (by simp only [ltF, and_true] <;> omega) (by kernel_rfl), show (baseW 5).toNat = 2332033024 by kernel_rfl]
    simp only [sumF, Nat.reducePow, Nat.reduceMul, Nat.one_mul, Nat.zero_mul] <;> omega
  obtain ⟨Hz, Hde, Hnb, Hmt, Ha, Hf, Hu, Hw, Hl, Hi, Hg, Hj, Hk, Hc, Hr, Hh, Hs⟩ := hasAll (k := 5) (show _ = [false, true, true, true, false, false, false, false, false, false, false, false, false, false, false, false, true] by kernel_rfl)
  have A : (encR 5 8 D N M 0 0#64 0 0 0 S).setWidth 32 = encP 5 8 D N M 0 0#64 0 0 0 S := by
    have T : (encR 5 8 D N M 0 0#64 0 0 0 S).toNat = 2332033024 + (D + N * 32 + M * 65536 + 0 * 1024 + 0 * 65536) + S * 1024 := by
      simp only [encR, Hz, Ha, Hf, Hu, Hw, Hl, Hi, Hg, Hj, Hk, Hc, Hr, Hh, Hs, addIf_t, addIf_f]
      exact t_add (encR0_toNat D N M 0 0 (B := 2332033024) (by kernel_rfl) (by omega) (by omega) (by omega) (by omega) (by omega) (by omega)) (t_mul (t_ofI S (by omega)) (t_lit 1024) (by omega)) (by omega)
    have hlt := (encP 5 8 D N M 0 0#64 0 0 0 S).isLt
    rw [E] at hlt
    apply BitVec.eq_of_toNat_eq
    rw [BitVec.toNat_setWidth, T, E, Nat.mod_eq_of_lt (by omega)] <;> omega
  refine ⟨A, ?_, ?_, ?_⟩ <;> clear A <;> generalize encP 5 8 D N M 0 0#64 0 0 0 S = x at E ⊢
  · have hB : (bw 5).toNat = 2332033024 := by kernel_rfl
    exact near24 Hz Hj (by rw [hB, E] <;> omega)
  · intro α f
    have g25_4 : gt x 25 4 = 5 := gt_is E 25 4 (c := 5) (by omega)
    have hk8 : k8 x = false := by unfold k8; rw [g25_4]; rfl
    have hk5 : k5 x = true := by unfold k5; rw [g25_4]; rfl
    have hk6 : k6 x = false := by unfold k6; rw [g25_4]; rfl
    have g24_5 : gt x 24 5 = 11 := gt_is E 24 5 (c := 11) (by omega)
    have g0_5 : gt x 0 5 = D := gt_is E 0 5 (c := D) (by omega)
    have g5_5 : gt x 5 5 = N := gt_is E 5 5 (c := N) (by omega)
    have g16_5 : gt x 16 5 = M := gt_is E 16 5 (c := M) (by omega)
    have g29_2 : gt x 29 2 = 0 := gt_is E 29 2 (c := 0) (by omega)
    have hrO : rO x = 5 := by unfold rO; rw [g24_5, g29_2]; rfl
    have hrA : rA x = 0 := by unfold rA; rw [g24_5]; rfl
    have hrC : rC x = 0 := by unfold rC k4; rw [g24_5]; rfl
    have g10_6 : gt x 10 6 = S := gt_is E 10 6 (c := S) (by omega)
    have hrS : rS x = (S : Int) := by unfold rS k4; rw [g24_5, g10_6]; rfl
    simp only [onP, kk, hk8, hk5, hk6, if_true, if_false, Bool.false_eq_true, hrO, hrA, hrC, hrS, g0_5, g5_5, g16_5]
  · intro α f
    have g0_5 : gt x 0 5 = D := gt_is E 0 5 (c := D) (by omega)
    have g5_5 : gt x 5 5 = N := gt_is E 5 5 (c := N) (by omega)
    have g16_5 : gt x 16 5 = M := gt_is E 16 5 (c := M) (by omega)
    have g10_6 : gt x 10 6 = S := gt_is E 10 6 (c := S) (by omega)
    have htW : tW 5 x = 8 := by unfold tW; rw [Hz]; rfl
    have htI : tI 5 x = 0#64 := by unfold tI; simp only [Hf, Hu, Hw, Hl, Hi, if_true, if_false, Bool.false_eq_true]
    simp only [onT, htW, htI, Hde, Hnb, Hmt, Ha, Hg, Hj, Hk, Hc, Hr, Hh, Hs, if_true, if_false, Bool.false_eq_true, g0_5, g5_5, g16_5, g10_6]
set_option maxHeartbeats 1000000 in
theorem good_6 {w d n m a : Int} {imm : W64} {off cond r s : Int} (ho : IntKind.i64.has off) (h : mayA 6 w d n m a imm off cond r s = true) : Good 6 w d n m a imm off cond r s := by
  have f := may_facts h
  have hw : w = 8 := f.h8.resolve_left (by decide)
  obtain ⟨D, eD, hD⟩ := nat_of (b := 31) f.d0
  obtain ⟨N, eN, hN⟩ := nat_of (b := 31) f.n0
  obtain ⟨M, eM, hM⟩ := nat_of (b := 31) f.m0
  have eA : a = 0 := f.sA
  obtain ⟨S, eS, hS⟩ := nat_of (b := 63) f.s0
  have eR : r = 0 := f.sR
  have eC : cond = 0 := f.sC
  have eI : imm = 0#64 := f.sI
  have eO : off = 0 := f.sO
  clear f h
  subst hw eD eN eM eA eS eR eC eI eO
  have E : (encP 6 8 D N M 0 0#64 0 0 0 S).toNat = 3405774848 + N * 2 ^ 5 + M * 2 ^ 16 + S * 2 ^ 10 + D * 2 ^ 0 := by
    have ex : encP 6 8 D N M 0 0#64 0 0 0 S = orF (baseW 6) [(N, 5, 5), (M, 5, 16), (S, 6, 10), (D, 5, 0)] := by
      show ((((baseW 6 ||| fieldW (N : Int) 5) ||| fieldW (M : Int) 16) ||| fieldW (0 : Int) 10) ||| (fieldW (S : Int) 10 ||| fieldW (0 : Int) 16)) ||| fieldW (D : Int) 0 = _
      try simp only [or0, ← BitVec.or_assoc]
      rfl
    rw [ex, orF_sum _ (baseW 6) (baseW 6) (BitVec.and_self ..) (by simp only [ltF, and_true] <;> omega) (by kernel_rfl), show (baseW 6).toNat = 3405774848 by kernel_rfl]
    simp only [sumF, Nat.reducePow, Nat.reduceMul, Nat.one_mul, Nat.zero_mul] <;> omega
  obtain ⟨Hz, Hde, Hnb, Hmt, Ha, Hf, Hu, Hw, Hl, Hi, Hg, Hj, Hk, Hc, Hr, Hh, Hs⟩ := hasAll (k := 6) (show _ = [false, true, true, true, false, false, false, false, false, false, false, false, false, false, false, false, true] by kernel_rfl)
  have A : (encR 6 8 D N M 0 0#64 0 0 0 S).setWidth 32 = encP 6 8 D N M 0 0#64 0 0 0 S := by
    have T : (encR 6 8 D N M 0 0#64 0 0 0 S).toNat = 3405774848 + (D + N * 32 + M * 65536 + 0 * 1024 + 0 * 65536) + S * 1024 := by
      simp only [encR, Hz, Ha, Hf, Hu, Hw, Hl, Hi, Hg, Hj, Hk, Hc, Hr, Hh, Hs, addIf_t, addIf_f]
      exact t_add (encR0_toNat D N M 0 0 (B := 3405774848) (by kernel_rfl) (by omega) (by omega) (by omega) (by omega) (by omega) (by omega)) (t_mul (t_ofI S (by omega)) (t_lit 1024) (by omega)) (by omega)
    have hlt := (encP 6 8 D N M 0 0#64 0 0 0 S).isLt
    rw [E] at hlt
    apply BitVec.eq_of_toNat_eq
    rw [BitVec.toNat_setWidth, T, E, Nat.mod_eq_of_lt (by omega)] <;> omega
  refine ⟨A, ?_, ?_, ?_⟩ <;> clear A <;> generalize encP 6 8 D N M 0 0#64 0 0 0 S = x at E ⊢
  · have hB : (bw 6).toNat = 3405774848 := by kernel_rfl
    exact near24 Hz Hj (by rw [hB, E] <;> omega)
  · intro α f
    have g25_4 : gt x 25 4 = 5 := gt_is E 25 4 (c := 5) (by omega)
    have hk8 : k8 x = false := by unfold k8; rw [g25_4]; rfl
    have hk5 : k5 x = true := by unfold k5; rw [g25_4]; rfl
    have hk6 : k6 x = false := by unfold k6; rw [g25_4]; rfl
    have g24_5 : gt x 24 5 = 11 := gt_is E 24 5 (c := 11) (by omega)
    have g0_5 : gt x 0 5 = D := gt_is E 0 5 (c := D) (by omega)
    have g5_5 : gt x 5 5 = N := gt_is E 5 5 (c := N) (by omega)
    have g16_5 : gt x 16 5 = M := gt_is E 16 5 (c := M) (by omega)
    have g29_2 : gt x 29 2 = 2 := gt_is E 29 2 (c := 2) (by omega)
    have hrO : rO x = 6 := by unfold rO; rw [g24_5, g29_2]; rfl
    have hrA : rA x = 0 := by unfold rA; rw [g24_5]; rfl
    have hrC : rC x = 0 := by unfold rC k4; rw [g24_5]; rfl
    have g10_6 : gt x 10 6 = S := gt_is E 10 6 (c := S) (by omega)
    have hrS : rS x = (S : Int) := by unfold rS k4; rw [g24_5, g10_6]; rfl
    simp only [onP, kk, hk8, hk5, hk6, if_true, if_false, Bool.false_eq_true, hrO, hrA, hrC, hrS, g0_5, g5_5, g16_5]
  · intro α f
    have g0_5 : gt x 0 5 = D := gt_is E 0 5 (c := D) (by omega)
    have g5_5 : gt x 5 5 = N := gt_is E 5 5 (c := N) (by omega)
    have g16_5 : gt x 16 5 = M := gt_is E 16 5 (c := M) (by omega)
    have g10_6 : gt x 10 6 = S := gt_is E 10 6 (c := S) (by omega)
    have htW : tW 6 x = 8 := by unfold tW; rw [Hz]; rfl
    have htI : tI 6 x = 0#64 := by unfold tI; simp only [Hf, Hu, Hw, Hl, Hi, if_true, if_false, Bool.false_eq_true]
    simp only [onT, htW, htI, Hde, Hnb, Hmt, Ha, Hg, Hj, Hk, Hc, Hr, Hh, Hs, if_true, if_false, Bool.false_eq_true, g0_5, g5_5, g16_5, g10_6]
set_option maxHeartbeats 1000000 in
theorem good_7 {w d n m a : Int} {imm : W64} {off cond r s : Int} (ho : IntKind.i64.has off) (h : mayA 7 w d n m a imm off cond r s = true) : Good 7 w d n m a imm off cond r s := by
  have f := may_facts h
  have hw : w = 8 := f.h8.resolve_left (by decide)
  obtain ⟨D, eD, hD⟩ := nat_of (b := 31) f.d0
  obtain ⟨N, eN, hN⟩ := nat_of (b := 31) f.n0
  obtain ⟨M, eM, hM⟩ := nat_of (b := 31) f.m0
  have eA : a = 0 := f.sA
  obtain ⟨S, eS, hS⟩ := nat_of (b := 63) f.s0
  have eR : r = 0 := f.sR
  have eC : cond = 0 := f.sC
  have eI : imm = 0#64 := f.sI
  have eO : off = 0 := f.sO
  clear f h
  subst hw eD eN eM eA eS eR eC eI eO
  have E : (encP 7 8 D N M 0 0#64 0 0 0 S).toNat = 2868903936 + N * 2 ^ 5 + M * 2 ^ 16 + S * 2 ^ 10 + D * 2 ^ 0 := by
    have ex : encP 7 8 D N M 0 0#64 0 0 0 S = orF (baseW 7) [(N, 5, 5), (M, 5, 16), (S, 6, 10), (D, 5, 0)] := by
      show ((((baseW 7 ||| fieldW (N : Int) 5) ||| fieldW (M : Int) 16) ||| fieldW (0 : Int) 10) ||| (fieldW (S : Int) 10 ||| fieldW (0 : Int) 16)) ||| fieldW (D : Int) 0 = _
      try simp only [or0, ← BitVec.or_assoc]
      rfl
    rw [ex, orF_sum _ (baseW 7) (baseW 7) (BitVec.and_self ..) (by simp only [ltF, and_true] <;> omega) (by kernel_rfl), show (baseW 7).toNat = 2868903936 by kernel_rfl]
    simp only [sumF, Nat.reducePow, Nat.reduceMul, Nat.one_mul, Nat.zero_mul] <;> omega
  obtain ⟨Hz, Hde, Hnb, Hmt, Ha, Hf, Hu, Hw, Hl, Hi, Hg, Hj, Hk, Hc, Hr, Hh, Hs⟩ := hasAll (k := 7) (show _ = [false, true, true, true, false, false, false, false, false, false, false, false, false, false, false, false, true] by kernel_rfl)
  have A : (encR 7 8 D N M 0 0#64 0 0 0 S).setWidth 32 = encP 7 8 D N M 0 0#64 0 0 0 S := by
    have T : (encR 7 8 D N M 0 0#64 0 0 0 S).toNat = 2868903936 + (D + N * 32 + M * 65536 + 0 * 1024 + 0 * 65536) + S * 1024 := by
      simp only [encR, Hz, Ha, Hf, Hu, Hw, Hl, Hi, Hg, Hj, Hk, Hc, Hr, Hh, Hs, addIf_t, addIf_f]
      exact t_add (encR0_toNat D N M 0 0 (B := 2868903936) (by kernel_rfl) (by omega) (by omega) (by omega) (by omega) (by omega) (by omega)) (t_mul (t_ofI S (by omega)) (t_lit 1024) (by omega)) (by omega)
    have hlt := (encP 7 8 D N M 0 0#64 0 0 0 S).isLt
    rw [E] at hlt
    apply BitVec.eq_of_toNat_eq
    rw [BitVec.toNat_setWidth, T, E, Nat.mod_eq_of_lt (by omega)] <;> omega
  refine ⟨A, ?_, ?_, ?_⟩ <;> clear A <;> generalize encP 7 8 D N M 0 0#64 0 0 0 S = x at E ⊢
  · have hB : (bw 7).toNat = 2868903936 := by kernel_rfl
    exact near24 Hz Hj (by rw [hB, E] <;> omega)
  · intro α f
    have g25_4 : gt x 25 4 = 5 := gt_is E 25 4 (c := 5) (by omega)
    have hk8 : k8 x = false := by unfold k8; rw [g25_4]; rfl
    have hk5 : k5 x = true := by unfold k5; rw [g25_4]; rfl
    have hk6 : k6 x = false := by unfold k6; rw [g25_4]; rfl
    have g24_5 : gt x 24 5 = 11 := gt_is E 24 5 (c := 11) (by omega)
    have g0_5 : gt x 0 5 = D := gt_is E 0 5 (c := D) (by omega)
    have g5_5 : gt x 5 5 = N := gt_is E 5 5 (c := N) (by omega)
    have g16_5 : gt x 16 5 = M := gt_is E 16 5 (c := M) (by omega)
    have g29_2 : gt x 29 2 = 1 := gt_is E 29 2 (c := 1) (by omega)
    have hrO : rO x = 7 := by unfold rO; rw [g24_5, g29_2]; rfl
    have hrA : rA x = 0 := by unfold rA; rw [g24_5]; rfl
    have hrC : rC x = 0 := by unfold rC k4; rw [g24_5]; rfl
    have g10_6 : gt x 10 6 = S := gt_is E 10 6 (c := S) (by omega)
    have hrS : rS x = (S : Int) := by unfold rS k4; rw [g24_5, g10_6]; rfl
    simp only [onP, kk, hk8, hk5, hk6, if_true, if_false, Bool.false_eq_true, hrO, hrA, hrC, hrS, g0_5, g5_5, g16_5]
  · intro α f
    have g0_5 : gt x 0 5 = D := gt_is E 0 5 (c := D) (by omega)
    have g5_5 : gt x 5 5 = N := gt_is E 5 5 (c := N) (by omega)
    have g16_5 : gt x 16 5 = M := gt_is E 16 5 (c := M) (by omega)
    have g10_6 : gt x 10 6 = S := gt_is E 10 6 (c := S) (by omega)
    have htW : tW 7 x = 8 := by unfold tW; rw [Hz]; rfl
    have htI : tI 7 x = 0#64 := by unfold tI; simp only [Hf, Hu, Hw, Hl, Hi, if_true, if_false, Bool.false_eq_true]
    simp only [onT, htW, htI, Hde, Hnb, Hmt, Ha, Hg, Hj, Hk, Hc, Hr, Hh, Hs, if_true, if_false, Bool.false_eq_true, g0_5, g5_5, g16_5, g10_6]
set_option maxHeartbeats 1000000 in
theorem good_8 {w d n m a : Int} {imm : W64} {off cond r s : Int} (ho : IntKind.i64.has off) (h : mayA 8 w d n m a imm off cond r s = true) : Good 8 w d n m a imm off cond r s := by
  have f := may_facts h
  have hw : w = 8 := f.h8.resolve_left (by decide)
  obtain ⟨D, eD, hD⟩ := nat_of (b := 31) f.d0
  obtain ⟨N, eN, hN⟩ := nat_of (b := 31) f.n0
  obtain ⟨M, eM, hM⟩ := nat_of (b := 31) f.m0
  have eA : a = 0 := f.sA
  obtain ⟨S, eS, hS⟩ := nat_of (b := 63) f.s0
  have eR : r = 0 := f.sR
  have eC : cond = 0 := f.sC
  have eI : imm = 0#64 := f.sI
  have eO : off = 0 := f.sO
  clear f h
  subst hw eD eN eM eA eS eR eC eI eO
  have E : (encP 8 8 D N M 0 0#64 0 0 0 S).toNat = 3942645760 + N * 2 ^ 5 + M * 2 ^ 16 + S * 2 ^ 10 + D * 2 ^ 0 := by
    have ex : encP 8 8 D N M 0 0#64 0 0 0 S = orF (baseW 8) [(N, 5, 5), (M, 5, 16), (S, 6, 10), (D, 5, 0)] := by
      show ((((baseW 8 ||| fieldW (N : Int) 5) ||| fieldW (M : Int) 16) ||| fieldW (0 : Int) 10) ||| (fieldW (S : Int) 10 ||| fieldW (0 : Int) 16)) ||| fieldW (D : Int) 0 = _
      try simp only [or0, ← BitVec.or_assoc]
      rfl
    rw [ex, orF_sum _ (baseW 8) (baseW 8) (BitVec.and_self ..) (by simp only [ltF, and_true] <;> omega) (by kernel_rfl), show (baseW 8).toNat = 3942645760 by kernel_rfl]
    simp only [sumF, Nat.reducePow, Nat.reduceMul, Nat.one_mul, Nat.zero_mul] <;> omega
  obtain ⟨Hz, Hde, Hnb, Hmt, Ha, Hf, Hu, Hw, Hl, Hi, Hg, Hj, Hk, Hc, Hr, Hh, Hs⟩ := hasAll (k := 8) (show _ = [false, true, true, true, false, false, false, false, false, false, false, false, false, false, false, false, true] by kernel_rfl)
  have A : (encR 8 8 D N M 0 0#64 0 0 0 S).setWidth 32 = encP 8 8 D N M 0 0#64 0 0 0 S := by
    have T : (encR 8 8 D N M 0 0#64 0 0 0 S).toNat = 3942645760 + (D + N * 32 + M * 65536 + 0 * 1024 + 0 * 65536) + S * 1024 := by
      simp only [encR, Hz, Ha, Hf, Hu, Hw, Hl, Hi, Hg, Hj, Hk, Hc, Hr, Hh, Hs, addIf_t, addIf_f]
      exact t_add (encR0_toNat D N M 0 0 (B := 3942645760) (by kernel_rfl) (by omega) (by omega) (by omega) (by omega) (by omega) (by omega)) (t_mul (t_ofI S (by omega)) (t_lit 1024) (by omega)) (by omega)
    have hlt := (encP 8 8 D N M 0 0#64 0 0 0 S).isLt
    rw [E] at hlt
    apply BitVec.eq_of_toNat_eq
    rw [BitVec.toNat_setWidth, T, E, Nat.mod_eq_of_lt (by omega)] <;> omega
  refine ⟨A, ?_, ?_, ?_⟩ <;> clear A <;> generalize encP 8 8 D N M 0 0#64 0 0 0 S = x at E ⊢
  · have hB : (bw 8).toNat = 3942645760 := by kernel_rfl
    exact near24 Hz Hj (by rw [hB, E] <;> omega)
  · intro α f
    have g25_4 : gt x 25 4 = 5 := gt_is E 25 4 (c := 5) (by omega)
    have hk8 : k8 x = false := by unfold k8; rw [g25_4]; rfl
    have hk5 : k5 x = true := by unfold k5; rw [g25_4]; rfl
    have hk6 : k6 x = false := by unfold k6; rw [g25_4]; rfl
    have g24_5 : gt x 24 5 = 11 := gt_is E 24 5 (c := 11) (by omega)
    have g0_5 : gt x 0 5 = D := gt_is E 0 5 (c := D) (by omega)
    have g5_5 : gt x 5 5 = N := gt_is E 5 5 (c := N) (by omega)
    have g16_5 : gt x 16 5 = M := gt_is E 16 5 (c := M) (by omega)
    have g29_2 : gt x 29 2 = 3 := gt_is E 29 2 (c := 3) (by omega)
    have hrO : rO x = 8 := by unfold rO; rw [g24_5, g29_2]; rfl
    have hrA : rA x = 0 := by unfold rA; rw [g24_5]; rfl
    have hrC : rC x = 0 := by unfold rC k4; rw [g24_5]; rfl
    have g10_6 : gt x 10 6 = S := gt_is E 10 6 (c := S) (by omega)
    have hrS : rS x = (S : Int) := by unfold rS k4; rw [g24_5, g10_6]; rfl
    simp only [onP, kk, hk8, hk5, hk6, if_true, if_false, Bool.false_eq_true, hrO, hrA, hrC, hrS, g0_5, g5_5, g16_5]
  · intro α f
    have g0_5 : gt x 0 5 = D := gt_is E 0 5 (c := D) (by omega)
    have g5_5 : gt x 5 5 = N := gt_is E 5 5 (c := N) (by omega)
    have g16_5 : gt x 16 5 = M := gt_is E 16 5 (c := M) (by omega)
    have g10_6 : gt x 10 6 = S := gt_is E 10 6 (c := S) (by omega)
    have htW : tW 8 x = 8 := by unfold tW; rw [Hz]; rfl
    have htI : tI 8 x = 0#64 := by unfold tI; simp only [Hf, Hu, Hw, Hl, Hi, if_true, if_false, Bool.false_eq_true]
    simp only [onT, htW, htI, Hde, Hnb, Hmt, Ha, Hg, Hj, Hk, Hc, Hr, Hh, Hs, if_true, if_false, Bool.false_eq_true, g0_5, g5_5, g16_5, g10_6]
end Go.Proofs.YtocfkaihfjbfnaaDoor
set_option maxRecDepth 100000
namespace Go.Proofs.YtocfkaihfjbfnaaDoor
open Go.Proofs.YtocfkaihfjbfnaaDoor.Ev Go.RowKit
/- Plain: the words of operations (printed by decops.py). -/
set_option maxHeartbeats 1000000 in
theorem good_9 {w d n m a : Int} {imm : W64} {off cond r s : Int} (ho : IntKind.i64.has off) (h : mayA 9 w d n m a imm off cond r s = true) : Good 9 w d n m a imm off cond r s := by
  have f := may_facts h
  have hw : w = 8 := f.h8.resolve_left (by decide)
  obtain ⟨D, eD, hD⟩ := nat_of (b := 31) f.d0
  obtain ⟨N, eN, hN⟩ := nat_of (b := 31) f.n0
  obtain ⟨M, eM, hM⟩ := nat_of (b := 31) f.m0
  have eA : a = 0 := f.sA
  obtain ⟨S, eS, hS⟩ := nat_of (b := 63) f.s0
  have eR : r = 0 := f.sR
  have eC : cond = 0 := f.sC
  have eI : imm = 0#64 := f.sI
  have eO : off = 0 := f.sO
  clear f h
  subst hw eD eN eM eA eS eR eC eI eO
  have E : (encP 9 8 D N M 0 0#64 0 0 0 S).toNat = 2315255808 + N * 2 ^ 5 + M * 2 ^ 16 + S * 2 ^ 10 + D * 2 ^ 0 := by
    have ex : encP 9 8 D N M 0 0#64 0 0 0 S = orF (baseW 9) [(N, 5, 5), (M, 5, 16), (S, 6, 10), (D, 5, 0)] := by
      show ((((baseW 9 ||| fieldW (N : Int) 5) ||| fieldW (M : Int) 16) ||| fieldW (0 : Int) 10) ||| (fieldW (S : Int) 10 ||| fieldW (0 : Int) 16)) ||| fieldW (D : Int) 0 = _
      try simp only [or0, ← BitVec.or_assoc]
      rfl
    rw [ex, orF_sum _ (baseW 9) (baseW 9) (BitVec.and_self ..) (by simp only [ltF, and_true] <;> omega) (by kernel_rfl), show (baseW 9).toNat = 2315255808 by kernel_rfl]
    simp only [sumF, Nat.reducePow, Nat.reduceMul, Nat.one_mul, Nat.zero_mul] <;> omega
  obtain ⟨Hz, Hde, Hnb, Hmt, Ha, Hf, Hu, Hw, Hl, Hi, Hg, Hj, Hk, Hc, Hr, Hh, Hs⟩ := hasAll (k := 9) (show _ = [false, true, true, true, false, false, false, false, false, false, false, false, false, false, false, false, true] by kernel_rfl)
  have A : (encR 9 8 D N M 0 0#64 0 0 0 S).setWidth 32 = encP 9 8 D N M 0 0#64 0 0 0 S := by
    have T : (encR 9 8 D N M 0 0#64 0 0 0 S).toNat = 2315255808 + (D + N * 32 + M * 65536 + 0 * 1024 + 0 * 65536) + S * 1024 := by
      simp only [encR, Hz, Ha, Hf, Hu, Hw, Hl, Hi, Hg, Hj, Hk, Hc, Hr, Hh, Hs, addIf_t, addIf_f]
      exact t_add (encR0_toNat D N M 0 0 (B := 2315255808) (by kernel_rfl) (by omega) (by omega) (by omega) (by omega) (by omega) (by omega)) (t_mul (t_ofI S (by omega)) (t_lit 1024) (by omega)) (by omega)
    have hlt := (encP 9 8 D N M 0 0#64 0 0 0 S).isLt
    rw [E] at hlt
    apply BitVec.eq_of_toNat_eq
    rw [BitVec.toNat_setWidth, T, E, Nat.mod_eq_of_lt (by omega)] <;> omega
  refine ⟨A, ?_, ?_, ?_⟩ <;> clear A <;> generalize encP 9 8 D N M 0 0#64 0 0 0 S = x at E ⊢
  · have hB : (bw 9).toNat = 2315255808 := by kernel_rfl
    exact near24 Hz Hj (by rw [hB, E] <;> omega)
  · intro α f
    have g25_4 : gt x 25 4 = 5 := gt_is E 25 4 (c := 5) (by omega)
    have hk8 : k8 x = false := by unfold k8; rw [g25_4]; rfl
    have hk5 : k5 x = true := by unfold k5; rw [g25_4]; rfl
    have hk6 : k6 x = false := by unfold k6; rw [g25_4]; rfl
    have g24_5 : gt x 24 5 = 10 := gt_is E 24 5 (c := 10) (by omega)
    have g0_5 : gt x 0 5 = D := gt_is E 0 5 (c := D) (by omega)
    have g5_5 : gt x 5 5 = N := gt_is E 5 5 (c := N) (by omega)
    have g16_5 : gt x 16 5 = M := gt_is E 16 5 (c := M) (by omega)
    have g29_2 : gt x 29 2 = 0 := gt_is E 29 2 (c := 0) (by omega)
    have hrO : rO x = 9 := by unfold rO; rw [g24_5, g29_2]; rfl
    have hrA : rA x = 0 := by unfold rA; rw [g24_5]; rfl
    have hrC : rC x = 0 := by unfold rC k4; rw [g24_5]; rfl
    have g10_6 : gt x 10 6 = S := gt_is E 10 6 (c := S) (by omega)
    have hrS : rS x = (S : Int) := by unfold rS k4; rw [g24_5, g10_6]; rfl
    simp only [onP, kk, hk8, hk5, hk6, if_true, if_false, Bool.false_eq_true, hrO, hrA, hrC, hrS, g0_5, g5_5, g16_5]
  · intro α f
    have g0_5 : gt x 0 5 = D := gt_is E 0 5 (c := D) (by omega)
    have g5_5 : gt x 5 5 = N := gt_is E 5 5 (c := N) (by omega)
    have g16_5 : gt x 16 5 = M := gt_is E 16 5 (c := M) (by omega)
    have g10_6 : gt x 10 6 = S := gt_is E 10 6 (c := S) (by omega)
    have htW : tW 9 x = 8 := by unfold tW; rw [Hz]; rfl
    have htI : tI 9 x = 0#64 := by unfold tI; simp only [Hf, Hu, Hw, Hl, Hi, if_true, if_false, Bool.false_eq_true]
    simp only [onT, htW, htI, Hde, Hnb, Hmt, Ha, Hg, Hj, Hk, Hc, Hr, Hh, Hs, if_true, if_false, Bool.false_eq_true, g0_5, g5_5, g16_5, g10_6]
set_option maxHeartbeats 1000000 in
theorem good_10 {w d n m a : Int} {imm : W64} {off cond r s : Int} (ho : IntKind.i64.has off) (h : mayA 10 w d n m a imm off cond r s = true) : Good 10 w d n m a imm off cond r s := by
  have f := may_facts h
  have hw : w = 8 := f.h8.resolve_left (by decide)
  obtain ⟨D, eD, hD⟩ := nat_of (b := 31) f.d0
  obtain ⟨N, eN, hN⟩ := nat_of (b := 31) f.n0
  obtain ⟨M, eM, hM⟩ := nat_of (b := 31) f.m0
  have eA : a = 0 := f.sA
  obtain ⟨S, eS, hS⟩ := nat_of (b := 63) f.s0
  have eR : r = 0 := f.sR
  have eC : cond = 0 := f.sC
  have eI : imm = 0#64 := f.sI
  have eO : off = 0 := f.sO
  clear f h
  subst hw eD eN eM eA eS eR eC eI eO
  have E : (encP 10 8 D N M 0 0#64 0 0 0 S).toNat = 2852126720 + N * 2 ^ 5 + M * 2 ^ 16 + S * 2 ^ 10 + D * 2 ^ 0 := by
    have ex : encP 10 8 D N M 0 0#64 0 0 0 S = orF (baseW 10) [(N, 5, 5), (M, 5, 16), (S, 6, 10), (D, 5, 0)] := by
      show ((((baseW 10 ||| fieldW (N : Int) 5) ||| fieldW (M : Int) 16) ||| fieldW (0 : Int) 10) ||| (fieldW (S : Int) 10 ||| fieldW (0 : Int) 16)) ||| fieldW (D : Int) 0 = _
      try simp only [or0, ← BitVec.or_assoc]
      rfl
    rw [ex, orF_sum _ (baseW 10) (baseW 10) (BitVec.and_self ..) (by simp only [ltF, and_true] <;> omega) (by kernel_rfl), show (baseW 10).toNat = 2852126720 by kernel_rfl]
    simp only [sumF, Nat.reducePow, Nat.reduceMul, Nat.one_mul, Nat.zero_mul] <;> omega
  obtain ⟨Hz, Hde, Hnb, Hmt, Ha, Hf, Hu, Hw, Hl, Hi, Hg, Hj, Hk, Hc, Hr, Hh, Hs⟩ := hasAll (k := 10) (show _ = [false, true, true, true, false, false, false, false, false, false, false, false, false, false, false, false, true] by kernel_rfl)
  have A : (encR 10 8 D N M 0 0#64 0 0 0 S).setWidth 32 = encP 10 8 D N M 0 0#64 0 0 0 S := by
    have T : (encR 10 8 D N M 0 0#64 0 0 0 S).toNat = 2852126720 + (D + N * 32 + M * 65536 + 0 * 1024 + 0 * 65536) + S * 1024 := by
      simp only [encR, Hz, Ha, Hf, Hu, Hw, Hl, Hi, Hg, Hj, Hk, Hc, Hr, Hh, Hs, addIf_t, addIf_f]
      exact t_add (encR0_toNat D N M 0 0 (B := 2852126720) (by kernel_rfl) (by omega) (by omega) (by omega) (by omega) (by omega) (by omega)) (t_mul (t_ofI S (by omega)) (t_lit 1024) (by omega)) (by omega)
    have hlt := (encP 10 8 D N M 0 0#64 0 0 0 S).isLt
    rw [E] at hlt
    apply BitVec.eq_of_toNat_eq
    rw [BitVec.toNat_setWidth, T, E, Nat.mod_eq_of_lt (by omega)] <;> omega
  refine ⟨A, ?_, ?_, ?_⟩ <;> clear A <;> generalize encP 10 8 D N M 0 0#64 0 0 0 S = x at E ⊢
  · have hB : (bw 10).toNat = 2852126720 := by kernel_rfl
    exact near24 Hz Hj (by rw [hB, E] <;> omega)
  · intro α f
    have g25_4 : gt x 25 4 = 5 := gt_is E 25 4 (c := 5) (by omega)
    have hk8 : k8 x = false := by unfold k8; rw [g25_4]; rfl
    have hk5 : k5 x = true := by unfold k5; rw [g25_4]; rfl
    have hk6 : k6 x = false := by unfold k6; rw [g25_4]; rfl
    have g24_5 : gt x 24 5 = 10 := gt_is E 24 5 (c := 10) (by omega)
    have g0_5 : gt x 0 5 = D := gt_is E 0 5 (c := D) (by omega)
    have g5_5 : gt x 5 5 = N := gt_is E 5 5 (c := N) (by omega)
    have g16_5 : gt x 16 5 = M := gt_is E 16 5 (c := M) (by omega)
    have g29_2 : gt x 29 2 = 1 := gt_is E 29 2 (c := 1) (by omega)
    have hrO : rO x = 10 := by unfold rO; rw [g24_5, g29_2]; rfl
    have hrA : rA x = 0 := by unfold rA; rw [g24_5]; rfl
    have hrC : rC x = 0 := by unfold rC k4; rw [g24_5]; rfl
    have g10_6 : gt x 10 6 = S := gt_is E 10 6 (c := S) (by omega)
    have hrS : rS x = (S : Int) := by unfold rS k4; rw [g24_5, g10_6]; rfl
    simp only [onP, kk, hk8, hk5, hk6, if_true, if_false, Bool.false_eq_true, hrO, hrA, hrC, hrS, g0_5, g5_5, g16_5]
  · intro α f
    have g0_5 : gt x 0 5 = D := gt_is E 0 5 (c := D) (by omega)
    have g5_5 : gt x 5 5 = N := gt_is E 5 5 (c := N) (by omega)
    have g16_5 : gt x 16 5 = M := gt_is E 16 5 (c := M) (by omega)
    have g10_6 : gt x 10 6 = S := gt_is E 10 6 (c := S) (by omega)
    have htW : tW 10 x = 8 := by unfold tW; rw [Hz]; rfl
    have htI : tI 10 x = 0#64 := by unfold tI; simp only [Hf, Hu, Hw, Hl, Hi, if_true, if_false, Bool.false_eq_true]
    simp only [onT, htW, htI, Hde, Hnb, Hmt, Ha, Hg, Hj, Hk, Hc, Hr, Hh, Hs, if_true, if_false, Bool.false_eq_true, g0_5, g5_5, g16_5, g10_6]
set_option maxHeartbeats 1000000 in
theorem good_11 {w d n m a : Int} {imm : W64} {off cond r s : Int} (ho : IntKind.i64.has off) (h : mayA 11 w d n m a imm off cond r s = true) : Good 11 w d n m a imm off cond r s := by
  have f := may_facts h
  have hw : w = 8 := f.h8.resolve_left (by decide)
  obtain ⟨D, eD, hD⟩ := nat_of (b := 31) f.d0
  obtain ⟨N, eN, hN⟩ := nat_of (b := 31) f.n0
  obtain ⟨M, eM, hM⟩ := nat_of (b := 31) f.m0
  have eA : a = 0 := f.sA
  obtain ⟨S, eS, hS⟩ := nat_of (b := 63) f.s0
  have eR : r = 0 := f.sR
  have eC : cond = 0 := f.sC
  have eI : imm = 0#64 := f.sI
  have eO : off = 0 := f.sO
  clear f h
  subst hw eD eN eM eA eS eR eC eI eO
  have E : (encP 11 8 D N M 0 0#64 0 0 0 S).toNat = 3388997632 + N * 2 ^ 5 + M * 2 ^ 16 + S * 2 ^ 10 + D * 2 ^ 0 := by
    have ex : encP 11 8 D N M 0 0#64 0 0 0 S = orF (baseW 11) [(N, 5, 5), (M, 5, 16), (S, 6, 10), (D, 5, 0)] := by
      show ((((baseW 11 ||| fieldW (N : Int) 5) ||| fieldW (M : Int) 16) ||| fieldW (0 : Int) 10) ||| (fieldW (S : Int) 10 ||| fieldW (0 : Int) 16)) ||| fieldW (D : Int) 0 = _
      try simp only [or0, ← BitVec.or_assoc]
      rfl
    rw [ex, orF_sum _ (baseW 11) (baseW 11) (BitVec.and_self ..) (by simp only [ltF, and_true] <;> omega) (by kernel_rfl), show (baseW 11).toNat = 3388997632 by kernel_rfl]
    simp only [sumF, Nat.reducePow, Nat.reduceMul, Nat.one_mul, Nat.zero_mul] <;> omega
  obtain ⟨Hz, Hde, Hnb, Hmt, Ha, Hf, Hu, Hw, Hl, Hi, Hg, Hj, Hk, Hc, Hr, Hh, Hs⟩ := hasAll (k := 11) (show _ = [false, true, true, true, false, false, false, false, false, false, false, false, false, false, false, false, true] by kernel_rfl)
  have A : (encR 11 8 D N M 0 0#64 0 0 0 S).setWidth 32 = encP 11 8 D N M 0 0#64 0 0 0 S := by
    have T : (encR 11 8 D N M 0 0#64 0 0 0 S).toNat = 3388997632 + (D + N * 32 + M * 65536 + 0 * 1024 + 0 * 65536) + S * 1024 := by
      simp only [encR, Hz, Ha, Hf, Hu, Hw, Hl, Hi, Hg, Hj, Hk, Hc, Hr, Hh, Hs, addIf_t, addIf_f]
      exact t_add (encR0_toNat D N M 0 0 (B := 3388997632) (by kernel_rfl) (by omega) (by omega) (by omega) (by omega) (by omega) (by omega)) (t_mul (t_ofI S (by omega)) (t_lit 1024) (by omega)) (by omega)
    have hlt := (encP 11 8 D N M 0 0#64 0 0 0 S).isLt
    rw [E] at hlt
    apply BitVec.eq_of_toNat_eq
    rw [BitVec.toNat_setWidth, T, E, Nat.mod_eq_of_lt (by omega)] <;> omega
  refine ⟨A, ?_, ?_, ?_⟩ <;> clear A <;> generalize encP 11 8 D N M 0 0#64 0 0 0 S = x at E ⊢
  · have hB : (bw 11).toNat = 3388997632 := by kernel_rfl
    exact near24 Hz Hj (by rw [hB, E] <;> omega)
  · intro α f
    have g25_4 : gt x 25 4 = 5 := gt_is E 25 4 (c := 5) (by omega)
    have hk8 : k8 x = false := by unfold k8; rw [g25_4]; rfl
    have hk5 : k5 x = true := by unfold k5; rw [g25_4]; rfl
    have hk6 : k6 x = false := by unfold k6; rw [g25_4]; rfl
    have g24_5 : gt x 24 5 = 10 := gt_is E 24 5 (c := 10) (by omega)
    have g0_5 : gt x 0 5 = D := gt_is E 0 5 (c := D) (by omega)
    have g5_5 : gt x 5 5 = N := gt_is E 5 5 (c := N) (by omega)
    have g16_5 : gt x 16 5 = M := gt_is E 16 5 (c := M) (by omega)
    have g29_2 : gt x 29 2 = 2 := gt_is E 29 2 (c := 2) (by omega)
    have hrO : rO x = 11 := by unfold rO; rw [g24_5, g29_2]; rfl
    have hrA : rA x = 0 := by unfold rA; rw [g24_5]; rfl
    have hrC : rC x = 0 := by unfold rC k4; rw [g24_5]; rfl
    have g10_6 : gt x 10 6 = S := gt_is E 10 6 (c := S) (by omega)
    have hrS : rS x = (S : Int) := by unfold rS k4; rw [g24_5, g10_6]; rfl
    simp only [onP, kk, hk8, hk5, hk6, if_true, if_false, Bool.false_eq_true, hrO, hrA, hrC, hrS, g0_5, g5_5, g16_5]
  · intro α f
    have g0_5 : gt x 0 5 = D := gt_is E 0 5 (c := D) (by omega)
    have g5_5 : gt x 5 5 = N := gt_is E 5 5 (c := N) (by omega)
    have g16_5 : gt x 16 5 = M := gt_is E 16 5 (c := M) (by omega)
    have g10_6 : gt x 10 6 = S := gt_is E 10 6 (c := S) (by omega)
    have htW : tW 11 x = 8 := by unfold tW; rw [Hz]; rfl
    have htI : tI 11 x = 0#64 := by unfold tI; simp only [Hf, Hu, Hw, Hl, Hi, if_true, if_false, Bool.false_eq_true]
    simp only [onT, htW, htI, Hde, Hnb, Hmt, Ha, Hg, Hj, Hk, Hc, Hr, Hh, Hs, if_true, if_false, Bool.false_eq_true, g0_5, g5_5, g16_5, g10_6]
set_option maxHeartbeats 1000000 in
theorem good_12 {w d n m a : Int} {imm : W64} {off cond r s : Int} (ho : IntKind.i64.has off) (h : mayA 12 w d n m a imm off cond r s = true) : Good 12 w d n m a imm off cond r s := by
  have f := may_facts h
  have hw : w = 8 := f.h8.resolve_left (by decide)
  obtain ⟨D, eD, hD⟩ := nat_of (b := 31) f.d0
  obtain ⟨N, eN, hN⟩ := nat_of (b := 31) f.n0
  obtain ⟨M, eM, hM⟩ := nat_of (b := 31) f.m0
  have eA : a = 0 := f.sA
  obtain ⟨S, eS, hS⟩ := nat_of (b := 63) f.s0
  have eR : r = 0 := f.sR
  have eC : cond = 0 := f.sC
  have eI : imm = 0#64 := f.sI
  have eO : off = 0 := f.sO
  clear f h
  subst hw eD eN eM eA eS eR eC eI eO
  have E : (encP 12 8 D N M 0 0#64 0 0 0 S).toNat = 3925868544 + N * 2 ^ 5 + M * 2 ^ 16 + S * 2 ^ 10 + D * 2 ^ 0 := by
    have ex : encP 12 8 D N M 0 0#64 0 0 0 S = orF (baseW 12) [(N, 5, 5), (M, 5, 16), (S, 6, 10), (D, 5, 0)] := by
      show ((((baseW 12 ||| fieldW (N : Int) 5) ||| fieldW (M : Int) 16) ||| fieldW (0 : Int) 10) ||| (fieldW (S : Int) 10 ||| fieldW (0 : Int) 16)) ||| fieldW (D : Int) 0 = _
      try simp only [or0, ← BitVec.or_assoc]
      rfl
    rw [ex, orF_sum _ (baseW 12) (baseW 12) (BitVec.and_self ..) (by simp only [ltF, and_true] <;> omega) (by kernel_rfl), show (baseW 12).toNat = 3925868544 by kernel_rfl]
    simp only [sumF, Nat.reducePow, Nat.reduceMul, Nat.one_mul, Nat.zero_mul] <;> omega
  obtain ⟨Hz, Hde, Hnb, Hmt, Ha, Hf, Hu, Hw, Hl, Hi, Hg, Hj, Hk, Hc, Hr, Hh, Hs⟩ := hasAll (k := 12) (show _ = [false, true, true, true, false, false, false, false, false, false, false, false, false, false, false, false, true] by kernel_rfl)
  have A : (encR 12 8 D N M 0 0#64 0 0 0 S).setWidth 32 = encP 12 8 D N M 0 0#64 0 0 0 S := by
    have T : (encR 12 8 D N M 0 0#64 0 0 0 S).toNat = 3925868544 + (D + N * 32 + M * 65536 + 0 * 1024 + 0 * 65536) + S * 1024 := by
      simp only [encR, Hz, Ha, Hf, Hu, Hw, Hl, Hi, Hg, Hj, Hk, Hc, Hr, Hh, Hs, addIf_t, addIf_f]
      exact t_add (encR0_toNat D N M 0 0 (B := 3925868544) (by kernel_rfl) (by omega) (by omega) (by omega) (by omega) (by omega) (by omega)) (t_mul (t_ofI S (by omega)) (t_lit 1024) (by omega)) (by omega)
    have hlt := (encP 12 8 D N M 0 0#64 0 0 0 S).isLt
    rw [E] at hlt
    apply BitVec.eq_of_toNat_eq
    rw [BitVec.toNat_setWidth, T, E, Nat.mod_eq_of_lt (by omega)] <;> omega
  refine ⟨A, ?_, ?_, ?_⟩ <;> clear A <;> generalize encP 12 8 D N M 0 0#64 0 0 0 S = x at E ⊢
  · have hB : (bw 12).toNat = 3925868544 := by kernel_rfl
    exact near24 Hz Hj (by rw [hB, E] <;> omega)
  · intro α f
    have g25_4 : gt x 25 4 = 5 := gt_is E 25 4 (c := 5) (by omega)
    have hk8 : k8 x = false := by unfold k8; rw [g25_4]; rfl
    have hk5 : k5 x = true := by unfold k5; rw [g25_4]; rfl
    have hk6 : k6 x = false := by unfold k6; rw [g25_4]; rfl
    have g24_5 : gt x 24 5 = 10 := gt_is E 24 5 (c := 10) (by omega)
    have g0_5 : gt x 0 5 = D := gt_is E 0 5 (c := D) (by omega)
    have g5_5 : gt x 5 5 = N := gt_is E 5 5 (c := N) (by omega)
    have g16_5 : gt x 16 5 = M := gt_is E 16 5 (c := M) (by omega)
    have g29_2 : gt x 29 2 = 3 := gt_is E 29 2 (c := 3) (by omega)
    have hrO : rO x = 12 := by unfold rO; rw [g24_5, g29_2]; rfl
    have hrA : rA x = 0 := by unfold rA; rw [g24_5]; rfl
    have hrC : rC x = 0 := by unfold rC k4; rw [g24_5]; rfl
    have g10_6 : gt x 10 6 = S := gt_is E 10 6 (c := S) (by omega)
    have hrS : rS x = (S : Int) := by unfold rS k4; rw [g24_5, g10_6]; rfl
    simp only [onP, kk, hk8, hk5, hk6, if_true, if_false, Bool.false_eq_true, hrO, hrA, hrC, hrS, g0_5, g5_5, g16_5]
  · intro α f
    have g0_5 : gt x 0 5 = D := gt_is E 0 5 (c := D) (by omega)
    have g5_5 : gt x 5 5 = N := gt_is E 5 5 (c := N) (by omega)
    have g16_5 : gt x 16 5 = M := gt_is E 16 5 (c := M) (by omega)
    have g10_6 : gt x 10 6 = S := gt_is E 10 6 (c := S) (by omega)
    have htW : tW 12 x = 8 := by unfold tW; rw [Hz]; rfl
    have htI : tI 12 x = 0#64 := by unfold tI; simp only [Hf, Hu, Hw, Hl, Hi, if_true, if_false, Bool.false_eq_true]
    simp only [onT, htW, htI, Hde, Hnb, Hmt, Ha, Hg, Hj, Hk, Hc, Hr, Hh, Hs, if_true, if_false, Bool.false_eq_true, g0_5, g5_5, g16_5, g10_6]
set_option maxHeartbeats 1000000 in
theorem good_13 {w d n m a : Int} {imm : W64} {off cond r s : Int} (ho : IntKind.i64.has off) (h : mayA 13 w d n m a imm off cond r s = true) : Good 13 w d n m a imm off cond r s := by
  have f := may_facts h
  have hw : w = 8 := f.h8.resolve_left (by decide)
  obtain ⟨b, eb, hb1, hb2⟩ := enc1_lt (v := imm) f.nums
  obtain ⟨D, eD, hD⟩ := nat_of (b := 31) f.d0
  obtain ⟨N, eN, hN⟩ := nat_of (b := 31) f.n0
  have eM : m = 0 := f.sM
  have eA : a = 0 := f.sA
  have eS : s = 0 := f.sS
  have eR : r = 0 := f.sR
  have eC : cond = 0 := f.sC
  have eO : off = 0 := f.sO
  clear f h
  subst hw eD eN eM eA eS eR eC  eO
  have E : (encP 13 8 D N 0 0 imm 0 0 0 0).toNat = 2449473536 + N * 2 ^ 5 + b.toNat * 2 ^ 10 + D * 2 ^ 0 := by
    have ex : encP 13 8 D N 0 0 imm 0 0 0 0 = orF (baseW 13) [(N, 5, 5), (b.toNat, 13, 10), (D, 5, 0)] := by
      show ((((baseW 13 ||| fieldW (N : Int) 5) ||| fieldW (0 : Int) 16) ||| fieldW (0 : Int) 10) ||| (enc1 imm <<< 10)) ||| fieldW (D : Int) 0 = _
      rw [eb, shl_field]
      try simp only [or0, ← BitVec.or_assoc]
      rfl
    rw [ex, orF_sum _ (baseW 13) (baseW 13) (BitVec.and_self ..) (by simp only [ltF, and_true] <;> omega) (by kernel_rfl), show (baseW 13).toNat = 2449473536 by kernel_rfl]
    simp only [sumF, Nat.reducePow, Nat.reduceMul, Nat.one_mul, Nat.zero_mul] <;> omega
  obtain ⟨Hz, Hde, Hnb, Hmt, Ha, Hf, Hu, Hw, Hl, Hi, Hg, Hj, Hk, Hc, Hr, Hh, Hs⟩ := hasAll (k := 13) (show _ = [false, true, true, false, false, false, false, false, true, false, false, false, false, false, false, false, false] by kernel_rfl)
  have A : (encR 13 8 D N 0 0 imm 0 0 0 0).setWidth 32 = encP 13 8 D N 0 0 imm 0 0 0 0 := by
    have T : (encR 13 8 D N 0 0 imm 0 0 0 0).toNat = 2449473536 + (D + N * 32 + 0 * 65536 + 0 * 1024 + 0 * 65536) + b.toNat * 1024 := by
      simp only [encR, Hz, Ha, Hf, Hu, Hw, Hl, Hi, Hg, Hj, Hk, Hc, Hr, Hh, Hs, addIf_t, addIf_f, eb]
      exact t_add (encR0_toNat D N 0 0 0 (B := 2449473536) (by kernel_rfl) (by omega) (by omega) (by omega) (by omega) (by omega) (by omega)) (t_mul (t_sw (x := b) rfl) (t_lit 1024) (by omega)) (by omega)
    have hlt := (encP 13 8 D N 0 0 imm 0 0 0 0).isLt
    rw [E] at hlt
    apply BitVec.eq_of_toNat_eq
    rw [BitVec.toNat_setWidth, T, E, Nat.mod_eq_of_lt (by omega)] <;> omega
  refine ⟨A, ?_, ?_, ?_⟩ <;> clear A <;> generalize encP 13 8 D N 0 0 imm 0 0 0 0 = x at E ⊢
  · have hB : (bw 13).toNat = 2449473536 := by kernel_rfl
    exact near23 Hz Hj (.inr Hl) (by rw [hB, E] <;> omega)
  · intro α f
    have g25_4 : gt x 25 4 = 9 := gt_is E 25 4 (c := 9) (by omega)
    have hk8 : k8 x = true := by unfold k8; rw [g25_4]; rfl
    have hk5 : k5 x = false := by unfold k5; rw [g25_4]; rfl
    have hk6 : k6 x = false := by unfold k6; rw [g25_4]; rfl
    have g23_6 : gt x 23 6 = 36 := gt_is E 23 6 (c := 36) (by omega)
    have g29_2 : gt x 29 2 = 0 := gt_is E 29 2 (c := 0) (by omega)
    have hmO : mO x = 13 := by unfold mO; rw [g23_6, g29_2]; rfl
    have g5_5 : gt x 5 5 = N := gt_is E 5 5 (c := N) (by omega)
    have hmN : mN x = (N : Int) := by unfold mN; rw [g23_6, g5_5]; rfl
    have g10_13 : gt x 10 13 = (b.toNat : Int) := gt_is E 10 13 (c := b.toNat) (by omega)
    have hmI : mI x = imm := by unfold mI; rw [g23_6, g10_13, ofInt_toNat]; exact hb1
    have hmR : mR x = 0 := by unfold mR; rw [g23_6]; rfl
    have hmS : mS x = 0 := by unfold mS; rw [g23_6]; rfl
    have g0_5 : gt x 0 5 = D := gt_is E 0 5 (c := D) (by omega)
    simp only [onP, kk, hk8, hk5, hk6, if_true, if_false, Bool.false_eq_true, hmO, hmN, hmI, hmR, hmS, g0_5]
  · intro α f
    have g0_5 : gt x 0 5 = D := gt_is E 0 5 (c := D) (by omega)
    have g5_5 : gt x 5 5 = N := gt_is E 5 5 (c := N) (by omega)
    have htW : tW 13 x = 8 := by unfold tW; rw [Hz]; rfl
    have g10_13 : gt x 10 13 = (b.toNat : Int) := gt_is E 10 13 (c := b.toNat) (by omega)
    have htI : tI 13 x = imm := by unfold tI; simp only [Hf, Hu, Hw, Hl, Hi, if_true, if_false, Bool.false_eq_true]; rw [g10_13, ofInt_toNat]; exact hb1
    simp only [onT, htW, htI, Hde, Hnb, Hmt, Ha, Hg, Hj, Hk, Hc, Hr, Hh, Hs, if_true, if_false, Bool.false_eq_true, g0_5, g5_5]
set_option maxHeartbeats 1000000 in
theorem good_14 {w d n m a : Int} {imm : W64} {off cond r s : Int} (ho : IntKind.i64.has off) (h : mayA 14 w d n m a imm off cond r s = true) : Good 14 w d n m a imm off cond r s := by
  have f := may_facts h
  have hw : w = 8 := f.h8.resolve_left (by decide)
  obtain ⟨b, eb, hb1, hb2⟩ := enc1_lt (v := imm) f.nums
  obtain ⟨D, eD, hD⟩ := nat_of (b := 31) f.d0
  obtain ⟨N, eN, hN⟩ := nat_of (b := 31) f.n0
  have eM : m = 0 := f.sM
  have eA : a = 0 := f.sA
  have eS : s = 0 := f.sS
  have eR : r = 0 := f.sR
  have eC : cond = 0 := f.sC
  have eO : off = 0 := f.sO
  clear f h
  subst hw eD eN eM eA eS eR eC  eO
  have E : (encP 14 8 D N 0 0 imm 0 0 0 0).toNat = 2986344448 + N * 2 ^ 5 + b.toNat * 2 ^ 10 + D * 2 ^ 0 := by
    have ex : encP 14 8 D N 0 0 imm 0 0 0 0 = orF (baseW 14) [(N, 5, 5), (b.toNat, 13, 10), (D, 5, 0)] := by
      show ((((baseW 14 ||| fieldW (N : Int) 5) ||| fieldW (0 : Int) 16) ||| fieldW (0 : Int) 10) ||| (enc1 imm <<< 10)) ||| fieldW (D : Int) 0 = _
      rw [eb, shl_field]
      try simp only [or0, ← BitVec.or_assoc]
      rfl
    rw [ex, orF_sum _ (baseW 14) (baseW 14) (BitVec.and_self ..) (by simp only [ltF, and_true] <;> omega) (by kernel_rfl), show (baseW 14).toNat = 2986344448 by kernel_rfl]
    simp only [sumF, Nat.reducePow, Nat.reduceMul, Nat.one_mul, Nat.zero_mul] <;> omega
  obtain ⟨Hz, Hde, Hnb, Hmt, Ha, Hf, Hu, Hw, Hl, Hi, Hg, Hj, Hk, Hc, Hr, Hh, Hs⟩ := hasAll (k := 14) (show _ = [false, true, true, false, false, false, false, false, true, false, false, false, false, false, false, false, false] by kernel_rfl)
  have A : (encR 14 8 D N 0 0 imm 0 0 0 0).setWidth 32 = encP 14 8 D N 0 0 imm 0 0 0 0 := by
    have T : (encR 14 8 D N 0 0 imm 0 0 0 0).toNat = 2986344448 + (D + N * 32 + 0 * 65536 + 0 * 1024 + 0 * 65536) + b.toNat * 1024 := by
      simp only [encR, Hz, Ha, Hf, Hu, Hw, Hl, Hi, Hg, Hj, Hk, Hc, Hr, Hh, Hs, addIf_t, addIf_f, eb]
      exact t_add (encR0_toNat D N 0 0 0 (B := 2986344448) (by kernel_rfl) (by omega) (by omega) (by omega) (by omega) (by omega) (by omega)) (t_mul (t_sw (x := b) rfl) (t_lit 1024) (by omega)) (by omega)
    have hlt := (encP 14 8 D N 0 0 imm 0 0 0 0).isLt
    rw [E] at hlt
    apply BitVec.eq_of_toNat_eq
    rw [BitVec.toNat_setWidth, T, E, Nat.mod_eq_of_lt (by omega)] <;> omega
  refine ⟨A, ?_, ?_, ?_⟩ <;> clear A <;> generalize encP 14 8 D N 0 0 imm 0 0 0 0 = x at E ⊢
  · have hB : (bw 14).toNat = 2986344448 := by kernel_rfl
    exact near23 Hz Hj (.inr Hl) (by rw [hB, E] <;> omega)
  · intro α f
    have g25_4 : gt x 25 4 = 9 := gt_is E 25 4 (c := 9) (by omega)
    have hk8 : k8 x = true := by unfold k8; rw [g25_4]; rfl
    have hk5 : k5 x = false := by unfold k5; rw [g25_4]; rfl
    have hk6 : k6 x = false := by unfold k6; rw [g25_4]; rfl
    have g23_6 : gt x 23 6 = 36 := gt_is E 23 6 (c := 36) (by omega)
    have g29_2 : gt x 29 2 = 1 := gt_is E 29 2 (c := 1) (by omega)
    have hmO : mO x = 14 := by unfold mO; rw [g23_6, g29_2]; rfl
    have g5_5 : gt x 5 5 = N := gt_is E 5 5 (c := N) (by omega)
    have hmN : mN x = (N : Int) := by unfold mN; rw [g23_6, g5_5]; rfl
    have g10_13 : gt x 10 13 = (b.toNat : Int) := gt_is E 10 13 (c := b.toNat) (by omega)
    have hmI : mI x = imm := by unfold mI; rw [g23_6, g10_13, ofInt_toNat]; exact hb1
    have hmR : mR x = 0 := by unfold mR; rw [g23_6]; rfl
    have hmS : mS x = 0 := by unfold mS; rw [g23_6]; rfl
    have g0_5 : gt x 0 5 = D := gt_is E 0 5 (c := D) (by omega)
    simp only [onP, kk, hk8, hk5, hk6, if_true, if_false, Bool.false_eq_true, hmO, hmN, hmI, hmR, hmS, g0_5]
  · intro α f
    have g0_5 : gt x 0 5 = D := gt_is E 0 5 (c := D) (by omega)
    have g5_5 : gt x 5 5 = N := gt_is E 5 5 (c := N) (by omega)
    have htW : tW 14 x = 8 := by unfold tW; rw [Hz]; rfl
    have g10_13 : gt x 10 13 = (b.toNat : Int) := gt_is E 10 13 (c := b.toNat) (by omega)
    have htI : tI 14 x = imm := by unfold tI; simp only [Hf, Hu, Hw, Hl, Hi, if_true, if_false, Bool.false_eq_true]; rw [g10_13, ofInt_toNat]; exact hb1
    simp only [onT, htW, htI, Hde, Hnb, Hmt, Ha, Hg, Hj, Hk, Hc, Hr, Hh, Hs, if_true, if_false, Bool.false_eq_true, g0_5, g5_5]
set_option maxHeartbeats 1000000 in
theorem good_15 {w d n m a : Int} {imm : W64} {off cond r s : Int} (ho : IntKind.i64.has off) (h : mayA 15 w d n m a imm off cond r s = true) : Good 15 w d n m a imm off cond r s := by
  have f := may_facts h
  have hw : w = 8 := f.h8.resolve_left (by decide)
  obtain ⟨b, eb, hb1, hb2⟩ := enc1_lt (v := imm) f.nums
  obtain ⟨D, eD, hD⟩ := nat_of (b := 31) f.d0
  obtain ⟨N, eN, hN⟩ := nat_of (b := 31) f.n0
  have eM : m = 0 := f.sM
  have eA : a = 0 := f.sA
  have eS : s = 0 := f.sS
  have eR : r = 0 := f.sR
  have eC : cond = 0 := f.sC
  have eO : off = 0 := f.sO
  clear f h
  subst hw eD eN eM eA eS eR eC  eO
  have E : (encP 15 8 D N 0 0 imm 0 0 0 0).toNat = 3523215360 + N * 2 ^ 5 + b.toNat * 2 ^ 10 + D * 2 ^ 0 := by
    have ex : encP 15 8 D N 0 0 imm 0 0 0 0 = orF (baseW 15) [(N, 5, 5), (b.toNat, 13, 10), (D, 5, 0)] := by
      show ((((baseW 15 ||| fieldW (N : Int) 5) ||| fieldW (0 : Int) 16) ||| fieldW (0 : Int) 10) ||| (enc1 imm <<< 10)) ||| fieldW (D : Int) 0 = _
      rw [eb, shl_field]
      try simp only [or0, ← BitVec.or_assoc]
      rfl
    rw [ex, orF_sum _ (baseW 15) (baseW 15) (BitVec.and_self ..) (by simp only [ltF, and_true] <;> omega) (by kernel_rfl), show (baseW 15).toNat = 3523215360 by kernel_rfl]
    simp only [sumF, Nat.reducePow, Nat.reduceMul, Nat.one_mul, Nat.zero_mul] <;> omega
  obtain ⟨Hz, Hde, Hnb, Hmt, Ha, Hf, Hu, Hw, Hl, Hi, Hg, Hj, Hk, Hc, Hr, Hh, Hs⟩ := hasAll (k := 15) (show _ = [false, true, true, false, false, false, false, false, true, false, false, false, false, false, false, false, false] by kernel_rfl)
  have A : (encR 15 8 D N 0 0 imm 0 0 0 0).setWidth 32 = encP 15 8 D N 0 0 imm 0 0 0 0 := by
    have T : (encR 15 8 D N 0 0 imm 0 0 0 0).toNat = 3523215360 + (D + N * 32 + 0 * 65536 + 0 * 1024 + 0 * 65536) + b.toNat * 1024 := by
      simp only [encR, Hz, Ha, Hf, Hu, Hw, Hl, Hi, Hg, Hj, Hk, Hc, Hr, Hh, Hs, addIf_t, addIf_f, eb]
      exact t_add (encR0_toNat D N 0 0 0 (B := 3523215360) (by kernel_rfl) (by omega) (by omega) (by omega) (by omega) (by omega) (by omega)) (t_mul (t_sw (x := b) rfl) (t_lit 1024) (by omega)) (by omega)
    have hlt := (encP 15 8 D N 0 0 imm 0 0 0 0).isLt
    rw [E] at hlt
    apply BitVec.eq_of_toNat_eq
    rw [BitVec.toNat_setWidth, T, E, Nat.mod_eq_of_lt (by omega)] <;> omega
  refine ⟨A, ?_, ?_, ?_⟩ <;> clear A <;> generalize encP 15 8 D N 0 0 imm 0 0 0 0 = x at E ⊢
  · have hB : (bw 15).toNat = 3523215360 := by kernel_rfl
    exact near23 Hz Hj (.inr Hl) (by rw [hB, E] <;> omega)
  · intro α f
    have g25_4 : gt x 25 4 = 9 := gt_is E 25 4 (c := 9) (by omega)
    have hk8 : k8 x = true := by unfold k8; rw [g25_4]; rfl
    have hk5 : k5 x = false := by unfold k5; rw [g25_4]; rfl
    have hk6 : k6 x = false := by unfold k6; rw [g25_4]; rfl
    have g23_6 : gt x 23 6 = 36 := gt_is E 23 6 (c := 36) (by omega)
    have g29_2 : gt x 29 2 = 2 := gt_is E 29 2 (c := 2) (by omega)
    have hmO : mO x = 15 := by unfold mO; rw [g23_6, g29_2]; rfl
    have g5_5 : gt x 5 5 = N := gt_is E 5 5 (c := N) (by omega)
    have hmN : mN x = (N : Int) := by unfold mN; rw [g23_6, g5_5]; rfl
    have g10_13 : gt x 10 13 = (b.toNat : Int) := gt_is E 10 13 (c := b.toNat) (by omega)
    have hmI : mI x = imm := by unfold mI; rw [g23_6, g10_13, ofInt_toNat]; exact hb1
    have hmR : mR x = 0 := by unfold mR; rw [g23_6]; rfl
    have hmS : mS x = 0 := by unfold mS; rw [g23_6]; rfl
    have g0_5 : gt x 0 5 = D := gt_is E 0 5 (c := D) (by omega)
    simp only [onP, kk, hk8, hk5, hk6, if_true, if_false, Bool.false_eq_true, hmO, hmN, hmI, hmR, hmS, g0_5]
  · intro α f
    have g0_5 : gt x 0 5 = D := gt_is E 0 5 (c := D) (by omega)
    have g5_5 : gt x 5 5 = N := gt_is E 5 5 (c := N) (by omega)
    have htW : tW 15 x = 8 := by unfold tW; rw [Hz]; rfl
    have g10_13 : gt x 10 13 = (b.toNat : Int) := gt_is E 10 13 (c := b.toNat) (by omega)
    have htI : tI 15 x = imm := by unfold tI; simp only [Hf, Hu, Hw, Hl, Hi, if_true, if_false, Bool.false_eq_true]; rw [g10_13, ofInt_toNat]; exact hb1
    simp only [onT, htW, htI, Hde, Hnb, Hmt, Ha, Hg, Hj, Hk, Hc, Hr, Hh, Hs, if_true, if_false, Bool.false_eq_true, g0_5, g5_5]
set_option maxHeartbeats 1000000 in
theorem good_16 {w d n m a : Int} {imm : W64} {off cond r s : Int} (ho : IntKind.i64.has off) (h : mayA 16 w d n m a imm off cond r s = true) : Good 16 w d n m a imm off cond r s := by
  have f := may_facts h
  have hw : w = 8 := f.h8.resolve_left (by decide)
  have hQ := f.nums
  simp [numsB, inB] at hQ
  have hI : imm.toNat < 65536 := hQ.1.1
  have hS3 : s ≤ 3 := hQ.2
  obtain ⟨D, eD, hD⟩ := nat_of (b := 31) f.d0
  have eN : n = 0 := f.sN
  have eM : m = 0 := f.sM
  have eA : a = 0 := f.sA
  obtain ⟨S, eS, hS⟩ := nat_of (b := 63) f.s0
  have eR : r = 0 := f.sR
  have eC : cond = 0 := f.sC
  have eO : off = 0 := f.sO
  clear f h
  subst hw eD eN eM eA eS eR eC  eO
  have hS3 : S ≤ 3 := by omega
  have E : (encP 16 8 D 0 0 0 imm 0 0 0 S).toNat = 3531603968 + imm.toNat * 2 ^ 5 + S * 2 ^ 21 + D * 2 ^ 0 := by
    have ex : encP 16 8 D 0 0 0 imm 0 0 0 S = orF (baseW 16) [(imm.toNat, 16, 5), (S, 2, 21), (D, 5, 0)] := by
      show ((((baseW 16 ||| fieldW (0 : Int) 5) ||| fieldW (0 : Int) 16) ||| fieldW (0 : Int) 10) ||| (fieldW (IntKind.i64.wrap (imm.toNat : Int)) 5 ||| fieldW (S : Int) 21)) ||| fieldW (D : Int) 0 = _
      rw [wrap_small (imm.toNat : Int) (by omega) (by omega)]
      try simp only [or0, ← BitVec.or_assoc]
      rfl
    rw [ex, orF_sum _ (baseW 16) (baseW 16) (BitVec.and_self ..) (by simp only [ltF, and_true] <;> omega) (by kernel_rfl), show (baseW 16).toNat = 3531603968 by kernel_rfl]
    simp only [sumF, Nat.reducePow, Nat.reduceMul, Nat.one_mul, Nat.zero_mul] <;> omega
  obtain ⟨Hz, Hde, Hnb, Hmt, Ha, Hf, Hu, Hw, Hl, Hi, Hg, Hj, Hk, Hc, Hr, Hh, Hs⟩ := hasAll (k := 16) (show _ = [false, true, false, false, false, false, false, true, false, false, false, false, false, false, false, true, false] by kernel_rfl)
  have A : (encR 16 8 D 0 0 0 imm 0 0 0 S).setWidth 32 = encP 16 8 D 0 0 0 imm 0 0 0 S := by
    have T : (encR 16 8 D 0 0 0 imm 0 0 0 S).toNat = 3531603968 + (D + 0 * 32 + 0 * 65536 + 0 * 1024 + 0 * 65536) + S * 2097152 + imm.toNat * 32 := by
      simp only [encR, Hz, Ha, Hf, Hu, Hw, Hl, Hi, Hg, Hj, Hk, Hc, Hr, Hh, Hs, addIf_t, addIf_f]
      exact t_add (t_add (encR0_toNat D 0 0 0 0 (B := 3531603968) (by kernel_rfl) (by omega) (by omega) (by omega) (by omega) (by omega) (by omega)) (t_mul (t_ofI S (by omega)) (t_lit 2097152) (by omega)) (by omega)) (t_mul (rfl : imm.toNat = imm.toNat) (t_lit 32) (by omega)) (by omega)
    have hlt := (encP 16 8 D 0 0 0 imm 0 0 0 S).isLt
    rw [E] at hlt
    apply BitVec.eq_of_toNat_eq
    rw [BitVec.toNat_setWidth, T, E, Nat.mod_eq_of_lt (by omega)] <;> omega
  refine ⟨A, ?_, ?_, ?_⟩ <;> clear A <;> generalize encP 16 8 D 0 0 0 imm 0 0 0 S = x at E ⊢
  · have hB : (bw 16).toNat = 3531603968 := by kernel_rfl
    exact near23 Hz Hj (.inl Hh) (by rw [hB, E] <;> omega)
  · intro α f
    have g25_4 : gt x 25 4 = 9 := gt_is E 25 4 (c := 9) (by omega)
    have hk8 : k8 x = true := by unfold k8; rw [g25_4]; rfl
    have hk5 : k5 x = false := by unfold k5; rw [g25_4]; rfl
    have hk6 : k6 x = false := by unfold k6; rw [g25_4]; rfl
    have g23_6 : gt x 23 6 = 37 := gt_is E 23 6 (c := 37) (by omega)
    have g29_2 : gt x 29 2 = 2 := gt_is E 29 2 (c := 2) (by omega)
    have hmO : mO x = 16 := by unfold mO; rw [g23_6, g29_2]; rfl
    have hmN : mN x = 0 := by unfold mN; rw [g23_6]; rfl
    have g5_16 : gt x 5 16 = (imm.toNat : Int) := gt_is E 5 16 (c := imm.toNat) (by omega)
    have hmI : mI x = imm := by unfold mI; rw [g23_6, g5_16]; exact ofInt_toNat imm
    have hmR : mR x = 0 := by unfold mR; rw [g23_6]; rfl
    have g21_2 : gt x 21 2 = S := gt_is E 21 2 (c := S) (by omega)
    have hmS : mS x = (S : Int) := by unfold mS; rw [g23_6, g21_2]; rfl
    have g0_5 : gt x 0 5 = D := gt_is E 0 5 (c := D) (by omega)
    simp only [onP, kk, hk8, hk5, hk6, if_true, if_false, Bool.false_eq_true, hmO, hmN, hmI, hmR, hmS, g0_5]
  · intro α f
    have g0_5 : gt x 0 5 = D := gt_is E 0 5 (c := D) (by omega)
    have g21_2 : gt x 21 2 = S := gt_is E 21 2 (c := S) (by omega)
    have htW : tW 16 x = 8 := by unfold tW; rw [Hz]; rfl
    have g5_16 : gt x 5 16 = (imm.toNat : Int) := gt_is E 5 16 (c := imm.toNat) (by omega)
    have htI : tI 16 x = imm := by unfold tI; simp only [Hf, Hu, Hw, Hl, Hi, if_true, if_false, Bool.false_eq_true]; rw [g5_16]; exact ofInt_toNat imm
    simp only [onT, htW, htI, Hde, Hnb, Hmt, Ha, Hg, Hj, Hk, Hc, Hr, Hh, Hs, if_true, if_false, Bool.false_eq_true, g0_5, g21_2]
end Go.Proofs.YtocfkaihfjbfnaaDoor
set_option maxRecDepth 100000
namespace Go.Proofs.YtocfkaihfjbfnaaDoor
open Go.Proofs.YtocfkaihfjbfnaaDoor.Ev Go.RowKit
/- Plain: the words of operations (printed by decops.py). -/
set_option maxHeartbeats 1000000 in
theorem good_17 {w d n m a : Int} {imm : W64} {off cond r s : Int} (ho : IntKind.i64.has off) (h : mayA 17 w d n m a imm off cond r s = true) : Good 17 w d n m a imm off cond r s := by
  have f := may_facts h
  have hw : w = 8 := f.h8.resolve_left (by decide)
  have hQ := f.nums
  simp [numsB, inB] at hQ
  have hI : imm.toNat < 65536 := hQ.1.1
  have hS3 : s ≤ 3 := hQ.2
  obtain ⟨D, eD, hD⟩ := nat_of (b := 31) f.d0
  have eN : n = 0 := f.sN
  have eM : m = 0 := f.sM
  have eA : a = 0 := f.sA
  obtain ⟨S, eS, hS⟩ := nat_of (b := 63) f.s0
  have eR : r = 0 := f.sR
  have eC : cond = 0 := f.sC
  have eO : off = 0 := f.sO
  clear f h
  subst hw eD eN eM eA eS eR eC  eO
  have hS3 : S ≤ 3 := by omega
  have E : (encP 17 8 D 0 0 0 imm 0 0 0 S).toNat = 2457862144 + imm.toNat * 2 ^ 5 + S * 2 ^ 21 + D * 2 ^ 0 := by
    have ex : encP 17 8 D 0 0 0 imm 0 0 0 S = orF (baseW 17) [(imm.toNat, 16, 5), (S, 2, 21), (D, 5, 0)] := by
      show ((((baseW 17 ||| fieldW (0 : Int) 5) ||| fieldW (0 : Int) 16) ||| fieldW (0 : Int) 10) ||| (fieldW (IntKind.i64.wrap (imm.toNat : Int)) 5 ||| fieldW (S : Int) 21)) ||| fieldW (D : Int) 0 = _
      rw [wrap_small (imm.toNat : Int) (by omega) (by omega)]
      try simp only [or0, ← BitVec.or_assoc]
      rfl
    rw [ex, orF_sum _ (baseW 17) (baseW 17) (BitVec.and_self ..) (by simp only [ltF, and_true] <;> omega) (by kernel_rfl), show (baseW 17).toNat = 2457862144 by kernel_rfl]
    simp only [sumF, Nat.reducePow, Nat.reduceMul, Nat.one_mul, Nat.zero_mul] <;> omega
  obtain ⟨Hz, Hde, Hnb, Hmt, Ha, Hf, Hu, Hw, Hl, Hi, Hg, Hj, Hk, Hc, Hr, Hh, Hs⟩ := hasAll (k := 17) (show _ = [false, true, false, false, false, false, false, true, false, false, false, false, false, false, false, true, false] by kernel_rfl)
  have A : (encR 17 8 D 0 0 0 imm 0 0 0 S).setWidth 32 = encP 17 8 D 0 0 0 imm 0 0 0 S := by
    have T : (encR 17 8 D 0 0 0 imm 0 0 0 S).toNat = 2457862144 + (D + 0 * 32 + 0 * 65536 + 0 * 1024 + 0 * 65536) + S * 2097152 + imm.toNat * 32 := by
      simp only [encR, Hz, Ha, Hf, Hu, Hw, Hl, Hi, Hg, Hj, Hk, Hc, Hr, Hh, Hs, addIf_t, addIf_f]
      exact t_add (t_add (encR0_toNat D 0 0 0 0 (B := 2457862144) (by kernel_rfl) (by omega) (by omega) (by omega) (by omega) (by omega) (by omega)) (t_mul (t_ofI S (by omega)) (t_lit 2097152) (by omega)) (by omega)) (t_mul (rfl : imm.toNat = imm.toNat) (t_lit 32) (by omega)) (by omega)
    have hlt := (encP 17 8 D 0 0 0 imm 0 0 0 S).isLt
    rw [E] at hlt
    apply BitVec.eq_of_toNat_eq
    rw [BitVec.toNat_setWidth, T, E, Nat.mod_eq_of_lt (by omega)] <;> omega
  refine ⟨A, ?_, ?_, ?_⟩ <;> clear A <;> generalize encP 17 8 D 0 0 0 imm 0 0 0 S = x at E ⊢
  · have hB : (bw 17).toNat = 2457862144 := by kernel_rfl
    exact near23 Hz Hj (.inl Hh) (by rw [hB, E] <;> omega)
  · intro α f
    have g25_4 : gt x 25 4 = 9 := gt_is E 25 4 (c := 9) (by omega)
    have hk8 : k8 x = true := by unfold k8; rw [g25_4]; rfl
    have hk5 : k5 x = false := by unfold k5; rw [g25_4]; rfl
    have hk6 : k6 x = false := by unfold k6; rw [g25_4]; rfl
    have g23_6 : gt x 23 6 = 37 := gt_is E 23 6 (c := 37) (by omega)
    have g29_2 : gt x 29 2 = 0 := gt_is E 29 2 (c := 0) (by omega)
    have hmO : mO x = 17 := by unfold mO; rw [g23_6, g29_2]; rfl
    have hmN : mN x = 0 := by unfold mN; rw [g23_6]; rfl
    have g5_16 : gt x 5 16 = (imm.toNat : Int) := gt_is E 5 16 (c := imm.toNat) (by omega)
    have hmI : mI x = imm := by unfold mI; rw [g23_6, g5_16]; exact ofInt_toNat imm
    have hmR : mR x = 0 := by unfold mR; rw [g23_6]; rfl
    have g21_2 : gt x 21 2 = S := gt_is E 21 2 (c := S) (by omega)
    have hmS : mS x = (S : Int) := by unfold mS; rw [g23_6, g21_2]; rfl
    have g0_5 : gt x 0 5 = D := gt_is E 0 5 (c := D) (by omega)
    simp only [onP, kk, hk8, hk5, hk6, if_true, if_false, Bool.false_eq_true, hmO, hmN, hmI, hmR, hmS, g0_5]
  · intro α f
    have g0_5 : gt x 0 5 = D := gt_is E 0 5 (c := D) (by omega)
    have g21_2 : gt x 21 2 = S := gt_is E 21 2 (c := S) (by omega)
    have htW : tW 17 x = 8 := by unfold tW; rw [Hz]; rfl
    have g5_16 : gt x 5 16 = (imm.toNat : Int) := gt_is E 5 16 (c := imm.toNat) (by omega)
    have htI : tI 17 x = imm := by unfold tI; simp only [Hf, Hu, Hw, Hl, Hi, if_true, if_false, Bool.false_eq_true]; rw [g5_16]; exact ofInt_toNat imm
    simp only [onT, htW, htI, Hde, Hnb, Hmt, Ha, Hg, Hj, Hk, Hc, Hr, Hh, Hs, if_true, if_false, Bool.false_eq_true, g0_5, g21_2]
set_option maxHeartbeats 1000000 in
theorem good_18 {w d n m a : Int} {imm : W64} {off cond r s : Int} (ho : IntKind.i64.has off) (h : mayA 18 w d n m a imm off cond r s = true) : Good 18 w d n m a imm off cond r s := by
  have f := may_facts h
  have hw : w = 8 := f.h8.resolve_left (by decide)
  have hQ := f.nums
  simp [numsB, inB] at hQ
  have hI : imm.toNat < 65536 := hQ.1.1
  have hS3 : s ≤ 3 := hQ.2
  obtain ⟨D, eD, hD⟩ := nat_of (b := 31) f.d0
  have eN : n = 0 := f.sN
  have eM : m = 0 := f.sM
  have eA : a = 0 := f.sA
  obtain ⟨S, eS, hS⟩ := nat_of (b := 63) f.s0
  have eR : r = 0 := f.sR
  have eC : cond = 0 := f.sC
  have eO : off = 0 := f.sO
  clear f h
  subst hw eD eN eM eA eS eR eC  eO
  have hS3 : S ≤ 3 := by omega
  have E : (encP 18 8 D 0 0 0 imm 0 0 0 S).toNat = 4068474880 + imm.toNat * 2 ^ 5 + S * 2 ^ 21 + D * 2 ^ 0 := by
    have ex : encP 18 8 D 0 0 0 imm 0 0 0 S = orF (baseW 18) [(imm.toNat, 16, 5), (S, 2, 21), (D, 5, 0)] := by
      show ((((baseW 18 ||| fieldW (0 : Int) 5) ||| fieldW (0 : Int) 16) ||| fieldW (0 : Int) 10) ||| (fieldW (IntKind.i64.wrap (imm.toNat : Int)) 5 ||| fieldW (S : Int) 21)) ||| fieldW (D : Int) 0 = _
      rw [wrap_small (imm.toNat : Int) (by omega) (by omega)]
      try simp only [or0, ← BitVec.or_assoc]
      rfl
    rw [ex, orF_sum _ (baseW 18) (baseW 18) (BitVec.and_self ..) (by simp only [ltF, and_true] <;> omega) (by kernel_rfl), show (baseW 18).toNat = 4068474880 by kernel_rfl]
    simp only [sumF, Nat.reducePow, Nat.reduceMul, Nat.one_mul, Nat.zero_mul] <;> omega
  obtain ⟨Hz, Hde, Hnb, Hmt, Ha, Hf, Hu, Hw, Hl, Hi, Hg, Hj, Hk, Hc, Hr, Hh, Hs⟩ := hasAll (k := 18) (show _ = [false, true, false, false, false, false, false, true, false, false, false, false, false, false, false, true, false] by kernel_rfl)
  have A : (encR 18 8 D 0 0 0 imm 0 0 0 S).setWidth 32 = encP 18 8 D 0 0 0 imm 0 0 0 S := by
    have T : (encR 18 8 D 0 0 0 imm 0 0 0 S).toNat = 4068474880 + (D + 0 * 32 + 0 * 65536 + 0 * 1024 + 0 * 65536) + S * 2097152 + imm.toNat * 32 := by
      simp only [encR, Hz, Ha, Hf, Hu, Hw, Hl, Hi, Hg, Hj, Hk, Hc, Hr, Hh, Hs, addIf_t, addIf_f]
      exact t_add (t_add (encR0_toNat D 0 0 0 0 (B := 4068474880) (by kernel_rfl) (by omega) (by omega) (by omega) (by omega) (by omega) (by omega)) (t_mul (t_ofI S (by omega)) (t_lit 2097152) (by omega)) (by omega)) (t_mul (rfl : imm.toNat = imm.toNat) (t_lit 32) (by omega)) (by omega)
    have hlt := (encP 18 8 D 0 0 0 imm 0 0 0 S).isLt
    rw [E] at hlt
    apply BitVec.eq_of_toNat_eq
    rw [BitVec.toNat_setWidth, T, E, Nat.mod_eq_of_lt (by omega)] <;> omega
  refine ⟨A, ?_, ?_, ?_⟩ <;> clear A <;> generalize encP 18 8 D 0 0 0 imm 0 0 0 S = x at E ⊢
  · have hB : (bw 18).toNat = 4068474880 := by kernel_rfl
    exact near23 Hz Hj (.inl Hh) (by rw [hB, E] <;> omega)
  · intro α f
    have g25_4 : gt x 25 4 = 9 := gt_is E 25 4 (c := 9) (by omega)
    have hk8 : k8 x = true := by unfold k8; rw [g25_4]; rfl
    have hk5 : k5 x = false := by unfold k5; rw [g25_4]; rfl
    have hk6 : k6 x = false := by unfold k6; rw [g25_4]; rfl
    have g23_6 : gt x 23 6 = 37 := gt_is E 23 6 (c := 37) (by omega)
    have g29_2 : gt x 29 2 = 3 := gt_is E 29 2 (c := 3) (by omega)
    have hmO : mO x = 18 := by unfold mO; rw [g23_6, g29_2]; rfl
    have hmN : mN x = 0 := by unfold mN; rw [g23_6]; rfl
    have g5_16 : gt x 5 16 = (imm.toNat : Int) := gt_is E 5 16 (c := imm.toNat) (by omega)
    have hmI : mI x = imm := by unfold mI; rw [g23_6, g5_16]; exact ofInt_toNat imm
    have hmR : mR x = 0 := by unfold mR; rw [g23_6]; rfl
    have g21_2 : gt x 21 2 = S := gt_is E 21 2 (c := S) (by omega)
    have hmS : mS x = (S : Int) := by unfold mS; rw [g23_6, g21_2]; rfl
    have g0_5 : gt x 0 5 = D := gt_is E 0 5 (c := D) (by omega)
    simp only [onP, kk, hk8, hk5, hk6, if_true, if_false, Bool.false_eq_true, hmO, hmN, hmI, hmR, hmS, g0_5]
  · intro α f
    have g0_5 : gt x 0 5 = D := gt_is E 0 5 (c := D) (by omega)
    have g21_2 : gt x 21 2 = S := gt_is E 21 2 (c := S) (by omega)
    have htW : tW 18 x = 8 := by unfold tW; rw [Hz]; rfl
    have g5_16 : gt x 5 16 = (imm.toNat : Int) := gt_is E 5 16 (c := imm.toNat) (by omega)
    have htI : tI 18 x = imm := by unfold tI; simp only [Hf, Hu, Hw, Hl, Hi, if_true, if_false, Bool.false_eq_true]; rw [g5_16]; exact ofInt_toNat imm
    simp only [onT, htW, htI, Hde, Hnb, Hmt, Ha, Hg, Hj, Hk, Hc, Hr, Hh, Hs, if_true, if_false, Bool.false_eq_true, g0_5, g21_2]
set_option maxHeartbeats 1000000 in
theorem good_19 {w d n m a : Int} {imm : W64} {off cond r s : Int} (ho : IntKind.i64.has off) (h : mayA 19 w d n m a imm off cond r s = true) : Good 19 w d n m a imm off cond r s := by
  have f := may_facts h
  have hw : w = 8 := f.h8.resolve_left (by decide)
  obtain ⟨D, eD, hD⟩ := nat_of (b := 31) f.d0
  obtain ⟨N, eN, hN⟩ := nat_of (b := 31) f.n0
  obtain ⟨M, eM, hM⟩ := nat_of (b := 31) f.m0
  obtain ⟨A, eA, hA⟩ := nat_of (b := 31) f.a0
  have eS : s = 0 := f.sS
  have eR : r = 0 := f.sR
  have eC : cond = 0 := f.sC
  have eI : imm = 0#64 := f.sI
  have eO : off = 0 := f.sO
  clear f h
  subst hw eD eN eM eA eS eR eC eI eO
  have E : (encP 19 8 D N M A 0#64 0 0 0 0).toNat = 2600468480 + N * 2 ^ 5 + M * 2 ^ 16 + A * 2 ^ 10 + D * 2 ^ 0 := by
    have ex : encP 19 8 D N M A 0#64 0 0 0 0 = orF (baseW 19) [(N, 5, 5), (M, 5, 16), (A, 5, 10), (D, 5, 0)] := by
      show (((baseW 19 ||| fieldW (N : Int) 5) ||| fieldW (M : Int) 16) ||| fieldW (A : Int) 10) ||| fieldW (D : Int) 0 = _
      try simp only [or0, ← BitVec.or_assoc]
      rfl
    rw [ex, orF_sum _ (baseW 19) (baseW 19) (BitVec.and_self ..) (by simp only [ltF, and_true] <;> omega) (by kernel_rfl), show (baseW 19).toNat = 2600468480 by kernel_rfl]
    simp only [sumF, Nat.reducePow, Nat.reduceMul, Nat.one_mul, Nat.zero_mul] <;> omega
  obtain ⟨Hz, Hde, Hnb, Hmt, Ha, Hf, Hu, Hw, Hl, Hi, Hg, Hj, Hk, Hc, Hr, Hh, Hs⟩ := hasAll (k := 19) (show _ = [false, true, true, true, true, false, false, false, false, false, false, false, false, false, false, false, false] by kernel_rfl)
  have A : (encR 19 8 D N M A 0#64 0 0 0 0).setWidth 32 = encP 19 8 D N M A 0#64 0 0 0 0 := by
    have T : (encR 19 8 D N M A 0#64 0 0 0 0).toNat = 2600468480 + (D + N * 32 + M * 65536 + A * 1024 + 0 * 65536) := by
      simp only [encR, Hz, Ha, Hf, Hu, Hw, Hl, Hi, Hg, Hj, Hk, Hc, Hr, Hh, Hs, addIf_t, addIf_f]
      exact encR0_toNat D N M A 0 (B := 2600468480) (by kernel_rfl) (by omega) (by omega) (by omega) (by omega) (by omega) (by omega)
    have hlt := (encP 19 8 D N M A 0#64 0 0 0 0).isLt
    rw [E] at hlt
    apply BitVec.eq_of_toNat_eq
    rw [BitVec.toNat_setWidth, T, E, Nat.mod_eq_of_lt (by omega)] <;> omega
  refine ⟨A, ?_, ?_, ?_⟩ <;> clear A <;> generalize encP 19 8 D N M A 0#64 0 0 0 0 = x at E ⊢
  · have hB : (bw 19).toNat = 2600468480 := by kernel_rfl
    exact near24 Hz Hj (by rw [hB, E] <;> omega)
  · intro α f
    have g25_4 : gt x 25 4 = 13 := gt_is E 25 4 (c := 13) (by omega)
    have hk8 : k8 x = false := by unfold k8; rw [g25_4]; rfl
    have hk5 : k5 x = true := by unfold k5; rw [g25_4]; rfl
    have hk6 : k6 x = false := by unfold k6; rw [g25_4]; rfl
    have g24_5 : gt x 24 5 = 27 := gt_is E 24 5 (c := 27) (by omega)
    have g0_5 : gt x 0 5 = D := gt_is E 0 5 (c := D) (by omega)
    have g5_5 : gt x 5 5 = N := gt_is E 5 5 (c := N) (by omega)
    have g16_5 : gt x 16 5 = M := gt_is E 16 5 (c := M) (by omega)
    have g21_3 : gt x 21 3 = 0 := gt_is E 21 3 (c := 0) (by omega)
    have g15_1 : gt x 15 1 = 0 := gt_is E 15 1 (c := 0) (by omega)
    have hr3 : r3 x = 0 := by unfold r3; rw [g21_3, g15_1]; kernel_rfl
    have hrO : rO x = 19 := by unfold rO; rw [g24_5, hr3]; rfl
    have g10_5 : gt x 10 5 = A := gt_is E 10 5 (c := A) (by omega)
    have hrA : rA x = (A : Int) := by unfold rA; rw [g24_5, hr3, g10_5]; rfl
    have hrC : rC x = 0 := by unfold rC k4; rw [g24_5]; rfl
    have hrS : rS x = 0 := by unfold rS k4; rw [g24_5]; rfl
    simp only [onP, kk, hk8, hk5, hk6, if_true, if_false, Bool.false_eq_true, hrO, hrA, hrC, hrS, g0_5, g5_5, g16_5]
  · intro α f
    have g0_5 : gt x 0 5 = D := gt_is E 0 5 (c := D) (by omega)
    have g5_5 : gt x 5 5 = N := gt_is E 5 5 (c := N) (by omega)
    have g16_5 : gt x 16 5 = M := gt_is E 16 5 (c := M) (by omega)
    have g10_5 : gt x 10 5 = A := gt_is E 10 5 (c := A) (by omega)
    have htW : tW 19 x = 8 := by unfold tW; rw [Hz]; rfl
    have htI : tI 19 x = 0#64 := by unfold tI; simp only [Hf, Hu, Hw, Hl, Hi, if_true, if_false, Bool.false_eq_true]
    simp only [onT, htW, htI, Hde, Hnb, Hmt, Ha, Hg, Hj, Hk, Hc, Hr, Hh, Hs, if_true, if_false, Bool.false_eq_true, g0_5, g5_5, g16_5, g10_5]
set_option maxHeartbeats 1000000 in
theorem good_20 {w d n m a : Int} {imm : W64} {off cond r s : Int} (ho : IntKind.i64.has off) (h : mayA 20 w d n m a imm off cond r s = true) : Good 20 w d n m a imm off cond r s := by
  have f := may_facts h
  have hw : w = 8 := f.h8.resolve_left (by decide)
  obtain ⟨D, eD, hD⟩ := nat_of (b := 31) f.d0
  obtain ⟨N, eN, hN⟩ := nat_of (b := 31) f.n0
  obtain ⟨M, eM, hM⟩ := nat_of (b := 31) f.m0
  obtain ⟨A, eA, hA⟩ := nat_of (b := 31) f.a0
  have eS : s = 0 := f.sS
  have eR : r = 0 := f.sR
  have eC : cond = 0 := f.sC
  have eI : imm = 0#64 := f.sI
  have eO : off = 0 := f.sO
  clear f h
  subst hw eD eN eM eA eS eR eC eI eO
  have E : (encP 20 8 D N M A 0#64 0 0 0 0).toNat = 2600501248 + N * 2 ^ 5 + M * 2 ^ 16 + A * 2 ^ 10 + D * 2 ^ 0 := by
    have ex : encP 20 8 D N M A 0#64 0 0 0 0 = orF (baseW 20) [(N, 5, 5), (M, 5, 16), (A, 5, 10), (D, 5, 0)] := by
      show (((baseW 20 ||| fieldW (N : Int) 5) ||| fieldW (M : Int) 16) ||| fieldW (A : Int) 10) ||| fieldW (D : Int) 0 = _
      try simp only [or0, ← BitVec.or_assoc]
      rfl
    rw [ex, orF_sum _ (baseW 20) (baseW 20) (BitVec.and_self ..) (by simp only [ltF, and_true] <;> omega) (by kernel_rfl), show (baseW 20).toNat = 2600501248 by kernel_rfl]
    simp only [sumF, Nat.reducePow, Nat.reduceMul, Nat.one_mul, Nat.zero_mul] <;> omega
  obtain ⟨Hz, Hde, Hnb, Hmt, Ha, Hf, Hu, Hw, Hl, Hi, Hg, Hj, Hk, Hc, Hr, Hh, Hs⟩ := hasAll (k := 20) (show _ = [false, true, true, true, true, false, false, false, false, false, false, false, false, false, false, false, false] by kernel_rfl)
  have A : (encR 20 8 D N M A 0#64 0 0 0 0).setWidth 32 = encP 20 8 D N M A 0#64 0 0 0 0 := by
    have T : (encR 20 8 D N M A 0#64 0 0 0 0).toNat = 2600501248 + (D + N * 32 + M * 65536 + A * 1024 + 0 * 65536) := by
      simp only [encR, Hz, Ha, Hf, Hu, Hw, Hl, Hi, Hg, Hj, Hk, Hc, Hr, Hh, Hs, addIf_t, addIf_f]
      exact encR0_toNat D N M A 0 (B := 2600501248) (by kernel_rfl) (by omega) (by omega) (by omega) (by omega) (by omega) (by omega)
    have hlt := (encP 20 8 D N M A 0#64 0 0 0 0).isLt
    rw [E] at hlt
    apply BitVec.eq_of_toNat_eq
    rw [BitVec.toNat_setWidth, T, E, Nat.mod_eq_of_lt (by omega)] <;> omega
  refine ⟨A, ?_, ?_, ?_⟩ <;> clear A <;> generalize encP 20 8 D N M A 0#64 0 0 0 0 = x at E ⊢
  · have hB : (bw 20).toNat = 2600501248 := by kernel_rfl
    exact near24 Hz Hj (by rw [hB, E] <;> omega)
  · intro α f
    have g25_4 : gt x 25 4 = 13 := gt_is E 25 4 (c := 13) (by omega)
    have hk8 : k8 x = false := by unfold k8; rw [g25_4]; rfl
    have hk5 : k5 x = true := by unfold k5; rw [g25_4]; rfl
    have hk6 : k6 x = false := by unfold k6; rw [g25_4]; rfl
    have g24_5 : gt x 24 5 = 27 := gt_is E 24 5 (c := 27) (by omega)
    have g0_5 : gt x 0 5 = D := gt_is E 0 5 (c := D) (by omega)
    have g5_5 : gt x 5 5 = N := gt_is E 5 5 (c := N) (by omega)
    have g16_5 : gt x 16 5 = M := gt_is E 16 5 (c := M) (by omega)
    have g21_3 : gt x 21 3 = 0 := gt_is E 21 3 (c := 0) (by omega)
    have g15_1 : gt x 15 1 = 1 := gt_is E 15 1 (c := 1) (by omega)
    have hr3 : r3 x = 1 := by unfold r3; rw [g21_3, g15_1]; kernel_rfl
    have hrO : rO x = 20 := by unfold rO; rw [g24_5, hr3]; rfl
    have g10_5 : gt x 10 5 = A := gt_is E 10 5 (c := A) (by omega)
    have hrA : rA x = (A : Int) := by unfold rA; rw [g24_5, hr3, g10_5]; rfl
    have hrC : rC x = 0 := by unfold rC k4; rw [g24_5]; rfl
    have hrS : rS x = 0 := by unfold rS k4; rw [g24_5]; rfl
    simp only [onP, kk, hk8, hk5, hk6, if_true, if_false, Bool.false_eq_true, hrO, hrA, hrC, hrS, g0_5, g5_5, g16_5]
  · intro α f
    have g0_5 : gt x 0 5 = D := gt_is E 0 5 (c := D) (by omega)
    have g5_5 : gt x 5 5 = N := gt_is E 5 5 (c := N) (by omega)
    have g16_5 : gt x 16 5 = M := gt_is E 16 5 (c := M) (by omega)
    have g10_5 : gt x 10 5 = A := gt_is E 10 5 (c := A) (by omega)
    have htW : tW 20 x = 8 := by unfold tW; rw [Hz]; rfl
    have htI : tI 20 x = 0#64 := by unfold tI; simp only [Hf, Hu, Hw, Hl, Hi, if_true, if_false, Bool.false_eq_true]
    simp only [onT, htW, htI, Hde, Hnb, Hmt, Ha, Hg, Hj, Hk, Hc, Hr, Hh, Hs, if_true, if_false, Bool.false_eq_true, g0_5, g5_5, g16_5, g10_5]
set_option maxHeartbeats 1000000 in
theorem good_21 {w d n m a : Int} {imm : W64} {off cond r s : Int} (ho : IntKind.i64.has off) (h : mayA 21 w d n m a imm off cond r s = true) : Good 21 w d n m a imm off cond r s := by
  have f := may_facts h
  have hw : w = 8 := f.h8.resolve_left (by decide)
  obtain ⟨D, eD, hD⟩ := nat_of (b := 31) f.d0
  obtain ⟨N, eN, hN⟩ := nat_of (b := 31) f.n0
  obtain ⟨M, eM, hM⟩ := nat_of (b := 31) f.m0
  have eA : a = 0 := f.sA
  have eS : s = 0 := f.sS
  have eR : r = 0 := f.sR
  have eC : cond = 0 := f.sC
  have eI : imm = 0#64 := f.sI
  have eO : off = 0 := f.sO
  clear f h
  subst hw eD eN eM eA eS eR eC eI eO
  have E : (encP 21 8 D N M 0 0#64 0 0 0 0).toNat = 2613083136 + N * 2 ^ 5 + M * 2 ^ 16 + D * 2 ^ 0 := by
    have ex : encP 21 8 D N M 0 0#64 0 0 0 0 = orF (baseW 21) [(N, 5, 5), (M, 5, 16), (D, 5, 0)] := by
      show (((baseW 21 ||| fieldW (N : Int) 5) ||| fieldW (M : Int) 16) ||| fieldW (0 : Int) 10) ||| fieldW (D : Int) 0 = _
      try simp only [or0, ← BitVec.or_assoc]
      rfl
    rw [ex, orF_sum _ (baseW 21) (baseW 21) (BitVec.and_self ..) (by simp only [ltF, and_true] <;> omega) (by kernel_rfl), show (baseW 21).toNat = 2613083136 by kernel_rfl]
    simp only [sumF, Nat.reducePow, Nat.reduceMul, Nat.one_mul, Nat.zero_mul] <;> omega
  obtain ⟨Hz, Hde, Hnb, Hmt, Ha, Hf, Hu, Hw, Hl, Hi, Hg, Hj, Hk, Hc, Hr, Hh, Hs⟩ := hasAll (k := 21) (show _ = [false, true, true, true, false, false, false, false, false, false, false, false, false, false, false, false, false] by kernel_rfl)
  have A : (encR 21 8 D N M 0 0#64 0 0 0 0).setWidth 32 = encP 21 8 D N M 0 0#64 0 0 0 0 := by
    have T : (encR 21 8 D N M 0 0#64 0 0 0 0).toNat = 2613083136 + (D + N * 32 + M * 65536 + 0 * 1024 + 0 * 65536) := by
      simp only [encR, Hz, Ha, Hf, Hu, Hw, Hl, Hi, Hg, Hj, Hk, Hc, Hr, Hh, Hs, addIf_t, addIf_f]
      exact encR0_toNat D N M 0 0 (B := 2613083136) (by kernel_rfl) (by omega) (by omega) (by omega) (by omega) (by omega) (by omega)
    have hlt := (encP 21 8 D N M 0 0#64 0 0 0 0).isLt
    rw [E] at hlt
    apply BitVec.eq_of_toNat_eq
    rw [BitVec.toNat_setWidth, T, E, Nat.mod_eq_of_lt (by omega)] <;> omega
  refine ⟨A, ?_, ?_, ?_⟩ <;> clear A <;> generalize encP 21 8 D N M 0 0#64 0 0 0 0 = x at E ⊢
  · have hB : (bw 21).toNat = 2613083136 := by kernel_rfl
    exact near24 Hz Hj (by rw [hB, E] <;> omega)
  · intro α f
    have g25_4 : gt x 25 4 = 13 := gt_is E 25 4 (c := 13) (by omega)
    have hk8 : k8 x = false := by unfold k8; rw [g25_4]; rfl
    have hk5 : k5 x = true := by unfold k5; rw [g25_4]; rfl
    have hk6 : k6 x = false := by unfold k6; rw [g25_4]; rfl
    have g24_5 : gt x 24 5 = 27 := gt_is E 24 5 (c := 27) (by omega)
    have g0_5 : gt x 0 5 = D := gt_is E 0 5 (c := D) (by omega)
    have g5_5 : gt x 5 5 = N := gt_is E 5 5 (c := N) (by omega)
    have g16_5 : gt x 16 5 = M := gt_is E 16 5 (c := M) (by omega)
    have g21_3 : gt x 21 3 = 6 := gt_is E 21 3 (c := 6) (by omega)
    have g15_1 : gt x 15 1 = 0 := gt_is E 15 1 (c := 0) (by omega)
    have hr3 : r3 x = 12 := by unfold r3; rw [g21_3, g15_1]; kernel_rfl
    have hrO : rO x = 21 := by unfold rO; rw [g24_5, hr3]; rfl
    have hrA : rA x = 0 := by unfold rA; rw [g24_5, hr3]; rfl
    have hrC : rC x = 0 := by unfold rC k4; rw [g24_5]; rfl
    have hrS : rS x = 0 := by unfold rS k4; rw [g24_5]; rfl
    simp only [onP, kk, hk8, hk5, hk6, if_true, if_false, Bool.false_eq_true, hrO, hrA, hrC, hrS, g0_5, g5_5, g16_5]
  · intro α f
    have g0_5 : gt x 0 5 = D := gt_is E 0 5 (c := D) (by omega)
    have g5_5 : gt x 5 5 = N := gt_is E 5 5 (c := N) (by omega)
    have g16_5 : gt x 16 5 = M := gt_is E 16 5 (c := M) (by omega)
    have htW : tW 21 x = 8 := by unfold tW; rw [Hz]; rfl
    have htI : tI 21 x = 0#64 := by unfold tI; simp only [Hf, Hu, Hw, Hl, Hi, if_true, if_false, Bool.false_eq_true]
    simp only [onT, htW, htI, Hde, Hnb, Hmt, Ha, Hg, Hj, Hk, Hc, Hr, Hh, Hs, if_true, if_false, Bool.false_eq_true, g0_5, g5_5, g16_5]
set_option maxHeartbeats 1000000 in
theorem good_22 {w d n m a : Int} {imm : W64} {off cond r s : Int} (ho : IntKind.i64.has off) (h : mayA 22 w d n m a imm off cond r s = true) : Good 22 w d n m a imm off cond r s := by
  have f := may_facts h
  have hw : w = 8 := f.h8.resolve_left (by decide)
  obtain ⟨D, eD, hD⟩ := nat_of (b := 31) f.d0
  obtain ⟨N, eN, hN⟩ := nat_of (b := 31) f.n0
  obtain ⟨M, eM, hM⟩ := nat_of (b := 31) f.m0
  have eA : a = 0 := f.sA
  have eS : s = 0 := f.sS
  have eR : r = 0 := f.sR
  have eC : cond = 0 := f.sC
  have eI : imm = 0#64 := f.sI
  have eO : off = 0 := f.sO
  clear f h
  subst hw eD eN eM eA eS eR eC eI eO
  have E : (encP 22 8 D N M 0 0#64 0 0 0 0).toNat = 2604694528 + N * 2 ^ 5 + M * 2 ^ 16 + D * 2 ^ 0 := by
    have ex : encP 22 8 D N M 0 0#64 0 0 0 0 = orF (baseW 22) [(N, 5, 5), (M, 5, 16), (D, 5, 0)] := by
      show (((baseW 22 ||| fieldW (N : Int) 5) ||| fieldW (M : Int) 16) ||| fieldW (0 : Int) 10) ||| fieldW (D : Int) 0 = _
      try simp only [or0, ← BitVec.or_assoc]
      rfl
    rw [ex, orF_sum _ (baseW 22) (baseW 22) (BitVec.and_self ..) (by simp only [ltF, and_true] <;> omega) (by kernel_rfl), show (baseW 22).toNat = 2604694528 by kernel_rfl]
    simp only [sumF, Nat.reducePow, Nat.reduceMul, Nat.one_mul, Nat.zero_mul] <;> omega
  obtain ⟨Hz, Hde, Hnb, Hmt, Ha, Hf, Hu, Hw, Hl, Hi, Hg, Hj, Hk, Hc, Hr, Hh, Hs⟩ := hasAll (k := 22) (show _ = [false, true, true, true, false, false, false, false, false, false, false, false, false, false, false, false, false] by kernel_rfl)
  have A : (encR 22 8 D N M 0 0#64 0 0 0 0).setWidth 32 = encP 22 8 D N M 0 0#64 0 0 0 0 := by
    have T : (encR 22 8 D N M 0 0#64 0 0 0 0).toNat = 2604694528 + (D + N * 32 + M * 65536 + 0 * 1024 + 0 * 65536) := by
      simp only [encR, Hz, Ha, Hf, Hu, Hw, Hl, Hi, Hg, Hj, Hk, Hc, Hr, Hh, Hs, addIf_t, addIf_f]
      exact encR0_toNat D N M 0 0 (B := 2604694528) (by kernel_rfl) (by omega) (by omega) (by omega) (by omega) (by omega) (by omega)
    have hlt := (encP 22 8 D N M 0 0#64 0 0 0 0).isLt
    rw [E] at hlt
    apply BitVec.eq_of_toNat_eq
    rw [BitVec.toNat_setWidth, T, E, Nat.mod_eq_of_lt (by omega)] <;> omega
  refine ⟨A, ?_, ?_, ?_⟩ <;> clear A <;> generalize encP 22 8 D N M 0 0#64 0 0 0 0 = x at E ⊢
  · have hB : (bw 22).toNat = 2604694528 := by kernel_rfl
    exact near24 Hz Hj (by rw [hB, E] <;> omega)
  · intro α f
    have g25_4 : gt x 25 4 = 13 := gt_is E 25 4 (c := 13) (by omega)
    have hk8 : k8 x = false := by unfold k8; rw [g25_4]; rfl
    have hk5 : k5 x = true := by unfold k5; rw [g25_4]; rfl
    have hk6 : k6 x = false := by unfold k6; rw [g25_4]; rfl
    have g24_5 : gt x 24 5 = 27 := gt_is E 24 5 (c := 27) (by omega)
    have g0_5 : gt x 0 5 = D := gt_is E 0 5 (c := D) (by omega)
    have g5_5 : gt x 5 5 = N := gt_is E 5 5 (c := N) (by omega)
    have g16_5 : gt x 16 5 = M := gt_is E 16 5 (c := M) (by omega)
    have g21_3 : gt x 21 3 = 2 := gt_is E 21 3 (c := 2) (by omega)
    have g15_1 : gt x 15 1 = 0 := gt_is E 15 1 (c := 0) (by omega)
    have hr3 : r3 x = 4 := by unfold r3; rw [g21_3, g15_1]; kernel_rfl
    have hrO : rO x = 22 := by unfold rO; rw [g24_5, hr3]; rfl
    have hrA : rA x = 0 := by unfold rA; rw [g24_5, hr3]; rfl
    have hrC : rC x = 0 := by unfold rC k4; rw [g24_5]; rfl
    have hrS : rS x = 0 := by unfold rS k4; rw [g24_5]; rfl
    simp only [onP, kk, hk8, hk5, hk6, if_true, if_false, Bool.false_eq_true, hrO, hrA, hrC, hrS, g0_5, g5_5, g16_5]
  · intro α f
    have g0_5 : gt x 0 5 = D := gt_is E 0 5 (c := D) (by omega)
    have g5_5 : gt x 5 5 = N := gt_is E 5 5 (c := N) (by omega)
    have g16_5 : gt x 16 5 = M := gt_is E 16 5 (c := M) (by omega)
    have htW : tW 22 x = 8 := by unfold tW; rw [Hz]; rfl
    have htI : tI 22 x = 0#64 := by unfold tI; simp only [Hf, Hu, Hw, Hl, Hi, if_true, if_false, Bool.false_eq_true]
    simp only [onT, htW, htI, Hde, Hnb, Hmt, Ha, Hg, Hj, Hk, Hc, Hr, Hh, Hs, if_true, if_false, Bool.false_eq_true, g0_5, g5_5, g16_5]
set_option maxHeartbeats 1000000 in
theorem good_23 {w d n m a : Int} {imm : W64} {off cond r s : Int} (ho : IntKind.i64.has off) (h : mayA 23 w d n m a imm off cond r s = true) : Good 23 w d n m a imm off cond r s := by
  have f := may_facts h
  have hw : w = 8 := f.h8.resolve_left (by decide)
  obtain ⟨D, eD, hD⟩ := nat_of (b := 31) f.d0
  obtain ⟨N, eN, hN⟩ := nat_of (b := 31) f.n0
  obtain ⟨M, eM, hM⟩ := nat_of (b := 31) f.m0
  have eA : a = 0 := f.sA
  have eS : s = 0 := f.sS
  have eR : r = 0 := f.sR
  have eC : cond = 0 := f.sC
  have eI : imm = 0#64 := f.sI
  have eO : off = 0 := f.sO
  clear f h
  subst hw eD eN eM eA eS eR eC eI eO
  have E : (encP 23 8 D N M 0 0#64 0 0 0 0).toNat = 2596276224 + N * 2 ^ 5 + M * 2 ^ 16 + D * 2 ^ 0 := by
    have ex : encP 23 8 D N M 0 0#64 0 0 0 0 = orF (baseW 23) [(N, 5, 5), (M, 5, 16), (D, 5, 0)] := by
      show (((baseW 23 ||| fieldW (N : Int) 5) ||| fieldW (M : Int) 16) ||| fieldW (0 : Int) 10) ||| fieldW (D : Int) 0 = _
      try simp only [or0, ← BitVec.or_assoc]
      rfl
    rw [ex, orF_sum _ (baseW 23) (baseW 23) (BitVec.and_self ..) (by simp only [ltF, and_true] <;> omega) (by kernel_rfl), show (baseW 23).toNat = 2596276224 by kernel_rfl]
    simp only [sumF, Nat.reducePow, Nat.reduceMul, Nat.one_mul, Nat.zero_mul] <;> omega
  obtain ⟨Hz, Hde, Hnb, Hmt, Ha, Hf, Hu, Hw, Hl, Hi, Hg, Hj, Hk, Hc, Hr, Hh, Hs⟩ := hasAll (k := 23) (show _ = [false, true, true, true, false, false, false, false, false, false, false, false, false, false, false, false, false] by kernel_rfl)
  have A : (encR 23 8 D N M 0 0#64 0 0 0 0).setWidth 32 = encP 23 8 D N M 0 0#64 0 0 0 0 := by
    have T : (encR 23 8 D N M 0 0#64 0 0 0 0).toNat = 2596276224 + (D + N * 32 + M * 65536 + 0 * 1024 + 0 * 65536) := by
      simp only [encR, Hz, Ha, Hf, Hu, Hw, Hl, Hi, Hg, Hj, Hk, Hc, Hr, Hh, Hs, addIf_t, addIf_f]
      exact encR0_toNat D N M 0 0 (B := 2596276224) (by kernel_rfl) (by omega) (by omega) (by omega) (by omega) (by omega) (by omega)
    have hlt := (encP 23 8 D N M 0 0#64 0 0 0 0).isLt
    rw [E] at hlt
    apply BitVec.eq_of_toNat_eq
    rw [BitVec.toNat_setWidth, T, E, Nat.mod_eq_of_lt (by omega)] <;> omega
  refine ⟨A, ?_, ?_, ?_⟩ <;> clear A <;> generalize encP 23 8 D N M 0 0#64 0 0 0 0 = x at E ⊢
  · have hB : (bw 23).toNat = 2596276224 := by kernel_rfl
    exact near24 Hz Hj (by rw [hB, E] <;> omega)
  · intro α f
    have g25_4 : gt x 25 4 = 13 := gt_is E 25 4 (c := 13) (by omega)
    have hk8 : k8 x = false := by unfold k8; rw [g25_4]; rfl
    have hk5 : k5 x = true := by unfold k5; rw [g25_4]; rfl
    have hk6 : k6 x = false := by unfold k6; rw [g25_4]; rfl
    have g24_5 : gt x 24 5 = 26 := gt_is E 24 5 (c := 26) (by omega)
    have g0_5 : gt x 0 5 = D := gt_is E 0 5 (c := D) (by omega)
    have g5_5 : gt x 5 5 = N := gt_is E 5 5 (c := N) (by omega)
    have g16_5 : gt x 16 5 = M := gt_is E 16 5 (c := M) (by omega)
    have g21_3 : gt x 21 3 = 6 := gt_is E 21 3 (c := 6) (by omega)
    have g10_6 : gt x 10 6 = 2 := gt_is E 10 6 (c := 2) (by omega)
    have g10_2 : gt x 10 2 = 2 := gt_is E 10 2 (c := 2) (by omega)
    have ht8 : t8 x = false := by unfold t8; rw [g10_6]; rfl
    have htO : tO x 0 = 23 := by unfold tO; rw [g21_3, g10_6]; rfl
    have htC : tC x 0 = 0 := by unfold tC; rw [g21_3]; rfl
    have hrO : rO x = 23 := by unfold rO; rw [g24_5, htO]; rfl
    have hrA : rA x = 0 := by unfold rA; rw [g24_5]; rfl
    have hrC : rC x = 0 := by unfold rC k4; rw [g24_5, htC]; rfl
    have hrS : rS x = 0 := by unfold rS k4; rw [g24_5]; rfl
    simp only [onP, kk, hk8, hk5, hk6, if_true, if_false, Bool.false_eq_true, hrO, hrA, hrC, hrS, g0_5, g5_5, g16_5]
  · intro α f
    have g0_5 : gt x 0 5 = D := gt_is E 0 5 (c := D) (by omega)
    have g5_5 : gt x 5 5 = N := gt_is E 5 5 (c := N) (by omega)
    have g16_5 : gt x 16 5 = M := gt_is E 16 5 (c := M) (by omega)
    have htW : tW 23 x = 8 := by unfold tW; rw [Hz]; rfl
    have htI : tI 23 x = 0#64 := by unfold tI; simp only [Hf, Hu, Hw, Hl, Hi, if_true, if_false, Bool.false_eq_true]
    simp only [onT, htW, htI, Hde, Hnb, Hmt, Ha, Hg, Hj, Hk, Hc, Hr, Hh, Hs, if_true, if_false, Bool.false_eq_true, g0_5, g5_5, g16_5]
set_option maxHeartbeats 1000000 in
theorem good_24 {w d n m a : Int} {imm : W64} {off cond r s : Int} (ho : IntKind.i64.has off) (h : mayA 24 w d n m a imm off cond r s = true) : Good 24 w d n m a imm off cond r s := by
  have f := may_facts h
  have hw : w = 8 := f.h8.resolve_left (by decide)
  obtain ⟨D, eD, hD⟩ := nat_of (b := 31) f.d0
  obtain ⟨N, eN, hN⟩ := nat_of (b := 31) f.n0
  obtain ⟨M, eM, hM⟩ := nat_of (b := 31) f.m0
  have eA : a = 0 := f.sA
  have eS : s = 0 := f.sS
  have eR : r = 0 := f.sR
  have eC : cond = 0 := f.sC
  have eI : imm = 0#64 := f.sI
  have eO : off = 0 := f.sO
  clear f h
  subst hw eD eN eM eA eS eR eC eI eO
  have E : (encP 24 8 D N M 0 0#64 0 0 0 0).toNat = 2596277248 + N * 2 ^ 5 + M * 2 ^ 16 + D * 2 ^ 0 := by
    have ex : encP 24 8 D N M 0 0#64 0 0 0 0 = orF (baseW 24) [(N, 5, 5), (M, 5, 16), (D, 5, 0)] := by
      show (((baseW 24 ||| fieldW (N : Int) 5) ||| fieldW (M : Int) 16) ||| fieldW (0 : Int) 10) ||| fieldW (D : Int) 0 = _
      try simp only [or0, ← BitVec.or_assoc]
      rfl
    rw [ex, orF_sum _ (baseW 24) (baseW 24) (BitVec.and_self ..) (by simp only [ltF, and_true] <;> omega) (by kernel_rfl), show (baseW 24).toNat = 2596277248 by kernel_rfl]
    simp only [sumF, Nat.reducePow, Nat.reduceMul, Nat.one_mul, Nat.zero_mul] <;> omega
  obtain ⟨Hz, Hde, Hnb, Hmt, Ha, Hf, Hu, Hw, Hl, Hi, Hg, Hj, Hk, Hc, Hr, Hh, Hs⟩ := hasAll (k := 24) (show _ = [false, true, true, true, false, false, false, false, false, false, false, false, false, false, false, false, false] by kernel_rfl)
  have A : (encR 24 8 D N M 0 0#64 0 0 0 0).setWidth 32 = encP 24 8 D N M 0 0#64 0 0 0 0 := by
    have T : (encR 24 8 D N M 0 0#64 0 0 0 0).toNat = 2596277248 + (D + N * 32 + M * 65536 + 0 * 1024 + 0 * 65536) := by
      simp only [encR, Hz, Ha, Hf, Hu, Hw, Hl, Hi, Hg, Hj, Hk, Hc, Hr, Hh, Hs, addIf_t, addIf_f]
      exact encR0_toNat D N M 0 0 (B := 2596277248) (by kernel_rfl) (by omega) (by omega) (by omega) (by omega) (by omega) (by omega)
    have hlt := (encP 24 8 D N M 0 0#64 0 0 0 0).isLt
    rw [E] at hlt
    apply BitVec.eq_of_toNat_eq
    rw [BitVec.toNat_setWidth, T, E, Nat.mod_eq_of_lt (by omega)] <;> omega
  refine ⟨A, ?_, ?_, ?_⟩ <;> clear A <;> generalize encP 24 8 D N M 0 0#64 0 0 0 0 = x at E ⊢
  · have hB : (bw 24).toNat = 2596277248 := by kernel_rfl
    exact near24 Hz Hj (by rw [hB, E] <;> omega)
  · intro α f
    have g25_4 : gt x 25 4 = 13 := gt_is E 25 4 (c := 13) (by omega)
    have hk8 : k8 x = false := by unfold k8; rw [g25_4]; rfl
    have hk5 : k5 x = true := by unfold k5; rw [g25_4]; rfl
    have hk6 : k6 x = false := by unfold k6; rw [g25_4]; rfl
    have g24_5 : gt x 24 5 = 26 := gt_is E 24 5 (c := 26) (by omega)
    have g0_5 : gt x 0 5 = D := gt_is E 0 5 (c := D) (by omega)
    have g5_5 : gt x 5 5 = N := gt_is E 5 5 (c := N) (by omega)
    have g16_5 : gt x 16 5 = M := gt_is E 16 5 (c := M) (by omega)
    have g21_3 : gt x 21 3 = 6 := gt_is E 21 3 (c := 6) (by omega)
    have g10_6 : gt x 10 6 = 3 := gt_is E 10 6 (c := 3) (by omega)
    have g10_2 : gt x 10 2 = 3 := gt_is E 10 2 (c := 3) (by omega)
    have ht8 : t8 x = false := by unfold t8; rw [g10_6]; rfl
    have htO : tO x 0 = 24 := by unfold tO; rw [g21_3, g10_6]; rfl
    have htC : tC x 0 = 0 := by unfold tC; rw [g21_3]; rfl
    have hrO : rO x = 24 := by unfold rO; rw [g24_5, htO]; rfl
    have hrA : rA x = 0 := by unfold rA; rw [g24_5]; rfl
    have hrC : rC x = 0 := by unfold rC k4; rw [g24_5, htC]; rfl
    have hrS : rS x = 0 := by unfold rS k4; rw [g24_5]; rfl
    simp only [onP, kk, hk8, hk5, hk6, if_true, if_false, Bool.false_eq_true, hrO, hrA, hrC, hrS, g0_5, g5_5, g16_5]
  · intro α f
    have g0_5 : gt x 0 5 = D := gt_is E 0 5 (c := D) (by omega)
    have g5_5 : gt x 5 5 = N := gt_is E 5 5 (c := N) (by omega)
    have g16_5 : gt x 16 5 = M := gt_is E 16 5 (c := M) (by omega)
    have htW : tW 24 x = 8 := by unfold tW; rw [Hz]; rfl
    have htI : tI 24 x = 0#64 := by unfold tI; simp only [Hf, Hu, Hw, Hl, Hi, if_true, if_false, Bool.false_eq_true]
    simp only [onT, htW, htI, Hde, Hnb, Hmt, Ha, Hg, Hj, Hk, Hc, Hr, Hh, Hs, if_true, if_false, Bool.false_eq_true, g0_5, g5_5, g16_5]
end Go.Proofs.YtocfkaihfjbfnaaDoor
set_option maxRecDepth 100000
namespace Go.Proofs.YtocfkaihfjbfnaaDoor
open Go.Proofs.YtocfkaihfjbfnaaDoor.Ev Go.RowKit
/- Plain: the words of operations (printed by decops.py). -/
set_option maxHeartbeats 1000000 in
theorem good_25 {w d n m a : Int} {imm : W64} {off cond r s : Int} (ho : IntKind.i64.has off) (h : mayA 25 w d n m a imm off cond r s = true) : Good 25 w d n m a imm off cond r s := by
  have f := may_facts h
  have hw : w = 8 := f.h8.resolve_left (by decide)
  obtain ⟨D, eD, hD⟩ := nat_of (b := 31) f.d0
  obtain ⟨N, eN, hN⟩ := nat_of (b := 31) f.n0
  obtain ⟨M, eM, hM⟩ := nat_of (b := 31) f.m0
  have eA : a = 0 := f.sA
  have eS : s = 0 := f.sS
  have eR : r = 0 := f.sR
  have eC : cond = 0 := f.sC
  have eI : imm = 0#64 := f.sI
  have eO : off = 0 := f.sO
  clear f h
  subst hw eD eN eM eA eS eR eC eI eO
  have E : (encP 25 8 D N M 0 0#64 0 0 0 0).toNat = 2596282368 + N * 2 ^ 5 + M * 2 ^ 16 + D * 2 ^ 0 := by
    have ex : encP 25 8 D N M 0 0#64 0 0 0 0 = orF (baseW 25) [(N, 5, 5), (M, 5, 16), (D, 5, 0)] := by
      show (((baseW 25 ||| fieldW (N : Int) 5) ||| fieldW (M : Int) 16) ||| fieldW (0 : Int) 10) ||| fieldW (D : Int) 0 = _
      try simp only [or0, ← BitVec.or_assoc]
      rfl
    rw [ex, orF_sum _ (baseW 25) (baseW 25) (BitVec.and_self ..) (by simp only [ltF, and_true] <;> omega) (by kernel_rfl), show (baseW 25).toNat = 2596282368 by kernel_rfl]
    simp only [sumF, Nat.reducePow, Nat.reduceMul, Nat.one_mul, Nat.zero_mul] <;> omega
  obtain ⟨Hz, Hde, Hnb, Hmt, Ha, Hf, Hu, Hw, Hl, Hi, Hg, Hj, Hk, Hc, Hr, Hh, Hs⟩ := hasAll (k := 25) (show _ = [false, true, true, true, false, false, false, false, false, false, false, false, false, false, false, false, false] by kernel_rfl)
  have A : (encR 25 8 D N M 0 0#64 0 0 0 0).setWidth 32 = encP 25 8 D N M 0 0#64 0 0 0 0 := by
    have T : (encR 25 8 D N M 0 0#64 0 0 0 0).toNat = 2596282368 + (D + N * 32 + M * 65536 + 0 * 1024 + 0 * 65536) := by
      simp only [encR, Hz, Ha, Hf, Hu, Hw, Hl, Hi, Hg, Hj, Hk, Hc, Hr, Hh, Hs, addIf_t, addIf_f]
      exact encR0_toNat D N M 0 0 (B := 2596282368) (by kernel_rfl) (by omega) (by omega) (by omega) (by omega) (by omega) (by omega)
    have hlt := (encP 25 8 D N M 0 0#64 0 0 0 0).isLt
    rw [E] at hlt
    apply BitVec.eq_of_toNat_eq
    rw [BitVec.toNat_setWidth, T, E, Nat.mod_eq_of_lt (by omega)] <;> omega
  refine ⟨A, ?_, ?_, ?_⟩ <;> clear A <;> generalize encP 25 8 D N M 0 0#64 0 0 0 0 = x at E ⊢
  · have hB : (bw 25).toNat = 2596282368 := by kernel_rfl
    exact near24 Hz Hj (by rw [hB, E] <;> omega)
  · intro α f
    have g25_4 : gt x 25 4 = 13 := gt_is E 25 4 (c := 13) (by omega)
    have hk8 : k8 x = false := by unfold k8; rw [g25_4]; rfl
    have hk5 : k5 x = true := by unfold k5; rw [g25_4]; rfl
    have hk6 : k6 x = false := by unfold k6; rw [g25_4]; rfl
    have g24_5 : gt x 24 5 = 26 := gt_is E 24 5 (c := 26) (by omega)
    have g0_5 : gt x 0 5 = D := gt_is E 0 5 (c := D) (by omega)
    have g5_5 : gt x 5 5 = N := gt_is E 5 5 (c := N) (by omega)
    have g16_5 : gt x 16 5 = M := gt_is E 16 5 (c := M) (by omega)
    have g21_3 : gt x 21 3 = 6 := gt_is E 21 3 (c := 6) (by omega)
    have g10_6 : gt x 10 6 = 8 := gt_is E 10 6 (c := 8) (by omega)
    have g10_2 : gt x 10 2 = 0 := gt_is E 10 2 (c := 0) (by omega)
    have ht8 : t8 x = true := by unfold t8; rw [g10_6]; rfl
    have htO : tO x 0 = 25 := by unfold tO; rw [g21_3, g10_6, ht8, g10_2]; rfl
    have htC : tC x 0 = 0 := by unfold tC; rw [g21_3]; rfl
    have hrO : rO x = 25 := by unfold rO; rw [g24_5, htO]; rfl
    have hrA : rA x = 0 := by unfold rA; rw [g24_5]; rfl
    have hrC : rC x = 0 := by unfold rC k4; rw [g24_5, htC]; rfl
    have hrS : rS x = 0 := by unfold rS k4; rw [g24_5]; rfl
    simp only [onP, kk, hk8, hk5, hk6, if_true, if_false, Bool.false_eq_true, hrO, hrA, hrC, hrS, g0_5, g5_5, g16_5]
  · intro α f
    have g0_5 : gt x 0 5 = D := gt_is E 0 5 (c := D) (by omega)
    have g5_5 : gt x 5 5 = N := gt_is E 5 5 (c := N) (by omega)
    have g16_5 : gt x 16 5 = M := gt_is E 16 5 (c := M) (by omega)
    have htW : tW 25 x = 8 := by unfold tW; rw [Hz]; rfl
    have htI : tI 25 x = 0#64 := by unfold tI; simp only [Hf, Hu, Hw, Hl, Hi, if_true, if_false, Bool.false_eq_true]
    simp only [onT, htW, htI, Hde, Hnb, Hmt, Ha, Hg, Hj, Hk, Hc, Hr, Hh, Hs, if_true, if_false, Bool.false_eq_true, g0_5, g5_5, g16_5]
set_option maxHeartbeats 1000000 in
theorem good_26 {w d n m a : Int} {imm : W64} {off cond r s : Int} (ho : IntKind.i64.has off) (h : mayA 26 w d n m a imm off cond r s = true) : Good 26 w d n m a imm off cond r s := by
  have f := may_facts h
  have hw : w = 8 := f.h8.resolve_left (by decide)
  obtain ⟨D, eD, hD⟩ := nat_of (b := 31) f.d0
  obtain ⟨N, eN, hN⟩ := nat_of (b := 31) f.n0
  obtain ⟨M, eM, hM⟩ := nat_of (b := 31) f.m0
  have eA : a = 0 := f.sA
  have eS : s = 0 := f.sS
  have eR : r = 0 := f.sR
  have eC : cond = 0 := f.sC
  have eI : imm = 0#64 := f.sI
  have eO : off = 0 := f.sO
  clear f h
  subst hw eD eN eM eA eS eR eC eI eO
  have E : (encP 26 8 D N M 0 0#64 0 0 0 0).toNat = 2596283392 + N * 2 ^ 5 + M * 2 ^ 16 + D * 2 ^ 0 := by
    have ex : encP 26 8 D N M 0 0#64 0 0 0 0 = orF (baseW 26) [(N, 5, 5), (M, 5, 16), (D, 5, 0)] := by
      show (((baseW 26 ||| fieldW (N : Int) 5) ||| fieldW (M : Int) 16) ||| fieldW (0 : Int) 10) ||| fieldW (D : Int) 0 = _
      try simp only [or0, ← BitVec.or_assoc]
      rfl
    rw [ex, orF_sum _ (baseW 26) (baseW 26) (BitVec.and_self ..) (by simp only [ltF, and_true] <;> omega) (by kernel_rfl), show (baseW 26).toNat = 2596283392 by kernel_rfl]
    simp only [sumF, Nat.reducePow, Nat.reduceMul, Nat.one_mul, Nat.zero_mul] <;> omega
  obtain ⟨Hz, Hde, Hnb, Hmt, Ha, Hf, Hu, Hw, Hl, Hi, Hg, Hj, Hk, Hc, Hr, Hh, Hs⟩ := hasAll (k := 26) (show _ = [false, true, true, true, false, false, false, false, false, false, false, false, false, false, false, false, false] by kernel_rfl)
  have A : (encR 26 8 D N M 0 0#64 0 0 0 0).setWidth 32 = encP 26 8 D N M 0 0#64 0 0 0 0 := by
    have T : (encR 26 8 D N M 0 0#64 0 0 0 0).toNat = 2596283392 + (D + N * 32 + M * 65536 + 0 * 1024 + 0 * 65536) := by
      simp only [encR, Hz, Ha, Hf, Hu, Hw, Hl, Hi, Hg, Hj, Hk, Hc, Hr, Hh, Hs, addIf_t, addIf_f]
      exact encR0_toNat D N M 0 0 (B := 2596283392) (by kernel_rfl) (by omega) (by omega) (by omega) (by omega) (by omega) (by omega)
    have hlt := (encP 26 8 D N M 0 0#64 0 0 0 0).isLt
    rw [E] at hlt
    apply BitVec.eq_of_toNat_eq
    rw [BitVec.toNat_setWidth, T, E, Nat.mod_eq_of_lt (by omega)] <;> omega
  refine ⟨A, ?_, ?_, ?_⟩ <;> clear A <;> generalize encP 26 8 D N M 0 0#64 0 0 0 0 = x at E ⊢
  · have hB : (bw 26).toNat = 2596283392 := by kernel_rfl
    exact near24 Hz Hj (by rw [hB, E] <;> omega)
  · intro α f
    have g25_4 : gt x 25 4 = 13 := gt_is E 25 4 (c := 13) (by omega)
    have hk8 : k8 x = false := by unfold k8; rw [g25_4]; rfl
    have hk5 : k5 x = true := by unfold k5; rw [g25_4]; rfl
    have hk6 : k6 x = false := by unfold k6; rw [g25_4]; rfl
    have g24_5 : gt x 24 5 = 26 := gt_is E 24 5 (c := 26) (by omega)
    have g0_5 : gt x 0 5 = D := gt_is E 0 5 (c := D) (by omega)
    have g5_5 : gt x 5 5 = N := gt_is E 5 5 (c := N) (by omega)
    have g16_5 : gt x 16 5 = M := gt_is E 16 5 (c := M) (by omega)
    have g21_3 : gt x 21 3 = 6 := gt_is E 21 3 (c := 6) (by omega)
    have g10_6 : gt x 10 6 = 9 := gt_is E 10 6 (c := 9) (by omega)
    have g10_2 : gt x 10 2 = 1 := gt_is E 10 2 (c := 1) (by omega)
    have ht8 : t8 x = true := by unfold t8; rw [g10_6]; rfl
    have htO : tO x 0 = 26 := by unfold tO; rw [g21_3, g10_6, ht8, g10_2]; rfl
    have htC : tC x 0 = 0 := by unfold tC; rw [g21_3]; rfl
    have hrO : rO x = 26 := by unfold rO; rw [g24_5, htO]; rfl
    have hrA : rA x = 0 := by unfold rA; rw [g24_5]; rfl
    have hrC : rC x = 0 := by unfold rC k4; rw [g24_5, htC]; rfl
    have hrS : rS x = 0 := by unfold rS k4; rw [g24_5]; rfl
    simp only [onP, kk, hk8, hk5, hk6, if_true, if_false, Bool.false_eq_true, hrO, hrA, hrC, hrS, g0_5, g5_5, g16_5]
  · intro α f
    have g0_5 : gt x 0 5 = D := gt_is E 0 5 (c := D) (by omega)
    have g5_5 : gt x 5 5 = N := gt_is E 5 5 (c := N) (by omega)
    have g16_5 : gt x 16 5 = M := gt_is E 16 5 (c := M) (by omega)
    have htW : tW 26 x = 8 := by unfold tW; rw [Hz]; rfl
    have htI : tI 26 x = 0#64 := by unfold tI; simp only [Hf, Hu, Hw, Hl, Hi, if_true, if_false, Bool.false_eq_true]
    simp only [onT, htW, htI, Hde, Hnb, Hmt, Ha, Hg, Hj, Hk, Hc, Hr, Hh, Hs, if_true, if_false, Bool.false_eq_true, g0_5, g5_5, g16_5]
set_option maxHeartbeats 1000000 in
theorem good_27 {w d n m a : Int} {imm : W64} {off cond r s : Int} (ho : IntKind.i64.has off) (h : mayA 27 w d n m a imm off cond r s = true) : Good 27 w d n m a imm off cond r s := by
  have f := may_facts h
  have hw : w = 8 := f.h8.resolve_left (by decide)
  obtain ⟨D, eD, hD⟩ := nat_of (b := 31) f.d0
  obtain ⟨N, eN, hN⟩ := nat_of (b := 31) f.n0
  obtain ⟨M, eM, hM⟩ := nat_of (b := 31) f.m0
  have eA : a = 0 := f.sA
  have eS : s = 0 := f.sS
  have eR : r = 0 := f.sR
  have eC : cond = 0 := f.sC
  have eI : imm = 0#64 := f.sI
  have eO : off = 0 := f.sO
  clear f h
  subst hw eD eN eM eA eS eR eC eI eO
  have E : (encP 27 8 D N M 0 0#64 0 0 0 0).toNat = 2596284416 + N * 2 ^ 5 + M * 2 ^ 16 + D * 2 ^ 0 := by
    have ex : encP 27 8 D N M 0 0#64 0 0 0 0 = orF (baseW 27) [(N, 5, 5), (M, 5, 16), (D, 5, 0)] := by
      show (((baseW 27 ||| fieldW (N : Int) 5) ||| fieldW (M : Int) 16) ||| fieldW (0 : Int) 10) ||| fieldW (D : Int) 0 = _
      try simp only [or0, ← BitVec.or_assoc]
      rfl
    rw [ex, orF_sum _ (baseW 27) (baseW 27) (BitVec.and_self ..) (by simp only [ltF, and_true] <;> omega) (by kernel_rfl), show (baseW 27).toNat = 2596284416 by kernel_rfl]
    simp only [sumF, Nat.reducePow, Nat.reduceMul, Nat.one_mul, Nat.zero_mul] <;> omega
  obtain ⟨Hz, Hde, Hnb, Hmt, Ha, Hf, Hu, Hw, Hl, Hi, Hg, Hj, Hk, Hc, Hr, Hh, Hs⟩ := hasAll (k := 27) (show _ = [false, true, true, true, false, false, false, false, false, false, false, false, false, false, false, false, false] by kernel_rfl)
  have A : (encR 27 8 D N M 0 0#64 0 0 0 0).setWidth 32 = encP 27 8 D N M 0 0#64 0 0 0 0 := by
    have T : (encR 27 8 D N M 0 0#64 0 0 0 0).toNat = 2596284416 + (D + N * 32 + M * 65536 + 0 * 1024 + 0 * 65536) := by
      simp only [encR, Hz, Ha, Hf, Hu, Hw, Hl, Hi, Hg, Hj, Hk, Hc, Hr, Hh, Hs, addIf_t, addIf_f]
      exact encR0_toNat D N M 0 0 (B := 2596284416) (by kernel_rfl) (by omega) (by omega) (by omega) (by omega) (by omega) (by omega)
    have hlt := (encP 27 8 D N M 0 0#64 0 0 0 0).isLt
    rw [E] at hlt
    apply BitVec.eq_of_toNat_eq
    rw [BitVec.toNat_setWidth, T, E, Nat.mod_eq_of_lt (by omega)] <;> omega
  refine ⟨A, ?_, ?_, ?_⟩ <;> clear A <;> generalize encP 27 8 D N M 0 0#64 0 0 0 0 = x at E ⊢
  · have hB : (bw 27).toNat = 2596284416 := by kernel_rfl
    exact near24 Hz Hj (by rw [hB, E] <;> omega)
  · intro α f
    have g25_4 : gt x 25 4 = 13 := gt_is E 25 4 (c := 13) (by omega)
    have hk8 : k8 x = false := by unfold k8; rw [g25_4]; rfl
    have hk5 : k5 x = true := by unfold k5; rw [g25_4]; rfl
    have hk6 : k6 x = false := by unfold k6; rw [g25_4]; rfl
    have g24_5 : gt x 24 5 = 26 := gt_is E 24 5 (c := 26) (by omega)
    have g0_5 : gt x 0 5 = D := gt_is E 0 5 (c := D) (by omega)
    have g5_5 : gt x 5 5 = N := gt_is E 5 5 (c := N) (by omega)
    have g16_5 : gt x 16 5 = M := gt_is E 16 5 (c := M) (by omega)
    have g21_3 : gt x 21 3 = 6 := gt_is E 21 3 (c := 6) (by omega)
    have g10_6 : gt x 10 6 = 10 := gt_is E 10 6 (c := 10) (by omega)
    have g10_2 : gt x 10 2 = 2 := gt_is E 10 2 (c := 2) (by omega)
    have ht8 : t8 x = true := by unfold t8; rw [g10_6]; rfl
    have htO : tO x 0 = 27 := by unfold tO; rw [g21_3, g10_6, ht8, g10_2]; rfl
    have htC : tC x 0 = 0 := by unfold tC; rw [g21_3]; rfl
    have hrO : rO x = 27 := by unfold rO; rw [g24_5, htO]; rfl
    have hrA : rA x = 0 := by unfold rA; rw [g24_5]; rfl
    have hrC : rC x = 0 := by unfold rC k4; rw [g24_5, htC]; rfl
    have hrS : rS x = 0 := by unfold rS k4; rw [g24_5]; rfl
    simp only [onP, kk, hk8, hk5, hk6, if_true, if_false, Bool.false_eq_true, hrO, hrA, hrC, hrS, g0_5, g5_5, g16_5]
  · intro α f
    have g0_5 : gt x 0 5 = D := gt_is E 0 5 (c := D) (by omega)
    have g5_5 : gt x 5 5 = N := gt_is E 5 5 (c := N) (by omega)
    have g16_5 : gt x 16 5 = M := gt_is E 16 5 (c := M) (by omega)
    have htW : tW 27 x = 8 := by unfold tW; rw [Hz]; rfl
    have htI : tI 27 x = 0#64 := by unfold tI; simp only [Hf, Hu, Hw, Hl, Hi, if_true, if_false, Bool.false_eq_true]
    simp only [onT, htW, htI, Hde, Hnb, Hmt, Ha, Hg, Hj, Hk, Hc, Hr, Hh, Hs, if_true, if_false, Bool.false_eq_true, g0_5, g5_5, g16_5]
set_option maxHeartbeats 1000000 in
theorem good_28 {w d n m a : Int} {imm : W64} {off cond r s : Int} (ho : IntKind.i64.has off) (h : mayA 28 w d n m a imm off cond r s = true) : Good 28 w d n m a imm off cond r s := by
  have f := may_facts h
  have hw : w = 8 := f.h8.resolve_left (by decide)
  obtain ⟨D, eD, hD⟩ := nat_of (b := 31) f.d0
  obtain ⟨N, eN, hN⟩ := nat_of (b := 31) f.n0
  obtain ⟨M, eM, hM⟩ := nat_of (b := 31) f.m0
  have eA : a = 0 := f.sA
  have eS : s = 0 := f.sS
  have eR : r = 0 := f.sR
  have eC : cond = 0 := f.sC
  have eI : imm = 0#64 := f.sI
  have eO : off = 0 := f.sO
  clear f h
  subst hw eD eN eM eA eS eR eC eI eO
  have E : (encP 28 8 D N M 0 0#64 0 0 0 0).toNat = 2596285440 + N * 2 ^ 5 + M * 2 ^ 16 + D * 2 ^ 0 := by
    have ex : encP 28 8 D N M 0 0#64 0 0 0 0 = orF (baseW 28) [(N, 5, 5), (M, 5, 16), (D, 5, 0)] := by
      show (((baseW 28 ||| fieldW (N : Int) 5) ||| fieldW (M : Int) 16) ||| fieldW (0 : Int) 10) ||| fieldW (D : Int) 0 = _
      try simp only [or0, ← BitVec.or_assoc]
      rfl
    rw [ex, orF_sum _ (baseW 28) (baseW 28) (BitVec.and_self ..) (by simp only [ltF, and_true] <;> omega) (by kernel_rfl), show (baseW 28).toNat = 2596285440 by kernel_rfl]
    simp only [sumF, Nat.reducePow, Nat.reduceMul, Nat.one_mul, Nat.zero_mul] <;> omega
  obtain ⟨Hz, Hde, Hnb, Hmt, Ha, Hf, Hu, Hw, Hl, Hi, Hg, Hj, Hk, Hc, Hr, Hh, Hs⟩ := hasAll (k := 28) (show _ = [false, true, true, true, false, false, false, false, false, false, false, false, false, false, false, false, false] by kernel_rfl)
  have A : (encR 28 8 D N M 0 0#64 0 0 0 0).setWidth 32 = encP 28 8 D N M 0 0#64 0 0 0 0 := by
    have T : (encR 28 8 D N M 0 0#64 0 0 0 0).toNat = 2596285440 + (D + N * 32 + M * 65536 + 0 * 1024 + 0 * 65536) := by
      simp only [encR, Hz, Ha, Hf, Hu, Hw, Hl, Hi, Hg, Hj, Hk, Hc, Hr, Hh, Hs, addIf_t, addIf_f]
      exact encR0_toNat D N M 0 0 (B := 2596285440) (by kernel_rfl) (by omega) (by omega) (by omega) (by omega) (by omega) (by omega)
    have hlt := (encP 28 8 D N M 0 0#64 0 0 0 0).isLt
    rw [E] at hlt
    apply BitVec.eq_of_toNat_eq
    rw [BitVec.toNat_setWidth, T, E, Nat.mod_eq_of_lt (by omega)] <;> omega
  refine ⟨A, ?_, ?_, ?_⟩ <;> clear A <;> generalize encP 28 8 D N M 0 0#64 0 0 0 0 = x at E ⊢
  · have hB : (bw 28).toNat = 2596285440 := by kernel_rfl
    exact near24 Hz Hj (by rw [hB, E] <;> omega)
  · intro α f
    have g25_4 : gt x 25 4 = 13 := gt_is E 25 4 (c := 13) (by omega)
    have hk8 : k8 x = false := by unfold k8; rw [g25_4]; rfl
    have hk5 : k5 x = true := by unfold k5; rw [g25_4]; rfl
    have hk6 : k6 x = false := by unfold k6; rw [g25_4]; rfl
    have g24_5 : gt x 24 5 = 26 := gt_is E 24 5 (c := 26) (by omega)
    have g0_5 : gt x 0 5 = D := gt_is E 0 5 (c := D) (by omega)
    have g5_5 : gt x 5 5 = N := gt_is E 5 5 (c := N) (by omega)
    have g16_5 : gt x 16 5 = M := gt_is E 16 5 (c := M) (by omega)
    have g21_3 : gt x 21 3 = 6 := gt_is E 21 3 (c := 6) (by omega)
    have g10_6 : gt x 10 6 = 11 := gt_is E 10 6 (c := 11) (by omega)
    have g10_2 : gt x 10 2 = 3 := gt_is E 10 2 (c := 3) (by omega)
    have ht8 : t8 x = true := by unfold t8; rw [g10_6]; rfl
    have htO : tO x 0 = 28 := by unfold tO; rw [g21_3, g10_6, ht8, g10_2]; rfl
    have htC : tC x 0 = 0 := by unfold tC; rw [g21_3]; rfl
    have hrO : rO x = 28 := by unfold rO; rw [g24_5, htO]; rfl
    have hrA : rA x = 0 := by unfold rA; rw [g24_5]; rfl
    have hrC : rC x = 0 := by unfold rC k4; rw [g24_5, htC]; rfl
    have hrS : rS x = 0 := by unfold rS k4; rw [g24_5]; rfl
    simp only [onP, kk, hk8, hk5, hk6, if_true, if_false, Bool.false_eq_true, hrO, hrA, hrC, hrS, g0_5, g5_5, g16_5]
  · intro α f
    have g0_5 : gt x 0 5 = D := gt_is E 0 5 (c := D) (by omega)
    have g5_5 : gt x 5 5 = N := gt_is E 5 5 (c := N) (by omega)
    have g16_5 : gt x 16 5 = M := gt_is E 16 5 (c := M) (by omega)
    have htW : tW 28 x = 8 := by unfold tW; rw [Hz]; rfl
    have htI : tI 28 x = 0#64 := by unfold tI; simp only [Hf, Hu, Hw, Hl, Hi, if_true, if_false, Bool.false_eq_true]
    simp only [onT, htW, htI, Hde, Hnb, Hmt, Ha, Hg, Hj, Hk, Hc, Hr, Hh, Hs, if_true, if_false, Bool.false_eq_true, g0_5, g5_5, g16_5]
set_option maxHeartbeats 1000000 in
theorem good_29 {w d n m a : Int} {imm : W64} {off cond r s : Int} (ho : IntKind.i64.has off) (h : mayA 29 w d n m a imm off cond r s = true) : Good 29 w d n m a imm off cond r s := by
  have f := may_facts h
  have hw : w = 8 := f.h8.resolve_left (by decide)
  obtain ⟨D, eD, hD⟩ := nat_of (b := 31) f.d0
  obtain ⟨N, eN, hN⟩ := nat_of (b := 31) f.n0
  have eM : m = 0 := f.sM
  have eA : a = 0 := f.sA
  obtain ⟨S, eS, hS⟩ := nat_of (b := 63) f.s0
  obtain ⟨R, eR, hR⟩ := nat_of (b := 63) f.r0
  have eC : cond = 0 := f.sC
  have eI : imm = 0#64 := f.sI
  have eO : off = 0 := f.sO
  clear f h
  subst hw eD eN eM eA eS eR eC eI eO
  have E : (encP 29 8 D N 0 0 0#64 0 0 R S).toNat = 3544186880 + N * 2 ^ 5 + S * 2 ^ 10 + R * 2 ^ 16 + D * 2 ^ 0 := by
    have ex : encP 29 8 D N 0 0 0#64 0 0 R S = orF (baseW 29) [(N, 5, 5), (S, 6, 10), (R, 6, 16), (D, 5, 0)] := by
      show ((((baseW 29 ||| fieldW (N : Int) 5) ||| fieldW (0 : Int) 16) ||| fieldW (0 : Int) 10) ||| (fieldW (S : Int) 10 ||| fieldW (R : Int) 16)) ||| fieldW (D : Int) 0 = _
      try simp only [or0, ← BitVec.or_assoc]
      rfl
    rw [ex, orF_sum _ (baseW 29) (baseW 29) (BitVec.and_self ..) (by simp only [ltF, and_true] <;> omega) (by kernel_rfl), show (baseW 29).toNat = 3544186880 by kernel_rfl]
    simp only [sumF, Nat.reducePow, Nat.reduceMul, Nat.one_mul, Nat.zero_mul] <;> omega
  obtain ⟨Hz, Hde, Hnb, Hmt, Ha, Hf, Hu, Hw, Hl, Hi, Hg, Hj, Hk, Hc, Hr, Hh, Hs⟩ := hasAll (k := 29) (show _ = [false, true, true, false, false, false, false, false, false, false, false, false, false, false, true, false, true] by kernel_rfl)
  have A : (encR 29 8 D N 0 0 0#64 0 0 R S).setWidth 32 = encP 29 8 D N 0 0 0#64 0 0 R S := by
    have T : (encR 29 8 D N 0 0 0#64 0 0 R S).toNat = 3544186880 + (D + N * 32 + 0 * 65536 + 0 * 1024 + R * 65536) + S * 1024 := by
      simp only [encR, Hz, Ha, Hf, Hu, Hw, Hl, Hi, Hg, Hj, Hk, Hc, Hr, Hh, Hs, addIf_t, addIf_f]
      exact t_add (encR0_toNat D N 0 0 R (B := 3544186880) (by kernel_rfl) (by omega) (by omega) (by omega) (by omega) (by omega) (by omega)) (t_mul (t_ofI S (by omega)) (t_lit 1024) (by omega)) (by omega)
    have hlt := (encP 29 8 D N 0 0 0#64 0 0 R S).isLt
    rw [E] at hlt
    apply BitVec.eq_of_toNat_eq
    rw [BitVec.toNat_setWidth, T, E, Nat.mod_eq_of_lt (by omega)] <;> omega
  refine ⟨A, ?_, ?_, ?_⟩ <;> clear A <;> generalize encP 29 8 D N 0 0 0#64 0 0 R S = x at E ⊢
  · have hB : (bw 29).toNat = 3544186880 := by kernel_rfl
    exact near24 Hz Hj (by rw [hB, E] <;> omega)
  · intro α f
    have g25_4 : gt x 25 4 = 9 := gt_is E 25 4 (c := 9) (by omega)
    have hk8 : k8 x = true := by unfold k8; rw [g25_4]; rfl
    have hk5 : k5 x = false := by unfold k5; rw [g25_4]; rfl
    have hk6 : k6 x = false := by unfold k6; rw [g25_4]; rfl
    have g23_6 : gt x 23 6 = 38 := gt_is E 23 6 (c := 38) (by omega)
    have g29_2 : gt x 29 2 = 2 := gt_is E 29 2 (c := 2) (by omega)
    have hmO : mO x = 29 := by unfold mO; rw [g23_6, g29_2]; rfl
    have g5_5 : gt x 5 5 = N := gt_is E 5 5 (c := N) (by omega)
    have hmN : mN x = (N : Int) := by unfold mN; rw [g23_6, g5_5]; rfl
    have hmI : mI x = 0#64 := by unfold mI; rw [g23_6]; rfl
    have g16_6 : gt x 16 6 = R := gt_is E 16 6 (c := R) (by omega)
    have hmR : mR x = (R : Int) := by unfold mR; rw [g23_6, g16_6]; rfl
    have g10_6 : gt x 10 6 = S := gt_is E 10 6 (c := S) (by omega)
    have hmS : mS x = (S : Int) := by unfold mS; rw [g23_6, g10_6]; rfl
    have g0_5 : gt x 0 5 = D := gt_is E 0 5 (c := D) (by omega)
    simp only [onP, kk, hk8, hk5, hk6, if_true, if_false, Bool.false_eq_true, hmO, hmN, hmI, hmR, hmS, g0_5]
  · intro α f
    have g0_5 : gt x 0 5 = D := gt_is E 0 5 (c := D) (by omega)
    have g5_5 : gt x 5 5 = N := gt_is E 5 5 (c := N) (by omega)
    have g16_6 : gt x 16 6 = R := gt_is E 16 6 (c := R) (by omega)
    have g10_6 : gt x 10 6 = S := gt_is E 10 6 (c := S) (by omega)
    have htW : tW 29 x = 8 := by unfold tW; rw [Hz]; rfl
    have htI : tI 29 x = 0#64 := by unfold tI; simp only [Hf, Hu, Hw, Hl, Hi, if_true, if_false, Bool.false_eq_true]
    simp only [onT, htW, htI, Hde, Hnb, Hmt, Ha, Hg, Hj, Hk, Hc, Hr, Hh, Hs, if_true, if_false, Bool.false_eq_true, g0_5, g5_5, g16_6, g10_6]
set_option maxHeartbeats 1000000 in
theorem good_30 {w d n m a : Int} {imm : W64} {off cond r s : Int} (ho : IntKind.i64.has off) (h : mayA 30 w d n m a imm off cond r s = true) : Good 30 w d n m a imm off cond r s := by
  have f := may_facts h
  have hw : w = 8 := f.h8.resolve_left (by decide)
  obtain ⟨D, eD, hD⟩ := nat_of (b := 31) f.d0
  obtain ⟨N, eN, hN⟩ := nat_of (b := 31) f.n0
  have eM : m = 0 := f.sM
  have eA : a = 0 := f.sA
  obtain ⟨S, eS, hS⟩ := nat_of (b := 63) f.s0
  obtain ⟨R, eR, hR⟩ := nat_of (b := 63) f.r0
  have eC : cond = 0 := f.sC
  have eI : imm = 0#64 := f.sI
  have eO : off = 0 := f.sO
  clear f h
  subst hw eD eN eM eA eS eR eC eI eO
  have E : (encP 30 8 D N 0 0 0#64 0 0 R S).toNat = 2470445056 + N * 2 ^ 5 + S * 2 ^ 10 + R * 2 ^ 16 + D * 2 ^ 0 := by
    have ex : encP 30 8 D N 0 0 0#64 0 0 R S = orF (baseW 30) [(N, 5, 5), (S, 6, 10), (R, 6, 16), (D, 5, 0)] := by
      show ((((baseW 30 ||| fieldW (N : Int) 5) ||| fieldW (0 : Int) 16) ||| fieldW (0 : Int) 10) ||| (fieldW (S : Int) 10 ||| fieldW (R : Int) 16)) ||| fieldW (D : Int) 0 = _
      try simp only [or0, ← BitVec.or_assoc]
      rfl
    rw [ex, orF_sum _ (baseW 30) (baseW 30) (BitVec.and_self ..) (by simp only [ltF, and_true] <;> omega) (by kernel_rfl), show (baseW 30).toNat = 2470445056 by kernel_rfl]
    simp only [sumF, Nat.reducePow, Nat.reduceMul, Nat.one_mul, Nat.zero_mul] <;> omega
  obtain ⟨Hz, Hde, Hnb, Hmt, Ha, Hf, Hu, Hw, Hl, Hi, Hg, Hj, Hk, Hc, Hr, Hh, Hs⟩ := hasAll (k := 30) (show _ = [false, true, true, false, false, false, false, false, false, false, false, false, false, false, true, false, true] by kernel_rfl)
  have A : (encR 30 8 D N 0 0 0#64 0 0 R S).setWidth 32 = encP 30 8 D N 0 0 0#64 0 0 R S := by
    have T : (encR 30 8 D N 0 0 0#64 0 0 R S).toNat = 2470445056 + (D + N * 32 + 0 * 65536 + 0 * 1024 + R * 65536) + S * 1024 := by
      simp only [encR, Hz, Ha, Hf, Hu, Hw, Hl, Hi, Hg, Hj, Hk, Hc, Hr, Hh, Hs, addIf_t, addIf_f]
      exact t_add (encR0_toNat D N 0 0 R (B := 2470445056) (by kernel_rfl) (by omega) (by omega) (by omega) (by omega) (by omega) (by omega)) (t_mul (t_ofI S (by omega)) (t_lit 1024) (by omega)) (by omega)
    have hlt := (encP 30 8 D N 0 0 0#64 0 0 R S).isLt
    rw [E] at hlt
    apply BitVec.eq_of_toNat_eq
    rw [BitVec.toNat_setWidth, T, E, Nat.mod_eq_of_lt (by omega)] <;> omega
  refine ⟨A, ?_, ?_, ?_⟩ <;> clear A <;> generalize encP 30 8 D N 0 0 0#64 0 0 R S = x at E ⊢
  · have hB : (bw 30).toNat = 2470445056 := by kernel_rfl
    exact near24 Hz Hj (by rw [hB, E] <;> omega)
  · intro α f
    have g25_4 : gt x 25 4 = 9 := gt_is E 25 4 (c := 9) (by omega)
    have hk8 : k8 x = true := by unfold k8; rw [g25_4]; rfl
    have hk5 : k5 x = false := by unfold k5; rw [g25_4]; rfl
    have hk6 : k6 x = false := by unfold k6; rw [g25_4]; rfl
    have g23_6 : gt x 23 6 = 38 := gt_is E 23 6 (c := 38) (by omega)
    have g29_2 : gt x 29 2 = 0 := gt_is E 29 2 (c := 0) (by omega)
    have hmO : mO x = 30 := by unfold mO; rw [g23_6, g29_2]; rfl
    have g5_5 : gt x 5 5 = N := gt_is E 5 5 (c := N) (by omega)
    have hmN : mN x = (N : Int) := by unfold mN; rw [g23_6, g5_5]; rfl
    have hmI : mI x = 0#64 := by unfold mI; rw [g23_6]; rfl
    have g16_6 : gt x 16 6 = R := gt_is E 16 6 (c := R) (by omega)
    have hmR : mR x = (R : Int) := by unfold mR; rw [g23_6, g16_6]; rfl
    have g10_6 : gt x 10 6 = S := gt_is E 10 6 (c := S) (by omega)
    have hmS : mS x = (S : Int) := by unfold mS; rw [g23_6, g10_6]; rfl
    have g0_5 : gt x 0 5 = D := gt_is E 0 5 (c := D) (by omega)
    simp only [onP, kk, hk8, hk5, hk6, if_true, if_false, Bool.false_eq_true, hmO, hmN, hmI, hmR, hmS, g0_5]
  · intro α f
    have g0_5 : gt x 0 5 = D := gt_is E 0 5 (c := D) (by omega)
    have g5_5 : gt x 5 5 = N := gt_is E 5 5 (c := N) (by omega)
    have g16_6 : gt x 16 6 = R := gt_is E 16 6 (c := R) (by omega)
    have g10_6 : gt x 10 6 = S := gt_is E 10 6 (c := S) (by omega)
    have htW : tW 30 x = 8 := by unfold tW; rw [Hz]; rfl
    have htI : tI 30 x = 0#64 := by unfold tI; simp only [Hf, Hu, Hw, Hl, Hi, if_true, if_false, Bool.false_eq_true]
    simp only [onT, htW, htI, Hde, Hnb, Hmt, Ha, Hg, Hj, Hk, Hc, Hr, Hh, Hs, if_true, if_false, Bool.false_eq_true, g0_5, g5_5, g16_6, g10_6]
set_option maxHeartbeats 1000000 in
theorem good_31 {w d n m a : Int} {imm : W64} {off cond r s : Int} (ho : IntKind.i64.has off) (h : mayA 31 w d n m a imm off cond r s = true) : Good 31 w d n m a imm off cond r s := by
  have f := may_facts h
  have hw : w = 8 := f.h8.resolve_left (by decide)
  obtain ⟨D, eD, hD⟩ := nat_of (b := 31) f.d0
  obtain ⟨N, eN, hN⟩ := nat_of (b := 31) f.n0
  obtain ⟨M, eM, hM⟩ := nat_of (b := 31) f.m0
  have eA : a = 0 := f.sA
  have eS : s = 0 := f.sS
  have eR : r = 0 := f.sR
  obtain ⟨C, eC, hC⟩ := nat_of (b := 15) f.c0
  have eI : imm = 0#64 := f.sI
  have eO : off = 0 := f.sO
  clear f h
  subst hw eD eN eM eA eS eR eC eI eO
  have E : (encP 31 8 D N M 0 0#64 0 C 0 0).toNat = 2592079872 + N * 2 ^ 5 + M * 2 ^ 16 + C * 2 ^ 12 + D * 2 ^ 0 := by
    have ex : encP 31 8 D N M 0 0#64 0 C 0 0 = orF (baseW 31) [(N, 5, 5), (M, 5, 16), (C, 4, 12), (D, 5, 0)] := by
      show ((((baseW 31 ||| fieldW (N : Int) 5) ||| fieldW (M : Int) 16) ||| fieldW (0 : Int) 10) ||| (fieldW (C : Int) 12)) ||| fieldW (D : Int) 0 = _
      try simp only [or0, ← BitVec.or_assoc]
      rfl
    rw [ex, orF_sum _ (baseW 31) (baseW 31) (BitVec.and_self ..) (by simp only [ltF, and_true] <;> omega) (by kernel_rfl), show (baseW 31).toNat = 2592079872 by kernel_rfl]
    simp only [sumF, Nat.reducePow, Nat.reduceMul, Nat.one_mul, Nat.zero_mul] <;> omega
  obtain ⟨Hz, Hde, Hnb, Hmt, Ha, Hf, Hu, Hw, Hl, Hi, Hg, Hj, Hk, Hc, Hr, Hh, Hs⟩ := hasAll (k := 31) (show _ = [false, true, true, true, false, false, false, false, false, false, false, false, false, true, false, false, false] by kernel_rfl)
  have A : (encR 31 8 D N M 0 0#64 0 C 0 0).setWidth 32 = encP 31 8 D N M 0 0#64 0 C 0 0 := by
    have T : (encR 31 8 D N M 0 0#64 0 C 0 0).toNat = 2592079872 + (D + N * 32 + M * 65536 + 0 * 1024 + 0 * 65536) + C * 4096 := by
      simp only [encR, Hz, Ha, Hf, Hu, Hw, Hl, Hi, Hg, Hj, Hk, Hc, Hr, Hh, Hs, addIf_t, addIf_f]
      exact t_add (encR0_toNat D N M 0 0 (B := 2592079872) (by kernel_rfl) (by omega) (by omega) (by omega) (by omega) (by omega) (by omega)) (t_mul (t_ofI C (by omega)) (t_lit 4096) (by omega)) (by omega)
    have hlt := (encP 31 8 D N M 0 0#64 0 C 0 0).isLt
    rw [E] at hlt
    apply BitVec.eq_of_toNat_eq
    rw [BitVec.toNat_setWidth, T, E, Nat.mod_eq_of_lt (by omega)] <;> omega
  refine ⟨A, ?_, ?_, ?_⟩ <;> clear A <;> generalize encP 31 8 D N M 0 0#64 0 C 0 0 = x at E ⊢
  · have hB : (bw 31).toNat = 2592079872 := by kernel_rfl
    exact near24 Hz Hj (by rw [hB, E] <;> omega)
  · intro α f
    have g25_4 : gt x 25 4 = 13 := gt_is E 25 4 (c := 13) (by omega)
    have hk8 : k8 x = false := by unfold k8; rw [g25_4]; rfl
    have hk5 : k5 x = true := by unfold k5; rw [g25_4]; rfl
    have hk6 : k6 x = false := by unfold k6; rw [g25_4]; rfl
    have g24_5 : gt x 24 5 = 26 := gt_is E 24 5 (c := 26) (by omega)
    have g0_5 : gt x 0 5 = D := gt_is E 0 5 (c := D) (by omega)
    have g5_5 : gt x 5 5 = N := gt_is E 5 5 (c := N) (by omega)
    have g16_5 : gt x 16 5 = M := gt_is E 16 5 (c := M) (by omega)
    have g21_3 : gt x 21 3 = 4 := gt_is E 21 3 (c := 4) (by omega)
    have g10_1 : gt x 10 1 = 0 := gt_is E 10 1 (c := 0) (by omega)
    have g12_4 : gt x 12 4 = C := gt_is E 12 4 (c := C) (by omega)
    have htO : tO x 0 = 31 := by unfold tO; rw [g21_3, g10_1]; rfl
    have htC : tC x 0 = (C : Int) := by unfold tC; rw [g21_3, g12_4]; rfl
    have hrO : rO x = 31 := by unfold rO; rw [g24_5, htO]; rfl
    have hrA : rA x = 0 := by unfold rA; rw [g24_5]; rfl
    have hrC : rC x = (C : Int) := by unfold rC k4; rw [g24_5, htC]; rfl
    have hrS : rS x = 0 := by unfold rS k4; rw [g24_5]; rfl
    simp only [onP, kk, hk8, hk5, hk6, if_true, if_false, Bool.false_eq_true, hrO, hrA, hrC, hrS, g0_5, g5_5, g16_5]
  · intro α f
    have g0_5 : gt x 0 5 = D := gt_is E 0 5 (c := D) (by omega)
    have g5_5 : gt x 5 5 = N := gt_is E 5 5 (c := N) (by omega)
    have g16_5 : gt x 16 5 = M := gt_is E 16 5 (c := M) (by omega)
    have g12_4 : gt x 12 4 = C := gt_is E 12 4 (c := C) (by omega)
    have htW : tW 31 x = 8 := by unfold tW; rw [Hz]; rfl
    have htI : tI 31 x = 0#64 := by unfold tI; simp only [Hf, Hu, Hw, Hl, Hi, if_true, if_false, Bool.false_eq_true]
    simp only [onT, htW, htI, Hde, Hnb, Hmt, Ha, Hg, Hj, Hk, Hc, Hr, Hh, Hs, if_true, if_false, Bool.false_eq_true, g0_5, g5_5, g16_5, g12_4]
set_option maxHeartbeats 1000000 in
theorem good_32 {w d n m a : Int} {imm : W64} {off cond r s : Int} (ho : IntKind.i64.has off) (h : mayA 32 w d n m a imm off cond r s = true) : Good 32 w d n m a imm off cond r s := by
  have f := may_facts h
  have hw : w = 8 := f.h8.resolve_left (by decide)
  obtain ⟨D, eD, hD⟩ := nat_of (b := 31) f.d0
  obtain ⟨N, eN, hN⟩ := nat_of (b := 31) f.n0
  obtain ⟨M, eM, hM⟩ := nat_of (b := 31) f.m0
  have eA : a = 0 := f.sA
  have eS : s = 0 := f.sS
  have eR : r = 0 := f.sR
  obtain ⟨C, eC, hC⟩ := nat_of (b := 15) f.c0
  have eI : imm = 0#64 := f.sI
  have eO : off = 0 := f.sO
  clear f h
  subst hw eD eN eM eA eS eR eC eI eO
  have E : (encP 32 8 D N M 0 0#64 0 C 0 0).toNat = 2592080896 + N * 2 ^ 5 + M * 2 ^ 16 + C * 2 ^ 12 + D * 2 ^ 0 := by
    have ex : encP 32 8 D N M 0 0#64 0 C 0 0 = orF (baseW 32) [(N, 5, 5), (M, 5, 16), (C, 4, 12), (D, 5, 0)] := by
      show ((((baseW 32 ||| fieldW (N : Int) 5) ||| fieldW (M : Int) 16) ||| fieldW (0 : Int) 10) ||| (fieldW (C : Int) 12)) ||| fieldW (D : Int) 0 = _
      try simp only [or0, ← BitVec.or_assoc]
      rfl
    rw [ex, orF_sum _ (baseW 32) (baseW 32) (BitVec.and_self ..) (by simp only [ltF, and_true] <;> omega) (by kernel_rfl), show (baseW 32).toNat = 2592080896 by kernel_rfl]
    simp only [sumF, Nat.reducePow, Nat.reduceMul, Nat.one_mul, Nat.zero_mul] <;> omega
  obtain ⟨Hz, Hde, Hnb, Hmt, Ha, Hf, Hu, Hw, Hl, Hi, Hg, Hj, Hk, Hc, Hr, Hh, Hs⟩ := hasAll (k := 32) (show _ = [false, true, true, true, false, false, false, false, false, false, false, false, false, true, false, false, false] by kernel_rfl)
  have A : (encR 32 8 D N M 0 0#64 0 C 0 0).setWidth 32 = encP 32 8 D N M 0 0#64 0 C 0 0 := by
    have T : (encR 32 8 D N M 0 0#64 0 C 0 0).toNat = 2592080896 + (D + N * 32 + M * 65536 + 0 * 1024 + 0 * 65536) + C * 4096 := by
      simp only [encR, Hz, Ha, Hf, Hu, Hw, Hl, Hi, Hg, Hj, Hk, Hc, Hr, Hh, Hs, addIf_t, addIf_f]
      exact t_add (encR0_toNat D N M 0 0 (B := 2592080896) (by kernel_rfl) (by omega) (by omega) (by omega) (by omega) (by omega) (by omega)) (t_mul (t_ofI C (by omega)) (t_lit 4096) (by omega)) (by omega)
    have hlt := (encP 32 8 D N M 0 0#64 0 C 0 0).isLt
    rw [E] at hlt
    apply BitVec.eq_of_toNat_eq
    rw [BitVec.toNat_setWidth, T, E, Nat.mod_eq_of_lt (by omega)] <;> omega
  refine ⟨A, ?_, ?_, ?_⟩ <;> clear A <;> generalize encP 32 8 D N M 0 0#64 0 C 0 0 = x at E ⊢
  · have hB : (bw 32).toNat = 2592080896 := by kernel_rfl
    exact near24 Hz Hj (by rw [hB, E] <;> omega)
  · intro α f
    have g25_4 : gt x 25 4 = 13 := gt_is E 25 4 (c := 13) (by omega)
    have hk8 : k8 x = false := by unfold k8; rw [g25_4]; rfl
    have hk5 : k5 x = true := by unfold k5; rw [g25_4]; rfl
    have hk6 : k6 x = false := by unfold k6; rw [g25_4]; rfl
    have g24_5 : gt x 24 5 = 26 := gt_is E 24 5 (c := 26) (by omega)
    have g0_5 : gt x 0 5 = D := gt_is E 0 5 (c := D) (by omega)
    have g5_5 : gt x 5 5 = N := gt_is E 5 5 (c := N) (by omega)
    have g16_5 : gt x 16 5 = M := gt_is E 16 5 (c := M) (by omega)
    have g21_3 : gt x 21 3 = 4 := gt_is E 21 3 (c := 4) (by omega)
    have g10_1 : gt x 10 1 = 1 := gt_is E 10 1 (c := 1) (by omega)
    have g12_4 : gt x 12 4 = C := gt_is E 12 4 (c := C) (by omega)
    have htO : tO x 0 = 32 := by unfold tO; rw [g21_3, g10_1]; rfl
    have htC : tC x 0 = (C : Int) := by unfold tC; rw [g21_3, g12_4]; rfl
    have hrO : rO x = 32 := by unfold rO; rw [g24_5, htO]; rfl
    have hrA : rA x = 0 := by unfold rA; rw [g24_5]; rfl
    have hrC : rC x = (C : Int) := by unfold rC k4; rw [g24_5, htC]; rfl
    have hrS : rS x = 0 := by unfold rS k4; rw [g24_5]; rfl
    simp only [onP, kk, hk8, hk5, hk6, if_true, if_false, Bool.false_eq_true, hrO, hrA, hrC, hrS, g0_5, g5_5, g16_5]
  · intro α f
    have g0_5 : gt x 0 5 = D := gt_is E 0 5 (c := D) (by omega)
    have g5_5 : gt x 5 5 = N := gt_is E 5 5 (c := N) (by omega)
    have g16_5 : gt x 16 5 = M := gt_is E 16 5 (c := M) (by omega)
    have g12_4 : gt x 12 4 = C := gt_is E 12 4 (c := C) (by omega)
    have htW : tW 32 x = 8 := by unfold tW; rw [Hz]; rfl
    have htI : tI 32 x = 0#64 := by unfold tI; simp only [Hf, Hu, Hw, Hl, Hi, if_true, if_false, Bool.false_eq_true]
    simp only [onT, htW, htI, Hde, Hnb, Hmt, Ha, Hg, Hj, Hk, Hc, Hr, Hh, Hs, if_true, if_false, Bool.false_eq_true, g0_5, g5_5, g16_5, g12_4]
end Go.Proofs.YtocfkaihfjbfnaaDoor
