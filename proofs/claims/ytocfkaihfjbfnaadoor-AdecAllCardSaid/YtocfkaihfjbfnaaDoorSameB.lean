/- Lemmas: each operation's word is read back, second part. No condition. -/
import Derived.Test.YtocfkaihfjbfnaaDoorWords
set_option linter.unusedVariables false
set_option linter.unusedSimpArgs false
set_option maxRecDepth 100000
namespace Go.Proofs.YtocfkaihfjbfnaaDoor
open Go.Proofs.YtocfkaihfjbfnaaDoor.Ev Go.RowKit
/- Plain: the words of operations (printed by decops.py). -/
set_option maxHeartbeats 1000000 in
theorem good_33_1 {d n m a : Int} {imm : W64} {off cond r s : Int} (ho : IntKind.i64.has off) (h : mayA 33 1 d n m a imm off cond r s = true) : Good 33 1 d n m a imm off cond r s := by
  have f := may_facts h
  have hQ := f.nums
  simp [numsB, inB] at hQ
  have hU0 : imm.toNat % 1 = 0 := Nat.mod_one _
  have hU1 : imm.toNat / 1 < 4096 := by simpa [BitVec.toNat_udiv] using hQ
  obtain ⟨D, eD, hD⟩ := nat_of (b := 31) f.d0
  obtain ⟨N, eN, hN⟩ := nat_of (b := 31) f.n0
  have eM : m = 0 := f.sM
  have eA : a = 0 := f.sA
  have eS : s = 0 := f.sS
  have eR : r = 0 := f.sR
  have eC : cond = 0 := f.sC
  have eO : off = 0 := f.sO
  clear f h
  subst  eD eN eM eA eS eR eC  eO
  have E : (encP 33 1 D N 0 0 imm 0 0 0 0).toNat = 960495616 + N * 2 ^ 5 + (imm.toNat / 1) * 2 ^ 10 + D * 2 ^ 0 := by
    have ex : encP 33 1 D N 0 0 imm 0 0 0 0 = orF (baseW 33) [(N, 5, 5), (0, 2, 30), ((imm.toNat / 1), 12, 10), (D, 5, 0)] := by
      show ((((baseW 33 ||| fieldW (N : Int) 5) ||| fieldW (0 : Int) 16) ||| fieldW (0 : Int) 10) ||| (fieldW (logN 1) 30 ||| fieldW (IntKind.i64.wrap ((IntKind.i64.wrap (imm.toNat : Int)).tdiv 1)) 10)) ||| fieldW (D : Int) 0 = _
      have z1 : logN 1 = ((0 : Nat) : Int) := by kernel_rfl
      have z2 : IntKind.i64.wrap ((IntKind.i64.wrap (imm.toNat : Int)).tdiv 1) = ((imm.toNat / 1 : Nat) : Int) := by
        rw [wrap_small (imm.toNat : Int) (by omega) (by omega), show ((imm.toNat : Int)).tdiv 1 = ((imm.toNat / 1 : Nat) : Int) by rw [Int.tdiv_eq_ediv_of_nonneg (by omega)]; omega, wrap_small _ (by omega) (by omega)]
      rw [z1, z2]
      try simp only [or0, ← BitVec.or_assoc]
      rfl
    rw [ex, orF_sum _ (baseW 33) (baseW 33) (BitVec.and_self ..) (by simp only [ltF, and_true] <;> omega) (by kernel_rfl), show (baseW 33).toNat = 960495616 by kernel_rfl]
    simp only [sumF, Nat.reducePow, Nat.reduceMul, Nat.one_mul, Nat.zero_mul] <;> omega
  obtain ⟨Hz, Hde, Hnb, Hmt, Ha, Hf, Hu, Hw, Hl, Hi, Hg, Hj, Hk, Hc, Hr, Hh, Hs⟩ := hasAll (k := 33) (show _ = [true, true, true, false, false, false, true, false, false, false, false, false, false, false, false, false, false] by kernel_rfl)
  have A : (encR 33 1 D N 0 0 imm 0 0 0 0).setWidth 32 = encP 33 1 D N 0 0 imm 0 0 0 0 := by
    have T : (encR 33 1 D N 0 0 imm 0 0 0 0).toNat = 960495616 + (D + N * 32 + 0 * 65536 + 0 * 1024 + 0 * 65536) + (imm.toNat / 1) * 1024 + 0 * 1073741824 := by
      simp only [encR, Hz, Ha, Hf, Hu, Hw, Hl, Hi, Hg, Hj, Hk, Hc, Hr, Hh, Hs, addIf_t, addIf_f]
      exact t_add (t_add (encR0_toNat D N 0 0 0 (B := 960495616) (by kernel_rfl) (by omega) (by omega) (by omega) (by omega) (by omega) (by omega)) (t_mul (t_div (rfl : imm.toNat = imm.toNat) (show (BitVec.ofInt 64 1).toNat = 1 by kernel_rfl)) (t_lit 1024) (by omega)) (by omega)) (t_mul (show (sizeA 1).toNat = 0 by kernel_rfl) (t_lit 1073741824) (by decide)) (by omega)
    have hlt := (encP 33 1 D N 0 0 imm 0 0 0 0).isLt
    rw [E] at hlt
    apply BitVec.eq_of_toNat_eq
    rw [BitVec.toNat_setWidth, T, E, Nat.mod_eq_of_lt (by omega)] <;> omega
  refine ⟨A, ?_, ?_, ?_⟩ <;> clear A <;> generalize encP 33 1 D N 0 0 imm 0 0 0 0 = x at E ⊢
  · have hB : (bw 33).toNat = 960495616 := by kernel_rfl
    exact nearz Hz (by rw [hB, E] <;> omega)
  · intro α f
    have g25_4 : gt x 25 4 = 12 := gt_is E 25 4 (c := 12) (by omega)
    have hk8 : k8 x = false := by unfold k8; rw [g25_4]; rfl
    have hk5 : k5 x = false := by unfold k5; rw [g25_4]; rfl
    have hk6 : k6 x = true := by unfold k6; rw [g25_4]; rfl
    have g24_6 : gt x 24 6 = 57 := gt_is E 24 6 (c := 57) (by omega)
    have g0_5 : gt x 0 5 = D := gt_is E 0 5 (c := D) (by omega)
    have g5_5 : gt x 5 5 = N := gt_is E 5 5 (c := N) (by omega)
    have g30_2 : gt x 30 2 = 0 := gt_is E 30 2 (c := 0) (by omega)
    have g22_2 : gt x 22 2 = 1 := gt_is E 22 2 (c := 1) (by omega)
    have haO : aO x = 33 := by unfold aO; rw [g24_6, g22_2]; rfl
    have haW : aW x = 1 := by unfold aW; rw [g30_2]; kernel_rfl
    have haM : aM x = 0 := by unfold aM; rw [g24_6]; rfl
    have g10_12 : gt x 10 12 = ((imm.toNat / 1 : Nat) : Int) := gt_is E 10 12 (c := (imm.toNat / 1)) (by omega)
    have hU : IntKind.i64.wrap (((imm.toNat / 1 : Nat) : Int) * IntKind.i64.wrap (1 * 2 ^ ((0 : Int)).toNat)) = (imm.toNat : Int) := by
      rw [show IntKind.i64.wrap (1 * 2 ^ ((0 : Int)).toNat) = 1 by kernel_rfl, show ((imm.toNat / 1 : Nat) : Int) * 1 = (imm.toNat : Int) by omega]; exact wrap_small _ (by omega) (by omega)
    have haI : aI x = imm := by unfold aI; rw [g24_6, g10_12, g30_2, hU]; exact ofInt_toNat imm
    simp only [onP, kk, hk8, hk5, hk6, if_true, if_false, Bool.false_eq_true, haO, haW, haM, haI, g0_5, g5_5]
  · intro α f
    have g0_5 : gt x 0 5 = D := gt_is E 0 5 (c := D) (by omega)
    have g5_5 : gt x 5 5 = N := gt_is E 5 5 (c := N) (by omega)
    have g30_2 : gt x 30 2 = 0 := gt_is E 30 2 (c := 0) (by omega)
    have htW : tW 33 x = 1 := by unfold tW; rw [Hz, g30_2]; rfl
    have g10_12 : gt x 10 12 = ((imm.toNat / 1 : Nat) : Int) := gt_is E 10 12 (c := (imm.toNat / 1)) (by omega)
    have hU : IntKind.i64.wrap (((imm.toNat / 1 : Nat) : Int) * 1) = (imm.toNat : Int) := by
      rw [show ((imm.toNat / 1 : Nat) : Int) * 1 = (imm.toNat : Int) by omega]; exact wrap_small _ (by omega) (by omega)
    have htI : tI 33 x = imm := by unfold tI; simp only [Hf, Hu, Hw, Hl, Hi, if_true, if_false, Bool.false_eq_true]; rw [g10_12, htW, hU]; exact ofInt_toNat imm
    simp only [onT, htW, htI, Hde, Hnb, Hmt, Ha, Hg, Hj, Hk, Hc, Hr, Hh, Hs, if_true, if_false, Bool.false_eq_true, g0_5, g5_5]
set_option maxHeartbeats 1000000 in
theorem good_33_2 {d n m a : Int} {imm : W64} {off cond r s : Int} (ho : IntKind.i64.has off) (h : mayA 33 2 d n m a imm off cond r s = true) : Good 33 2 d n m a imm off cond r s := by
  have f := may_facts h
  have hQ := f.nums
  simp [numsB, inB] at hQ
  obtain ⟨hU0, hU1⟩ := hQ
  have hU0 : imm.toNat % 2 = 0 := by have := congrArg BitVec.toNat hU0; simpa [BitVec.toNat_umod] using this
  have hU1 : imm.toNat / 2 < 4096 := by simpa [BitVec.toNat_udiv] using hU1
  obtain ⟨D, eD, hD⟩ := nat_of (b := 31) f.d0
  obtain ⟨N, eN, hN⟩ := nat_of (b := 31) f.n0
  have eM : m = 0 := f.sM
  have eA : a = 0 := f.sA
  have eS : s = 0 := f.sS
  have eR : r = 0 := f.sR
  have eC : cond = 0 := f.sC
  have eO : off = 0 := f.sO
  clear f h
  subst  eD eN eM eA eS eR eC  eO
  have E : (encP 33 2 D N 0 0 imm 0 0 0 0).toNat = 2034237440 + N * 2 ^ 5 + (imm.toNat / 2) * 2 ^ 10 + D * 2 ^ 0 := by
    have ex : encP 33 2 D N 0 0 imm 0 0 0 0 = orF (baseW 33) [(N, 5, 5), (1, 2, 30), ((imm.toNat / 2), 12, 10), (D, 5, 0)] := by
      show ((((baseW 33 ||| fieldW (N : Int) 5) ||| fieldW (0 : Int) 16) ||| fieldW (0 : Int) 10) ||| (fieldW (logN 2) 30 ||| fieldW (IntKind.i64.wrap ((IntKind.i64.wrap (imm.toNat : Int)).tdiv 2)) 10)) ||| fieldW (D : Int) 0 = _
      have z1 : logN 2 = ((1 : Nat) : Int) := by kernel_rfl
      have z2 : IntKind.i64.wrap ((IntKind.i64.wrap (imm.toNat : Int)).tdiv 2) = ((imm.toNat / 2 : Nat) : Int) := by
        rw [wrap_small (imm.toNat : Int) (by omega) (by omega), show ((imm.toNat : Int)).tdiv 2 = ((imm.toNat / 2 : Nat) : Int) by rw [Int.tdiv_eq_ediv_of_nonneg (by omega)]; omega, wrap_small _ (by omega) (by omega)]
      rw [z1, z2]
      try simp only [or0, ← BitVec.or_assoc]
      rfl
    rw [ex, orF_sum _ (baseW 33) (baseW 33) (BitVec.and_self ..) (by simp only [ltF, and_true] <;> omega) (by kernel_rfl), show (baseW 33).toNat = 960495616 by kernel_rfl]
    simp only [sumF, Nat.reducePow, Nat.reduceMul, Nat.one_mul, Nat.zero_mul] <;> omega
  obtain ⟨Hz, Hde, Hnb, Hmt, Ha, Hf, Hu, Hw, Hl, Hi, Hg, Hj, Hk, Hc, Hr, Hh, Hs⟩ := hasAll (k := 33) (show _ = [true, true, true, false, false, false, true, false, false, false, false, false, false, false, false, false, false] by kernel_rfl)
  have A : (encR 33 2 D N 0 0 imm 0 0 0 0).setWidth 32 = encP 33 2 D N 0 0 imm 0 0 0 0 := by
    have T : (encR 33 2 D N 0 0 imm 0 0 0 0).toNat = 960495616 + (D + N * 32 + 0 * 65536 + 0 * 1024 + 0 * 65536) + (imm.toNat / 2) * 1024 + 1 * 1073741824 := by
      simp only [encR, Hz, Ha, Hf, Hu, Hw, Hl, Hi, Hg, Hj, Hk, Hc, Hr, Hh, Hs, addIf_t, addIf_f]
      exact t_add (t_add (encR0_toNat D N 0 0 0 (B := 960495616) (by kernel_rfl) (by omega) (by omega) (by omega) (by omega) (by omega) (by omega)) (t_mul (t_div (rfl : imm.toNat = imm.toNat) (show (BitVec.ofInt 64 2).toNat = 2 by kernel_rfl)) (t_lit 1024) (by omega)) (by omega)) (t_mul (show (sizeA 2).toNat = 1 by kernel_rfl) (t_lit 1073741824) (by decide)) (by omega)
    have hlt := (encP 33 2 D N 0 0 imm 0 0 0 0).isLt
    rw [E] at hlt
    apply BitVec.eq_of_toNat_eq
    rw [BitVec.toNat_setWidth, T, E, Nat.mod_eq_of_lt (by omega)] <;> omega
  refine ⟨A, ?_, ?_, ?_⟩ <;> clear A <;> generalize encP 33 2 D N 0 0 imm 0 0 0 0 = x at E ⊢
  · have hB : (bw 33).toNat = 960495616 := by kernel_rfl
    exact nearz Hz (by rw [hB, E] <;> omega)
  · intro α f
    have g25_4 : gt x 25 4 = 12 := gt_is E 25 4 (c := 12) (by omega)
    have hk8 : k8 x = false := by unfold k8; rw [g25_4]; rfl
    have hk5 : k5 x = false := by unfold k5; rw [g25_4]; rfl
    have hk6 : k6 x = true := by unfold k6; rw [g25_4]; rfl
    have g24_6 : gt x 24 6 = 57 := gt_is E 24 6 (c := 57) (by omega)
    have g0_5 : gt x 0 5 = D := gt_is E 0 5 (c := D) (by omega)
    have g5_5 : gt x 5 5 = N := gt_is E 5 5 (c := N) (by omega)
    have g30_2 : gt x 30 2 = 1 := gt_is E 30 2 (c := 1) (by omega)
    have g22_2 : gt x 22 2 = 1 := gt_is E 22 2 (c := 1) (by omega)
    have haO : aO x = 33 := by unfold aO; rw [g24_6, g22_2]; rfl
    have haW : aW x = 2 := by unfold aW; rw [g30_2]; kernel_rfl
    have haM : aM x = 0 := by unfold aM; rw [g24_6]; rfl
    have g10_12 : gt x 10 12 = ((imm.toNat / 2 : Nat) : Int) := gt_is E 10 12 (c := (imm.toNat / 2)) (by omega)
    have hU : IntKind.i64.wrap (((imm.toNat / 2 : Nat) : Int) * IntKind.i64.wrap (1 * 2 ^ ((1 : Int)).toNat)) = (imm.toNat : Int) := by
      rw [show IntKind.i64.wrap (1 * 2 ^ ((1 : Int)).toNat) = 2 by kernel_rfl, show ((imm.toNat / 2 : Nat) : Int) * 2 = (imm.toNat : Int) by omega]; exact wrap_small _ (by omega) (by omega)
    have haI : aI x = imm := by unfold aI; rw [g24_6, g10_12, g30_2, hU]; exact ofInt_toNat imm
    simp only [onP, kk, hk8, hk5, hk6, if_true, if_false, Bool.false_eq_true, haO, haW, haM, haI, g0_5, g5_5]
  · intro α f
    have g0_5 : gt x 0 5 = D := gt_is E 0 5 (c := D) (by omega)
    have g5_5 : gt x 5 5 = N := gt_is E 5 5 (c := N) (by omega)
    have g30_2 : gt x 30 2 = 1 := gt_is E 30 2 (c := 1) (by omega)
    have htW : tW 33 x = 2 := by unfold tW; rw [Hz, g30_2]; rfl
    have g10_12 : gt x 10 12 = ((imm.toNat / 2 : Nat) : Int) := gt_is E 10 12 (c := (imm.toNat / 2)) (by omega)
    have hU : IntKind.i64.wrap (((imm.toNat / 2 : Nat) : Int) * 2) = (imm.toNat : Int) := by
      rw [show ((imm.toNat / 2 : Nat) : Int) * 2 = (imm.toNat : Int) by omega]; exact wrap_small _ (by omega) (by omega)
    have htI : tI 33 x = imm := by unfold tI; simp only [Hf, Hu, Hw, Hl, Hi, if_true, if_false, Bool.false_eq_true]; rw [g10_12, htW, hU]; exact ofInt_toNat imm
    simp only [onT, htW, htI, Hde, Hnb, Hmt, Ha, Hg, Hj, Hk, Hc, Hr, Hh, Hs, if_true, if_false, Bool.false_eq_true, g0_5, g5_5]
set_option maxHeartbeats 1000000 in
theorem good_33_4 {d n m a : Int} {imm : W64} {off cond r s : Int} (ho : IntKind.i64.has off) (h : mayA 33 4 d n m a imm off cond r s = true) : Good 33 4 d n m a imm off cond r s := by
  have f := may_facts h
  have hQ := f.nums
  simp [numsB, inB] at hQ
  obtain ⟨hU0, hU1⟩ := hQ
  have hU0 : imm.toNat % 4 = 0 := by have := congrArg BitVec.toNat hU0; simpa [BitVec.toNat_umod] using this
  have hU1 : imm.toNat / 4 < 4096 := by simpa [BitVec.toNat_udiv] using hU1
  obtain ⟨D, eD, hD⟩ := nat_of (b := 31) f.d0
  obtain ⟨N, eN, hN⟩ := nat_of (b := 31) f.n0
  have eM : m = 0 := f.sM
  have eA : a = 0 := f.sA
  have eS : s = 0 := f.sS
  have eR : r = 0 := f.sR
  have eC : cond = 0 := f.sC
  have eO : off = 0 := f.sO
  clear f h
  subst  eD eN eM eA eS eR eC  eO
  have E : (encP 33 4 D N 0 0 imm 0 0 0 0).toNat = 3107979264 + N * 2 ^ 5 + (imm.toNat / 4) * 2 ^ 10 + D * 2 ^ 0 := by
    have ex : encP 33 4 D N 0 0 imm 0 0 0 0 = orF (baseW 33) [(N, 5, 5), (2, 2, 30), ((imm.toNat / 4), 12, 10), (D, 5, 0)] := by
      show ((((baseW 33 ||| fieldW (N : Int) 5) ||| fieldW (0 : Int) 16) ||| fieldW (0 : Int) 10) ||| (fieldW (logN 4) 30 ||| fieldW (IntKind.i64.wrap ((IntKind.i64.wrap (imm.toNat : Int)).tdiv 4)) 10)) ||| fieldW (D : Int) 0 = _
      have z1 : logN 4 = ((2 : Nat) : Int) := by kernel_rfl
      have z2 : IntKind.i64.wrap ((IntKind.i64.wrap (imm.toNat : Int)).tdiv 4) = ((imm.toNat / 4 : Nat) : Int) := by
        rw [wrap_small (imm.toNat : Int) (by omega) (by omega), show ((imm.toNat : Int)).tdiv 4 = ((imm.toNat / 4 : Nat) : Int) by rw [Int.tdiv_eq_ediv_of_nonneg (by omega)]; omega, wrap_small _ (by omega) (by omega)]
      rw [z1, z2]
      try simp only [or0, ← BitVec.or_assoc]
      rfl
    rw [ex, orF_sum _ (baseW 33) (baseW 33) (BitVec.and_self ..) (by simp only [ltF, and_true] <;> omega) (by kernel_rfl), show (baseW 33).toNat = 960495616 by kernel_rfl]
    simp only [sumF, Nat.reducePow, Nat.reduceMul, Nat.one_mul, Nat.zero_mul] <;> omega
  obtain ⟨Hz, Hde, Hnb, Hmt, Ha, Hf, Hu, Hw, Hl, Hi, Hg, Hj, Hk, Hc, Hr, Hh, Hs⟩ := hasAll (k := 33) (show _ = [true, true, true, false, false, false, true, false, false, false, false, false, false, false, false, false, false] by kernel_rfl)
  have A : (encR 33 4 D N 0 0 imm 0 0 0 0).setWidth 32 = encP 33 4 D N 0 0 imm 0 0 0 0 := by
    have T : (encR 33 4 D N 0 0 imm 0 0 0 0).toNat = 960495616 + (D + N * 32 + 0 * 65536 + 0 * 1024 + 0 * 65536) + (imm.toNat / 4) * 1024 + 2 * 1073741824 := by
      simp only [encR, Hz, Ha, Hf, Hu, Hw, Hl, Hi, Hg, Hj, Hk, Hc, Hr, Hh, Hs, addIf_t, addIf_f]
      exact t_add (t_add (encR0_toNat D N 0 0 0 (B := 960495616) (by kernel_rfl) (by omega) (by omega) (by omega) (by omega) (by omega) (by omega)) (t_mul (t_div (rfl : imm.toNat = imm.toNat) (show (BitVec.ofInt 64 4).toNat = 4 by kernel_rfl)) (t_lit 1024) (by omega)) (by omega)) (t_mul (show (sizeA 4).toNat = 2 by kernel_rfl) (t_lit 1073741824) (by decide)) (by omega)
    have hlt := (encP 33 4 D N 0 0 imm 0 0 0 0).isLt
    rw [E] at hlt
    apply BitVec.eq_of_toNat_eq
    rw [BitVec.toNat_setWidth, T, E, Nat.mod_eq_of_lt (by omega)] <;> omega
  refine ⟨A, ?_, ?_, ?_⟩ <;> clear A <;> generalize encP 33 4 D N 0 0 imm 0 0 0 0 = x at E ⊢
  · have hB : (bw 33).toNat = 960495616 := by kernel_rfl
    exact nearz Hz (by rw [hB, E] <;> omega)
  · intro α f
    have g25_4 : gt x 25 4 = 12 := gt_is E 25 4 (c := 12) (by omega)
    have hk8 : k8 x = false := by unfold k8; rw [g25_4]; rfl
    have hk5 : k5 x = false := by unfold k5; rw [g25_4]; rfl
    have hk6 : k6 x = true := by unfold k6; rw [g25_4]; rfl
    have g24_6 : gt x 24 6 = 57 := gt_is E 24 6 (c := 57) (by omega)
    have g0_5 : gt x 0 5 = D := gt_is E 0 5 (c := D) (by omega)
    have g5_5 : gt x 5 5 = N := gt_is E 5 5 (c := N) (by omega)
    have g30_2 : gt x 30 2 = 2 := gt_is E 30 2 (c := 2) (by omega)
    have g22_2 : gt x 22 2 = 1 := gt_is E 22 2 (c := 1) (by omega)
    have haO : aO x = 33 := by unfold aO; rw [g24_6, g22_2]; rfl
    have haW : aW x = 4 := by unfold aW; rw [g30_2]; kernel_rfl
    have haM : aM x = 0 := by unfold aM; rw [g24_6]; rfl
    have g10_12 : gt x 10 12 = ((imm.toNat / 4 : Nat) : Int) := gt_is E 10 12 (c := (imm.toNat / 4)) (by omega)
    have hU : IntKind.i64.wrap (((imm.toNat / 4 : Nat) : Int) * IntKind.i64.wrap (1 * 2 ^ ((2 : Int)).toNat)) = (imm.toNat : Int) := by
      rw [show IntKind.i64.wrap (1 * 2 ^ ((2 : Int)).toNat) = 4 by kernel_rfl, show ((imm.toNat / 4 : Nat) : Int) * 4 = (imm.toNat : Int) by omega]; exact wrap_small _ (by omega) (by omega)
    have haI : aI x = imm := by unfold aI; rw [g24_6, g10_12, g30_2, hU]; exact ofInt_toNat imm
    simp only [onP, kk, hk8, hk5, hk6, if_true, if_false, Bool.false_eq_true, haO, haW, haM, haI, g0_5, g5_5]
  · intro α f
    have g0_5 : gt x 0 5 = D := gt_is E 0 5 (c := D) (by omega)
    have g5_5 : gt x 5 5 = N := gt_is E 5 5 (c := N) (by omega)
    have g30_2 : gt x 30 2 = 2 := gt_is E 30 2 (c := 2) (by omega)
    have htW : tW 33 x = 4 := by unfold tW; rw [Hz, g30_2]; rfl
    have g10_12 : gt x 10 12 = ((imm.toNat / 4 : Nat) : Int) := gt_is E 10 12 (c := (imm.toNat / 4)) (by omega)
    have hU : IntKind.i64.wrap (((imm.toNat / 4 : Nat) : Int) * 4) = (imm.toNat : Int) := by
      rw [show ((imm.toNat / 4 : Nat) : Int) * 4 = (imm.toNat : Int) by omega]; exact wrap_small _ (by omega) (by omega)
    have htI : tI 33 x = imm := by unfold tI; simp only [Hf, Hu, Hw, Hl, Hi, if_true, if_false, Bool.false_eq_true]; rw [g10_12, htW, hU]; exact ofInt_toNat imm
    simp only [onT, htW, htI, Hde, Hnb, Hmt, Ha, Hg, Hj, Hk, Hc, Hr, Hh, Hs, if_true, if_false, Bool.false_eq_true, g0_5, g5_5]
set_option maxHeartbeats 1000000 in
theorem good_33_8 {d n m a : Int} {imm : W64} {off cond r s : Int} (ho : IntKind.i64.has off) (h : mayA 33 8 d n m a imm off cond r s = true) : Good 33 8 d n m a imm off cond r s := by
  have f := may_facts h
  have hQ := f.nums
  simp [numsB, inB] at hQ
  obtain ⟨hU0, hU1⟩ := hQ
  have hU0 : imm.toNat % 8 = 0 := by have := congrArg BitVec.toNat hU0; simpa [BitVec.toNat_umod] using this
  have hU1 : imm.toNat / 8 < 4096 := by simpa [BitVec.toNat_udiv] using hU1
  obtain ⟨D, eD, hD⟩ := nat_of (b := 31) f.d0
  obtain ⟨N, eN, hN⟩ := nat_of (b := 31) f.n0
  have eM : m = 0 := f.sM
  have eA : a = 0 := f.sA
  have eS : s = 0 := f.sS
  have eR : r = 0 := f.sR
  have eC : cond = 0 := f.sC
  have eO : off = 0 := f.sO
  clear f h
  subst  eD eN eM eA eS eR eC  eO
  have E : (encP 33 8 D N 0 0 imm 0 0 0 0).toNat = 4181721088 + N * 2 ^ 5 + (imm.toNat / 8) * 2 ^ 10 + D * 2 ^ 0 := by
    have ex : encP 33 8 D N 0 0 imm 0 0 0 0 = orF (baseW 33) [(N, 5, 5), (3, 2, 30), ((imm.toNat / 8), 12, 10), (D, 5, 0)] := by
      show ((((baseW 33 ||| fieldW (N : Int) 5) ||| fieldW (0 : Int) 16) ||| fieldW (0 : Int) 10) ||| (fieldW (logN 8) 30 ||| fieldW (IntKind.i64.wrap ((IntKind.i64.wrap (imm.toNat : Int)).tdiv 8)) 10)) ||| fieldW (D : Int) 0 = _
      have z1 : logN 8 = ((3 : Nat) : Int) := by kernel_rfl
      have z2 : IntKind.i64.wrap ((IntKind.i64.wrap (imm.toNat : Int)).tdiv 8) = ((imm.toNat / 8 : Nat) : Int) := by
        rw [wrap_small (imm.toNat : Int) (by omega) (by omega), show ((imm.toNat : Int)).tdiv 8 = ((imm.toNat / 8 : Nat) : Int) by rw [Int.tdiv_eq_ediv_of_nonneg (by omega)]; omega, wrap_small _ (by omega) (by omega)]
      rw [z1, z2]
      try simp only [or0, ← BitVec.or_assoc]
      rfl
    rw [ex, orF_sum _ (baseW 33) (baseW 33) (BitVec.and_self ..) (by simp only [ltF, and_true] <;> omega) (by kernel_rfl), show (baseW 33).toNat = 960495616 by kernel_rfl]
    simp only [sumF, Nat.reducePow, Nat.reduceMul, Nat.one_mul, Nat.zero_mul] <;> omega
  obtain ⟨Hz, Hde, Hnb, Hmt, Ha, Hf, Hu, Hw, Hl, Hi, Hg, Hj, Hk, Hc, Hr, Hh, Hs⟩ := hasAll (k := 33) (show _ = [true, true, true, false, false, false, true, false, false, false, false, false, false, false, false, false, false] by kernel_rfl)
  have A : (encR 33 8 D N 0 0 imm 0 0 0 0).setWidth 32 = encP 33 8 D N 0 0 imm 0 0 0 0 := by
    have T : (encR 33 8 D N 0 0 imm 0 0 0 0).toNat = 960495616 + (D + N * 32 + 0 * 65536 + 0 * 1024 + 0 * 65536) + (imm.toNat / 8) * 1024 + 3 * 1073741824 := by
      simp only [encR, Hz, Ha, Hf, Hu, Hw, Hl, Hi, Hg, Hj, Hk, Hc, Hr, Hh, Hs, addIf_t, addIf_f]
      exact t_add (t_add (encR0_toNat D N 0 0 0 (B := 960495616) (by kernel_rfl) (by omega) (by omega) (by omega) (by omega) (by omega) (by omega)) (t_mul (t_div (rfl : imm.toNat = imm.toNat) (show (BitVec.ofInt 64 8).toNat = 8 by kernel_rfl)) (t_lit 1024) (by omega)) (by omega)) (t_mul (show (sizeA 8).toNat = 3 by kernel_rfl) (t_lit 1073741824) (by decide)) (by omega)
    have hlt := (encP 33 8 D N 0 0 imm 0 0 0 0).isLt
    rw [E] at hlt
    apply BitVec.eq_of_toNat_eq
    rw [BitVec.toNat_setWidth, T, E, Nat.mod_eq_of_lt (by omega)] <;> omega
  refine ⟨A, ?_, ?_, ?_⟩ <;> clear A <;> generalize encP 33 8 D N 0 0 imm 0 0 0 0 = x at E ⊢
  · have hB : (bw 33).toNat = 960495616 := by kernel_rfl
    exact nearz Hz (by rw [hB, E] <;> omega)
  · intro α f
    have g25_4 : gt x 25 4 = 12 := gt_is E 25 4 (c := 12) (by omega)
    have hk8 : k8 x = false := by unfold k8; rw [g25_4]; rfl
    have hk5 : k5 x = false := by unfold k5; rw [g25_4]; rfl
    have hk6 : k6 x = true := by unfold k6; rw [g25_4]; rfl
    have g24_6 : gt x 24 6 = 57 := gt_is E 24 6 (c := 57) (by omega)
    have g0_5 : gt x 0 5 = D := gt_is E 0 5 (c := D) (by omega)
    have g5_5 : gt x 5 5 = N := gt_is E 5 5 (c := N) (by omega)
    have g30_2 : gt x 30 2 = 3 := gt_is E 30 2 (c := 3) (by omega)
    have g22_2 : gt x 22 2 = 1 := gt_is E 22 2 (c := 1) (by omega)
    have haO : aO x = 33 := by unfold aO; rw [g24_6, g22_2]; rfl
    have haW : aW x = 8 := by unfold aW; rw [g30_2]; kernel_rfl
    have haM : aM x = 0 := by unfold aM; rw [g24_6]; rfl
    have g10_12 : gt x 10 12 = ((imm.toNat / 8 : Nat) : Int) := gt_is E 10 12 (c := (imm.toNat / 8)) (by omega)
    have hU : IntKind.i64.wrap (((imm.toNat / 8 : Nat) : Int) * IntKind.i64.wrap (1 * 2 ^ ((3 : Int)).toNat)) = (imm.toNat : Int) := by
      rw [show IntKind.i64.wrap (1 * 2 ^ ((3 : Int)).toNat) = 8 by kernel_rfl, show ((imm.toNat / 8 : Nat) : Int) * 8 = (imm.toNat : Int) by omega]; exact wrap_small _ (by omega) (by omega)
    have haI : aI x = imm := by unfold aI; rw [g24_6, g10_12, g30_2, hU]; exact ofInt_toNat imm
    simp only [onP, kk, hk8, hk5, hk6, if_true, if_false, Bool.false_eq_true, haO, haW, haM, haI, g0_5, g5_5]
  · intro α f
    have g0_5 : gt x 0 5 = D := gt_is E 0 5 (c := D) (by omega)
    have g5_5 : gt x 5 5 = N := gt_is E 5 5 (c := N) (by omega)
    have g30_2 : gt x 30 2 = 3 := gt_is E 30 2 (c := 3) (by omega)
    have htW : tW 33 x = 8 := by unfold tW; rw [Hz, g30_2]; rfl
    have g10_12 : gt x 10 12 = ((imm.toNat / 8 : Nat) : Int) := gt_is E 10 12 (c := (imm.toNat / 8)) (by omega)
    have hU : IntKind.i64.wrap (((imm.toNat / 8 : Nat) : Int) * 8) = (imm.toNat : Int) := by
      rw [show ((imm.toNat / 8 : Nat) : Int) * 8 = (imm.toNat : Int) by omega]; exact wrap_small _ (by omega) (by omega)
    have htI : tI 33 x = imm := by unfold tI; simp only [Hf, Hu, Hw, Hl, Hi, if_true, if_false, Bool.false_eq_true]; rw [g10_12, htW, hU]; exact ofInt_toNat imm
    simp only [onT, htW, htI, Hde, Hnb, Hmt, Ha, Hg, Hj, Hk, Hc, Hr, Hh, Hs, if_true, if_false, Bool.false_eq_true, g0_5, g5_5]
set_option maxHeartbeats 1000000 in
theorem good_34_1 {d n m a : Int} {imm : W64} {off cond r s : Int} (ho : IntKind.i64.has off) (h : mayA 34 1 d n m a imm off cond r s = true) : Good 34 1 d n m a imm off cond r s := by
  have f := may_facts h
  have hQ := f.nums
  simp [numsB, inB] at hQ
  have hU0 : imm.toNat % 1 = 0 := Nat.mod_one _
  have hU1 : imm.toNat / 1 < 4096 := by simpa [BitVec.toNat_udiv] using hQ
  obtain ⟨D, eD, hD⟩ := nat_of (b := 31) f.d0
  obtain ⟨N, eN, hN⟩ := nat_of (b := 31) f.n0
  have eM : m = 0 := f.sM
  have eA : a = 0 := f.sA
  have eS : s = 0 := f.sS
  have eR : r = 0 := f.sR
  have eC : cond = 0 := f.sC
  have eO : off = 0 := f.sO
  clear f h
  subst  eD eN eM eA eS eR eC  eO
  have E : (encP 34 1 D N 0 0 imm 0 0 0 0).toNat = 956301312 + N * 2 ^ 5 + (imm.toNat / 1) * 2 ^ 10 + D * 2 ^ 0 := by
    have ex : encP 34 1 D N 0 0 imm 0 0 0 0 = orF (baseW 34) [(N, 5, 5), (0, 2, 30), ((imm.toNat / 1), 12, 10), (D, 5, 0)] := by
      show ((((baseW 34 ||| fieldW (N : Int) 5) ||| fieldW (0 : Int) 16) ||| fieldW (0 : Int) 10) ||| (fieldW (logN 1) 30 ||| fieldW (IntKind.i64.wrap ((IntKind.i64.wrap (imm.toNat : Int)).tdiv 1)) 10)) ||| fieldW (D : Int) 0 = _
      have z1 : logN 1 = ((0 : Nat) : Int) := by kernel_rfl
      have z2 : IntKind.i64.wrap ((IntKind.i64.wrap (imm.toNat : Int)).tdiv 1) = ((imm.toNat / 1 : Nat) : Int) := by
        rw [wrap_small (imm.toNat : Int) (by omega) (by omega), show ((imm.toNat : Int)).tdiv 1 = ((imm.toNat / 1 : Nat) : Int) by rw [Int.tdiv_eq_ediv_of_nonneg (by omega)]; omega, wrap_small _ (by omega) (by omega)]
      rw [z1, z2]
      try simp only [or0, ← BitVec.or_assoc]
      rfl
    rw [ex, orF_sum _ (baseW 34) (baseW 34) (BitVec.and_self ..) (by simp only [ltF, and_true] <;> omega) (by kernel_rfl), show (baseW 34).toNat = 956301312 by kernel_rfl]
    simp only [sumF, Nat.reducePow, Nat.reduceMul, Nat.one_mul, Nat.zero_mul] <;> omega
  obtain ⟨Hz, Hde, Hnb, Hmt, Ha, Hf, Hu, Hw, Hl, Hi, Hg, Hj, Hk, Hc, Hr, Hh, Hs⟩ := hasAll (k := 34) (show _ = [true, true, true, false, false, false, true, false, false, false, false, false, false, false, false, false, false] by kernel_rfl)
  have A : (encR 34 1 D N 0 0 imm 0 0 0 0).setWidth 32 = encP 34 1 D N 0 0 imm 0 0 0 0 := by
    have T : (encR 34 1 D N 0 0 imm 0 0 0 0).toNat = 956301312 + (D + N * 32 + 0 * 65536 + 0 * 1024 + 0 * 65536) + (imm.toNat / 1) * 1024 + 0 * 1073741824 := by
      simp only [encR, Hz, Ha, Hf, Hu, Hw, Hl, Hi, Hg, Hj, Hk, Hc, Hr, Hh, Hs, addIf_t, addIf_f]
      exact t_add (t_add (encR0_toNat D N 0 0 0 (B := 956301312) (by kernel_rfl) (by omega) (by omega) (by omega) (by omega) (by omega) (by omega)) (t_mul (t_div (rfl : imm.toNat = imm.toNat) (show (BitVec.ofInt 64 1).toNat = 1 by kernel_rfl)) (t_lit 1024) (by omega)) (by omega)) (t_mul (show (sizeA 1).toNat = 0 by kernel_rfl) (t_lit 1073741824) (by decide)) (by omega)
    have hlt := (encP 34 1 D N 0 0 imm 0 0 0 0).isLt
    rw [E] at hlt
    apply BitVec.eq_of_toNat_eq
    rw [BitVec.toNat_setWidth, T, E, Nat.mod_eq_of_lt (by omega)] <;> omega
  refine ⟨A, ?_, ?_, ?_⟩ <;> clear A <;> generalize encP 34 1 D N 0 0 imm 0 0 0 0 = x at E ⊢
  · have hB : (bw 34).toNat = 956301312 := by kernel_rfl
    exact nearz Hz (by rw [hB, E] <;> omega)
  · intro α f
    have g25_4 : gt x 25 4 = 12 := gt_is E 25 4 (c := 12) (by omega)
    have hk8 : k8 x = false := by unfold k8; rw [g25_4]; rfl
    have hk5 : k5 x = false := by unfold k5; rw [g25_4]; rfl
    have hk6 : k6 x = true := by unfold k6; rw [g25_4]; rfl
    have g24_6 : gt x 24 6 = 57 := gt_is E 24 6 (c := 57) (by omega)
    have g0_5 : gt x 0 5 = D := gt_is E 0 5 (c := D) (by omega)
    have g5_5 : gt x 5 5 = N := gt_is E 5 5 (c := N) (by omega)
    have g30_2 : gt x 30 2 = 0 := gt_is E 30 2 (c := 0) (by omega)
    have g22_2 : gt x 22 2 = 0 := gt_is E 22 2 (c := 0) (by omega)
    have haO : aO x = 34 := by unfold aO; rw [g24_6, g22_2]; rfl
    have haW : aW x = 1 := by unfold aW; rw [g30_2]; kernel_rfl
    have haM : aM x = 0 := by unfold aM; rw [g24_6]; rfl
    have g10_12 : gt x 10 12 = ((imm.toNat / 1 : Nat) : Int) := gt_is E 10 12 (c := (imm.toNat / 1)) (by omega)
    have hU : IntKind.i64.wrap (((imm.toNat / 1 : Nat) : Int) * IntKind.i64.wrap (1 * 2 ^ ((0 : Int)).toNat)) = (imm.toNat : Int) := by
      rw [show IntKind.i64.wrap (1 * 2 ^ ((0 : Int)).toNat) = 1 by kernel_rfl, show ((imm.toNat / 1 : Nat) : Int) * 1 = (imm.toNat : Int) by omega]; exact wrap_small _ (by omega) (by omega)
    have haI : aI x = imm := by unfold aI; rw [g24_6, g10_12, g30_2, hU]; exact ofInt_toNat imm
    simp only [onP, kk, hk8, hk5, hk6, if_true, if_false, Bool.false_eq_true, haO, haW, haM, haI, g0_5, g5_5]
  · intro α f
    have g0_5 : gt x 0 5 = D := gt_is E 0 5 (c := D) (by omega)
    have g5_5 : gt x 5 5 = N := gt_is E 5 5 (c := N) (by omega)
    have g30_2 : gt x 30 2 = 0 := gt_is E 30 2 (c := 0) (by omega)
    have htW : tW 34 x = 1 := by unfold tW; rw [Hz, g30_2]; rfl
    have g10_12 : gt x 10 12 = ((imm.toNat / 1 : Nat) : Int) := gt_is E 10 12 (c := (imm.toNat / 1)) (by omega)
    have hU : IntKind.i64.wrap (((imm.toNat / 1 : Nat) : Int) * 1) = (imm.toNat : Int) := by
      rw [show ((imm.toNat / 1 : Nat) : Int) * 1 = (imm.toNat : Int) by omega]; exact wrap_small _ (by omega) (by omega)
    have htI : tI 34 x = imm := by unfold tI; simp only [Hf, Hu, Hw, Hl, Hi, if_true, if_false, Bool.false_eq_true]; rw [g10_12, htW, hU]; exact ofInt_toNat imm
    simp only [onT, htW, htI, Hde, Hnb, Hmt, Ha, Hg, Hj, Hk, Hc, Hr, Hh, Hs, if_true, if_false, Bool.false_eq_true, g0_5, g5_5]
set_option maxHeartbeats 1000000 in
theorem good_34_2 {d n m a : Int} {imm : W64} {off cond r s : Int} (ho : IntKind.i64.has off) (h : mayA 34 2 d n m a imm off cond r s = true) : Good 34 2 d n m a imm off cond r s := by
  have f := may_facts h
  have hQ := f.nums
  simp [numsB, inB] at hQ
  obtain ⟨hU0, hU1⟩ := hQ
  have hU0 : imm.toNat % 2 = 0 := by have := congrArg BitVec.toNat hU0; simpa [BitVec.toNat_umod] using this
  have hU1 : imm.toNat / 2 < 4096 := by simpa [BitVec.toNat_udiv] using hU1
  obtain ⟨D, eD, hD⟩ := nat_of (b := 31) f.d0
  obtain ⟨N, eN, hN⟩ := nat_of (b := 31) f.n0
  have eM : m = 0 := f.sM
  have eA : a = 0 := f.sA
  have eS : s = 0 := f.sS
  have eR : r = 0 := f.sR
  have eC : cond = 0 := f.sC
  have eO : off = 0 := f.sO
  clear f h
  subst  eD eN eM eA eS eR eC  eO
  have E : (encP 34 2 D N 0 0 imm 0 0 0 0).toNat = 2030043136 + N * 2 ^ 5 + (imm.toNat / 2) * 2 ^ 10 + D * 2 ^ 0 := by
    have ex : encP 34 2 D N 0 0 imm 0 0 0 0 = orF (baseW 34) [(N, 5, 5), (1, 2, 30), ((imm.toNat / 2), 12, 10), (D, 5, 0)] := by
      show ((((baseW 34 ||| fieldW (N : Int) 5) ||| fieldW (0 : Int) 16) ||| fieldW (0 : Int) 10) ||| (fieldW (logN 2) 30 ||| fieldW (IntKind.i64.wrap ((IntKind.i64.wrap (imm.toNat : Int)).tdiv 2)) 10)) ||| fieldW (D : Int) 0 = _
      have z1 : logN 2 = ((1 : Nat) : Int) := by kernel_rfl
      have z2 : IntKind.i64.wrap ((IntKind.i64.wrap (imm.toNat : Int)).tdiv 2) = ((imm.toNat / 2 : Nat) : Int) := by
        rw [wrap_small (imm.toNat : Int) (by omega) (by omega), show ((imm.toNat : Int)).tdiv 2 = ((imm.toNat / 2 : Nat) : Int) by rw [Int.tdiv_eq_ediv_of_nonneg (by omega)]; omega, wrap_small _ (by omega) (by omega)]
      rw [z1, z2]
      try simp only [or0, ← BitVec.or_assoc]
      rfl
    rw [ex, orF_sum _ (baseW 34) (baseW 34) (BitVec.and_self ..) (by simp only [ltF, and_true] <;> omega) (by kernel_rfl), show (baseW 34).toNat = 956301312 by kernel_rfl]
    simp only [sumF, Nat.reducePow, Nat.reduceMul, Nat.one_mul, Nat.zero_mul] <;> omega
  obtain ⟨Hz, Hde, Hnb, Hmt, Ha, Hf, Hu, Hw, Hl, Hi, Hg, Hj, Hk, Hc, Hr, Hh, Hs⟩ := hasAll (k := 34) (show _ = [true, true, true, false, false, false, true, false, false, false, false, false, false, false, false, false, false] by kernel_rfl)
  have A : (encR 34 2 D N 0 0 imm 0 0 0 0).setWidth 32 = encP 34 2 D N 0 0 imm 0 0 0 0 := by
    have T : (encR 34 2 D N 0 0 imm 0 0 0 0).toNat = 956301312 + (D + N * 32 + 0 * 65536 + 0 * 1024 + 0 * 65536) + (imm.toNat / 2) * 1024 + 1 * 1073741824 := by
      simp only [encR, Hz, Ha, Hf, Hu, Hw, Hl, Hi, Hg, Hj, Hk, Hc, Hr, Hh, Hs, addIf_t, addIf_f]
      exact t_add (t_add (encR0_toNat D N 0 0 0 (B := 956301312) (by kernel_rfl) (by omega) (by omega) (by omega) (by omega) (by omega) (by omega)) (t_mul (t_div (rfl : imm.toNat = imm.toNat) (show (BitVec.ofInt 64 2).toNat = 2 by kernel_rfl)) (t_lit 1024) (by omega)) (by omega)) (t_mul (show (sizeA 2).toNat = 1 by kernel_rfl) (t_lit 1073741824) (by decide)) (by omega)
    have hlt := (encP 34 2 D N 0 0 imm 0 0 0 0).isLt
    rw [E] at hlt
    apply BitVec.eq_of_toNat_eq
    rw [BitVec.toNat_setWidth, T, E, Nat.mod_eq_of_lt (by omega)] <;> omega
  refine ⟨A, ?_, ?_, ?_⟩ <;> clear A <;> generalize encP 34 2 D N 0 0 imm 0 0 0 0 = x at E ⊢
  · have hB : (bw 34).toNat = 956301312 := by kernel_rfl
    exact nearz Hz (by rw [hB, E] <;> omega)
  · intro α f
    have g25_4 : gt x 25 4 = 12 := gt_is E 25 4 (c := 12) (by omega)
    have hk8 : k8 x = false := by unfold k8; rw [g25_4]; rfl
    have hk5 : k5 x = false := by unfold k5; rw [g25_4]; rfl
    have hk6 : k6 x = true := by unfold k6; rw [g25_4]; rfl
    have g24_6 : gt x 24 6 = 57 := gt_is E 24 6 (c := 57) (by omega)
    have g0_5 : gt x 0 5 = D := gt_is E 0 5 (c := D) (by omega)
    have g5_5 : gt x 5 5 = N := gt_is E 5 5 (c := N) (by omega)
    have g30_2 : gt x 30 2 = 1 := gt_is E 30 2 (c := 1) (by omega)
    have g22_2 : gt x 22 2 = 0 := gt_is E 22 2 (c := 0) (by omega)
    have haO : aO x = 34 := by unfold aO; rw [g24_6, g22_2]; rfl
    have haW : aW x = 2 := by unfold aW; rw [g30_2]; kernel_rfl
    have haM : aM x = 0 := by unfold aM; rw [g24_6]; rfl
    have g10_12 : gt x 10 12 = ((imm.toNat / 2 : Nat) : Int) := gt_is E 10 12 (c := (imm.toNat / 2)) (by omega)
    have hU : IntKind.i64.wrap (((imm.toNat / 2 : Nat) : Int) * IntKind.i64.wrap (1 * 2 ^ ((1 : Int)).toNat)) = (imm.toNat : Int) := by
      rw [show IntKind.i64.wrap (1 * 2 ^ ((1 : Int)).toNat) = 2 by kernel_rfl, show ((imm.toNat / 2 : Nat) : Int) * 2 = (imm.toNat : Int) by omega]; exact wrap_small _ (by omega) (by omega)
    have haI : aI x = imm := by unfold aI; rw [g24_6, g10_12, g30_2, hU]; exact ofInt_toNat imm
    simp only [onP, kk, hk8, hk5, hk6, if_true, if_false, Bool.false_eq_true, haO, haW, haM, haI, g0_5, g5_5]
  · intro α f
    have g0_5 : gt x 0 5 = D := gt_is E 0 5 (c := D) (by omega)
    have g5_5 : gt x 5 5 = N := gt_is E 5 5 (c := N) (by omega)
    have g30_2 : gt x 30 2 = 1 := gt_is E 30 2 (c := 1) (by omega)
    have htW : tW 34 x = 2 := by unfold tW; rw [Hz, g30_2]; rfl
    have g10_12 : gt x 10 12 = ((imm.toNat / 2 : Nat) : Int) := gt_is E 10 12 (c := (imm.toNat / 2)) (by omega)
    have hU : IntKind.i64.wrap (((imm.toNat / 2 : Nat) : Int) * 2) = (imm.toNat : Int) := by
      rw [show ((imm.toNat / 2 : Nat) : Int) * 2 = (imm.toNat : Int) by omega]; exact wrap_small _ (by omega) (by omega)
    have htI : tI 34 x = imm := by unfold tI; simp only [Hf, Hu, Hw, Hl, Hi, if_true, if_false, Bool.false_eq_true]; rw [g10_12, htW, hU]; exact ofInt_toNat imm
    simp only [onT, htW, htI, Hde, Hnb, Hmt, Ha, Hg, Hj, Hk, Hc, Hr, Hh, Hs, if_true, if_false, Bool.false_eq_true, g0_5, g5_5]
set_option maxHeartbeats 1000000 in
theorem good_34_4 {d n m a : Int} {imm : W64} {off cond r s : Int} (ho : IntKind.i64.has off) (h : mayA 34 4 d n m a imm off cond r s = true) : Good 34 4 d n m a imm off cond r s := by
  have f := may_facts h
  have hQ := f.nums
  simp [numsB, inB] at hQ
  obtain ⟨hU0, hU1⟩ := hQ
  have hU0 : imm.toNat % 4 = 0 := by have := congrArg BitVec.toNat hU0; simpa [BitVec.toNat_umod] using this
  have hU1 : imm.toNat / 4 < 4096 := by simpa [BitVec.toNat_udiv] using hU1
  obtain ⟨D, eD, hD⟩ := nat_of (b := 31) f.d0
  obtain ⟨N, eN, hN⟩ := nat_of (b := 31) f.n0
  have eM : m = 0 := f.sM
  have eA : a = 0 := f.sA
  have eS : s = 0 := f.sS
  have eR : r = 0 := f.sR
  have eC : cond = 0 := f.sC
  have eO : off = 0 := f.sO
  clear f h
  subst  eD eN eM eA eS eR eC  eO
  have E : (encP 34 4 D N 0 0 imm 0 0 0 0).toNat = 3103784960 + N * 2 ^ 5 + (imm.toNat / 4) * 2 ^ 10 + D * 2 ^ 0 := by
    have ex : encP 34 4 D N 0 0 imm 0 0 0 0 = orF (baseW 34) [(N, 5, 5), (2, 2, 30), ((imm.toNat / 4), 12, 10), (D, 5, 0)] := by
      show ((((baseW 34 ||| fieldW (N : Int) 5) ||| fieldW (0 : Int) 16) ||| fieldW (0 : Int) 10) ||| (fieldW (logN 4) 30 ||| fieldW (IntKind.i64.wrap ((IntKind.i64.wrap (imm.toNat : Int)).tdiv 4)) 10)) ||| fieldW (D : Int) 0 = _
      have z1 : logN 4 = ((2 : Nat) : Int) := by kernel_rfl
      have z2 : IntKind.i64.wrap ((IntKind.i64.wrap (imm.toNat : Int)).tdiv 4) = ((imm.toNat / 4 : Nat) : Int) := by
        rw [wrap_small (imm.toNat : Int) (by omega) (by omega), show ((imm.toNat : Int)).tdiv 4 = ((imm.toNat / 4 : Nat) : Int) by rw [Int.tdiv_eq_ediv_of_nonneg (by omega)]; omega, wrap_small _ (by omega) (by omega)]
      rw [z1, z2]
      try simp only [or0, ← BitVec.or_assoc]
      rfl
    rw [ex, orF_sum _ (baseW 34) (baseW 34) (BitVec.and_self ..) (by simp only [ltF, and_true] <;> omega) (by kernel_rfl), show (baseW 34).toNat = 956301312 by kernel_rfl]
    simp only [sumF, Nat.reducePow, Nat.reduceMul, Nat.one_mul, Nat.zero_mul] <;> omega
  obtain ⟨Hz, Hde, Hnb, Hmt, Ha, Hf, Hu, Hw, Hl, Hi, Hg, Hj, Hk, Hc, Hr, Hh, Hs⟩ := hasAll (k := 34) (show _ = [true, true, true, false, false, false, true, false, false, false, false, false, false, false, false, false, false] by kernel_rfl)
  have A : (encR 34 4 D N 0 0 imm 0 0 0 0).setWidth 32 = encP 34 4 D N 0 0 imm 0 0 0 0 := by
    have T : (encR 34 4 D N 0 0 imm 0 0 0 0).toNat = 956301312 + (D + N * 32 + 0 * 65536 + 0 * 1024 + 0 * 65536) + (imm.toNat / 4) * 1024 + 2 * 1073741824 := by
      simp only [encR, Hz, Ha, Hf, Hu, Hw, Hl, Hi, Hg, Hj, Hk, Hc, Hr, Hh, Hs, addIf_t, addIf_f]
      exact t_add (t_add (encR0_toNat D N 0 0 0 (B := 956301312) (by kernel_rfl) (by omega) (by omega) (by omega) (by omega) (by omega) (by omega)) (t_mul (t_div (rfl : imm.toNat = imm.toNat) (show (BitVec.ofInt 64 4).toNat = 4 by kernel_rfl)) (t_lit 1024) (by omega)) (by omega)) (t_mul (show (sizeA 4).toNat = 2 by kernel_rfl) (t_lit 1073741824) (by decide)) (by omega)
    have hlt := (encP 34 4 D N 0 0 imm 0 0 0 0).isLt
    rw [E] at hlt
    apply BitVec.eq_of_toNat_eq
    rw [BitVec.toNat_setWidth, T, E, Nat.mod_eq_of_lt (by omega)] <;> omega
  refine ⟨A, ?_, ?_, ?_⟩ <;> clear A <;> generalize encP 34 4 D N 0 0 imm 0 0 0 0 = x at E ⊢
  · have hB : (bw 34).toNat = 956301312 := by kernel_rfl
    exact nearz Hz (by rw [hB, E] <;> omega)
  · intro α f
    have g25_4 : gt x 25 4 = 12 := gt_is E 25 4 (c := 12) (by omega)
    have hk8 : k8 x = false := by unfold k8; rw [g25_4]; rfl
    have hk5 : k5 x = false := by unfold k5; rw [g25_4]; rfl
    have hk6 : k6 x = true := by unfold k6; rw [g25_4]; rfl
    have g24_6 : gt x 24 6 = 57 := gt_is E 24 6 (c := 57) (by omega)
    have g0_5 : gt x 0 5 = D := gt_is E 0 5 (c := D) (by omega)
    have g5_5 : gt x 5 5 = N := gt_is E 5 5 (c := N) (by omega)
    have g30_2 : gt x 30 2 = 2 := gt_is E 30 2 (c := 2) (by omega)
    have g22_2 : gt x 22 2 = 0 := gt_is E 22 2 (c := 0) (by omega)
    have haO : aO x = 34 := by unfold aO; rw [g24_6, g22_2]; rfl
    have haW : aW x = 4 := by unfold aW; rw [g30_2]; kernel_rfl
    have haM : aM x = 0 := by unfold aM; rw [g24_6]; rfl
    have g10_12 : gt x 10 12 = ((imm.toNat / 4 : Nat) : Int) := gt_is E 10 12 (c := (imm.toNat / 4)) (by omega)
    have hU : IntKind.i64.wrap (((imm.toNat / 4 : Nat) : Int) * IntKind.i64.wrap (1 * 2 ^ ((2 : Int)).toNat)) = (imm.toNat : Int) := by
      rw [show IntKind.i64.wrap (1 * 2 ^ ((2 : Int)).toNat) = 4 by kernel_rfl, show ((imm.toNat / 4 : Nat) : Int) * 4 = (imm.toNat : Int) by omega]; exact wrap_small _ (by omega) (by omega)
    have haI : aI x = imm := by unfold aI; rw [g24_6, g10_12, g30_2, hU]; exact ofInt_toNat imm
    simp only [onP, kk, hk8, hk5, hk6, if_true, if_false, Bool.false_eq_true, haO, haW, haM, haI, g0_5, g5_5]
  · intro α f
    have g0_5 : gt x 0 5 = D := gt_is E 0 5 (c := D) (by omega)
    have g5_5 : gt x 5 5 = N := gt_is E 5 5 (c := N) (by omega)
    have g30_2 : gt x 30 2 = 2 := gt_is E 30 2 (c := 2) (by omega)
    have htW : tW 34 x = 4 := by unfold tW; rw [Hz, g30_2]; rfl
    have g10_12 : gt x 10 12 = ((imm.toNat / 4 : Nat) : Int) := gt_is E 10 12 (c := (imm.toNat / 4)) (by omega)
    have hU : IntKind.i64.wrap (((imm.toNat / 4 : Nat) : Int) * 4) = (imm.toNat : Int) := by
      rw [show ((imm.toNat / 4 : Nat) : Int) * 4 = (imm.toNat : Int) by omega]; exact wrap_small _ (by omega) (by omega)
    have htI : tI 34 x = imm := by unfold tI; simp only [Hf, Hu, Hw, Hl, Hi, if_true, if_false, Bool.false_eq_true]; rw [g10_12, htW, hU]; exact ofInt_toNat imm
    simp only [onT, htW, htI, Hde, Hnb, Hmt, Ha, Hg, Hj, Hk, Hc, Hr, Hh, Hs, if_true, if_false, Bool.false_eq_true, g0_5, g5_5]
set_option maxHeartbeats 1000000 in
theorem good_34_8 {d n m a : Int} {imm : W64} {off cond r s : Int} (ho : IntKind.i64.has off) (h : mayA 34 8 d n m a imm off cond r s = true) : Good 34 8 d n m a imm off cond r s := by
  have f := may_facts h
  have hQ := f.nums
  simp [numsB, inB] at hQ
  obtain ⟨hU0, hU1⟩ := hQ
  have hU0 : imm.toNat % 8 = 0 := by have := congrArg BitVec.toNat hU0; simpa [BitVec.toNat_umod] using this
  have hU1 : imm.toNat / 8 < 4096 := by simpa [BitVec.toNat_udiv] using hU1
  obtain ⟨D, eD, hD⟩ := nat_of (b := 31) f.d0
  obtain ⟨N, eN, hN⟩ := nat_of (b := 31) f.n0
  have eM : m = 0 := f.sM
  have eA : a = 0 := f.sA
  have eS : s = 0 := f.sS
  have eR : r = 0 := f.sR
  have eC : cond = 0 := f.sC
  have eO : off = 0 := f.sO
  clear f h
  subst  eD eN eM eA eS eR eC  eO
  have E : (encP 34 8 D N 0 0 imm 0 0 0 0).toNat = 4177526784 + N * 2 ^ 5 + (imm.toNat / 8) * 2 ^ 10 + D * 2 ^ 0 := by
    have ex : encP 34 8 D N 0 0 imm 0 0 0 0 = orF (baseW 34) [(N, 5, 5), (3, 2, 30), ((imm.toNat / 8), 12, 10), (D, 5, 0)] := by
      show ((((baseW 34 ||| fieldW (N : Int) 5) ||| fieldW (0 : Int) 16) ||| fieldW (0 : Int) 10) ||| (fieldW (logN 8) 30 ||| fieldW (IntKind.i64.wrap ((IntKind.i64.wrap (imm.toNat : Int)).tdiv 8)) 10)) ||| fieldW (D : Int) 0 = _
      have z1 : logN 8 = ((3 : Nat) : Int) := by kernel_rfl
      have z2 : IntKind.i64.wrap ((IntKind.i64.wrap (imm.toNat : Int)).tdiv 8) = ((imm.toNat / 8 : Nat) : Int) := by
        rw [wrap_small (imm.toNat : Int) (by omega) (by omega), show ((imm.toNat : Int)).tdiv 8 = ((imm.toNat / 8 : Nat) : Int) by rw [Int.tdiv_eq_ediv_of_nonneg (by omega)]; omega, wrap_small _ (by omega) (by omega)]
      rw [z1, z2]
      try simp only [or0, ← BitVec.or_assoc]
      rfl
    rw [ex, orF_sum _ (baseW 34) (baseW 34) (BitVec.and_self ..) (by simp only [ltF, and_true] <;> omega) (by kernel_rfl), show (baseW 34).toNat = 956301312 by kernel_rfl]
    simp only [sumF, Nat.reducePow, Nat.reduceMul, Nat.one_mul, Nat.zero_mul] <;> omega
  obtain ⟨Hz, Hde, Hnb, Hmt, Ha, Hf, Hu, Hw, Hl, Hi, Hg, Hj, Hk, Hc, Hr, Hh, Hs⟩ := hasAll (k := 34) (show _ = [true, true, true, false, false, false, true, false, false, false, false, false, false, false, false, false, false] by kernel_rfl)
  have A : (encR 34 8 D N 0 0 imm 0 0 0 0).setWidth 32 = encP 34 8 D N 0 0 imm 0 0 0 0 := by
    have T : (encR 34 8 D N 0 0 imm 0 0 0 0).toNat = 956301312 + (D + N * 32 + 0 * 65536 + 0 * 1024 + 0 * 65536) + (imm.toNat / 8) * 1024 + 3 * 1073741824 := by
      simp only [encR, Hz, Ha, Hf, Hu, Hw, Hl, Hi, Hg, Hj, Hk, Hc, Hr, Hh, Hs, addIf_t, addIf_f]
      exact t_add (t_add (encR0_toNat D N 0 0 0 (B := 956301312) (by kernel_rfl) (by omega) (by omega) (by omega) (by omega) (by omega) (by omega)) (t_mul (t_div (rfl : imm.toNat = imm.toNat) (show (BitVec.ofInt 64 8).toNat = 8 by kernel_rfl)) (t_lit 1024) (by omega)) (by omega)) (t_mul (show (sizeA 8).toNat = 3 by kernel_rfl) (t_lit 1073741824) (by decide)) (by omega)
    have hlt := (encP 34 8 D N 0 0 imm 0 0 0 0).isLt
    rw [E] at hlt
    apply BitVec.eq_of_toNat_eq
    rw [BitVec.toNat_setWidth, T, E, Nat.mod_eq_of_lt (by omega)] <;> omega
  refine ⟨A, ?_, ?_, ?_⟩ <;> clear A <;> generalize encP 34 8 D N 0 0 imm 0 0 0 0 = x at E ⊢
  · have hB : (bw 34).toNat = 956301312 := by kernel_rfl
    exact nearz Hz (by rw [hB, E] <;> omega)
  · intro α f
    have g25_4 : gt x 25 4 = 12 := gt_is E 25 4 (c := 12) (by omega)
    have hk8 : k8 x = false := by unfold k8; rw [g25_4]; rfl
    have hk5 : k5 x = false := by unfold k5; rw [g25_4]; rfl
    have hk6 : k6 x = true := by unfold k6; rw [g25_4]; rfl
    have g24_6 : gt x 24 6 = 57 := gt_is E 24 6 (c := 57) (by omega)
    have g0_5 : gt x 0 5 = D := gt_is E 0 5 (c := D) (by omega)
    have g5_5 : gt x 5 5 = N := gt_is E 5 5 (c := N) (by omega)
    have g30_2 : gt x 30 2 = 3 := gt_is E 30 2 (c := 3) (by omega)
    have g22_2 : gt x 22 2 = 0 := gt_is E 22 2 (c := 0) (by omega)
    have haO : aO x = 34 := by unfold aO; rw [g24_6, g22_2]; rfl
    have haW : aW x = 8 := by unfold aW; rw [g30_2]; kernel_rfl
    have haM : aM x = 0 := by unfold aM; rw [g24_6]; rfl
    have g10_12 : gt x 10 12 = ((imm.toNat / 8 : Nat) : Int) := gt_is E 10 12 (c := (imm.toNat / 8)) (by omega)
    have hU : IntKind.i64.wrap (((imm.toNat / 8 : Nat) : Int) * IntKind.i64.wrap (1 * 2 ^ ((3 : Int)).toNat)) = (imm.toNat : Int) := by
      rw [show IntKind.i64.wrap (1 * 2 ^ ((3 : Int)).toNat) = 8 by kernel_rfl, show ((imm.toNat / 8 : Nat) : Int) * 8 = (imm.toNat : Int) by omega]; exact wrap_small _ (by omega) (by omega)
    have haI : aI x = imm := by unfold aI; rw [g24_6, g10_12, g30_2, hU]; exact ofInt_toNat imm
    simp only [onP, kk, hk8, hk5, hk6, if_true, if_false, Bool.false_eq_true, haO, haW, haM, haI, g0_5, g5_5]
  · intro α f
    have g0_5 : gt x 0 5 = D := gt_is E 0 5 (c := D) (by omega)
    have g5_5 : gt x 5 5 = N := gt_is E 5 5 (c := N) (by omega)
    have g30_2 : gt x 30 2 = 3 := gt_is E 30 2 (c := 3) (by omega)
    have htW : tW 34 x = 8 := by unfold tW; rw [Hz, g30_2]; rfl
    have g10_12 : gt x 10 12 = ((imm.toNat / 8 : Nat) : Int) := gt_is E 10 12 (c := (imm.toNat / 8)) (by omega)
    have hU : IntKind.i64.wrap (((imm.toNat / 8 : Nat) : Int) * 8) = (imm.toNat : Int) := by
      rw [show ((imm.toNat / 8 : Nat) : Int) * 8 = (imm.toNat : Int) by omega]; exact wrap_small _ (by omega) (by omega)
    have htI : tI 34 x = imm := by unfold tI; simp only [Hf, Hu, Hw, Hl, Hi, if_true, if_false, Bool.false_eq_true]; rw [g10_12, htW, hU]; exact ofInt_toNat imm
    simp only [onT, htW, htI, Hde, Hnb, Hmt, Ha, Hg, Hj, Hk, Hc, Hr, Hh, Hs, if_true, if_false, Bool.false_eq_true, g0_5, g5_5]
end Go.Proofs.YtocfkaihfjbfnaaDoor
set_option maxRecDepth 100000
namespace Go.Proofs.YtocfkaihfjbfnaaDoor
open Go.Proofs.YtocfkaihfjbfnaaDoor.Ev Go.RowKit
/- Plain: the words of operations (printed by decops.py). -/
set_option maxHeartbeats 1000000 in
theorem good_35_1 {d n m a : Int} {imm : W64} {off cond r s : Int} (ho : IntKind.i64.has off) (h : mayA 35 1 d n m a imm off cond r s = true) : Good 35 1 d n m a imm off cond r s := by
  have f := may_facts h
  obtain ⟨D, eD, hD⟩ := nat_of (b := 31) f.d0
  obtain ⟨N, eN, hN⟩ := nat_of (b := 31) f.n0
  have eM : m = 0 := f.sM
  have eA : a = 0 := f.sA
  have eS : s = 0 := f.sS
  have eR : r = 0 := f.sR
  have eC : cond = 0 := f.sC
  have eI : imm = 0#64 := f.sI
  have eO : off = 0 := f.sO
  clear f h
  subst  eD eN eM eA eS eR eC eI eO
  have E : (encP 35 1 D N 0 0 0#64 0 0 0 0).toNat = 952090624 + N * 2 ^ 5 + D * 2 ^ 0 := by
    have ex : encP 35 1 D N 0 0 0#64 0 0 0 0 = orF (baseW 35) [(N, 5, 5), (0, 2, 30), (D, 5, 0)] := by
      show ((((baseW 35 ||| fieldW (N : Int) 5) ||| fieldW (0 : Int) 16) ||| fieldW (0 : Int) 10) ||| (fieldW (logN 1) 30 ||| fieldW (IntKind.i64.wrap ((IntKind.i64.wrap ((0#64).toNat : Int)).tdiv 1)) 10)) ||| fieldW (D : Int) 0 = _
      have z1 : logN 1 = ((0 : Nat) : Int) := by kernel_rfl
      have z2 : IntKind.i64.wrap ((IntKind.i64.wrap ((0#64).toNat : Int)).tdiv 1) = 0 := by kernel_rfl
      rw [z1, z2]
      try simp only [or0, ← BitVec.or_assoc]
      rfl
    rw [ex, orF_sum _ (baseW 35) (baseW 35) (BitVec.and_self ..) (by simp only [ltF, and_true] <;> omega) (by kernel_rfl), show (baseW 35).toNat = 952090624 by kernel_rfl]
    simp only [sumF, Nat.reducePow, Nat.reduceMul, Nat.one_mul, Nat.zero_mul] <;> omega
  obtain ⟨Hz, Hde, Hnb, Hmt, Ha, Hf, Hu, Hw, Hl, Hi, Hg, Hj, Hk, Hc, Hr, Hh, Hs⟩ := hasAll (k := 35) (show _ = [true, true, true, false, false, false, false, false, false, false, false, false, false, false, false, false, false] by kernel_rfl)
  have A : (encR 35 1 D N 0 0 0#64 0 0 0 0).setWidth 32 = encP 35 1 D N 0 0 0#64 0 0 0 0 := by
    have T : (encR 35 1 D N 0 0 0#64 0 0 0 0).toNat = 952090624 + (D + N * 32 + 0 * 65536 + 0 * 1024 + 0 * 65536) + 0 * 1073741824 := by
      simp only [encR, Hz, Ha, Hf, Hu, Hw, Hl, Hi, Hg, Hj, Hk, Hc, Hr, Hh, Hs, addIf_t, addIf_f]
      exact t_add (encR0_toNat D N 0 0 0 (B := 952090624) (by kernel_rfl) (by omega) (by omega) (by omega) (by omega) (by omega) (by omega)) (t_mul (show (sizeA 1).toNat = 0 by kernel_rfl) (t_lit 1073741824) (by omega)) (by omega)
    have hlt := (encP 35 1 D N 0 0 0#64 0 0 0 0).isLt
    rw [E] at hlt
    apply BitVec.eq_of_toNat_eq
    rw [BitVec.toNat_setWidth, T, E, Nat.mod_eq_of_lt (by omega)] <;> omega
  refine ⟨A, ?_, ?_, ?_⟩ <;> clear A <;> generalize encP 35 1 D N 0 0 0#64 0 0 0 0 = x at E ⊢
  · have hB : (bw 35).toNat = 952090624 := by kernel_rfl
    exact nearz Hz (by rw [hB, E] <;> omega)
  · intro α f
    have g25_4 : gt x 25 4 = 12 := gt_is E 25 4 (c := 12) (by omega)
    have hk8 : k8 x = false := by unfold k8; rw [g25_4]; rfl
    have hk5 : k5 x = false := by unfold k5; rw [g25_4]; rfl
    have hk6 : k6 x = true := by unfold k6; rw [g25_4]; rfl
    have g24_6 : gt x 24 6 = 56 := gt_is E 24 6 (c := 56) (by omega)
    have g0_5 : gt x 0 5 = D := gt_is E 0 5 (c := D) (by omega)
    have g5_5 : gt x 5 5 = N := gt_is E 5 5 (c := N) (by omega)
    have g30_2 : gt x 30 2 = 0 := gt_is E 30 2 (c := 0) (by omega)
    have haO : aO x = 35 := by unfold aO; rw [g24_6]; rfl
    have haW : aW x = 1 := by unfold aW; rw [g30_2]; kernel_rfl
    have haM : aM x = 0 := by unfold aM; rw [g24_6]; rfl
    have haI : aI x = 0#64 := by unfold aI; rw [g24_6]; rfl
    simp only [onP, kk, hk8, hk5, hk6, if_true, if_false, Bool.false_eq_true, haO, haW, haM, haI, g0_5, g5_5]
  · intro α f
    have g0_5 : gt x 0 5 = D := gt_is E 0 5 (c := D) (by omega)
    have g5_5 : gt x 5 5 = N := gt_is E 5 5 (c := N) (by omega)
    have g30_2 : gt x 30 2 = 0 := gt_is E 30 2 (c := 0) (by omega)
    have htW : tW 35 x = 1 := by unfold tW; rw [Hz, g30_2]; rfl
    have htI : tI 35 x = 0#64 := by unfold tI; simp only [Hf, Hu, Hw, Hl, Hi, if_true, if_false, Bool.false_eq_true]
    simp only [onT, htW, htI, Hde, Hnb, Hmt, Ha, Hg, Hj, Hk, Hc, Hr, Hh, Hs, if_true, if_false, Bool.false_eq_true, g0_5, g5_5]
set_option maxHeartbeats 1000000 in
theorem good_35_2 {d n m a : Int} {imm : W64} {off cond r s : Int} (ho : IntKind.i64.has off) (h : mayA 35 2 d n m a imm off cond r s = true) : Good 35 2 d n m a imm off cond r s := by
  have f := may_facts h
  obtain ⟨D, eD, hD⟩ := nat_of (b := 31) f.d0
  obtain ⟨N, eN, hN⟩ := nat_of (b := 31) f.n0
  have eM : m = 0 := f.sM
  have eA : a = 0 := f.sA
  have eS : s = 0 := f.sS
  have eR : r = 0 := f.sR
  have eC : cond = 0 := f.sC
  have eI : imm = 0#64 := f.sI
  have eO : off = 0 := f.sO
  clear f h
  subst  eD eN eM eA eS eR eC eI eO
  have E : (encP 35 2 D N 0 0 0#64 0 0 0 0).toNat = 2025832448 + N * 2 ^ 5 + D * 2 ^ 0 := by
    have ex : encP 35 2 D N 0 0 0#64 0 0 0 0 = orF (baseW 35) [(N, 5, 5), (1, 2, 30), (D, 5, 0)] := by
      show ((((baseW 35 ||| fieldW (N : Int) 5) ||| fieldW (0 : Int) 16) ||| fieldW (0 : Int) 10) ||| (fieldW (logN 2) 30 ||| fieldW (IntKind.i64.wrap ((IntKind.i64.wrap ((0#64).toNat : Int)).tdiv 2)) 10)) ||| fieldW (D : Int) 0 = _
      have z1 : logN 2 = ((1 : Nat) : Int) := by kernel_rfl
      have z2 : IntKind.i64.wrap ((IntKind.i64.wrap ((0#64).toNat : Int)).tdiv 2) = 0 := by kernel_rfl
      rw [z1, z2]
      try simp only [or0, ← BitVec.or_assoc]
      rfl
    rw [ex, orF_sum _ (baseW 35) (baseW 35) (BitVec.and_self ..) (by simp only [ltF, and_true] <;> omega) (by kernel_rfl), show (baseW 35).toNat = 952090624 by kernel_rfl]
    simp only [sumF, Nat.reducePow, Nat.reduceMul, Nat.one_mul, Nat.zero_mul] <;> omega
  obtain ⟨Hz, Hde, Hnb, Hmt, Ha, Hf, Hu, Hw, Hl, Hi, Hg, Hj, Hk, Hc, Hr, Hh, Hs⟩ := hasAll (k := 35) (show _ = [true, true, true, false, false, false, false, false, false, false, false, false, false, false, false, false, false] by kernel_rfl)
  have A : (encR 35 2 D N 0 0 0#64 0 0 0 0).setWidth 32 = encP 35 2 D N 0 0 0#64 0 0 0 0 := by
    have T : (encR 35 2 D N 0 0 0#64 0 0 0 0).toNat = 952090624 + (D + N * 32 + 0 * 65536 + 0 * 1024 + 0 * 65536) + 1 * 1073741824 := by
      simp only [encR, Hz, Ha, Hf, Hu, Hw, Hl, Hi, Hg, Hj, Hk, Hc, Hr, Hh, Hs, addIf_t, addIf_f]
      exact t_add (encR0_toNat D N 0 0 0 (B := 952090624) (by kernel_rfl) (by omega) (by omega) (by omega) (by omega) (by omega) (by omega)) (t_mul (show (sizeA 2).toNat = 1 by kernel_rfl) (t_lit 1073741824) (by omega)) (by omega)
    have hlt := (encP 35 2 D N 0 0 0#64 0 0 0 0).isLt
    rw [E] at hlt
    apply BitVec.eq_of_toNat_eq
    rw [BitVec.toNat_setWidth, T, E, Nat.mod_eq_of_lt (by omega)] <;> omega
  refine ⟨A, ?_, ?_, ?_⟩ <;> clear A <;> generalize encP 35 2 D N 0 0 0#64 0 0 0 0 = x at E ⊢
  · have hB : (bw 35).toNat = 952090624 := by kernel_rfl
    exact nearz Hz (by rw [hB, E] <;> omega)
  · intro α f
    have g25_4 : gt x 25 4 = 12 := gt_is E 25 4 (c := 12) (by omega)
    have hk8 : k8 x = false := by unfold k8; rw [g25_4]; rfl
    have hk5 : k5 x = false := by unfold k5; rw [g25_4]; rfl
    have hk6 : k6 x = true := by unfold k6; rw [g25_4]; rfl
    have g24_6 : gt x 24 6 = 56 := gt_is E 24 6 (c := 56) (by omega)
    have g0_5 : gt x 0 5 = D := gt_is E 0 5 (c := D) (by omega)
    have g5_5 : gt x 5 5 = N := gt_is E 5 5 (c := N) (by omega)
    have g30_2 : gt x 30 2 = 1 := gt_is E 30 2 (c := 1) (by omega)
    have haO : aO x = 35 := by unfold aO; rw [g24_6]; rfl
    have haW : aW x = 2 := by unfold aW; rw [g30_2]; kernel_rfl
    have haM : aM x = 0 := by unfold aM; rw [g24_6]; rfl
    have haI : aI x = 0#64 := by unfold aI; rw [g24_6]; rfl
    simp only [onP, kk, hk8, hk5, hk6, if_true, if_false, Bool.false_eq_true, haO, haW, haM, haI, g0_5, g5_5]
  · intro α f
    have g0_5 : gt x 0 5 = D := gt_is E 0 5 (c := D) (by omega)
    have g5_5 : gt x 5 5 = N := gt_is E 5 5 (c := N) (by omega)
    have g30_2 : gt x 30 2 = 1 := gt_is E 30 2 (c := 1) (by omega)
    have htW : tW 35 x = 2 := by unfold tW; rw [Hz, g30_2]; rfl
    have htI : tI 35 x = 0#64 := by unfold tI; simp only [Hf, Hu, Hw, Hl, Hi, if_true, if_false, Bool.false_eq_true]
    simp only [onT, htW, htI, Hde, Hnb, Hmt, Ha, Hg, Hj, Hk, Hc, Hr, Hh, Hs, if_true, if_false, Bool.false_eq_true, g0_5, g5_5]
set_option maxHeartbeats 1000000 in
theorem good_35_4 {d n m a : Int} {imm : W64} {off cond r s : Int} (ho : IntKind.i64.has off) (h : mayA 35 4 d n m a imm off cond r s = true) : Good 35 4 d n m a imm off cond r s := by
  have f := may_facts h
  obtain ⟨D, eD, hD⟩ := nat_of (b := 31) f.d0
  obtain ⟨N, eN, hN⟩ := nat_of (b := 31) f.n0
  have eM : m = 0 := f.sM
  have eA : a = 0 := f.sA
  have eS : s = 0 := f.sS
  have eR : r = 0 := f.sR
  have eC : cond = 0 := f.sC
  have eI : imm = 0#64 := f.sI
  have eO : off = 0 := f.sO
  clear f h
  subst  eD eN eM eA eS eR eC eI eO
  have E : (encP 35 4 D N 0 0 0#64 0 0 0 0).toNat = 3099574272 + N * 2 ^ 5 + D * 2 ^ 0 := by
    have ex : encP 35 4 D N 0 0 0#64 0 0 0 0 = orF (baseW 35) [(N, 5, 5), (2, 2, 30), (D, 5, 0)] := by
      show ((((baseW 35 ||| fieldW (N : Int) 5) ||| fieldW (0 : Int) 16) ||| fieldW (0 : Int) 10) ||| (fieldW (logN 4) 30 ||| fieldW (IntKind.i64.wrap ((IntKind.i64.wrap ((0#64).toNat : Int)).tdiv 4)) 10)) ||| fieldW (D : Int) 0 = _
      have z1 : logN 4 = ((2 : Nat) : Int) := by kernel_rfl
      have z2 : IntKind.i64.wrap ((IntKind.i64.wrap ((0#64).toNat : Int)).tdiv 4) = 0 := by kernel_rfl
      rw [z1, z2]
      try simp only [or0, ← BitVec.or_assoc]
      rfl
    rw [ex, orF_sum _ (baseW 35) (baseW 35) (BitVec.and_self ..) (by simp only [ltF, and_true] <;> omega) (by kernel_rfl), show (baseW 35).toNat = 952090624 by kernel_rfl]
    simp only [sumF, Nat.reducePow, Nat.reduceMul, Nat.one_mul, Nat.zero_mul] <;> omega
  obtain ⟨Hz, Hde, Hnb, Hmt, Ha, Hf, Hu, Hw, Hl, Hi, Hg, Hj, Hk, Hc, Hr, Hh, Hs⟩ := hasAll (k := 35) (show _ = [true, true, true, false, false, false, false, false, false, false, false, false, false, false, false, false, false] by kernel_rfl)
  have A : (encR 35 4 D N 0 0 0#64 0 0 0 0).setWidth 32 = encP 35 4 D N 0 0 0#64 0 0 0 0 := by
    have T : (encR 35 4 D N 0 0 0#64 0 0 0 0).toNat = 952090624 + (D + N * 32 + 0 * 65536 + 0 * 1024 + 0 * 65536) + 2 * 1073741824 := by
      simp only [encR, Hz, Ha, Hf, Hu, Hw, Hl, Hi, Hg, Hj, Hk, Hc, Hr, Hh, Hs, addIf_t, addIf_f]
      exact t_add (encR0_toNat D N 0 0 0 (B := 952090624) (by kernel_rfl) (by omega) (by omega) (by omega) (by omega) (by omega) (by omega)) (t_mul (show (sizeA 4).toNat = 2 by kernel_rfl) (t_lit 1073741824) (by omega)) (by omega)
    have hlt := (encP 35 4 D N 0 0 0#64 0 0 0 0).isLt
    rw [E] at hlt
    apply BitVec.eq_of_toNat_eq
    rw [BitVec.toNat_setWidth, T, E, Nat.mod_eq_of_lt (by omega)] <;> omega
  refine ⟨A, ?_, ?_, ?_⟩ <;> clear A <;> generalize encP 35 4 D N 0 0 0#64 0 0 0 0 = x at E ⊢
  · have hB : (bw 35).toNat = 952090624 := by kernel_rfl
    exact nearz Hz (by rw [hB, E] <;> omega)
  · intro α f
    have g25_4 : gt x 25 4 = 12 := gt_is E 25 4 (c := 12) (by omega)
    have hk8 : k8 x = false := by unfold k8; rw [g25_4]; rfl
    have hk5 : k5 x = false := by unfold k5; rw [g25_4]; rfl
    have hk6 : k6 x = true := by unfold k6; rw [g25_4]; rfl
    have g24_6 : gt x 24 6 = 56 := gt_is E 24 6 (c := 56) (by omega)
    have g0_5 : gt x 0 5 = D := gt_is E 0 5 (c := D) (by omega)
    have g5_5 : gt x 5 5 = N := gt_is E 5 5 (c := N) (by omega)
    have g30_2 : gt x 30 2 = 2 := gt_is E 30 2 (c := 2) (by omega)
    have haO : aO x = 35 := by unfold aO; rw [g24_6]; rfl
    have haW : aW x = 4 := by unfold aW; rw [g30_2]; kernel_rfl
    have haM : aM x = 0 := by unfold aM; rw [g24_6]; rfl
    have haI : aI x = 0#64 := by unfold aI; rw [g24_6]; rfl
    simp only [onP, kk, hk8, hk5, hk6, if_true, if_false, Bool.false_eq_true, haO, haW, haM, haI, g0_5, g5_5]
  · intro α f
    have g0_5 : gt x 0 5 = D := gt_is E 0 5 (c := D) (by omega)
    have g5_5 : gt x 5 5 = N := gt_is E 5 5 (c := N) (by omega)
    have g30_2 : gt x 30 2 = 2 := gt_is E 30 2 (c := 2) (by omega)
    have htW : tW 35 x = 4 := by unfold tW; rw [Hz, g30_2]; rfl
    have htI : tI 35 x = 0#64 := by unfold tI; simp only [Hf, Hu, Hw, Hl, Hi, if_true, if_false, Bool.false_eq_true]
    simp only [onT, htW, htI, Hde, Hnb, Hmt, Ha, Hg, Hj, Hk, Hc, Hr, Hh, Hs, if_true, if_false, Bool.false_eq_true, g0_5, g5_5]
set_option maxHeartbeats 1000000 in
theorem good_35_8 {d n m a : Int} {imm : W64} {off cond r s : Int} (ho : IntKind.i64.has off) (h : mayA 35 8 d n m a imm off cond r s = true) : Good 35 8 d n m a imm off cond r s := by
  have f := may_facts h
  obtain ⟨D, eD, hD⟩ := nat_of (b := 31) f.d0
  obtain ⟨N, eN, hN⟩ := nat_of (b := 31) f.n0
  have eM : m = 0 := f.sM
  have eA : a = 0 := f.sA
  have eS : s = 0 := f.sS
  have eR : r = 0 := f.sR
  have eC : cond = 0 := f.sC
  have eI : imm = 0#64 := f.sI
  have eO : off = 0 := f.sO
  clear f h
  subst  eD eN eM eA eS eR eC eI eO
  have E : (encP 35 8 D N 0 0 0#64 0 0 0 0).toNat = 4173316096 + N * 2 ^ 5 + D * 2 ^ 0 := by
    have ex : encP 35 8 D N 0 0 0#64 0 0 0 0 = orF (baseW 35) [(N, 5, 5), (3, 2, 30), (D, 5, 0)] := by
      show ((((baseW 35 ||| fieldW (N : Int) 5) ||| fieldW (0 : Int) 16) ||| fieldW (0 : Int) 10) ||| (fieldW (logN 8) 30 ||| fieldW (IntKind.i64.wrap ((IntKind.i64.wrap ((0#64).toNat : Int)).tdiv 8)) 10)) ||| fieldW (D : Int) 0 = _
      have z1 : logN 8 = ((3 : Nat) : Int) := by kernel_rfl
      have z2 : IntKind.i64.wrap ((IntKind.i64.wrap ((0#64).toNat : Int)).tdiv 8) = 0 := by kernel_rfl
      rw [z1, z2]
      try simp only [or0, ← BitVec.or_assoc]
      rfl
    rw [ex, orF_sum _ (baseW 35) (baseW 35) (BitVec.and_self ..) (by simp only [ltF, and_true] <;> omega) (by kernel_rfl), show (baseW 35).toNat = 952090624 by kernel_rfl]
    simp only [sumF, Nat.reducePow, Nat.reduceMul, Nat.one_mul, Nat.zero_mul] <;> omega
  obtain ⟨Hz, Hde, Hnb, Hmt, Ha, Hf, Hu, Hw, Hl, Hi, Hg, Hj, Hk, Hc, Hr, Hh, Hs⟩ := hasAll (k := 35) (show _ = [true, true, true, false, false, false, false, false, false, false, false, false, false, false, false, false, false] by kernel_rfl)
  have A : (encR 35 8 D N 0 0 0#64 0 0 0 0).setWidth 32 = encP 35 8 D N 0 0 0#64 0 0 0 0 := by
    have T : (encR 35 8 D N 0 0 0#64 0 0 0 0).toNat = 952090624 + (D + N * 32 + 0 * 65536 + 0 * 1024 + 0 * 65536) + 3 * 1073741824 := by
      simp only [encR, Hz, Ha, Hf, Hu, Hw, Hl, Hi, Hg, Hj, Hk, Hc, Hr, Hh, Hs, addIf_t, addIf_f]
      exact t_add (encR0_toNat D N 0 0 0 (B := 952090624) (by kernel_rfl) (by omega) (by omega) (by omega) (by omega) (by omega) (by omega)) (t_mul (show (sizeA 8).toNat = 3 by kernel_rfl) (t_lit 1073741824) (by omega)) (by omega)
    have hlt := (encP 35 8 D N 0 0 0#64 0 0 0 0).isLt
    rw [E] at hlt
    apply BitVec.eq_of_toNat_eq
    rw [BitVec.toNat_setWidth, T, E, Nat.mod_eq_of_lt (by omega)] <;> omega
  refine ⟨A, ?_, ?_, ?_⟩ <;> clear A <;> generalize encP 35 8 D N 0 0 0#64 0 0 0 0 = x at E ⊢
  · have hB : (bw 35).toNat = 952090624 := by kernel_rfl
    exact nearz Hz (by rw [hB, E] <;> omega)
  · intro α f
    have g25_4 : gt x 25 4 = 12 := gt_is E 25 4 (c := 12) (by omega)
    have hk8 : k8 x = false := by unfold k8; rw [g25_4]; rfl
    have hk5 : k5 x = false := by unfold k5; rw [g25_4]; rfl
    have hk6 : k6 x = true := by unfold k6; rw [g25_4]; rfl
    have g24_6 : gt x 24 6 = 56 := gt_is E 24 6 (c := 56) (by omega)
    have g0_5 : gt x 0 5 = D := gt_is E 0 5 (c := D) (by omega)
    have g5_5 : gt x 5 5 = N := gt_is E 5 5 (c := N) (by omega)
    have g30_2 : gt x 30 2 = 3 := gt_is E 30 2 (c := 3) (by omega)
    have haO : aO x = 35 := by unfold aO; rw [g24_6]; rfl
    have haW : aW x = 8 := by unfold aW; rw [g30_2]; kernel_rfl
    have haM : aM x = 0 := by unfold aM; rw [g24_6]; rfl
    have haI : aI x = 0#64 := by unfold aI; rw [g24_6]; rfl
    simp only [onP, kk, hk8, hk5, hk6, if_true, if_false, Bool.false_eq_true, haO, haW, haM, haI, g0_5, g5_5]
  · intro α f
    have g0_5 : gt x 0 5 = D := gt_is E 0 5 (c := D) (by omega)
    have g5_5 : gt x 5 5 = N := gt_is E 5 5 (c := N) (by omega)
    have g30_2 : gt x 30 2 = 3 := gt_is E 30 2 (c := 3) (by omega)
    have htW : tW 35 x = 8 := by unfold tW; rw [Hz, g30_2]; rfl
    have htI : tI 35 x = 0#64 := by unfold tI; simp only [Hf, Hu, Hw, Hl, Hi, if_true, if_false, Bool.false_eq_true]
    simp only [onT, htW, htI, Hde, Hnb, Hmt, Ha, Hg, Hj, Hk, Hc, Hr, Hh, Hs, if_true, if_false, Bool.false_eq_true, g0_5, g5_5]
set_option maxHeartbeats 1000000 in
theorem good_36_1 {d n m a : Int} {imm : W64} {off cond r s : Int} (ho : IntKind.i64.has off) (h : mayA 36 1 d n m a imm off cond r s = true) : Good 36 1 d n m a imm off cond r s := by
  have f := may_facts h
  obtain ⟨D, eD, hD⟩ := nat_of (b := 31) f.d0
  obtain ⟨N, eN, hN⟩ := nat_of (b := 31) f.n0
  have eM : m = 0 := f.sM
  have eA : a = 0 := f.sA
  have eS : s = 0 := f.sS
  have eR : r = 0 := f.sR
  have eC : cond = 0 := f.sC
  have eI : imm = 0#64 := f.sI
  have eO : off = 0 := f.sO
  clear f h
  subst  eD eN eM eA eS eR eC eI eO
  have E : (encP 36 1 D N 0 0 0#64 0 0 0 0).toNat = 144702464 + N * 2 ^ 5 + D * 2 ^ 0 := by
    have ex : encP 36 1 D N 0 0 0#64 0 0 0 0 = orF (baseW 36) [(N, 5, 5), (0, 2, 30), (D, 5, 0)] := by
      show ((((baseW 36 ||| fieldW (N : Int) 5) ||| fieldW (0 : Int) 16) ||| fieldW (0 : Int) 10) ||| (fieldW (logN 1) 30 ||| fieldW (IntKind.i64.wrap ((IntKind.i64.wrap ((0#64).toNat : Int)).tdiv 1)) 10)) ||| fieldW (D : Int) 0 = _
      have z1 : logN 1 = ((0 : Nat) : Int) := by kernel_rfl
      have z2 : IntKind.i64.wrap ((IntKind.i64.wrap ((0#64).toNat : Int)).tdiv 1) = 0 := by kernel_rfl
      rw [z1, z2]
      try simp only [or0, ← BitVec.or_assoc]
      rfl
    rw [ex, orF_sum _ (baseW 36) (baseW 36) (BitVec.and_self ..) (by simp only [ltF, and_true] <;> omega) (by kernel_rfl), show (baseW 36).toNat = 144702464 by kernel_rfl]
    simp only [sumF, Nat.reducePow, Nat.reduceMul, Nat.one_mul, Nat.zero_mul] <;> omega
  obtain ⟨Hz, Hde, Hnb, Hmt, Ha, Hf, Hu, Hw, Hl, Hi, Hg, Hj, Hk, Hc, Hr, Hh, Hs⟩ := hasAll (k := 36) (show _ = [true, true, true, false, false, false, false, false, false, false, false, false, false, false, false, false, false] by kernel_rfl)
  have A : (encR 36 1 D N 0 0 0#64 0 0 0 0).setWidth 32 = encP 36 1 D N 0 0 0#64 0 0 0 0 := by
    have T : (encR 36 1 D N 0 0 0#64 0 0 0 0).toNat = 144702464 + (D + N * 32 + 0 * 65536 + 0 * 1024 + 0 * 65536) + 0 * 1073741824 := by
      simp only [encR, Hz, Ha, Hf, Hu, Hw, Hl, Hi, Hg, Hj, Hk, Hc, Hr, Hh, Hs, addIf_t, addIf_f]
      exact t_add (encR0_toNat D N 0 0 0 (B := 144702464) (by kernel_rfl) (by omega) (by omega) (by omega) (by omega) (by omega) (by omega)) (t_mul (show (sizeA 1).toNat = 0 by kernel_rfl) (t_lit 1073741824) (by omega)) (by omega)
    have hlt := (encP 36 1 D N 0 0 0#64 0 0 0 0).isLt
    rw [E] at hlt
    apply BitVec.eq_of_toNat_eq
    rw [BitVec.toNat_setWidth, T, E, Nat.mod_eq_of_lt (by omega)] <;> omega
  refine ⟨A, ?_, ?_, ?_⟩ <;> clear A <;> generalize encP 36 1 D N 0 0 0#64 0 0 0 0 = x at E ⊢
  · have hB : (bw 36).toNat = 144702464 := by kernel_rfl
    exact nearz Hz (by rw [hB, E] <;> omega)
  · intro α f
    have g25_4 : gt x 25 4 = 4 := gt_is E 25 4 (c := 4) (by omega)
    have hk8 : k8 x = false := by unfold k8; rw [g25_4]; rfl
    have hk5 : k5 x = false := by unfold k5; rw [g25_4]; rfl
    have hk6 : k6 x = true := by unfold k6; rw [g25_4]; rfl
    have g24_6 : gt x 24 6 = 8 := gt_is E 24 6 (c := 8) (by omega)
    have g0_5 : gt x 0 5 = D := gt_is E 0 5 (c := D) (by omega)
    have g5_5 : gt x 5 5 = N := gt_is E 5 5 (c := N) (by omega)
    have g30_2 : gt x 30 2 = 0 := gt_is E 30 2 (c := 0) (by omega)
    have g22_2 : gt x 22 2 = 2 := gt_is E 22 2 (c := 2) (by omega)
    have haO : aO x = 36 := by unfold aO; rw [g24_6, g22_2]; rfl
    have haW : aW x = 1 := by unfold aW; rw [g30_2]; kernel_rfl
    have haM : aM x = 0 := by unfold aM; rw [g24_6, g22_2]; rfl
    have haI : aI x = 0#64 := by unfold aI; rw [g24_6]; rfl
    simp only [onP, kk, hk8, hk5, hk6, if_true, if_false, Bool.false_eq_true, haO, haW, haM, haI, g0_5, g5_5]
  · intro α f
    have g0_5 : gt x 0 5 = D := gt_is E 0 5 (c := D) (by omega)
    have g5_5 : gt x 5 5 = N := gt_is E 5 5 (c := N) (by omega)
    have g30_2 : gt x 30 2 = 0 := gt_is E 30 2 (c := 0) (by omega)
    have htW : tW 36 x = 1 := by unfold tW; rw [Hz, g30_2]; rfl
    have htI : tI 36 x = 0#64 := by unfold tI; simp only [Hf, Hu, Hw, Hl, Hi, if_true, if_false, Bool.false_eq_true]
    simp only [onT, htW, htI, Hde, Hnb, Hmt, Ha, Hg, Hj, Hk, Hc, Hr, Hh, Hs, if_true, if_false, Bool.false_eq_true, g0_5, g5_5]
set_option maxHeartbeats 1000000 in
theorem good_36_2 {d n m a : Int} {imm : W64} {off cond r s : Int} (ho : IntKind.i64.has off) (h : mayA 36 2 d n m a imm off cond r s = true) : Good 36 2 d n m a imm off cond r s := by
  have f := may_facts h
  obtain ⟨D, eD, hD⟩ := nat_of (b := 31) f.d0
  obtain ⟨N, eN, hN⟩ := nat_of (b := 31) f.n0
  have eM : m = 0 := f.sM
  have eA : a = 0 := f.sA
  have eS : s = 0 := f.sS
  have eR : r = 0 := f.sR
  have eC : cond = 0 := f.sC
  have eI : imm = 0#64 := f.sI
  have eO : off = 0 := f.sO
  clear f h
  subst  eD eN eM eA eS eR eC eI eO
  have E : (encP 36 2 D N 0 0 0#64 0 0 0 0).toNat = 1218444288 + N * 2 ^ 5 + D * 2 ^ 0 := by
    have ex : encP 36 2 D N 0 0 0#64 0 0 0 0 = orF (baseW 36) [(N, 5, 5), (1, 2, 30), (D, 5, 0)] := by
      show ((((baseW 36 ||| fieldW (N : Int) 5) ||| fieldW (0 : Int) 16) ||| fieldW (0 : Int) 10) ||| (fieldW (logN 2) 30 ||| fieldW (IntKind.i64.wrap ((IntKind.i64.wrap ((0#64).toNat : Int)).tdiv 2)) 10)) ||| fieldW (D : Int) 0 = _
      have z1 : logN 2 = ((1 : Nat) : Int) := by kernel_rfl
      have z2 : IntKind.i64.wrap ((IntKind.i64.wrap ((0#64).toNat : Int)).tdiv 2) = 0 := by kernel_rfl
      rw [z1, z2]
      try simp only [or0, ← BitVec.or_assoc]
      rfl
    rw [ex, orF_sum _ (baseW 36) (baseW 36) (BitVec.and_self ..) (by simp only [ltF, and_true] <;> omega) (by kernel_rfl), show (baseW 36).toNat = 144702464 by kernel_rfl]
    simp only [sumF, Nat.reducePow, Nat.reduceMul, Nat.one_mul, Nat.zero_mul] <;> omega
  obtain ⟨Hz, Hde, Hnb, Hmt, Ha, Hf, Hu, Hw, Hl, Hi, Hg, Hj, Hk, Hc, Hr, Hh, Hs⟩ := hasAll (k := 36) (show _ = [true, true, true, false, false, false, false, false, false, false, false, false, false, false, false, false, false] by kernel_rfl)
  have A : (encR 36 2 D N 0 0 0#64 0 0 0 0).setWidth 32 = encP 36 2 D N 0 0 0#64 0 0 0 0 := by
    have T : (encR 36 2 D N 0 0 0#64 0 0 0 0).toNat = 144702464 + (D + N * 32 + 0 * 65536 + 0 * 1024 + 0 * 65536) + 1 * 1073741824 := by
      simp only [encR, Hz, Ha, Hf, Hu, Hw, Hl, Hi, Hg, Hj, Hk, Hc, Hr, Hh, Hs, addIf_t, addIf_f]
      exact t_add (encR0_toNat D N 0 0 0 (B := 144702464) (by kernel_rfl) (by omega) (by omega) (by omega) (by omega) (by omega) (by omega)) (t_mul (show (sizeA 2).toNat = 1 by kernel_rfl) (t_lit 1073741824) (by omega)) (by omega)
    have hlt := (encP 36 2 D N 0 0 0#64 0 0 0 0).isLt
    rw [E] at hlt
    apply BitVec.eq_of_toNat_eq
    rw [BitVec.toNat_setWidth, T, E, Nat.mod_eq_of_lt (by omega)] <;> omega
  refine ⟨A, ?_, ?_, ?_⟩ <;> clear A <;> generalize encP 36 2 D N 0 0 0#64 0 0 0 0 = x at E ⊢
  · have hB : (bw 36).toNat = 144702464 := by kernel_rfl
    exact nearz Hz (by rw [hB, E] <;> omega)
  · intro α f
    have g25_4 : gt x 25 4 = 4 := gt_is E 25 4 (c := 4) (by omega)
    have hk8 : k8 x = false := by unfold k8; rw [g25_4]; rfl
    have hk5 : k5 x = false := by unfold k5; rw [g25_4]; rfl
    have hk6 : k6 x = true := by unfold k6; rw [g25_4]; rfl
    have g24_6 : gt x 24 6 = 8 := gt_is E 24 6 (c := 8) (by omega)
    have g0_5 : gt x 0 5 = D := gt_is E 0 5 (c := D) (by omega)
    have g5_5 : gt x 5 5 = N := gt_is E 5 5 (c := N) (by omega)
    have g30_2 : gt x 30 2 = 1 := gt_is E 30 2 (c := 1) (by omega)
    have g22_2 : gt x 22 2 = 2 := gt_is E 22 2 (c := 2) (by omega)
    have haO : aO x = 36 := by unfold aO; rw [g24_6, g22_2]; rfl
    have haW : aW x = 2 := by unfold aW; rw [g30_2]; kernel_rfl
    have haM : aM x = 0 := by unfold aM; rw [g24_6, g22_2]; rfl
    have haI : aI x = 0#64 := by unfold aI; rw [g24_6]; rfl
    simp only [onP, kk, hk8, hk5, hk6, if_true, if_false, Bool.false_eq_true, haO, haW, haM, haI, g0_5, g5_5]
  · intro α f
    have g0_5 : gt x 0 5 = D := gt_is E 0 5 (c := D) (by omega)
    have g5_5 : gt x 5 5 = N := gt_is E 5 5 (c := N) (by omega)
    have g30_2 : gt x 30 2 = 1 := gt_is E 30 2 (c := 1) (by omega)
    have htW : tW 36 x = 2 := by unfold tW; rw [Hz, g30_2]; rfl
    have htI : tI 36 x = 0#64 := by unfold tI; simp only [Hf, Hu, Hw, Hl, Hi, if_true, if_false, Bool.false_eq_true]
    simp only [onT, htW, htI, Hde, Hnb, Hmt, Ha, Hg, Hj, Hk, Hc, Hr, Hh, Hs, if_true, if_false, Bool.false_eq_true, g0_5, g5_5]
set_option maxHeartbeats 1000000 in
theorem good_36_4 {d n m a : Int} {imm : W64} {off cond r s : Int} (ho : IntKind.i64.has off) (h : mayA 36 4 d n m a imm off cond r s = true) : Good 36 4 d n m a imm off cond r s := by
  have f := may_facts h
  obtain ⟨D, eD, hD⟩ := nat_of (b := 31) f.d0
  obtain ⟨N, eN, hN⟩ := nat_of (b := 31) f.n0
  have eM : m = 0 := f.sM
  have eA : a = 0 := f.sA
  have eS : s = 0 := f.sS
  have eR : r = 0 := f.sR
  have eC : cond = 0 := f.sC
  have eI : imm = 0#64 := f.sI
  have eO : off = 0 := f.sO
  clear f h
  subst  eD eN eM eA eS eR eC eI eO
  have E : (encP 36 4 D N 0 0 0#64 0 0 0 0).toNat = 2292186112 + N * 2 ^ 5 + D * 2 ^ 0 := by
    have ex : encP 36 4 D N 0 0 0#64 0 0 0 0 = orF (baseW 36) [(N, 5, 5), (2, 2, 30), (D, 5, 0)] := by
      show ((((baseW 36 ||| fieldW (N : Int) 5) ||| fieldW (0 : Int) 16) ||| fieldW (0 : Int) 10) ||| (fieldW (logN 4) 30 ||| fieldW (IntKind.i64.wrap ((IntKind.i64.wrap ((0#64).toNat : Int)).tdiv 4)) 10)) ||| fieldW (D : Int) 0 = _
      have z1 : logN 4 = ((2 : Nat) : Int) := by kernel_rfl
      have z2 : IntKind.i64.wrap ((IntKind.i64.wrap ((0#64).toNat : Int)).tdiv 4) = 0 := by kernel_rfl
      rw [z1, z2]
      try simp only [or0, ← BitVec.or_assoc]
      rfl
    rw [ex, orF_sum _ (baseW 36) (baseW 36) (BitVec.and_self ..) (by simp only [ltF, and_true] <;> omega) (by kernel_rfl), show (baseW 36).toNat = 144702464 by kernel_rfl]
    simp only [sumF, Nat.reducePow, Nat.reduceMul, Nat.one_mul, Nat.zero_mul] <;> omega
  obtain ⟨Hz, Hde, Hnb, Hmt, Ha, Hf, Hu, Hw, Hl, Hi, Hg, Hj, Hk, Hc, Hr, Hh, Hs⟩ := hasAll (k := 36) (show _ = [true, true, true, false, false, false, false, false, false, false, false, false, false, false, false, false, false] by kernel_rfl)
  have A : (encR 36 4 D N 0 0 0#64 0 0 0 0).setWidth 32 = encP 36 4 D N 0 0 0#64 0 0 0 0 := by
    have T : (encR 36 4 D N 0 0 0#64 0 0 0 0).toNat = 144702464 + (D + N * 32 + 0 * 65536 + 0 * 1024 + 0 * 65536) + 2 * 1073741824 := by
      simp only [encR, Hz, Ha, Hf, Hu, Hw, Hl, Hi, Hg, Hj, Hk, Hc, Hr, Hh, Hs, addIf_t, addIf_f]
      exact t_add (encR0_toNat D N 0 0 0 (B := 144702464) (by kernel_rfl) (by omega) (by omega) (by omega) (by omega) (by omega) (by omega)) (t_mul (show (sizeA 4).toNat = 2 by kernel_rfl) (t_lit 1073741824) (by omega)) (by omega)
    have hlt := (encP 36 4 D N 0 0 0#64 0 0 0 0).isLt
    rw [E] at hlt
    apply BitVec.eq_of_toNat_eq
    rw [BitVec.toNat_setWidth, T, E, Nat.mod_eq_of_lt (by omega)] <;> omega
  refine ⟨A, ?_, ?_, ?_⟩ <;> clear A <;> generalize encP 36 4 D N 0 0 0#64 0 0 0 0 = x at E ⊢
  · have hB : (bw 36).toNat = 144702464 := by kernel_rfl
    exact nearz Hz (by rw [hB, E] <;> omega)
  · intro α f
    have g25_4 : gt x 25 4 = 4 := gt_is E 25 4 (c := 4) (by omega)
    have hk8 : k8 x = false := by unfold k8; rw [g25_4]; rfl
    have hk5 : k5 x = false := by unfold k5; rw [g25_4]; rfl
    have hk6 : k6 x = true := by unfold k6; rw [g25_4]; rfl
    have g24_6 : gt x 24 6 = 8 := gt_is E 24 6 (c := 8) (by omega)
    have g0_5 : gt x 0 5 = D := gt_is E 0 5 (c := D) (by omega)
    have g5_5 : gt x 5 5 = N := gt_is E 5 5 (c := N) (by omega)
    have g30_2 : gt x 30 2 = 2 := gt_is E 30 2 (c := 2) (by omega)
    have g22_2 : gt x 22 2 = 2 := gt_is E 22 2 (c := 2) (by omega)
    have haO : aO x = 36 := by unfold aO; rw [g24_6, g22_2]; rfl
    have haW : aW x = 4 := by unfold aW; rw [g30_2]; kernel_rfl
    have haM : aM x = 0 := by unfold aM; rw [g24_6, g22_2]; rfl
    have haI : aI x = 0#64 := by unfold aI; rw [g24_6]; rfl
    simp only [onP, kk, hk8, hk5, hk6, if_true, if_false, Bool.false_eq_true, haO, haW, haM, haI, g0_5, g5_5]
  · intro α f
    have g0_5 : gt x 0 5 = D := gt_is E 0 5 (c := D) (by omega)
    have g5_5 : gt x 5 5 = N := gt_is E 5 5 (c := N) (by omega)
    have g30_2 : gt x 30 2 = 2 := gt_is E 30 2 (c := 2) (by omega)
    have htW : tW 36 x = 4 := by unfold tW; rw [Hz, g30_2]; rfl
    have htI : tI 36 x = 0#64 := by unfold tI; simp only [Hf, Hu, Hw, Hl, Hi, if_true, if_false, Bool.false_eq_true]
    simp only [onT, htW, htI, Hde, Hnb, Hmt, Ha, Hg, Hj, Hk, Hc, Hr, Hh, Hs, if_true, if_false, Bool.false_eq_true, g0_5, g5_5]
set_option maxHeartbeats 1000000 in
theorem good_36_8 {d n m a : Int} {imm : W64} {off cond r s : Int} (ho : IntKind.i64.has off) (h : mayA 36 8 d n m a imm off cond r s = true) : Good 36 8 d n m a imm off cond r s := by
  have f := may_facts h
  obtain ⟨D, eD, hD⟩ := nat_of (b := 31) f.d0
  obtain ⟨N, eN, hN⟩ := nat_of (b := 31) f.n0
  have eM : m = 0 := f.sM
  have eA : a = 0 := f.sA
  have eS : s = 0 := f.sS
  have eR : r = 0 := f.sR
  have eC : cond = 0 := f.sC
  have eI : imm = 0#64 := f.sI
  have eO : off = 0 := f.sO
  clear f h
  subst  eD eN eM eA eS eR eC eI eO
  have E : (encP 36 8 D N 0 0 0#64 0 0 0 0).toNat = 3365927936 + N * 2 ^ 5 + D * 2 ^ 0 := by
    have ex : encP 36 8 D N 0 0 0#64 0 0 0 0 = orF (baseW 36) [(N, 5, 5), (3, 2, 30), (D, 5, 0)] := by
      show ((((baseW 36 ||| fieldW (N : Int) 5) ||| fieldW (0 : Int) 16) ||| fieldW (0 : Int) 10) ||| (fieldW (logN 8) 30 ||| fieldW (IntKind.i64.wrap ((IntKind.i64.wrap ((0#64).toNat : Int)).tdiv 8)) 10)) ||| fieldW (D : Int) 0 = _
      have z1 : logN 8 = ((3 : Nat) : Int) := by kernel_rfl
      have z2 : IntKind.i64.wrap ((IntKind.i64.wrap ((0#64).toNat : Int)).tdiv 8) = 0 := by kernel_rfl
      rw [z1, z2]
      try simp only [or0, ← BitVec.or_assoc]
      rfl
    rw [ex, orF_sum _ (baseW 36) (baseW 36) (BitVec.and_self ..) (by simp only [ltF, and_true] <;> omega) (by kernel_rfl), show (baseW 36).toNat = 144702464 by kernel_rfl]
    simp only [sumF, Nat.reducePow, Nat.reduceMul, Nat.one_mul, Nat.zero_mul] <;> omega
  obtain ⟨Hz, Hde, Hnb, Hmt, Ha, Hf, Hu, Hw, Hl, Hi, Hg, Hj, Hk, Hc, Hr, Hh, Hs⟩ := hasAll (k := 36) (show _ = [true, true, true, false, false, false, false, false, false, false, false, false, false, false, false, false, false] by kernel_rfl)
  have A : (encR 36 8 D N 0 0 0#64 0 0 0 0).setWidth 32 = encP 36 8 D N 0 0 0#64 0 0 0 0 := by
    have T : (encR 36 8 D N 0 0 0#64 0 0 0 0).toNat = 144702464 + (D + N * 32 + 0 * 65536 + 0 * 1024 + 0 * 65536) + 3 * 1073741824 := by
      simp only [encR, Hz, Ha, Hf, Hu, Hw, Hl, Hi, Hg, Hj, Hk, Hc, Hr, Hh, Hs, addIf_t, addIf_f]
      exact t_add (encR0_toNat D N 0 0 0 (B := 144702464) (by kernel_rfl) (by omega) (by omega) (by omega) (by omega) (by omega) (by omega)) (t_mul (show (sizeA 8).toNat = 3 by kernel_rfl) (t_lit 1073741824) (by omega)) (by omega)
    have hlt := (encP 36 8 D N 0 0 0#64 0 0 0 0).isLt
    rw [E] at hlt
    apply BitVec.eq_of_toNat_eq
    rw [BitVec.toNat_setWidth, T, E, Nat.mod_eq_of_lt (by omega)] <;> omega
  refine ⟨A, ?_, ?_, ?_⟩ <;> clear A <;> generalize encP 36 8 D N 0 0 0#64 0 0 0 0 = x at E ⊢
  · have hB : (bw 36).toNat = 144702464 := by kernel_rfl
    exact nearz Hz (by rw [hB, E] <;> omega)
  · intro α f
    have g25_4 : gt x 25 4 = 4 := gt_is E 25 4 (c := 4) (by omega)
    have hk8 : k8 x = false := by unfold k8; rw [g25_4]; rfl
    have hk5 : k5 x = false := by unfold k5; rw [g25_4]; rfl
    have hk6 : k6 x = true := by unfold k6; rw [g25_4]; rfl
    have g24_6 : gt x 24 6 = 8 := gt_is E 24 6 (c := 8) (by omega)
    have g0_5 : gt x 0 5 = D := gt_is E 0 5 (c := D) (by omega)
    have g5_5 : gt x 5 5 = N := gt_is E 5 5 (c := N) (by omega)
    have g30_2 : gt x 30 2 = 3 := gt_is E 30 2 (c := 3) (by omega)
    have g22_2 : gt x 22 2 = 2 := gt_is E 22 2 (c := 2) (by omega)
    have haO : aO x = 36 := by unfold aO; rw [g24_6, g22_2]; rfl
    have haW : aW x = 8 := by unfold aW; rw [g30_2]; kernel_rfl
    have haM : aM x = 0 := by unfold aM; rw [g24_6, g22_2]; rfl
    have haI : aI x = 0#64 := by unfold aI; rw [g24_6]; rfl
    simp only [onP, kk, hk8, hk5, hk6, if_true, if_false, Bool.false_eq_true, haO, haW, haM, haI, g0_5, g5_5]
  · intro α f
    have g0_5 : gt x 0 5 = D := gt_is E 0 5 (c := D) (by omega)
    have g5_5 : gt x 5 5 = N := gt_is E 5 5 (c := N) (by omega)
    have g30_2 : gt x 30 2 = 3 := gt_is E 30 2 (c := 3) (by omega)
    have htW : tW 36 x = 8 := by unfold tW; rw [Hz, g30_2]; rfl
    have htI : tI 36 x = 0#64 := by unfold tI; simp only [Hf, Hu, Hw, Hl, Hi, if_true, if_false, Bool.false_eq_true]
    simp only [onT, htW, htI, Hde, Hnb, Hmt, Ha, Hg, Hj, Hk, Hc, Hr, Hh, Hs, if_true, if_false, Bool.false_eq_true, g0_5, g5_5]
end Go.Proofs.YtocfkaihfjbfnaaDoor
set_option maxRecDepth 100000
namespace Go.Proofs.YtocfkaihfjbfnaaDoor
open Go.Proofs.YtocfkaihfjbfnaaDoor.Ev Go.RowKit
/- Plain: the words of operations (printed by decops.py). -/
set_option maxHeartbeats 1000000 in
theorem good_37_1 {d n m a : Int} {imm : W64} {off cond r s : Int} (ho : IntKind.i64.has off) (h : mayA 37 1 d n m a imm off cond r s = true) : Good 37 1 d n m a imm off cond r s := by
  have f := may_facts h
  obtain ⟨D, eD, hD⟩ := nat_of (b := 31) f.d0
  obtain ⟨N, eN, hN⟩ := nat_of (b := 31) f.n0
  have eM : m = 0 := f.sM
  have eA : a = 0 := f.sA
  have eS : s = 0 := f.sS
  have eR : r = 0 := f.sR
  have eC : cond = 0 := f.sC
  have eI : imm = 0#64 := f.sI
  have eO : off = 0 := f.sO
  clear f h
  subst  eD eN eM eA eS eR eC eI eO
  have E : (encP 37 1 D N 0 0 0#64 0 0 0 0).toNat = 140508160 + N * 2 ^ 5 + D * 2 ^ 0 := by
    have ex : encP 37 1 D N 0 0 0#64 0 0 0 0 = orF (baseW 37) [(N, 5, 5), (0, 2, 30), (D, 5, 0)] := by
      show ((((baseW 37 ||| fieldW (N : Int) 5) ||| fieldW (0 : Int) 16) ||| fieldW (0 : Int) 10) ||| (fieldW (logN 1) 30 ||| fieldW (IntKind.i64.wrap ((IntKind.i64.wrap ((0#64).toNat : Int)).tdiv 1)) 10)) ||| fieldW (D : Int) 0 = _
      have z1 : logN 1 = ((0 : Nat) : Int) := by kernel_rfl
      have z2 : IntKind.i64.wrap ((IntKind.i64.wrap ((0#64).toNat : Int)).tdiv 1) = 0 := by kernel_rfl
      rw [z1, z2]
      try simp only [or0, ← BitVec.or_assoc]
      rfl
    rw [ex, orF_sum _ (baseW 37) (baseW 37) (BitVec.and_self ..) (by simp only [ltF, and_true] <;> omega) (by kernel_rfl), show (baseW 37).toNat = 140508160 by kernel_rfl]
    simp only [sumF, Nat.reducePow, Nat.reduceMul, Nat.one_mul, Nat.zero_mul] <;> omega
  obtain ⟨Hz, Hde, Hnb, Hmt, Ha, Hf, Hu, Hw, Hl, Hi, Hg, Hj, Hk, Hc, Hr, Hh, Hs⟩ := hasAll (k := 37) (show _ = [true, true, true, false, false, false, false, false, false, false, false, false, false, false, false, false, false] by kernel_rfl)
  have A : (encR 37 1 D N 0 0 0#64 0 0 0 0).setWidth 32 = encP 37 1 D N 0 0 0#64 0 0 0 0 := by
    have T : (encR 37 1 D N 0 0 0#64 0 0 0 0).toNat = 140508160 + (D + N * 32 + 0 * 65536 + 0 * 1024 + 0 * 65536) + 0 * 1073741824 := by
      simp only [encR, Hz, Ha, Hf, Hu, Hw, Hl, Hi, Hg, Hj, Hk, Hc, Hr, Hh, Hs, addIf_t, addIf_f]
      exact t_add (encR0_toNat D N 0 0 0 (B := 140508160) (by kernel_rfl) (by omega) (by omega) (by omega) (by omega) (by omega) (by omega)) (t_mul (show (sizeA 1).toNat = 0 by kernel_rfl) (t_lit 1073741824) (by omega)) (by omega)
    have hlt := (encP 37 1 D N 0 0 0#64 0 0 0 0).isLt
    rw [E] at hlt
    apply BitVec.eq_of_toNat_eq
    rw [BitVec.toNat_setWidth, T, E, Nat.mod_eq_of_lt (by omega)] <;> omega
  refine ⟨A, ?_, ?_, ?_⟩ <;> clear A <;> generalize encP 37 1 D N 0 0 0#64 0 0 0 0 = x at E ⊢
  · have hB : (bw 37).toNat = 140508160 := by kernel_rfl
    exact nearz Hz (by rw [hB, E] <;> omega)
  · intro α f
    have g25_4 : gt x 25 4 = 4 := gt_is E 25 4 (c := 4) (by omega)
    have hk8 : k8 x = false := by unfold k8; rw [g25_4]; rfl
    have hk5 : k5 x = false := by unfold k5; rw [g25_4]; rfl
    have hk6 : k6 x = true := by unfold k6; rw [g25_4]; rfl
    have g24_6 : gt x 24 6 = 8 := gt_is E 24 6 (c := 8) (by omega)
    have g0_5 : gt x 0 5 = D := gt_is E 0 5 (c := D) (by omega)
    have g5_5 : gt x 5 5 = N := gt_is E 5 5 (c := N) (by omega)
    have g30_2 : gt x 30 2 = 0 := gt_is E 30 2 (c := 0) (by omega)
    have g22_2 : gt x 22 2 = 1 := gt_is E 22 2 (c := 1) (by omega)
    have haO : aO x = 37 := by unfold aO; rw [g24_6, g22_2]; rfl
    have haW : aW x = 1 := by unfold aW; rw [g30_2]; kernel_rfl
    have haM : aM x = 0 := by unfold aM; rw [g24_6, g22_2]; rfl
    have haI : aI x = 0#64 := by unfold aI; rw [g24_6]; rfl
    simp only [onP, kk, hk8, hk5, hk6, if_true, if_false, Bool.false_eq_true, haO, haW, haM, haI, g0_5, g5_5]
  · intro α f
    have g0_5 : gt x 0 5 = D := gt_is E 0 5 (c := D) (by omega)
    have g5_5 : gt x 5 5 = N := gt_is E 5 5 (c := N) (by omega)
    have g30_2 : gt x 30 2 = 0 := gt_is E 30 2 (c := 0) (by omega)
    have htW : tW 37 x = 1 := by unfold tW; rw [Hz, g30_2]; rfl
    have htI : tI 37 x = 0#64 := by unfold tI; simp only [Hf, Hu, Hw, Hl, Hi, if_true, if_false, Bool.false_eq_true]
    simp only [onT, htW, htI, Hde, Hnb, Hmt, Ha, Hg, Hj, Hk, Hc, Hr, Hh, Hs, if_true, if_false, Bool.false_eq_true, g0_5, g5_5]
set_option maxHeartbeats 1000000 in
theorem good_37_2 {d n m a : Int} {imm : W64} {off cond r s : Int} (ho : IntKind.i64.has off) (h : mayA 37 2 d n m a imm off cond r s = true) : Good 37 2 d n m a imm off cond r s := by
  have f := may_facts h
  obtain ⟨D, eD, hD⟩ := nat_of (b := 31) f.d0
  obtain ⟨N, eN, hN⟩ := nat_of (b := 31) f.n0
  have eM : m = 0 := f.sM
  have eA : a = 0 := f.sA
  have eS : s = 0 := f.sS
  have eR : r = 0 := f.sR
  have eC : cond = 0 := f.sC
  have eI : imm = 0#64 := f.sI
  have eO : off = 0 := f.sO
  clear f h
  subst  eD eN eM eA eS eR eC eI eO
  have E : (encP 37 2 D N 0 0 0#64 0 0 0 0).toNat = 1214249984 + N * 2 ^ 5 + D * 2 ^ 0 := by
    have ex : encP 37 2 D N 0 0 0#64 0 0 0 0 = orF (baseW 37) [(N, 5, 5), (1, 2, 30), (D, 5, 0)] := by
      show ((((baseW 37 ||| fieldW (N : Int) 5) ||| fieldW (0 : Int) 16) ||| fieldW (0 : Int) 10) ||| (fieldW (logN 2) 30 ||| fieldW (IntKind.i64.wrap ((IntKind.i64.wrap ((0#64).toNat : Int)).tdiv 2)) 10)) ||| fieldW (D : Int) 0 = _
      have z1 : logN 2 = ((1 : Nat) : Int) := by kernel_rfl
      have z2 : IntKind.i64.wrap ((IntKind.i64.wrap ((0#64).toNat : Int)).tdiv 2) = 0 := by kernel_rfl
      rw [z1, z2]
      try simp only [or0, ← BitVec.or_assoc]
      rfl
    rw [ex, orF_sum _ (baseW 37) (baseW 37) (BitVec.and_self ..) (by simp only [ltF, and_true] <;> omega) (by kernel_rfl), show (baseW 37).toNat = 140508160 by kernel_rfl]
    simp only [sumF, Nat.reducePow, Nat.reduceMul, Nat.one_mul, Nat.zero_mul] <;> omega
  obtain ⟨Hz, Hde, Hnb, Hmt, Ha, Hf, Hu, Hw, Hl, Hi, Hg, Hj, Hk, Hc, Hr, Hh, Hs⟩ := hasAll (k := 37) (show _ = [true, true, true, false, false, false, false, false, false, false, false, false, false, false, false, false, false] by kernel_rfl)
  have A : (encR 37 2 D N 0 0 0#64 0 0 0 0).setWidth 32 = encP 37 2 D N 0 0 0#64 0 0 0 0 := by
    have T : (encR 37 2 D N 0 0 0#64 0 0 0 0).toNat = 140508160 + (D + N * 32 + 0 * 65536 + 0 * 1024 + 0 * 65536) + 1 * 1073741824 := by
      simp only [encR, Hz, Ha, Hf, Hu, Hw, Hl, Hi, Hg, Hj, Hk, Hc, Hr, Hh, Hs, addIf_t, addIf_f]
      exact t_add (encR0_toNat D N 0 0 0 (B := 140508160) (by kernel_rfl) (by omega) (by omega) (by omega) (by omega) (by omega) (by omega)) (t_mul (show (sizeA 2).toNat = 1 by kernel_rfl) (t_lit 1073741824) (by omega)) (by omega)
    have hlt := (encP 37 2 D N 0 0 0#64 0 0 0 0).isLt
    rw [E] at hlt
    apply BitVec.eq_of_toNat_eq
    rw [BitVec.toNat_setWidth, T, E, Nat.mod_eq_of_lt (by omega)] <;> omega
  refine ⟨A, ?_, ?_, ?_⟩ <;> clear A <;> generalize encP 37 2 D N 0 0 0#64 0 0 0 0 = x at E ⊢
  · have hB : (bw 37).toNat = 140508160 := by kernel_rfl
    exact nearz Hz (by rw [hB, E] <;> omega)
  · intro α f
    have g25_4 : gt x 25 4 = 4 := gt_is E 25 4 (c := 4) (by omega)
    have hk8 : k8 x = false := by unfold k8; rw [g25_4]; rfl
    have hk5 : k5 x = false := by unfold k5; rw [g25_4]; rfl
    have hk6 : k6 x = true := by unfold k6; rw [g25_4]; rfl
    have g24_6 : gt x 24 6 = 8 := gt_is E 24 6 (c := 8) (by omega)
    have g0_5 : gt x 0 5 = D := gt_is E 0 5 (c := D) (by omega)
    have g5_5 : gt x 5 5 = N := gt_is E 5 5 (c := N) (by omega)
    have g30_2 : gt x 30 2 = 1 := gt_is E 30 2 (c := 1) (by omega)
    have g22_2 : gt x 22 2 = 1 := gt_is E 22 2 (c := 1) (by omega)
    have haO : aO x = 37 := by unfold aO; rw [g24_6, g22_2]; rfl
    have haW : aW x = 2 := by unfold aW; rw [g30_2]; kernel_rfl
    have haM : aM x = 0 := by unfold aM; rw [g24_6, g22_2]; rfl
    have haI : aI x = 0#64 := by unfold aI; rw [g24_6]; rfl
    simp only [onP, kk, hk8, hk5, hk6, if_true, if_false, Bool.false_eq_true, haO, haW, haM, haI, g0_5, g5_5]
  · intro α f
    have g0_5 : gt x 0 5 = D := gt_is E 0 5 (c := D) (by omega)
    have g5_5 : gt x 5 5 = N := gt_is E 5 5 (c := N) (by omega)
    have g30_2 : gt x 30 2 = 1 := gt_is E 30 2 (c := 1) (by omega)
    have htW : tW 37 x = 2 := by unfold tW; rw [Hz, g30_2]; rfl
    have htI : tI 37 x = 0#64 := by unfold tI; simp only [Hf, Hu, Hw, Hl, Hi, if_true, if_false, Bool.false_eq_true]
    simp only [onT, htW, htI, Hde, Hnb, Hmt, Ha, Hg, Hj, Hk, Hc, Hr, Hh, Hs, if_true, if_false, Bool.false_eq_true, g0_5, g5_5]
set_option maxHeartbeats 1000000 in
theorem good_37_4 {d n m a : Int} {imm : W64} {off cond r s : Int} (ho : IntKind.i64.has off) (h : mayA 37 4 d n m a imm off cond r s = true) : Good 37 4 d n m a imm off cond r s := by
  have f := may_facts h
  obtain ⟨D, eD, hD⟩ := nat_of (b := 31) f.d0
  obtain ⟨N, eN, hN⟩ := nat_of (b := 31) f.n0
  have eM : m = 0 := f.sM
  have eA : a = 0 := f.sA
  have eS : s = 0 := f.sS
  have eR : r = 0 := f.sR
  have eC : cond = 0 := f.sC
  have eI : imm = 0#64 := f.sI
  have eO : off = 0 := f.sO
  clear f h
  subst  eD eN eM eA eS eR eC eI eO
  have E : (encP 37 4 D N 0 0 0#64 0 0 0 0).toNat = 2287991808 + N * 2 ^ 5 + D * 2 ^ 0 := by
    have ex : encP 37 4 D N 0 0 0#64 0 0 0 0 = orF (baseW 37) [(N, 5, 5), (2, 2, 30), (D, 5, 0)] := by
      show ((((baseW 37 ||| fieldW (N : Int) 5) ||| fieldW (0 : Int) 16) ||| fieldW (0 : Int) 10) ||| (fieldW (logN 4) 30 ||| fieldW (IntKind.i64.wrap ((IntKind.i64.wrap ((0#64).toNat : Int)).tdiv 4)) 10)) ||| fieldW (D : Int) 0 = _
      have z1 : logN 4 = ((2 : Nat) : Int) := by kernel_rfl
      have z2 : IntKind.i64.wrap ((IntKind.i64.wrap ((0#64).toNat : Int)).tdiv 4) = 0 := by kernel_rfl
      rw [z1, z2]
      try simp only [or0, ← BitVec.or_assoc]
      rfl
    rw [ex, orF_sum _ (baseW 37) (baseW 37) (BitVec.and_self ..) (by simp only [ltF, and_true] <;> omega) (by kernel_rfl), show (baseW 37).toNat = 140508160 by kernel_rfl]
    simp only [sumF, Nat.reducePow, Nat.reduceMul, Nat.one_mul, Nat.zero_mul] <;> omega
  obtain ⟨Hz, Hde, Hnb, Hmt, Ha, Hf, Hu, Hw, Hl, Hi, Hg, Hj, Hk, Hc, Hr, Hh, Hs⟩ := hasAll (k := 37) (show _ = [true, true, true, false, false, false, false, false, false, false, false, false, false, false, false, false, false] by kernel_rfl)
  have A : (encR 37 4 D N 0 0 0#64 0 0 0 0).setWidth 32 = encP 37 4 D N 0 0 0#64 0 0 0 0 := by
    have T : (encR 37 4 D N 0 0 0#64 0 0 0 0).toNat = 140508160 + (D + N * 32 + 0 * 65536 + 0 * 1024 + 0 * 65536) + 2 * 1073741824 := by
      simp only [encR, Hz, Ha, Hf, Hu, Hw, Hl, Hi, Hg, Hj, Hk, Hc, Hr, Hh, Hs, addIf_t, addIf_f]
      exact t_add (encR0_toNat D N 0 0 0 (B := 140508160) (by kernel_rfl) (by omega) (by omega) (by omega) (by omega) (by omega) (by omega)) (t_mul (show (sizeA 4).toNat = 2 by kernel_rfl) (t_lit 1073741824) (by omega)) (by omega)
    have hlt := (encP 37 4 D N 0 0 0#64 0 0 0 0).isLt
    rw [E] at hlt
    apply BitVec.eq_of_toNat_eq
    rw [BitVec.toNat_setWidth, T, E, Nat.mod_eq_of_lt (by omega)] <;> omega
  refine ⟨A, ?_, ?_, ?_⟩ <;> clear A <;> generalize encP 37 4 D N 0 0 0#64 0 0 0 0 = x at E ⊢
  · have hB : (bw 37).toNat = 140508160 := by kernel_rfl
    exact nearz Hz (by rw [hB, E] <;> omega)
  · intro α f
    have g25_4 : gt x 25 4 = 4 := gt_is E 25 4 (c := 4) (by omega)
    have hk8 : k8 x = false := by unfold k8; rw [g25_4]; rfl
    have hk5 : k5 x = false := by unfold k5; rw [g25_4]; rfl
    have hk6 : k6 x = true := by unfold k6; rw [g25_4]; rfl
    have g24_6 : gt x 24 6 = 8 := gt_is E 24 6 (c := 8) (by omega)
    have g0_5 : gt x 0 5 = D := gt_is E 0 5 (c := D) (by omega)
    have g5_5 : gt x 5 5 = N := gt_is E 5 5 (c := N) (by omega)
    have g30_2 : gt x 30 2 = 2 := gt_is E 30 2 (c := 2) (by omega)
    have g22_2 : gt x 22 2 = 1 := gt_is E 22 2 (c := 1) (by omega)
    have haO : aO x = 37 := by unfold aO; rw [g24_6, g22_2]; rfl
    have haW : aW x = 4 := by unfold aW; rw [g30_2]; kernel_rfl
    have haM : aM x = 0 := by unfold aM; rw [g24_6, g22_2]; rfl
    have haI : aI x = 0#64 := by unfold aI; rw [g24_6]; rfl
    simp only [onP, kk, hk8, hk5, hk6, if_true, if_false, Bool.false_eq_true, haO, haW, haM, haI, g0_5, g5_5]
  · intro α f
    have g0_5 : gt x 0 5 = D := gt_is E 0 5 (c := D) (by omega)
    have g5_5 : gt x 5 5 = N := gt_is E 5 5 (c := N) (by omega)
    have g30_2 : gt x 30 2 = 2 := gt_is E 30 2 (c := 2) (by omega)
    have htW : tW 37 x = 4 := by unfold tW; rw [Hz, g30_2]; rfl
    have htI : tI 37 x = 0#64 := by unfold tI; simp only [Hf, Hu, Hw, Hl, Hi, if_true, if_false, Bool.false_eq_true]
    simp only [onT, htW, htI, Hde, Hnb, Hmt, Ha, Hg, Hj, Hk, Hc, Hr, Hh, Hs, if_true, if_false, Bool.false_eq_true, g0_5, g5_5]
set_option maxHeartbeats 1000000 in
theorem good_37_8 {d n m a : Int} {imm : W64} {off cond r s : Int} (ho : IntKind.i64.has off) (h : mayA 37 8 d n m a imm off cond r s = true) : Good 37 8 d n m a imm off cond r s := by
  have f := may_facts h
  obtain ⟨D, eD, hD⟩ := nat_of (b := 31) f.d0
  obtain ⟨N, eN, hN⟩ := nat_of (b := 31) f.n0
  have eM : m = 0 := f.sM
  have eA : a = 0 := f.sA
  have eS : s = 0 := f.sS
  have eR : r = 0 := f.sR
  have eC : cond = 0 := f.sC
  have eI : imm = 0#64 := f.sI
  have eO : off = 0 := f.sO
  clear f h
  subst  eD eN eM eA eS eR eC eI eO
  have E : (encP 37 8 D N 0 0 0#64 0 0 0 0).toNat = 3361733632 + N * 2 ^ 5 + D * 2 ^ 0 := by
    have ex : encP 37 8 D N 0 0 0#64 0 0 0 0 = orF (baseW 37) [(N, 5, 5), (3, 2, 30), (D, 5, 0)] := by
      show ((((baseW 37 ||| fieldW (N : Int) 5) ||| fieldW (0 : Int) 16) ||| fieldW (0 : Int) 10) ||| (fieldW (logN 8) 30 ||| fieldW (IntKind.i64.wrap ((IntKind.i64.wrap ((0#64).toNat : Int)).tdiv 8)) 10)) ||| fieldW (D : Int) 0 = _
      have z1 : logN 8 = ((3 : Nat) : Int) := by kernel_rfl
      have z2 : IntKind.i64.wrap ((IntKind.i64.wrap ((0#64).toNat : Int)).tdiv 8) = 0 := by kernel_rfl
      rw [z1, z2]
      try simp only [or0, ← BitVec.or_assoc]
      rfl
    rw [ex, orF_sum _ (baseW 37) (baseW 37) (BitVec.and_self ..) (by simp only [ltF, and_true] <;> omega) (by kernel_rfl), show (baseW 37).toNat = 140508160 by kernel_rfl]
    simp only [sumF, Nat.reducePow, Nat.reduceMul, Nat.one_mul, Nat.zero_mul] <;> omega
  obtain ⟨Hz, Hde, Hnb, Hmt, Ha, Hf, Hu, Hw, Hl, Hi, Hg, Hj, Hk, Hc, Hr, Hh, Hs⟩ := hasAll (k := 37) (show _ = [true, true, true, false, false, false, false, false, false, false, false, false, false, false, false, false, false] by kernel_rfl)
  have A : (encR 37 8 D N 0 0 0#64 0 0 0 0).setWidth 32 = encP 37 8 D N 0 0 0#64 0 0 0 0 := by
    have T : (encR 37 8 D N 0 0 0#64 0 0 0 0).toNat = 140508160 + (D + N * 32 + 0 * 65536 + 0 * 1024 + 0 * 65536) + 3 * 1073741824 := by
      simp only [encR, Hz, Ha, Hf, Hu, Hw, Hl, Hi, Hg, Hj, Hk, Hc, Hr, Hh, Hs, addIf_t, addIf_f]
      exact t_add (encR0_toNat D N 0 0 0 (B := 140508160) (by kernel_rfl) (by omega) (by omega) (by omega) (by omega) (by omega) (by omega)) (t_mul (show (sizeA 8).toNat = 3 by kernel_rfl) (t_lit 1073741824) (by omega)) (by omega)
    have hlt := (encP 37 8 D N 0 0 0#64 0 0 0 0).isLt
    rw [E] at hlt
    apply BitVec.eq_of_toNat_eq
    rw [BitVec.toNat_setWidth, T, E, Nat.mod_eq_of_lt (by omega)] <;> omega
  refine ⟨A, ?_, ?_, ?_⟩ <;> clear A <;> generalize encP 37 8 D N 0 0 0#64 0 0 0 0 = x at E ⊢
  · have hB : (bw 37).toNat = 140508160 := by kernel_rfl
    exact nearz Hz (by rw [hB, E] <;> omega)
  · intro α f
    have g25_4 : gt x 25 4 = 4 := gt_is E 25 4 (c := 4) (by omega)
    have hk8 : k8 x = false := by unfold k8; rw [g25_4]; rfl
    have hk5 : k5 x = false := by unfold k5; rw [g25_4]; rfl
    have hk6 : k6 x = true := by unfold k6; rw [g25_4]; rfl
    have g24_6 : gt x 24 6 = 8 := gt_is E 24 6 (c := 8) (by omega)
    have g0_5 : gt x 0 5 = D := gt_is E 0 5 (c := D) (by omega)
    have g5_5 : gt x 5 5 = N := gt_is E 5 5 (c := N) (by omega)
    have g30_2 : gt x 30 2 = 3 := gt_is E 30 2 (c := 3) (by omega)
    have g22_2 : gt x 22 2 = 1 := gt_is E 22 2 (c := 1) (by omega)
    have haO : aO x = 37 := by unfold aO; rw [g24_6, g22_2]; rfl
    have haW : aW x = 8 := by unfold aW; rw [g30_2]; kernel_rfl
    have haM : aM x = 0 := by unfold aM; rw [g24_6, g22_2]; rfl
    have haI : aI x = 0#64 := by unfold aI; rw [g24_6]; rfl
    simp only [onP, kk, hk8, hk5, hk6, if_true, if_false, Bool.false_eq_true, haO, haW, haM, haI, g0_5, g5_5]
  · intro α f
    have g0_5 : gt x 0 5 = D := gt_is E 0 5 (c := D) (by omega)
    have g5_5 : gt x 5 5 = N := gt_is E 5 5 (c := N) (by omega)
    have g30_2 : gt x 30 2 = 3 := gt_is E 30 2 (c := 3) (by omega)
    have htW : tW 37 x = 8 := by unfold tW; rw [Hz, g30_2]; rfl
    have htI : tI 37 x = 0#64 := by unfold tI; simp only [Hf, Hu, Hw, Hl, Hi, if_true, if_false, Bool.false_eq_true]
    simp only [onT, htW, htI, Hde, Hnb, Hmt, Ha, Hg, Hj, Hk, Hc, Hr, Hh, Hs, if_true, if_false, Bool.false_eq_true, g0_5, g5_5]
set_option maxHeartbeats 1000000 in
theorem good_38_1 {d n m a : Int} {imm : W64} {off cond r s : Int} (ho : IntKind.i64.has off) (h : mayA 38 1 d n m a imm off cond r s = true) : Good 38 1 d n m a imm off cond r s := by
  have f := may_facts h
  obtain ⟨D, eD, hD⟩ := nat_of (b := 31) f.d0
  obtain ⟨N, eN, hN⟩ := nat_of (b := 31) f.n0
  obtain ⟨M, eM, hM⟩ := nat_of (b := 31) f.m0
  have eA : a = 0 := f.sA
  have eS : s = 0 := f.sS
  have eR : r = 0 := f.sR
  have eC : cond = 0 := f.sC
  have eI : imm = 0#64 := f.sI
  have eO : off = 0 := f.sO
  clear f h
  subst  eD eN eM eA eS eR eC eI eO
  have E : (encP 38 1 D N M 0 0#64 0 0 0 0).toNat = 134282240 + N * 2 ^ 5 + M * 2 ^ 16 + D * 2 ^ 0 := by
    have ex : encP 38 1 D N M 0 0#64 0 0 0 0 = orF (baseW 38) [(N, 5, 5), (M, 5, 16), (0, 2, 30), (D, 5, 0)] := by
      show ((((baseW 38 ||| fieldW (N : Int) 5) ||| fieldW (M : Int) 16) ||| fieldW (0 : Int) 10) ||| (fieldW (logN 1) 30 ||| fieldW (IntKind.i64.wrap ((IntKind.i64.wrap ((0#64).toNat : Int)).tdiv 1)) 10)) ||| fieldW (D : Int) 0 = _
      have z1 : logN 1 = ((0 : Nat) : Int) := by kernel_rfl
      have z2 : IntKind.i64.wrap ((IntKind.i64.wrap ((0#64).toNat : Int)).tdiv 1) = 0 := by kernel_rfl
      rw [z1, z2]
      try simp only [or0, ← BitVec.or_assoc]
      rfl
    rw [ex, orF_sum _ (baseW 38) (baseW 38) (BitVec.and_self ..) (by simp only [ltF, and_true] <;> omega) (by kernel_rfl), show (baseW 38).toNat = 134282240 by kernel_rfl]
    simp only [sumF, Nat.reducePow, Nat.reduceMul, Nat.one_mul, Nat.zero_mul] <;> omega
  obtain ⟨Hz, Hde, Hnb, Hmt, Ha, Hf, Hu, Hw, Hl, Hi, Hg, Hj, Hk, Hc, Hr, Hh, Hs⟩ := hasAll (k := 38) (show _ = [true, true, true, true, false, false, false, false, false, false, false, false, false, false, false, false, false] by kernel_rfl)
  have A : (encR 38 1 D N M 0 0#64 0 0 0 0).setWidth 32 = encP 38 1 D N M 0 0#64 0 0 0 0 := by
    have T : (encR 38 1 D N M 0 0#64 0 0 0 0).toNat = 134282240 + (D + N * 32 + M * 65536 + 0 * 1024 + 0 * 65536) + 0 * 1073741824 := by
      simp only [encR, Hz, Ha, Hf, Hu, Hw, Hl, Hi, Hg, Hj, Hk, Hc, Hr, Hh, Hs, addIf_t, addIf_f]
      exact t_add (encR0_toNat D N M 0 0 (B := 134282240) (by kernel_rfl) (by omega) (by omega) (by omega) (by omega) (by omega) (by omega)) (t_mul (show (sizeA 1).toNat = 0 by kernel_rfl) (t_lit 1073741824) (by omega)) (by omega)
    have hlt := (encP 38 1 D N M 0 0#64 0 0 0 0).isLt
    rw [E] at hlt
    apply BitVec.eq_of_toNat_eq
    rw [BitVec.toNat_setWidth, T, E, Nat.mod_eq_of_lt (by omega)] <;> omega
  refine ⟨A, ?_, ?_, ?_⟩ <;> clear A <;> generalize encP 38 1 D N M 0 0#64 0 0 0 0 = x at E ⊢
  · have hB : (bw 38).toNat = 134282240 := by kernel_rfl
    exact nearz Hz (by rw [hB, E] <;> omega)
  · intro α f
    have g25_4 : gt x 25 4 = 4 := gt_is E 25 4 (c := 4) (by omega)
    have hk8 : k8 x = false := by unfold k8; rw [g25_4]; rfl
    have hk5 : k5 x = false := by unfold k5; rw [g25_4]; rfl
    have hk6 : k6 x = true := by unfold k6; rw [g25_4]; rfl
    have g24_6 : gt x 24 6 = 8 := gt_is E 24 6 (c := 8) (by omega)
    have g0_5 : gt x 0 5 = D := gt_is E 0 5 (c := D) (by omega)
    have g5_5 : gt x 5 5 = N := gt_is E 5 5 (c := N) (by omega)
    have g30_2 : gt x 30 2 = 0 := gt_is E 30 2 (c := 0) (by omega)
    have g22_2 : gt x 22 2 = 0 := gt_is E 22 2 (c := 0) (by omega)
    have haO : aO x = 38 := by unfold aO; rw [g24_6, g22_2]; rfl
    have haW : aW x = 1 := by unfold aW; rw [g30_2]; kernel_rfl
    have g16_5 : gt x 16 5 = M := gt_is E 16 5 (c := M) (by omega)
    have haM : aM x = (M : Int) := by unfold aM; rw [g24_6, g22_2, g16_5]; rfl
    have haI : aI x = 0#64 := by unfold aI; rw [g24_6]; rfl
    simp only [onP, kk, hk8, hk5, hk6, if_true, if_false, Bool.false_eq_true, haO, haW, haM, haI, g0_5, g5_5]
  · intro α f
    have g0_5 : gt x 0 5 = D := gt_is E 0 5 (c := D) (by omega)
    have g5_5 : gt x 5 5 = N := gt_is E 5 5 (c := N) (by omega)
    have g16_5 : gt x 16 5 = M := gt_is E 16 5 (c := M) (by omega)
    have g30_2 : gt x 30 2 = 0 := gt_is E 30 2 (c := 0) (by omega)
    have htW : tW 38 x = 1 := by unfold tW; rw [Hz, g30_2]; rfl
    have htI : tI 38 x = 0#64 := by unfold tI; simp only [Hf, Hu, Hw, Hl, Hi, if_true, if_false, Bool.false_eq_true]
    simp only [onT, htW, htI, Hde, Hnb, Hmt, Ha, Hg, Hj, Hk, Hc, Hr, Hh, Hs, if_true, if_false, Bool.false_eq_true, g0_5, g5_5, g16_5]
set_option maxHeartbeats 1000000 in
theorem good_38_2 {d n m a : Int} {imm : W64} {off cond r s : Int} (ho : IntKind.i64.has off) (h : mayA 38 2 d n m a imm off cond r s = true) : Good 38 2 d n m a imm off cond r s := by
  have f := may_facts h
  obtain ⟨D, eD, hD⟩ := nat_of (b := 31) f.d0
  obtain ⟨N, eN, hN⟩ := nat_of (b := 31) f.n0
  obtain ⟨M, eM, hM⟩ := nat_of (b := 31) f.m0
  have eA : a = 0 := f.sA
  have eS : s = 0 := f.sS
  have eR : r = 0 := f.sR
  have eC : cond = 0 := f.sC
  have eI : imm = 0#64 := f.sI
  have eO : off = 0 := f.sO
  clear f h
  subst  eD eN eM eA eS eR eC eI eO
  have E : (encP 38 2 D N M 0 0#64 0 0 0 0).toNat = 1208024064 + N * 2 ^ 5 + M * 2 ^ 16 + D * 2 ^ 0 := by
    have ex : encP 38 2 D N M 0 0#64 0 0 0 0 = orF (baseW 38) [(N, 5, 5), (M, 5, 16), (1, 2, 30), (D, 5, 0)] := by
      show ((((baseW 38 ||| fieldW (N : Int) 5) ||| fieldW (M : Int) 16) ||| fieldW (0 : Int) 10) ||| (fieldW (logN 2) 30 ||| fieldW (IntKind.i64.wrap ((IntKind.i64.wrap ((0#64).toNat : Int)).tdiv 2)) 10)) ||| fieldW (D : Int) 0 = _
      have z1 : logN 2 = ((1 : Nat) : Int) := by kernel_rfl
      have z2 : IntKind.i64.wrap ((IntKind.i64.wrap ((0#64).toNat : Int)).tdiv 2) = 0 := by kernel_rfl
      rw [z1, z2]
      try simp only [or0, ← BitVec.or_assoc]
      rfl
    rw [ex, orF_sum _ (baseW 38) (baseW 38) (BitVec.and_self ..) (by simp only [ltF, and_true] <;> omega) (by kernel_rfl), show (baseW 38).toNat = 134282240 by kernel_rfl]
    simp only [sumF, Nat.reducePow, Nat.reduceMul, Nat.one_mul, Nat.zero_mul] <;> omega
  obtain ⟨Hz, Hde, Hnb, Hmt, Ha, Hf, Hu, Hw, Hl, Hi, Hg, Hj, Hk, Hc, Hr, Hh, Hs⟩ := hasAll (k := 38) (show _ = [true, true, true, true, false, false, false, false, false, false, false, false, false, false, false, false, false] by kernel_rfl)
  have A : (encR 38 2 D N M 0 0#64 0 0 0 0).setWidth 32 = encP 38 2 D N M 0 0#64 0 0 0 0 := by
    have T : (encR 38 2 D N M 0 0#64 0 0 0 0).toNat = 134282240 + (D + N * 32 + M * 65536 + 0 * 1024 + 0 * 65536) + 1 * 1073741824 := by
      simp only [encR, Hz, Ha, Hf, Hu, Hw, Hl, Hi, Hg, Hj, Hk, Hc, Hr, Hh, Hs, addIf_t, addIf_f]
      exact t_add (encR0_toNat D N M 0 0 (B := 134282240) (by kernel_rfl) (by omega) (by omega) (by omega) (by omega) (by omega) (by omega)) (t_mul (show (sizeA 2).toNat = 1 by kernel_rfl) (t_lit 1073741824) (by omega)) (by omega)
    have hlt := (encP 38 2 D N M 0 0#64 0 0 0 0).isLt
    rw [E] at hlt
    apply BitVec.eq_of_toNat_eq
    rw [BitVec.toNat_setWidth, T, E, Nat.mod_eq_of_lt (by omega)] <;> omega
  refine ⟨A, ?_, ?_, ?_⟩ <;> clear A <;> generalize encP 38 2 D N M 0 0#64 0 0 0 0 = x at E ⊢
  · have hB : (bw 38).toNat = 134282240 := by kernel_rfl
    exact nearz Hz (by rw [hB, E] <;> omega)
  · intro α f
    have g25_4 : gt x 25 4 = 4 := gt_is E 25 4 (c := 4) (by omega)
    have hk8 : k8 x = false := by unfold k8; rw [g25_4]; rfl
    have hk5 : k5 x = false := by unfold k5; rw [g25_4]; rfl
    have hk6 : k6 x = true := by unfold k6; rw [g25_4]; rfl
    have g24_6 : gt x 24 6 = 8 := gt_is E 24 6 (c := 8) (by omega)
    have g0_5 : gt x 0 5 = D := gt_is E 0 5 (c := D) (by omega)
    have g5_5 : gt x 5 5 = N := gt_is E 5 5 (c := N) (by omega)
    have g30_2 : gt x 30 2 = 1 := gt_is E 30 2 (c := 1) (by omega)
    have g22_2 : gt x 22 2 = 0 := gt_is E 22 2 (c := 0) (by omega)
    have haO : aO x = 38 := by unfold aO; rw [g24_6, g22_2]; rfl
    have haW : aW x = 2 := by unfold aW; rw [g30_2]; kernel_rfl
    have g16_5 : gt x 16 5 = M := gt_is E 16 5 (c := M) (by omega)
    have haM : aM x = (M : Int) := by unfold aM; rw [g24_6, g22_2, g16_5]; rfl
    have haI : aI x = 0#64 := by unfold aI; rw [g24_6]; rfl
    simp only [onP, kk, hk8, hk5, hk6, if_true, if_false, Bool.false_eq_true, haO, haW, haM, haI, g0_5, g5_5]
  · intro α f
    have g0_5 : gt x 0 5 = D := gt_is E 0 5 (c := D) (by omega)
    have g5_5 : gt x 5 5 = N := gt_is E 5 5 (c := N) (by omega)
    have g16_5 : gt x 16 5 = M := gt_is E 16 5 (c := M) (by omega)
    have g30_2 : gt x 30 2 = 1 := gt_is E 30 2 (c := 1) (by omega)
    have htW : tW 38 x = 2 := by unfold tW; rw [Hz, g30_2]; rfl
    have htI : tI 38 x = 0#64 := by unfold tI; simp only [Hf, Hu, Hw, Hl, Hi, if_true, if_false, Bool.false_eq_true]
    simp only [onT, htW, htI, Hde, Hnb, Hmt, Ha, Hg, Hj, Hk, Hc, Hr, Hh, Hs, if_true, if_false, Bool.false_eq_true, g0_5, g5_5, g16_5]
set_option maxHeartbeats 1000000 in
theorem good_38_4 {d n m a : Int} {imm : W64} {off cond r s : Int} (ho : IntKind.i64.has off) (h : mayA 38 4 d n m a imm off cond r s = true) : Good 38 4 d n m a imm off cond r s := by
  have f := may_facts h
  obtain ⟨D, eD, hD⟩ := nat_of (b := 31) f.d0
  obtain ⟨N, eN, hN⟩ := nat_of (b := 31) f.n0
  obtain ⟨M, eM, hM⟩ := nat_of (b := 31) f.m0
  have eA : a = 0 := f.sA
  have eS : s = 0 := f.sS
  have eR : r = 0 := f.sR
  have eC : cond = 0 := f.sC
  have eI : imm = 0#64 := f.sI
  have eO : off = 0 := f.sO
  clear f h
  subst  eD eN eM eA eS eR eC eI eO
  have E : (encP 38 4 D N M 0 0#64 0 0 0 0).toNat = 2281765888 + N * 2 ^ 5 + M * 2 ^ 16 + D * 2 ^ 0 := by
    have ex : encP 38 4 D N M 0 0#64 0 0 0 0 = orF (baseW 38) [(N, 5, 5), (M, 5, 16), (2, 2, 30), (D, 5, 0)] := by
      show ((((baseW 38 ||| fieldW (N : Int) 5) ||| fieldW (M : Int) 16) ||| fieldW (0 : Int) 10) ||| (fieldW (logN 4) 30 ||| fieldW (IntKind.i64.wrap ((IntKind.i64.wrap ((0#64).toNat : Int)).tdiv 4)) 10)) ||| fieldW (D : Int) 0 = _
      have z1 : logN 4 = ((2 : Nat) : Int) := by kernel_rfl
      have z2 : IntKind.i64.wrap ((IntKind.i64.wrap ((0#64).toNat : Int)).tdiv 4) = 0 := by kernel_rfl
      rw [z1, z2]
      try simp only [or0, ← BitVec.or_assoc]
      rfl
    rw [ex, orF_sum _ (baseW 38) (baseW 38) (BitVec.and_self ..) (by simp only [ltF, and_true] <;> omega) (by kernel_rfl), show (baseW 38).toNat = 134282240 by kernel_rfl]
    simp only [sumF, Nat.reducePow, Nat.reduceMul, Nat.one_mul, Nat.zero_mul] <;> omega
  obtain ⟨Hz, Hde, Hnb, Hmt, Ha, Hf, Hu, Hw, Hl, Hi, Hg, Hj, Hk, Hc, Hr, Hh, Hs⟩ := hasAll (k := 38) (show _ = [true, true, true, true, false, false, false, false, false, false, false, false, false, false, false, false, false] by kernel_rfl)
  have A : (encR 38 4 D N M 0 0#64 0 0 0 0).setWidth 32 = encP 38 4 D N M 0 0#64 0 0 0 0 := by
    have T : (encR 38 4 D N M 0 0#64 0 0 0 0).toNat = 134282240 + (D + N * 32 + M * 65536 + 0 * 1024 + 0 * 65536) + 2 * 1073741824 := by
      simp only [encR, Hz, Ha, Hf, Hu, Hw, Hl, Hi, Hg, Hj, Hk, Hc, Hr, Hh, Hs, addIf_t, addIf_f]
      exact t_add (encR0_toNat D N M 0 0 (B := 134282240) (by kernel_rfl) (by omega) (by omega) (by omega) (by omega) (by omega) (by omega)) (t_mul (show (sizeA 4).toNat = 2 by kernel_rfl) (t_lit 1073741824) (by omega)) (by omega)
    have hlt := (encP 38 4 D N M 0 0#64 0 0 0 0).isLt
    rw [E] at hlt
    apply BitVec.eq_of_toNat_eq
    rw [BitVec.toNat_setWidth, T, E, Nat.mod_eq_of_lt (by omega)] <;> omega
  refine ⟨A, ?_, ?_, ?_⟩ <;> clear A <;> generalize encP 38 4 D N M 0 0#64 0 0 0 0 = x at E ⊢
  · have hB : (bw 38).toNat = 134282240 := by kernel_rfl
    exact nearz Hz (by rw [hB, E] <;> omega)
  · intro α f
    have g25_4 : gt x 25 4 = 4 := gt_is E 25 4 (c := 4) (by omega)
    have hk8 : k8 x = false := by unfold k8; rw [g25_4]; rfl
    have hk5 : k5 x = false := by unfold k5; rw [g25_4]; rfl
    have hk6 : k6 x = true := by unfold k6; rw [g25_4]; rfl
    have g24_6 : gt x 24 6 = 8 := gt_is E 24 6 (c := 8) (by omega)
    have g0_5 : gt x 0 5 = D := gt_is E 0 5 (c := D) (by omega)
    have g5_5 : gt x 5 5 = N := gt_is E 5 5 (c := N) (by omega)
    have g30_2 : gt x 30 2 = 2 := gt_is E 30 2 (c := 2) (by omega)
    have g22_2 : gt x 22 2 = 0 := gt_is E 22 2 (c := 0) (by omega)
    have haO : aO x = 38 := by unfold aO; rw [g24_6, g22_2]; rfl
    have haW : aW x = 4 := by unfold aW; rw [g30_2]; kernel_rfl
    have g16_5 : gt x 16 5 = M := gt_is E 16 5 (c := M) (by omega)
    have haM : aM x = (M : Int) := by unfold aM; rw [g24_6, g22_2, g16_5]; rfl
    have haI : aI x = 0#64 := by unfold aI; rw [g24_6]; rfl
    simp only [onP, kk, hk8, hk5, hk6, if_true, if_false, Bool.false_eq_true, haO, haW, haM, haI, g0_5, g5_5]
  · intro α f
    have g0_5 : gt x 0 5 = D := gt_is E 0 5 (c := D) (by omega)
    have g5_5 : gt x 5 5 = N := gt_is E 5 5 (c := N) (by omega)
    have g16_5 : gt x 16 5 = M := gt_is E 16 5 (c := M) (by omega)
    have g30_2 : gt x 30 2 = 2 := gt_is E 30 2 (c := 2) (by omega)
    have htW : tW 38 x = 4 := by unfold tW; rw [Hz, g30_2]; rfl
    have htI : tI 38 x = 0#64 := by unfold tI; simp only [Hf, Hu, Hw, Hl, Hi, if_true, if_false, Bool.false_eq_true]
    simp only [onT, htW, htI, Hde, Hnb, Hmt, Ha, Hg, Hj, Hk, Hc, Hr, Hh, Hs, if_true, if_false, Bool.false_eq_true, g0_5, g5_5, g16_5]
set_option maxHeartbeats 1000000 in
theorem good_38_8 {d n m a : Int} {imm : W64} {off cond r s : Int} (ho : IntKind.i64.has off) (h : mayA 38 8 d n m a imm off cond r s = true) : Good 38 8 d n m a imm off cond r s := by
  have f := may_facts h
  obtain ⟨D, eD, hD⟩ := nat_of (b := 31) f.d0
  obtain ⟨N, eN, hN⟩ := nat_of (b := 31) f.n0
  obtain ⟨M, eM, hM⟩ := nat_of (b := 31) f.m0
  have eA : a = 0 := f.sA
  have eS : s = 0 := f.sS
  have eR : r = 0 := f.sR
  have eC : cond = 0 := f.sC
  have eI : imm = 0#64 := f.sI
  have eO : off = 0 := f.sO
  clear f h
  subst  eD eN eM eA eS eR eC eI eO
  have E : (encP 38 8 D N M 0 0#64 0 0 0 0).toNat = 3355507712 + N * 2 ^ 5 + M * 2 ^ 16 + D * 2 ^ 0 := by
    have ex : encP 38 8 D N M 0 0#64 0 0 0 0 = orF (baseW 38) [(N, 5, 5), (M, 5, 16), (3, 2, 30), (D, 5, 0)] := by
      show ((((baseW 38 ||| fieldW (N : Int) 5) ||| fieldW (M : Int) 16) ||| fieldW (0 : Int) 10) ||| (fieldW (logN 8) 30 ||| fieldW (IntKind.i64.wrap ((IntKind.i64.wrap ((0#64).toNat : Int)).tdiv 8)) 10)) ||| fieldW (D : Int) 0 = _
      have z1 : logN 8 = ((3 : Nat) : Int) := by kernel_rfl
      have z2 : IntKind.i64.wrap ((IntKind.i64.wrap ((0#64).toNat : Int)).tdiv 8) = 0 := by kernel_rfl
      rw [z1, z2]
      try simp only [or0, ← BitVec.or_assoc]
      rfl
    rw [ex, orF_sum _ (baseW 38) (baseW 38) (BitVec.and_self ..) (by simp only [ltF, and_true] <;> omega) (by kernel_rfl), show (baseW 38).toNat = 134282240 by kernel_rfl]
    simp only [sumF, Nat.reducePow, Nat.reduceMul, Nat.one_mul, Nat.zero_mul] <;> omega
  obtain ⟨Hz, Hde, Hnb, Hmt, Ha, Hf, Hu, Hw, Hl, Hi, Hg, Hj, Hk, Hc, Hr, Hh, Hs⟩ := hasAll (k := 38) (show _ = [true, true, true, true, false, false, false, false, false, false, false, false, false, false, false, false, false] by kernel_rfl)
  have A : (encR 38 8 D N M 0 0#64 0 0 0 0).setWidth 32 = encP 38 8 D N M 0 0#64 0 0 0 0 := by
    have T : (encR 38 8 D N M 0 0#64 0 0 0 0).toNat = 134282240 + (D + N * 32 + M * 65536 + 0 * 1024 + 0 * 65536) + 3 * 1073741824 := by
      simp only [encR, Hz, Ha, Hf, Hu, Hw, Hl, Hi, Hg, Hj, Hk, Hc, Hr, Hh, Hs, addIf_t, addIf_f]
      exact t_add (encR0_toNat D N M 0 0 (B := 134282240) (by kernel_rfl) (by omega) (by omega) (by omega) (by omega) (by omega) (by omega)) (t_mul (show (sizeA 8).toNat = 3 by kernel_rfl) (t_lit 1073741824) (by omega)) (by omega)
    have hlt := (encP 38 8 D N M 0 0#64 0 0 0 0).isLt
    rw [E] at hlt
    apply BitVec.eq_of_toNat_eq
    rw [BitVec.toNat_setWidth, T, E, Nat.mod_eq_of_lt (by omega)] <;> omega
  refine ⟨A, ?_, ?_, ?_⟩ <;> clear A <;> generalize encP 38 8 D N M 0 0#64 0 0 0 0 = x at E ⊢
  · have hB : (bw 38).toNat = 134282240 := by kernel_rfl
    exact nearz Hz (by rw [hB, E] <;> omega)
  · intro α f
    have g25_4 : gt x 25 4 = 4 := gt_is E 25 4 (c := 4) (by omega)
    have hk8 : k8 x = false := by unfold k8; rw [g25_4]; rfl
    have hk5 : k5 x = false := by unfold k5; rw [g25_4]; rfl
    have hk6 : k6 x = true := by unfold k6; rw [g25_4]; rfl
    have g24_6 : gt x 24 6 = 8 := gt_is E 24 6 (c := 8) (by omega)
    have g0_5 : gt x 0 5 = D := gt_is E 0 5 (c := D) (by omega)
    have g5_5 : gt x 5 5 = N := gt_is E 5 5 (c := N) (by omega)
    have g30_2 : gt x 30 2 = 3 := gt_is E 30 2 (c := 3) (by omega)
    have g22_2 : gt x 22 2 = 0 := gt_is E 22 2 (c := 0) (by omega)
    have haO : aO x = 38 := by unfold aO; rw [g24_6, g22_2]; rfl
    have haW : aW x = 8 := by unfold aW; rw [g30_2]; kernel_rfl
    have g16_5 : gt x 16 5 = M := gt_is E 16 5 (c := M) (by omega)
    have haM : aM x = (M : Int) := by unfold aM; rw [g24_6, g22_2, g16_5]; rfl
    have haI : aI x = 0#64 := by unfold aI; rw [g24_6]; rfl
    simp only [onP, kk, hk8, hk5, hk6, if_true, if_false, Bool.false_eq_true, haO, haW, haM, haI, g0_5, g5_5]
  · intro α f
    have g0_5 : gt x 0 5 = D := gt_is E 0 5 (c := D) (by omega)
    have g5_5 : gt x 5 5 = N := gt_is E 5 5 (c := N) (by omega)
    have g16_5 : gt x 16 5 = M := gt_is E 16 5 (c := M) (by omega)
    have g30_2 : gt x 30 2 = 3 := gt_is E 30 2 (c := 3) (by omega)
    have htW : tW 38 x = 8 := by unfold tW; rw [Hz, g30_2]; rfl
    have htI : tI 38 x = 0#64 := by unfold tI; simp only [Hf, Hu, Hw, Hl, Hi, if_true, if_false, Bool.false_eq_true]
    simp only [onT, htW, htI, Hde, Hnb, Hmt, Ha, Hg, Hj, Hk, Hc, Hr, Hh, Hs, if_true, if_false, Bool.false_eq_true, g0_5, g5_5, g16_5]
end Go.Proofs.YtocfkaihfjbfnaaDoor
set_option maxRecDepth 100000
namespace Go.Proofs.YtocfkaihfjbfnaaDoor
open Go.Proofs.YtocfkaihfjbfnaaDoor.Ev Go.RowKit
/- Plain: the words of operations (printed by decops.py). -/
set_option maxHeartbeats 1000000 in
theorem good_39 {w d n m a : Int} {imm : W64} {off cond r s : Int} (ho : IntKind.i64.has off) (h : mayA 39 w d n m a imm off cond r s = true) : Good 39 w d n m a imm off cond r s := by
  have f := may_facts h
  have hw : w = 8 := f.h8.resolve_left (by decide)
  have hQ := f.nums
  simp [numsB, inB] at hQ
  have hI : 9 ≤ imm.toNat ∧ imm.toNat ≤ 11 := hQ
  have eD : d = 0 := f.sD
  have eN : n = 0 := f.sN
  have eM : m = 0 := f.sM
  have eA : a = 0 := f.sA
  have eS : s = 0 := f.sS
  have eR : r = 0 := f.sR
  have eC : cond = 0 := f.sC
  have eO : off = 0 := f.sO
  clear f h
  subst hw eD eN eM eA eS eR eC  eO
  have E : (encP 39 8 0 0 0 0 imm 0 0 0 0).toNat = 3573756095 + imm.toNat * 2 ^ 8 := by
    have ex : encP 39 8 0 0 0 0 imm 0 0 0 0 = orF (baseW 39) [(imm.toNat, 4, 8)] := by
      show ((((baseW 39 ||| fieldW (0 : Int) 5) ||| fieldW (0 : Int) 16) ||| fieldW (0 : Int) 10) ||| (fieldW (IntKind.i64.wrap (imm.toNat : Int)) 8)) ||| fieldW (0 : Int) 0 = _
      rw [wrap_small (imm.toNat : Int) (by omega) (by omega)]
      try simp only [or0, ← BitVec.or_assoc]
      rfl
    rw [ex, orF_sum _ (baseW 39) (baseW 39) (BitVec.and_self ..) (by simp only [ltF, and_true] <;> omega) (by kernel_rfl), show (baseW 39).toNat = 3573756095 by kernel_rfl]
    simp only [sumF, Nat.reducePow, Nat.reduceMul, Nat.one_mul, Nat.zero_mul] <;> omega
  obtain ⟨Hz, Hde, Hnb, Hmt, Ha, Hf, Hu, Hw, Hl, Hi, Hg, Hj, Hk, Hc, Hr, Hh, Hs⟩ := hasAll (k := 39) (show _ = [false, false, false, false, false, true, false, false, false, false, false, false, false, false, false, false, false] by kernel_rfl)
  have A : (encR 39 8 0 0 0 0 imm 0 0 0 0).setWidth 32 = encP 39 8 0 0 0 0 imm 0 0 0 0 := by
    have T : (encR 39 8 0 0 0 0 imm 0 0 0 0).toNat = 3573756095 + (0 + 0 * 32 + 0 * 65536 + 0 * 1024 + 0 * 65536) + imm.toNat * 256 := by
      simp only [encR, Hz, Ha, Hf, Hu, Hw, Hl, Hi, Hg, Hj, Hk, Hc, Hr, Hh, Hs, addIf_t, addIf_f]
      exact t_add (encR0_toNat 0 0 0 0 0 (B := 3573756095) (by kernel_rfl) (by omega) (by omega) (by omega) (by omega) (by omega) (by omega)) (t_mul (rfl : imm.toNat = imm.toNat) (t_lit 256) (by omega)) (by omega)
    have hlt := (encP 39 8 0 0 0 0 imm 0 0 0 0).isLt
    rw [E] at hlt
    apply BitVec.eq_of_toNat_eq
    rw [BitVec.toNat_setWidth, T, E, Nat.mod_eq_of_lt (by omega)] <;> omega
  refine ⟨A, ?_, ?_, ?_⟩ <;> clear A <;> generalize encP 39 8 0 0 0 0 imm 0 0 0 0 = x at E ⊢
  · have hB : (bw 39).toNat = 3573756095 := by kernel_rfl
    exact near24 Hz Hj (by rw [hB, E] <;> omega)
  · intro α f
    have g25_4 : gt x 25 4 = 10 := gt_is E 25 4 (c := 10) (by omega)
    have hk8 : k8 x = false := by unfold k8; rw [g25_4]; rfl
    have hk5 : k5 x = false := by unfold k5; rw [g25_4]; rfl
    have hk6 : k6 x = false := by unfold k6; rw [g25_4]; rfl
    have g24_8 : gt x 24 8 = 213 := gt_is E 24 8 (c := 213) (by omega)
    have hoz : oz x = false := by unfold oz; rw [g24_8]; rfl
    have hoD : oD x = 0 := by unfold oD; rw [g24_8, hoz]; rfl
    have hoC : oC x = 0 := by unfold oC; rw [g24_8]; rfl
    have hoF : oF x = 0 := by unfold oF; rw [g24_8, hoz]; rfl
    have g12_1 : gt x 12 1 = 1 := gt_is E 12 1 (c := 1) (by omega)
    have hoO : oO x = 39 := by unfold oO; rw [g24_8, hoz, g12_1]; rfl
    have hoN : oN x = 0 := by unfold oN; rw [g24_8, hoz]; rfl
    have g8_4 : gt x 8 4 = (imm.toNat : Int) := gt_is E 8 4 (c := imm.toNat) (by omega)
    have hoI : oI x = imm := by unfold oI; rw [g24_8, hoz, g12_1, g8_4]; exact ofInt_toNat imm
    simp only [onP, kk, hk8, hk5, hk6, if_true, if_false, Bool.false_eq_true, hoD, hoC, hoF, hoO, hoN, hoI]
  · intro α f
    have htW : tW 39 x = 8 := by unfold tW; rw [Hz]; rfl
    have g8_4 : gt x 8 4 = (imm.toNat : Int) := gt_is E 8 4 (c := imm.toNat) (by omega)
    have htI : tI 39 x = imm := by unfold tI; simp only [Hf, Hu, Hw, Hl, Hi, if_true, if_false, Bool.false_eq_true]; rw [g8_4]; exact ofInt_toNat imm
    simp only [onT, htW, htI, Hde, Hnb, Hmt, Ha, Hg, Hj, Hk, Hc, Hr, Hh, Hs, if_true, if_false, Bool.false_eq_true]
set_option maxHeartbeats 1000000 in
theorem good_40 {w d n m a : Int} {imm : W64} {off cond r s : Int} (ho : IntKind.i64.has off) (h : mayA 40 w d n m a imm off cond r s = true) : Good 40 w d n m a imm off cond r s := by
  have f := may_facts h
  have hw : w = 8 := f.h8.resolve_left (by decide)
  have hQ := f.nums
  simp [numsB, inB] at hQ
  obtain ⟨hQ1, hQ2, hQ3, hQ4⟩ := ofs_26 ho hQ.1 hQ.2
  have eD : d = 0 := f.sD
  have eN : n = 0 := f.sN
  have eM : m = 0 := f.sM
  have eA : a = 0 := f.sA
  have eS : s = 0 := f.sS
  have eR : r = 0 := f.sR
  have eC : cond = 0 := f.sC
  have eI : imm = 0#64 := f.sI
  clear f h
  subst hw eD eN eM eA eS eR eC eI 
  have E : (encP 40 8 0 0 0 0 0#64 off 0 0 0).toNat = 335544320 + (ofsQ off 26) * 2 ^ 0 := by
    have ex : encP 40 8 0 0 0 0 0#64 off 0 0 0 = orF (baseW 40) [((ofsQ off 26), 26, 0)] := by
      show ((((baseW 40 ||| fieldW (0 : Int) 5) ||| fieldW (0 : Int) 16) ||| fieldW (0 : Int) 10) ||| (field (BitVec.ofInt 32 (off / 2 ^ 2)) 0 26)) ||| fieldW (0 : Int) 0 = _
      rw [show ((26 : Int)) = ((26 : Nat) : Int) from rfl, field_ofs off (by decide) (by decide)]
      try simp only [or0, ← BitVec.or_assoc]
      rfl
    rw [ex, orF_sum _ (baseW 40) (baseW 40) (BitVec.and_self ..) (by simp only [ltF, and_true] <;> omega) (by kernel_rfl), show (baseW 40).toNat = 335544320 by kernel_rfl]
    simp only [sumF, Nat.reducePow, Nat.reduceMul, Nat.one_mul, Nat.zero_mul] <;> omega
  obtain ⟨Hz, Hde, Hnb, Hmt, Ha, Hf, Hu, Hw, Hl, Hi, Hg, Hj, Hk, Hc, Hr, Hh, Hs⟩ := hasAll (k := 40) (show _ = [false, false, false, false, false, false, false, false, false, false, false, true, false, false, false, false, false] by kernel_rfl)
  have A : (encR 40 8 0 0 0 0 0#64 off 0 0 0).setWidth 32 = encP 40 8 0 0 0 0 0#64 off 0 0 0 := by
    have T : (encR 40 8 0 0 0 0 0#64 off 0 0 0).toNat = 335544320 + (0 + 0 * 32 + 0 * 65536 + 0 * 1024 + 0 * 65536) + ofsQ off 26 := by
      simp only [encR, Hz, Ha, Hf, Hu, Hw, Hl, Hi, Hg, Hj, Hk, Hc, Hr, Hh, Hs, addIf_t, addIf_f]
      exact t_add (encR0_toNat 0 0 0 0 0 (B := 335544320) (by kernel_rfl) (by omega) (by omega) (by omega) (by omega) (by omega) (by omega)) hQ4 (by omega)
    have hlt := (encP 40 8 0 0 0 0 0#64 off 0 0 0).isLt
    rw [E] at hlt
    apply BitVec.eq_of_toNat_eq
    rw [BitVec.toNat_setWidth, T, E, Nat.mod_eq_of_lt (by omega)] <;> omega
  refine ⟨A, ?_, ?_, ?_⟩ <;> clear A <;> generalize encP 40 8 0 0 0 0 0#64 off 0 0 0 = x at E ⊢
  · have hB : (bw 40).toNat = 335544320 := by kernel_rfl
    exact near26 Hz Hj (by rw [hB, E] <;> omega)
  · intro α f
    have p8 : (gt x 25 4 == 8) = false := by rw [show gt x 25 4 = _ from gt_of E 25 4, beq_eq_false_iff_ne]; omega
    have p9 : (gt x 25 4 == 9) = false := by rw [show gt x 25 4 = _ from gt_of E 25 4, beq_eq_false_iff_ne]; omega
    have p5 : (gt x 25 4 == 5) = false := by rw [show gt x 25 4 = _ from gt_of E 25 4, beq_eq_false_iff_ne]; omega
    have p13 : (gt x 25 4 == 13) = false := by rw [show gt x 25 4 = _ from gt_of E 25 4, beq_eq_false_iff_ne]; omega
    have p4 : (gt x 25 4 == 4) = false := by rw [show gt x 25 4 = _ from gt_of E 25 4, beq_eq_false_iff_ne]; omega
    have p6 : (gt x 25 4 == 6) = false := by rw [show gt x 25 4 = _ from gt_of E 25 4, beq_eq_false_iff_ne]; omega
    have p12 : (gt x 25 4 == 12) = false := by rw [show gt x 25 4 = _ from gt_of E 25 4, beq_eq_false_iff_ne]; omega
    have p14 : (gt x 25 4 == 14) = false := by rw [show gt x 25 4 = _ from gt_of E 25 4, beq_eq_false_iff_ne]; omega
    have hk8 : k8 x = false := by unfold k8; simp only [p8, p9, p5, p13, p4, p6, p12, p14]; rfl
    have hk5 : k5 x = false := by unfold k5; simp only [p8, p9, p5, p13, p4, p6, p12, p14]; rfl
    have hk6 : k6 x = false := by unfold k6; simp only [p8, p9, p5, p13, p4, p6, p12, p14]; rfl
    have n84 : (gt x 24 8 == 84) = false := by rw [show gt x 24 8 = _ from gt_of E 24 8, beq_eq_false_iff_ne]; omega
    have n180 : (gt x 24 8 == 180) = false := by rw [show gt x 24 8 = _ from gt_of E 24 8, beq_eq_false_iff_ne]; omega
    have n181 : (gt x 24 8 == 181) = false := by rw [show gt x 24 8 = _ from gt_of E 24 8, beq_eq_false_iff_ne]; omega
    have n214 : (gt x 24 8 == 214) = false := by rw [show gt x 24 8 = _ from gt_of E 24 8, beq_eq_false_iff_ne]; omega
    have n212 : (gt x 24 8 == 212) = false := by rw [show gt x 24 8 = _ from gt_of E 24 8, beq_eq_false_iff_ne]; omega
    have n213 : (gt x 24 8 == 213) = false := by rw [show gt x 24 8 = _ from gt_of E 24 8, beq_eq_false_iff_ne]; omega
    have hoz : oz x = false := by unfold oz; rw [n180, n181]; rfl
    have hof : gof x 0 26 = off := by unfold gof; rw [show gt x 0 26 = _ from gt_is E 0 26 (c := ofsQ off 26) (by omega)]; exact hQ2
    have hoO : oO x = 40 := by unfold oO; simp only [n84, n214, n212, n213, hoz]; rfl
    have hoD : oD x = 0 := by unfold oD; simp only [n84, n214, n212, n213, hoz]; rfl
    have hoN : oN x = 0 := by unfold oN; simp only [n84, n214, n212, n213, hoz]; rfl
    have hoI : oI x = 0#64 := by unfold oI; simp only [n84, n214, n212, n213, hoz]; rfl
    have hoC : oC x = 0 := by unfold oC; simp only [n84, n214, n212, n213, hoz]; rfl
    have hoF : oF x = off := by unfold oF; simp only [n84, n214, n212, n213, hoz, hof]; rfl
    simp only [onP, kk, hk8, hk5, hk6, if_true, if_false, Bool.false_eq_true, hoO, hoD, hoN, hoI, hoC, hoF]
  · intro α f
    have htW : tW 40 x = 8 := by unfold tW; rw [Hz]; rfl
    have htI : tI 40 x = 0#64 := by unfold tI; simp only [Hf, Hu, Hw, Hl, Hi, if_true, if_false, Bool.false_eq_true]
    have hof : rof (gt x 0 26) 26 = off := by rw [show gt x 0 26 = _ from gt_is E 0 26 (c := ofsQ off 26) (by omega)]; exact hQ3
    simp only [onT, htW, htI, Hde, Hnb, Hmt, Ha, Hg, Hj, Hk, Hc, Hr, Hh, Hs, if_true, if_false, Bool.false_eq_true, hof]
set_option maxHeartbeats 1000000 in
theorem good_41 {w d n m a : Int} {imm : W64} {off cond r s : Int} (ho : IntKind.i64.has off) (h : mayA 41 w d n m a imm off cond r s = true) : Good 41 w d n m a imm off cond r s := by
  have f := may_facts h
  have hw : w = 8 := f.h8.resolve_left (by decide)
  have hQ := f.nums
  simp [numsB, inB] at hQ
  obtain ⟨hQ1, hQ2, hQ3, hQ4⟩ := ofs_19 ho hQ.1 hQ.2
  have eD : d = 0 := f.sD
  have eN : n = 0 := f.sN
  have eM : m = 0 := f.sM
  have eA : a = 0 := f.sA
  have eS : s = 0 := f.sS
  have eR : r = 0 := f.sR
  obtain ⟨C, eC, hC⟩ := nat_of (b := 15) f.c0
  have eI : imm = 0#64 := f.sI
  clear f h
  subst hw eD eN eM eA eS eR eC eI 
  have E : (encP 41 8 0 0 0 0 0#64 off C 0 0).toNat = 1409286144 + (ofsQ off 19) * 2 ^ 5 + C * 2 ^ 0 := by
    have ex : encP 41 8 0 0 0 0 0#64 off C 0 0 = orF (baseW 41) [((ofsQ off 19), 19, 5), (C, 4, 0)] := by
      show ((((baseW 41 ||| fieldW (0 : Int) 5) ||| fieldW (0 : Int) 16) ||| fieldW (0 : Int) 10) ||| (field (BitVec.ofInt 32 (off / 2 ^ 2)) 0 19 <<< 5 ||| fieldW (C : Int) 0)) ||| fieldW (0 : Int) 0 = _
      have g1 : field (BitVec.ofInt 32 (off / 2 ^ 2)) 0 19 <<< 5 = fieldW ((ofsQ off 19 : Nat) : Int) 5 := by
        rw [show ((19 : Int)) = ((19 : Nat) : Int) from rfl, field_ofs off (by decide) (by decide), shl_field, fieldN_toNat hQ1 (by decide), Nat.pow_zero, Nat.mul_one]
      rw [g1]
      try simp only [or0, ← BitVec.or_assoc]
      rfl
    rw [ex, orF_sum _ (baseW 41) (baseW 41) (BitVec.and_self ..) (by simp only [ltF, and_true] <;> omega) (by kernel_rfl), show (baseW 41).toNat = 1409286144 by kernel_rfl]
    simp only [sumF, Nat.reducePow, Nat.reduceMul, Nat.one_mul, Nat.zero_mul] <;> omega
  obtain ⟨Hz, Hde, Hnb, Hmt, Ha, Hf, Hu, Hw, Hl, Hi, Hg, Hj, Hk, Hc, Hr, Hh, Hs⟩ := hasAll (k := 41) (show _ = [false, false, false, false, false, false, false, false, false, false, true, false, true, false, false, false, false] by kernel_rfl)
  have A : (encR 41 8 0 0 0 0 0#64 off C 0 0).setWidth 32 = encP 41 8 0 0 0 0 0#64 off C 0 0 := by
    have T : (encR 41 8 0 0 0 0 0#64 off C 0 0).toNat = 1409286144 + (0 + 0 * 32 + 0 * 65536 + 0 * 1024 + 0 * 65536) + C + ofsQ off 19 * 32 := by
      simp only [encR, Hz, Ha, Hf, Hu, Hw, Hl, Hi, Hg, Hj, Hk, Hc, Hr, Hh, Hs, addIf_t, addIf_f]
      exact t_add (t_add (encR0_toNat 0 0 0 0 0 (B := 1409286144) (by kernel_rfl) (by omega) (by omega) (by omega) (by omega) (by omega) (by omega)) (t_ofI C (by omega)) (by omega)) (t_mul hQ4 (t_lit 32) (by omega)) (by omega)
    have hlt := (encP 41 8 0 0 0 0 0#64 off C 0 0).isLt
    rw [E] at hlt
    apply BitVec.eq_of_toNat_eq
    rw [BitVec.toNat_setWidth, T, E, Nat.mod_eq_of_lt (by omega)] <;> omega
  refine ⟨A, ?_, ?_, ?_⟩ <;> clear A <;> generalize encP 41 8 0 0 0 0 0#64 off C 0 0 = x at E ⊢
  · have hB : (bw 41).toNat = 1409286144 := by kernel_rfl
    exact near24 Hz Hj (by rw [hB, E] <;> omega)
  · intro α f
    have g25_4 : gt x 25 4 = 10 := gt_is E 25 4 (c := 10) (by omega)
    have hk8 : k8 x = false := by unfold k8; rw [g25_4]; rfl
    have hk5 : k5 x = false := by unfold k5; rw [g25_4]; rfl
    have hk6 : k6 x = false := by unfold k6; rw [g25_4]; rfl
    have g24_8 : gt x 24 8 = 84 := gt_is E 24 8 (c := 84) (by omega)
    have hoz : oz x = false := by unfold oz; rw [g24_8]; rfl
    have g0_4 : gt x 0 4 = C := gt_is E 0 4 (c := C) (by omega)
    have hof : gof x 5 19 = off := by unfold gof; rw [show gt x 5 19 = _ from gt_is E 5 19 (c := ofsQ off 19) (by omega)]; exact hQ2
    have hoO : oO x = 41 := by unfold oO; rw [g24_8]; rfl
    have hoD : oD x = 0 := by unfold oD; rw [g24_8]; rfl
    have hoN : oN x = 0 := by unfold oN; rw [g24_8]; rfl
    have hoI : oI x = 0#64 := by unfold oI; rw [g24_8]; rfl
    have hoC : oC x = (C : Int) := by unfold oC; rw [g24_8, g0_4]; rfl
    have hoF : oF x = off := by unfold oF; rw [g24_8, hof]; rfl
    simp only [onP, kk, hk8, hk5, hk6, if_true, if_false, Bool.false_eq_true, hoO, hoD, hoN, hoI, hoC, hoF]
  · intro α f
    have g0_4 : gt x 0 4 = C := gt_is E 0 4 (c := C) (by omega)
    have htW : tW 41 x = 8 := by unfold tW; rw [Hz]; rfl
    have htI : tI 41 x = 0#64 := by unfold tI; simp only [Hf, Hu, Hw, Hl, Hi, if_true, if_false, Bool.false_eq_true]
    have hof : rof (gt x 5 19) 19 = off := by rw [show gt x 5 19 = _ from gt_is E 5 19 (c := ofsQ off 19) (by omega)]; exact hQ3
    simp only [onT, htW, htI, Hde, Hnb, Hmt, Ha, Hg, Hj, Hk, Hc, Hr, Hh, Hs, if_true, if_false, Bool.false_eq_true, g0_4, hof]
set_option maxHeartbeats 1000000 in
theorem good_42 {w d n m a : Int} {imm : W64} {off cond r s : Int} (ho : IntKind.i64.has off) (h : mayA 42 w d n m a imm off cond r s = true) : Good 42 w d n m a imm off cond r s := by
  have f := may_facts h
  have hw : w = 8 := f.h8.resolve_left (by decide)
  have hQ := f.nums
  simp [numsB, inB] at hQ
  obtain ⟨hQ1, hQ2, hQ3, hQ4⟩ := ofs_19 ho hQ.1 hQ.2
  obtain ⟨D, eD, hD⟩ := nat_of (b := 31) f.d0
  have eN : n = 0 := f.sN
  have eM : m = 0 := f.sM
  have eA : a = 0 := f.sA
  have eS : s = 0 := f.sS
  have eR : r = 0 := f.sR
  have eC : cond = 0 := f.sC
  have eI : imm = 0#64 := f.sI
  clear f h
  subst hw eD eN eM eA eS eR eC eI 
  have E : (encP 42 8 D 0 0 0 0#64 off 0 0 0).toNat = 3019898880 + (ofsQ off 19) * 2 ^ 5 + D * 2 ^ 0 := by
    have ex : encP 42 8 D 0 0 0 0#64 off 0 0 0 = orF (baseW 42) [((ofsQ off 19), 19, 5), (D, 5, 0)] := by
      show ((((baseW 42 ||| fieldW (0 : Int) 5) ||| fieldW (0 : Int) 16) ||| fieldW (0 : Int) 10) ||| (field (BitVec.ofInt 32 (off / 2 ^ 2)) 0 19 <<< 5 ||| fieldW (0 : Int) 0)) ||| fieldW (D : Int) 0 = _
      have g1 : field (BitVec.ofInt 32 (off / 2 ^ 2)) 0 19 <<< 5 = fieldW ((ofsQ off 19 : Nat) : Int) 5 := by
        rw [show ((19 : Int)) = ((19 : Nat) : Int) from rfl, field_ofs off (by decide) (by decide), shl_field, fieldN_toNat hQ1 (by decide), Nat.pow_zero, Nat.mul_one]
      rw [g1]
      try simp only [or0, ← BitVec.or_assoc]
      rfl
    rw [ex, orF_sum _ (baseW 42) (baseW 42) (BitVec.and_self ..) (by simp only [ltF, and_true] <;> omega) (by kernel_rfl), show (baseW 42).toNat = 3019898880 by kernel_rfl]
    simp only [sumF, Nat.reducePow, Nat.reduceMul, Nat.one_mul, Nat.zero_mul] <;> omega
  obtain ⟨Hz, Hde, Hnb, Hmt, Ha, Hf, Hu, Hw, Hl, Hi, Hg, Hj, Hk, Hc, Hr, Hh, Hs⟩ := hasAll (k := 42) (show _ = [false, true, false, false, false, false, false, false, false, false, true, false, false, false, false, false, false] by kernel_rfl)
  have A : (encR 42 8 D 0 0 0 0#64 off 0 0 0).setWidth 32 = encP 42 8 D 0 0 0 0#64 off 0 0 0 := by
    have T : (encR 42 8 D 0 0 0 0#64 off 0 0 0).toNat = 3019898880 + (D + 0 * 32 + 0 * 65536 + 0 * 1024 + 0 * 65536) + ofsQ off 19 * 32 := by
      simp only [encR, Hz, Ha, Hf, Hu, Hw, Hl, Hi, Hg, Hj, Hk, Hc, Hr, Hh, Hs, addIf_t, addIf_f]
      exact t_add (encR0_toNat D 0 0 0 0 (B := 3019898880) (by kernel_rfl) (by omega) (by omega) (by omega) (by omega) (by omega) (by omega)) (t_mul hQ4 (t_lit 32) (by omega)) (by omega)
    have hlt := (encP 42 8 D 0 0 0 0#64 off 0 0 0).isLt
    rw [E] at hlt
    apply BitVec.eq_of_toNat_eq
    rw [BitVec.toNat_setWidth, T, E, Nat.mod_eq_of_lt (by omega)] <;> omega
  refine ⟨A, ?_, ?_, ?_⟩ <;> clear A <;> generalize encP 42 8 D 0 0 0 0#64 off 0 0 0 = x at E ⊢
  · have hB : (bw 42).toNat = 3019898880 := by kernel_rfl
    exact near24 Hz Hj (by rw [hB, E] <;> omega)
  · intro α f
    have g25_4 : gt x 25 4 = 10 := gt_is E 25 4 (c := 10) (by omega)
    have hk8 : k8 x = false := by unfold k8; rw [g25_4]; rfl
    have hk5 : k5 x = false := by unfold k5; rw [g25_4]; rfl
    have hk6 : k6 x = false := by unfold k6; rw [g25_4]; rfl
    have g24_8 : gt x 24 8 = 180 := gt_is E 24 8 (c := 180) (by omega)
    have hoz : oz x = true := by unfold oz; rw [g24_8]; rfl
    have g0_5 : gt x 0 5 = D := gt_is E 0 5 (c := D) (by omega)
    have g24_1 : gt x 24 1 = 0 := gt_is E 24 1 (c := 0) (by omega)
    have hof : gof x 5 19 = off := by unfold gof; rw [show gt x 5 19 = _ from gt_is E 5 19 (c := ofsQ off 19) (by omega)]; exact hQ2
    have hoO : oO x = 42 := by unfold oO; rw [g24_8, hoz, g24_1]; rfl
    have hoD : oD x = (D : Int) := by unfold oD; rw [g24_8, hoz, g0_5]; rfl
    have hoN : oN x = 0 := by unfold oN; rw [g24_8, hoz]; rfl
    have hoI : oI x = 0#64 := by unfold oI; rw [g24_8, hoz]; rfl
    have hoC : oC x = 0 := by unfold oC; rw [g24_8]; rfl
    have hoF : oF x = off := by unfold oF; rw [g24_8, hoz, hof]; rfl
    simp only [onP, kk, hk8, hk5, hk6, if_true, if_false, Bool.false_eq_true, hoO, hoD, hoN, hoI, hoC, hoF]
  · intro α f
    have g0_5 : gt x 0 5 = D := gt_is E 0 5 (c := D) (by omega)
    have htW : tW 42 x = 8 := by unfold tW; rw [Hz]; rfl
    have htI : tI 42 x = 0#64 := by unfold tI; simp only [Hf, Hu, Hw, Hl, Hi, if_true, if_false, Bool.false_eq_true]
    have hof : rof (gt x 5 19) 19 = off := by rw [show gt x 5 19 = _ from gt_is E 5 19 (c := ofsQ off 19) (by omega)]; exact hQ3
    simp only [onT, htW, htI, Hde, Hnb, Hmt, Ha, Hg, Hj, Hk, Hc, Hr, Hh, Hs, if_true, if_false, Bool.false_eq_true, g0_5, hof]
set_option maxHeartbeats 1000000 in
theorem good_43 {w d n m a : Int} {imm : W64} {off cond r s : Int} (ho : IntKind.i64.has off) (h : mayA 43 w d n m a imm off cond r s = true) : Good 43 w d n m a imm off cond r s := by
  have f := may_facts h
  have hw : w = 8 := f.h8.resolve_left (by decide)
  have hQ := f.nums
  simp [numsB, inB] at hQ
  obtain ⟨hQ1, hQ2, hQ3, hQ4⟩ := ofs_19 ho hQ.1 hQ.2
  obtain ⟨D, eD, hD⟩ := nat_of (b := 31) f.d0
  have eN : n = 0 := f.sN
  have eM : m = 0 := f.sM
  have eA : a = 0 := f.sA
  have eS : s = 0 := f.sS
  have eR : r = 0 := f.sR
  have eC : cond = 0 := f.sC
  have eI : imm = 0#64 := f.sI
  clear f h
  subst hw eD eN eM eA eS eR eC eI 
  have E : (encP 43 8 D 0 0 0 0#64 off 0 0 0).toNat = 3036676096 + (ofsQ off 19) * 2 ^ 5 + D * 2 ^ 0 := by
    have ex : encP 43 8 D 0 0 0 0#64 off 0 0 0 = orF (baseW 43) [((ofsQ off 19), 19, 5), (D, 5, 0)] := by
      show ((((baseW 43 ||| fieldW (0 : Int) 5) ||| fieldW (0 : Int) 16) ||| fieldW (0 : Int) 10) ||| (field (BitVec.ofInt 32 (off / 2 ^ 2)) 0 19 <<< 5 ||| fieldW (0 : Int) 0)) ||| fieldW (D : Int) 0 = _
      have g1 : field (BitVec.ofInt 32 (off / 2 ^ 2)) 0 19 <<< 5 = fieldW ((ofsQ off 19 : Nat) : Int) 5 := by
        rw [show ((19 : Int)) = ((19 : Nat) : Int) from rfl, field_ofs off (by decide) (by decide), shl_field, fieldN_toNat hQ1 (by decide), Nat.pow_zero, Nat.mul_one]
      rw [g1]
      try simp only [or0, ← BitVec.or_assoc]
      rfl
    rw [ex, orF_sum _ (baseW 43) (baseW 43) (BitVec.and_self ..) (by simp only [ltF, and_true] <;> omega) (by kernel_rfl), show (baseW 43).toNat = 3036676096 by kernel_rfl]
    simp only [sumF, Nat.reducePow, Nat.reduceMul, Nat.one_mul, Nat.zero_mul] <;> omega
  obtain ⟨Hz, Hde, Hnb, Hmt, Ha, Hf, Hu, Hw, Hl, Hi, Hg, Hj, Hk, Hc, Hr, Hh, Hs⟩ := hasAll (k := 43) (show _ = [false, true, false, false, false, false, false, false, false, false, true, false, false, false, false, false, false] by kernel_rfl)
  have A : (encR 43 8 D 0 0 0 0#64 off 0 0 0).setWidth 32 = encP 43 8 D 0 0 0 0#64 off 0 0 0 := by
    have T : (encR 43 8 D 0 0 0 0#64 off 0 0 0).toNat = 3036676096 + (D + 0 * 32 + 0 * 65536 + 0 * 1024 + 0 * 65536) + ofsQ off 19 * 32 := by
      simp only [encR, Hz, Ha, Hf, Hu, Hw, Hl, Hi, Hg, Hj, Hk, Hc, Hr, Hh, Hs, addIf_t, addIf_f]
      exact t_add (encR0_toNat D 0 0 0 0 (B := 3036676096) (by kernel_rfl) (by omega) (by omega) (by omega) (by omega) (by omega) (by omega)) (t_mul hQ4 (t_lit 32) (by omega)) (by omega)
    have hlt := (encP 43 8 D 0 0 0 0#64 off 0 0 0).isLt
    rw [E] at hlt
    apply BitVec.eq_of_toNat_eq
    rw [BitVec.toNat_setWidth, T, E, Nat.mod_eq_of_lt (by omega)] <;> omega
  refine ⟨A, ?_, ?_, ?_⟩ <;> clear A <;> generalize encP 43 8 D 0 0 0 0#64 off 0 0 0 = x at E ⊢
  · have hB : (bw 43).toNat = 3036676096 := by kernel_rfl
    exact near24 Hz Hj (by rw [hB, E] <;> omega)
  · intro α f
    have g25_4 : gt x 25 4 = 10 := gt_is E 25 4 (c := 10) (by omega)
    have hk8 : k8 x = false := by unfold k8; rw [g25_4]; rfl
    have hk5 : k5 x = false := by unfold k5; rw [g25_4]; rfl
    have hk6 : k6 x = false := by unfold k6; rw [g25_4]; rfl
    have g24_8 : gt x 24 8 = 181 := gt_is E 24 8 (c := 181) (by omega)
    have hoz : oz x = true := by unfold oz; rw [g24_8]; rfl
    have g0_5 : gt x 0 5 = D := gt_is E 0 5 (c := D) (by omega)
    have g24_1 : gt x 24 1 = 1 := gt_is E 24 1 (c := 1) (by omega)
    have hof : gof x 5 19 = off := by unfold gof; rw [show gt x 5 19 = _ from gt_is E 5 19 (c := ofsQ off 19) (by omega)]; exact hQ2
    have hoO : oO x = 43 := by unfold oO; rw [g24_8, hoz, g24_1]; rfl
    have hoD : oD x = (D : Int) := by unfold oD; rw [g24_8, hoz, g0_5]; rfl
    have hoN : oN x = 0 := by unfold oN; rw [g24_8, hoz]; rfl
    have hoI : oI x = 0#64 := by unfold oI; rw [g24_8, hoz]; rfl
    have hoC : oC x = 0 := by unfold oC; rw [g24_8]; rfl
    have hoF : oF x = off := by unfold oF; rw [g24_8, hoz, hof]; rfl
    simp only [onP, kk, hk8, hk5, hk6, if_true, if_false, Bool.false_eq_true, hoO, hoD, hoN, hoI, hoC, hoF]
  · intro α f
    have g0_5 : gt x 0 5 = D := gt_is E 0 5 (c := D) (by omega)
    have htW : tW 43 x = 8 := by unfold tW; rw [Hz]; rfl
    have htI : tI 43 x = 0#64 := by unfold tI; simp only [Hf, Hu, Hw, Hl, Hi, if_true, if_false, Bool.false_eq_true]
    have hof : rof (gt x 5 19) 19 = off := by rw [show gt x 5 19 = _ from gt_is E 5 19 (c := ofsQ off 19) (by omega)]; exact hQ3
    simp only [onT, htW, htI, Hde, Hnb, Hmt, Ha, Hg, Hj, Hk, Hc, Hr, Hh, Hs, if_true, if_false, Bool.false_eq_true, g0_5, hof]
set_option maxHeartbeats 1000000 in
theorem good_44 {w d n m a : Int} {imm : W64} {off cond r s : Int} (ho : IntKind.i64.has off) (h : mayA 44 w d n m a imm off cond r s = true) : Good 44 w d n m a imm off cond r s := by
  have f := may_facts h
  have hw : w = 8 := f.h8.resolve_left (by decide)
  have eD : d = 0 := f.sD
  obtain ⟨N, eN, hN⟩ := nat_of (b := 31) f.n0
  have eM : m = 0 := f.sM
  have eA : a = 0 := f.sA
  have eS : s = 0 := f.sS
  have eR : r = 0 := f.sR
  have eC : cond = 0 := f.sC
  have eI : imm = 0#64 := f.sI
  have eO : off = 0 := f.sO
  clear f h
  subst hw eD eN eM eA eS eR eC eI eO
  have E : (encP 44 8 0 N 0 0 0#64 0 0 0 0).toNat = 3592355840 + N * 2 ^ 5 := by
    have ex : encP 44 8 0 N 0 0 0#64 0 0 0 0 = orF (baseW 44) [(N, 5, 5)] := by
      show (((baseW 44 ||| fieldW (N : Int) 5) ||| fieldW (0 : Int) 16) ||| fieldW (0 : Int) 10) ||| fieldW (0 : Int) 0 = _
      try simp only [or0, ← BitVec.or_assoc]
      rfl
    rw [ex, orF_sum _ (baseW 44) (baseW 44) (BitVec.and_self ..) (by simp only [ltF, and_true] <;> omega) (by kernel_rfl), show (baseW 44).toNat = 3592355840 by kernel_rfl]
    simp only [sumF, Nat.reducePow, Nat.reduceMul, Nat.one_mul, Nat.zero_mul] <;> omega
  obtain ⟨Hz, Hde, Hnb, Hmt, Ha, Hf, Hu, Hw, Hl, Hi, Hg, Hj, Hk, Hc, Hr, Hh, Hs⟩ := hasAll (k := 44) (show _ = [false, false, true, false, false, false, false, false, false, false, false, false, false, false, false, false, false] by kernel_rfl)
  have A : (encR 44 8 0 N 0 0 0#64 0 0 0 0).setWidth 32 = encP 44 8 0 N 0 0 0#64 0 0 0 0 := by
    have T : (encR 44 8 0 N 0 0 0#64 0 0 0 0).toNat = 3592355840 + (0 + N * 32 + 0 * 65536 + 0 * 1024 + 0 * 65536) := by
      simp only [encR, Hz, Ha, Hf, Hu, Hw, Hl, Hi, Hg, Hj, Hk, Hc, Hr, Hh, Hs, addIf_t, addIf_f]
      exact encR0_toNat 0 N 0 0 0 (B := 3592355840) (by kernel_rfl) (by omega) (by omega) (by omega) (by omega) (by omega) (by omega)
    have hlt := (encP 44 8 0 N 0 0 0#64 0 0 0 0).isLt
    rw [E] at hlt
    apply BitVec.eq_of_toNat_eq
    rw [BitVec.toNat_setWidth, T, E, Nat.mod_eq_of_lt (by omega)] <;> omega
  refine ⟨A, ?_, ?_, ?_⟩ <;> clear A <;> generalize encP 44 8 0 N 0 0 0#64 0 0 0 0 = x at E ⊢
  · have hB : (bw 44).toNat = 3592355840 := by kernel_rfl
    exact near24 Hz Hj (by rw [hB, E] <;> omega)
  · intro α f
    have g25_4 : gt x 25 4 = 11 := gt_is E 25 4 (c := 11) (by omega)
    have hk8 : k8 x = false := by unfold k8; rw [g25_4]; rfl
    have hk5 : k5 x = false := by unfold k5; rw [g25_4]; rfl
    have hk6 : k6 x = false := by unfold k6; rw [g25_4]; rfl
    have g24_8 : gt x 24 8 = 214 := gt_is E 24 8 (c := 214) (by omega)
    have hoz : oz x = false := by unfold oz; rw [g24_8]; rfl
    have hoD : oD x = 0 := by unfold oD; rw [g24_8, hoz]; rfl
    have hoC : oC x = 0 := by unfold oC; rw [g24_8]; rfl
    have hoF : oF x = 0 := by unfold oF; rw [g24_8, hoz]; rfl
    have g5_5 : gt x 5 5 = N := gt_is E 5 5 (c := N) (by omega)
    have hoO : oO x = 44 := by unfold oO; rw [g24_8, hoz]; rfl
    have hoN : oN x = (N : Int) := by unfold oN; rw [g24_8, hoz, g5_5]; rfl
    have hoI : oI x = 0#64 := by unfold oI; rw [g24_8, hoz]; rfl
    simp only [onP, kk, hk8, hk5, hk6, if_true, if_false, Bool.false_eq_true, hoD, hoC, hoF, hoO, hoN, hoI]
  · intro α f
    have g5_5 : gt x 5 5 = N := gt_is E 5 5 (c := N) (by omega)
    have htW : tW 44 x = 8 := by unfold tW; rw [Hz]; rfl
    have htI : tI 44 x = 0#64 := by unfold tI; simp only [Hf, Hu, Hw, Hl, Hi, if_true, if_false, Bool.false_eq_true]
    simp only [onT, htW, htI, Hde, Hnb, Hmt, Ha, Hg, Hj, Hk, Hc, Hr, Hh, Hs, if_true, if_false, Bool.false_eq_true, g5_5]
set_option maxHeartbeats 1000000 in
theorem good_45 {w d n m a : Int} {imm : W64} {off cond r s : Int} (ho : IntKind.i64.has off) (h : mayA 45 w d n m a imm off cond r s = true) : Good 45 w d n m a imm off cond r s := by
  have f := may_facts h
  have hw : w = 8 := f.h8.resolve_left (by decide)
  have hI : imm.toNat < 65536 := of_decide_eq_true f.nums
  have eD : d = 0 := f.sD
  have eN : n = 0 := f.sN
  have eM : m = 0 := f.sM
  have eA : a = 0 := f.sA
  have eS : s = 0 := f.sS
  have eR : r = 0 := f.sR
  have eC : cond = 0 := f.sC
  have eO : off = 0 := f.sO
  clear f h
  subst hw eD eN eM eA eS eR eC  eO
  have E : (encP 45 8 0 0 0 0 imm 0 0 0 0).toNat = 3556769793 + imm.toNat * 2 ^ 5 := by
    have ex : encP 45 8 0 0 0 0 imm 0 0 0 0 = orF (baseW 45) [(imm.toNat, 16, 5)] := by
      show ((((baseW 45 ||| fieldW (0 : Int) 5) ||| fieldW (0 : Int) 16) ||| fieldW (0 : Int) 10) ||| (fieldW (IntKind.i64.wrap (imm.toNat : Int)) 5)) ||| fieldW (0 : Int) 0 = _
      rw [wrap_small (imm.toNat : Int) (by omega) (by omega)]
      try simp only [or0, ← BitVec.or_assoc]
      rfl
    rw [ex, orF_sum _ (baseW 45) (baseW 45) (BitVec.and_self ..) (by simp only [ltF, and_true] <;> omega) (by kernel_rfl), show (baseW 45).toNat = 3556769793 by kernel_rfl]
    simp only [sumF, Nat.reducePow, Nat.reduceMul, Nat.one_mul, Nat.zero_mul] <;> omega
  obtain ⟨Hz, Hde, Hnb, Hmt, Ha, Hf, Hu, Hw, Hl, Hi, Hg, Hj, Hk, Hc, Hr, Hh, Hs⟩ := hasAll (k := 45) (show _ = [false, false, false, false, false, false, false, true, false, false, false, false, false, false, false, false, false] by kernel_rfl)
  have A : (encR 45 8 0 0 0 0 imm 0 0 0 0).setWidth 32 = encP 45 8 0 0 0 0 imm 0 0 0 0 := by
    have T : (encR 45 8 0 0 0 0 imm 0 0 0 0).toNat = 3556769793 + (0 + 0 * 32 + 0 * 65536 + 0 * 1024 + 0 * 65536) + imm.toNat * 32 := by
      simp only [encR, Hz, Ha, Hf, Hu, Hw, Hl, Hi, Hg, Hj, Hk, Hc, Hr, Hh, Hs, addIf_t, addIf_f]
      exact t_add (encR0_toNat 0 0 0 0 0 (B := 3556769793) (by kernel_rfl) (by omega) (by omega) (by omega) (by omega) (by omega) (by omega)) (t_mul (rfl : imm.toNat = imm.toNat) (t_lit 32) (by omega)) (by omega)
    have hlt := (encP 45 8 0 0 0 0 imm 0 0 0 0).isLt
    rw [E] at hlt
    apply BitVec.eq_of_toNat_eq
    rw [BitVec.toNat_setWidth, T, E, Nat.mod_eq_of_lt (by omega)] <;> omega
  refine ⟨A, ?_, ?_, ?_⟩ <;> clear A <;> generalize encP 45 8 0 0 0 0 imm 0 0 0 0 = x at E ⊢
  · have hB : (bw 45).toNat = 3556769793 := by kernel_rfl
    exact near24 Hz Hj (by rw [hB, E] <;> omega)
  · intro α f
    have g25_4 : gt x 25 4 = 10 := gt_is E 25 4 (c := 10) (by omega)
    have hk8 : k8 x = false := by unfold k8; rw [g25_4]; rfl
    have hk5 : k5 x = false := by unfold k5; rw [g25_4]; rfl
    have hk6 : k6 x = false := by unfold k6; rw [g25_4]; rfl
    have g24_8 : gt x 24 8 = 212 := gt_is E 24 8 (c := 212) (by omega)
    have hoz : oz x = false := by unfold oz; rw [g24_8]; rfl
    have hoD : oD x = 0 := by unfold oD; rw [g24_8, hoz]; rfl
    have hoC : oC x = 0 := by unfold oC; rw [g24_8]; rfl
    have hoF : oF x = 0 := by unfold oF; rw [g24_8, hoz]; rfl
    have g21_1 : gt x 21 1 = 0 := gt_is E 21 1 (c := 0) (by omega)
    have g5_16 : gt x 5 16 = (imm.toNat : Int) := gt_is E 5 16 (c := imm.toNat) (by omega)
    have hoO : oO x = 45 := by unfold oO; rw [g24_8, hoz, g21_1]; rfl
    have hoN : oN x = 0 := by unfold oN; rw [g24_8, hoz]; rfl
    have hoI : oI x = imm := by unfold oI; rw [g24_8, hoz, g5_16]; exact ofInt_toNat imm
    simp only [onP, kk, hk8, hk5, hk6, if_true, if_false, Bool.false_eq_true, hoD, hoC, hoF, hoO, hoN, hoI]
  · intro α f
    have htW : tW 45 x = 8 := by unfold tW; rw [Hz]; rfl
    have g5_16 : gt x 5 16 = (imm.toNat : Int) := gt_is E 5 16 (c := imm.toNat) (by omega)
    have htI : tI 45 x = imm := by unfold tI; simp only [Hf, Hu, Hw, Hl, Hi, if_true, if_false, Bool.false_eq_true]; rw [g5_16]; exact ofInt_toNat imm
    simp only [onT, htW, htI, Hde, Hnb, Hmt, Ha, Hg, Hj, Hk, Hc, Hr, Hh, Hs, if_true, if_false, Bool.false_eq_true]
set_option maxHeartbeats 1000000 in
theorem good_46 {w d n m a : Int} {imm : W64} {off cond r s : Int} (ho : IntKind.i64.has off) (h : mayA 46 w d n m a imm off cond r s = true) : Good 46 w d n m a imm off cond r s := by
  have f := may_facts h
  have hw : w = 8 := f.h8.resolve_left (by decide)
  have hI : imm.toNat < 65536 := of_decide_eq_true f.nums
  have eD : d = 0 := f.sD
  have eN : n = 0 := f.sN
  have eM : m = 0 := f.sM
  have eA : a = 0 := f.sA
  have eS : s = 0 := f.sS
  have eR : r = 0 := f.sR
  have eC : cond = 0 := f.sC
  have eO : off = 0 := f.sO
  clear f h
  subst hw eD eN eM eA eS eR eC  eO
  have E : (encP 46 8 0 0 0 0 imm 0 0 0 0).toNat = 3558866944 + imm.toNat * 2 ^ 5 := by
    have ex : encP 46 8 0 0 0 0 imm 0 0 0 0 = orF (baseW 46) [(imm.toNat, 16, 5)] := by
      show ((((baseW 46 ||| fieldW (0 : Int) 5) ||| fieldW (0 : Int) 16) ||| fieldW (0 : Int) 10) ||| (fieldW (IntKind.i64.wrap (imm.toNat : Int)) 5)) ||| fieldW (0 : Int) 0 = _
      rw [wrap_small (imm.toNat : Int) (by omega) (by omega)]
      try simp only [or0, ← BitVec.or_assoc]
      rfl
    rw [ex, orF_sum _ (baseW 46) (baseW 46) (BitVec.and_self ..) (by simp only [ltF, and_true] <;> omega) (by kernel_rfl), show (baseW 46).toNat = 3558866944 by kernel_rfl]
    simp only [sumF, Nat.reducePow, Nat.reduceMul, Nat.one_mul, Nat.zero_mul] <;> omega
  obtain ⟨Hz, Hde, Hnb, Hmt, Ha, Hf, Hu, Hw, Hl, Hi, Hg, Hj, Hk, Hc, Hr, Hh, Hs⟩ := hasAll (k := 46) (show _ = [false, false, false, false, false, false, false, true, false, false, false, false, false, false, false, false, false] by kernel_rfl)
  have A : (encR 46 8 0 0 0 0 imm 0 0 0 0).setWidth 32 = encP 46 8 0 0 0 0 imm 0 0 0 0 := by
    have T : (encR 46 8 0 0 0 0 imm 0 0 0 0).toNat = 3558866944 + (0 + 0 * 32 + 0 * 65536 + 0 * 1024 + 0 * 65536) + imm.toNat * 32 := by
      simp only [encR, Hz, Ha, Hf, Hu, Hw, Hl, Hi, Hg, Hj, Hk, Hc, Hr, Hh, Hs, addIf_t, addIf_f]
      exact t_add (encR0_toNat 0 0 0 0 0 (B := 3558866944) (by kernel_rfl) (by omega) (by omega) (by omega) (by omega) (by omega) (by omega)) (t_mul (rfl : imm.toNat = imm.toNat) (t_lit 32) (by omega)) (by omega)
    have hlt := (encP 46 8 0 0 0 0 imm 0 0 0 0).isLt
    rw [E] at hlt
    apply BitVec.eq_of_toNat_eq
    rw [BitVec.toNat_setWidth, T, E, Nat.mod_eq_of_lt (by omega)] <;> omega
  refine ⟨A, ?_, ?_, ?_⟩ <;> clear A <;> generalize encP 46 8 0 0 0 0 imm 0 0 0 0 = x at E ⊢
  · have hB : (bw 46).toNat = 3558866944 := by kernel_rfl
    exact near24 Hz Hj (by rw [hB, E] <;> omega)
  · intro α f
    have g25_4 : gt x 25 4 = 10 := gt_is E 25 4 (c := 10) (by omega)
    have hk8 : k8 x = false := by unfold k8; rw [g25_4]; rfl
    have hk5 : k5 x = false := by unfold k5; rw [g25_4]; rfl
    have hk6 : k6 x = false := by unfold k6; rw [g25_4]; rfl
    have g24_8 : gt x 24 8 = 212 := gt_is E 24 8 (c := 212) (by omega)
    have hoz : oz x = false := by unfold oz; rw [g24_8]; rfl
    have hoD : oD x = 0 := by unfold oD; rw [g24_8, hoz]; rfl
    have hoC : oC x = 0 := by unfold oC; rw [g24_8]; rfl
    have hoF : oF x = 0 := by unfold oF; rw [g24_8, hoz]; rfl
    have g21_1 : gt x 21 1 = 1 := gt_is E 21 1 (c := 1) (by omega)
    have g5_16 : gt x 5 16 = (imm.toNat : Int) := gt_is E 5 16 (c := imm.toNat) (by omega)
    have hoO : oO x = 46 := by unfold oO; rw [g24_8, hoz, g21_1]; rfl
    have hoN : oN x = 0 := by unfold oN; rw [g24_8, hoz]; rfl
    have hoI : oI x = imm := by unfold oI; rw [g24_8, hoz, g5_16]; exact ofInt_toNat imm
    simp only [onP, kk, hk8, hk5, hk6, if_true, if_false, Bool.false_eq_true, hoD, hoC, hoF, hoO, hoN, hoI]
  · intro α f
    have htW : tW 46 x = 8 := by unfold tW; rw [Hz]; rfl
    have g5_16 : gt x 5 16 = (imm.toNat : Int) := gt_is E 5 16 (c := imm.toNat) (by omega)
    have htI : tI 46 x = imm := by unfold tI; simp only [Hf, Hu, Hw, Hl, Hi, if_true, if_false, Bool.false_eq_true]; rw [g5_16]; exact ofInt_toNat imm
    simp only [onT, htW, htI, Hde, Hnb, Hmt, Ha, Hg, Hj, Hk, Hc, Hr, Hh, Hs, if_true, if_false, Bool.false_eq_true]
set_option maxHeartbeats 1000000 in
theorem good_47 {w d n m a : Int} {imm : W64} {off cond r s : Int} (ho : IntKind.i64.has off) (h : mayA 47 w d n m a imm off cond r s = true) : Good 47 w d n m a imm off cond r s := by
  have f := may_facts h
  have hw : w = 8 := f.h8.resolve_left (by decide)
  have eD : d = 0 := f.sD
  have eN : n = 0 := f.sN
  have eM : m = 0 := f.sM
  have eA : a = 0 := f.sA
  have eS : s = 0 := f.sS
  have eR : r = 0 := f.sR
  have eC : cond = 0 := f.sC
  have eI : imm = 0#64 := f.sI
  have eO : off = 0 := f.sO
  clear f h
  subst hw eD eN eM eA eS eR eC eI eO
  have E : (encP 47 8 0 0 0 0 0#64 0 0 0 0).toNat = 3573751839 := by
    have ex : encP 47 8 0 0 0 0 0#64 0 0 0 0 = orF (baseW 47) [] := by
      show (((baseW 47 ||| fieldW (0 : Int) 5) ||| fieldW (0 : Int) 16) ||| fieldW (0 : Int) 10) ||| fieldW (0 : Int) 0 = _
      try simp only [or0, ← BitVec.or_assoc]
      rfl
    rw [ex, orF_sum _ (baseW 47) (baseW 47) (BitVec.and_self ..) (by simp only [ltF, and_true] <;> omega) (by kernel_rfl), show (baseW 47).toNat = 3573751839 by kernel_rfl]
    simp only [sumF, Nat.reducePow, Nat.reduceMul, Nat.one_mul, Nat.zero_mul] <;> omega
  obtain ⟨Hz, Hde, Hnb, Hmt, Ha, Hf, Hu, Hw, Hl, Hi, Hg, Hj, Hk, Hc, Hr, Hh, Hs⟩ := hasAll (k := 47) (show _ = [false, false, false, false, false, false, false, false, false, false, false, false, false, false, false, false, false] by kernel_rfl)
  have A : (encR 47 8 0 0 0 0 0#64 0 0 0 0).setWidth 32 = encP 47 8 0 0 0 0 0#64 0 0 0 0 := by
    have T : (encR 47 8 0 0 0 0 0#64 0 0 0 0).toNat = 3573751839 + (0 + 0 * 32 + 0 * 65536 + 0 * 1024 + 0 * 65536) := by
      simp only [encR, Hz, Ha, Hf, Hu, Hw, Hl, Hi, Hg, Hj, Hk, Hc, Hr, Hh, Hs, addIf_t, addIf_f]
      exact encR0_toNat 0 0 0 0 0 (B := 3573751839) (by kernel_rfl) (by omega) (by omega) (by omega) (by omega) (by omega) (by omega)
    have hlt := (encP 47 8 0 0 0 0 0#64 0 0 0 0).isLt
    rw [E] at hlt
    apply BitVec.eq_of_toNat_eq
    rw [BitVec.toNat_setWidth, T, E, Nat.mod_eq_of_lt (by omega)] <;> omega
  refine ⟨A, ?_, ?_, ?_⟩ <;> clear A <;> generalize encP 47 8 0 0 0 0 0#64 0 0 0 0 = x at E ⊢
  · have hB : (bw 47).toNat = 3573751839 := by kernel_rfl
    exact near24 Hz Hj (by rw [hB, E] <;> omega)
  · intro α f
    have g25_4 : gt x 25 4 = 10 := gt_is E 25 4 (c := 10) (by omega)
    have hk8 : k8 x = false := by unfold k8; rw [g25_4]; rfl
    have hk5 : k5 x = false := by unfold k5; rw [g25_4]; rfl
    have hk6 : k6 x = false := by unfold k6; rw [g25_4]; rfl
    have g24_8 : gt x 24 8 = 213 := gt_is E 24 8 (c := 213) (by omega)
    have hoz : oz x = false := by unfold oz; rw [g24_8]; rfl
    have hoD : oD x = 0 := by unfold oD; rw [g24_8, hoz]; rfl
    have hoC : oC x = 0 := by unfold oC; rw [g24_8]; rfl
    have hoF : oF x = 0 := by unfold oF; rw [g24_8, hoz]; rfl
    have g12_1 : gt x 12 1 = 0 := gt_is E 12 1 (c := 0) (by omega)
    have hoO : oO x = 47 := by unfold oO; rw [g24_8, hoz, g12_1]; rfl
    have hoN : oN x = 0 := by unfold oN; rw [g24_8, hoz]; rfl
    have hoI : oI x = 0#64 := by unfold oI; rw [g24_8, hoz, g12_1]; rfl
    simp only [onP, kk, hk8, hk5, hk6, if_true, if_false, Bool.false_eq_true, hoD, hoC, hoF, hoO, hoN, hoI]
  · intro α f
    have htW : tW 47 x = 8 := by unfold tW; rw [Hz]; rfl
    have htI : tI 47 x = 0#64 := by unfold tI; simp only [Hf, Hu, Hw, Hl, Hi, if_true, if_false, Bool.false_eq_true]
    simp only [onT, htW, htI, Hde, Hnb, Hmt, Ha, Hg, Hj, Hk, Hc, Hr, Hh, Hs, if_true, if_false, Bool.false_eq_true]
end Go.Proofs.YtocfkaihfjbfnaaDoor
