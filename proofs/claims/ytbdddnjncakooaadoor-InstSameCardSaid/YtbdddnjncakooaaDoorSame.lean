/- Lemmas: what may be for the reference may be for the program; the plain law of sameness. No condition. -/
import Derived.Test.YtbdddnjncakooaaDoorLaws
set_option linter.unusedVariables false
set_option linter.unusedSimpArgs false
set_option maxRecDepth 100000
namespace Go.Proofs.YtbdddnjncakooaaDoor
open Go.Proofs.YtbdddnjncakooaaDoor.Ev Go.RowKit
/- Plain: an instruction that may be for the reference may be for the program; what is asked of it. -/
theorem fitR_bounds {v n : Int} (hv : IntKind.i64.has v) (hn : n = 8 ∨ n = 16 ∨ n = 32) (h : fitR v n = true) : -(2 ^ (n.toNat - 1)) ≤ v ∧ v < 2 ^ (n.toNat - 1) := by
  have h1 : -9223372036854775808 ≤ v := hv.1
  have h2 : v ≤ 9223372036854775807 := hv.2
  have e1 : (BitVec.ofInt 64 1 <<< (BitVec.ofInt 64 (IntKind.i64.wrap (n - 1))).toNat).toNat = 2 ^ (n.toNat - 1) := by
    rcases hn with rfl | rfl | rfl <;> decide +kernel
  unfold fitR at h
  rw [e1] at h
  simp only [orI, andI] at h
  simp only [Bool.or_eq_true, Bool.and_eq_true, decide_eq_true_eq] at h
  rcases h with (h | ⟨hz, h3⟩) | ⟨hz, h3⟩
  · omega
  · have e2 : (BitVec.ofInt 64 v).toNat = v.toNat := by rw [BitVec.toNat_ofInt]; omega
    rw [e2] at h3
    rcases hn with rfl | rfl | rfl <;> (simp at h3 ⊢; omega)
  · have e2 : (BitVec.ofInt 64 (IntKind.i64.wrap (-IntKind.i64.wrap (v + 1)))).toNat = (-(v + 1)).toNat := by
      rw [wrap_small (v + 1) (by omega) (by omega), wrap_small (-(v + 1)) (by omega) (by omega), BitVec.toNat_ofInt]; omega
    rw [e2] at h3
    rcases hn with rfl | rfl | rfl <;> (simp at h3 ⊢; omega)
theorem fitA_of {v n : Int} (hn : n = 8 ∨ n = 16 ∨ n = 32) (h : -(2 ^ (n.toNat - 1)) ≤ v ∧ v < 2 ^ (n.toNat - 1)) : fitA v n = true := by
  unfold fitA
  rw [if_neg (by rcases hn with rfl | rfl | rfl <;> decide), beq_iff_eq]
  rcases hn with rfl | rfl | rfl
  · rw [show (IntKind.i64.wrap (64 - 8)).toNat = 56 by decide +kernel]
    simp at h
    rw [wrap_small _ (by omega) (by omega)]
    omega
  · rw [show (IntKind.i64.wrap (64 - 16)).toNat = 48 by decide +kernel]
    simp at h
    rw [wrap_small _ (by omega) (by omega)]
    omega
  · rw [show (IntKind.i64.wrap (64 - 32)).toNat = 32 by decide +kernel]
    simp at h
    rw [wrap_small _ (by omega) (by omega)]
    omega
theorem fit_ours {v n : Int} (hv : IntKind.i64.has v) (hn : n = 8 ∨ n = 16 ∨ n = 32) (h : fitR v n = true) : fitA v n = true := fitA_of hn (fitR_bounds hv hn h)
theorem imm_ours {w im : Int} (hv : IntKind.i64.has im) (hw : w = 1 ∨ w = 2 ∨ w = 4 ∨ w = 8) (h : fitR im (if decide (32 < IntKind.i64.wrap (8 * w)) = true then 32 else IntKind.i64.wrap (8 * w)) = true) : immIs w im = true := by
  unfold immIs
  rcases hw with rfl | rfl | rfl | rfl
  · exact fit_ours hv (by decide) h
  · exact fit_ours hv (by decide) h
  · exact fit_ours hv (by decide) h
  · exact fit_ours hv (by decide) h
theorem opd_ok (ak ar ab ai ac ad : Int) (hd : IntKind.i64.has ad) (h : opdR ak ar ab ai ac ad = true) : opdA ak ar ab ai ac ad = true ∧ OpdOk ak ar ab ai ac ad := by
  unfold opdR at h
  by_cases h2 : ak = 2
  · subst h2
    rw [if_pos (show ((2 : Int) == 2) = true from rfl)] at h
    simp only [orI, andI, nandI] at h
    obtain ⟨hg, hz⟩ := (Bool.and_eq_true _ _ ▸ h : _ ∧ _)
    simp only [Bool.not_eq_true', Bool.or_eq_false_iff, bne_eq_false_iff_eq, decide_eq_false_iff_not, beq_eq_false_iff_ne, ne_eq, Bool.not_eq_false'] at hg
    obtain ⟨⟨⟨⟨⟨⟨g1, g2⟩, g3⟩, g4⟩, g5⟩, g6⟩, g7⟩ := hg
    subst g1
    have hf := fit_ours hd (.inr (.inr rfl)) g7
    refine ⟨?_, ⟨.inr (.inr (.inl rfl)), fun _ => ⟨rfl, fun e => ?_⟩, fun e => absurd rfl e, fun _ => rfl⟩⟩
    · unfold opdA adrA
      rw [if_neg (show ¬ ((2 : Int) == 1) = true by decide), if_pos (show ((2 : Int) == 2) = true from rfl), if_pos (show ((0 : Int) == 0) = true from rfl)]
      simp only [orI, andI, nandI, hf, isW]
      rw [hz, decide_eq_false g2, decide_eq_false g3, decide_eq_false g4, decide_eq_false g5, beq_eq_false_iff_ne.2 g6]
      rfl
    · subst e
      simpa using hz
  · rw [if_neg (by simpa using h2)] at h
    simp only [andI, orI] at h
    simp only [Bool.and_eq_true, Bool.or_eq_true, beq_iff_eq, decide_eq_true_eq, and_true, true_and] at h
    · obtain ⟨⟨⟨z1, z2, z3, z4⟩, hk⟩, hr⟩ := h
      subst z1 z2 z3 z4
      refine ⟨?_, ⟨by omega, fun e => absurd e h2, fun _ => ⟨rfl, rfl, rfl, rfl⟩, fun e => by omega⟩⟩
      unfold opdA zA
      simp only [andI, orI, beq_self_eq_true, Bool.and_true, Bool.true_and]
      by_cases h1 : ak = 1
      · subst h1
        simp
        omega
      · have : ar = 0 := by omega
        subst this
        simp [h1, h2]
        omega
theorem dig1 (w : Int) : digA w 49 = (w == 1) := rfl
theorem dig2 (w : Int) : digA w 50 = (w == 2) := rfl
theorem dig4 (w : Int) : digA w 52 = (w == 4) := rfl
theorem dig8 (w : Int) : digA w 56 = (w == 8) := rfl
theorem kch0 (k : Int) : kchA k 110 = (k == 0) := by
  unfold kchA kx2 kx1 kx0
  cases (k == 0) <;> cases (k == 1) <;> cases (k == 2) <;> cases (k == 3) <;> rfl
theorem kch1 (k : Int) : kchA k 114 = (k == 1) := by
  unfold kchA kx2 kx1 kx0
  cases (k == 0) <;> cases (k == 1) <;> cases (k == 2) <;> cases (k == 3) <;> rfl
theorem kch2 (k : Int) : kchA k 109 = (k == 2) := by
  unfold kchA kx2 kx1 kx0
  cases (k == 0) <;> cases (k == 1) <;> cases (k == 2) <;> cases (k == 3) <;> rfl
theorem kch3 (k : Int) : kchA k 105 = (k == 3) := by
  unfold kchA kx2 kx1 kx0
  cases (k == 0) <;> cases (k == 1) <;> cases (k == 2) <;> cases (k == 3) <;> rfl
/-- The reference's shape, in words. -/
def shapeP (op w ak bk br : Int) : Prop :=
  ((fS1 op = true ∧ (w = 1 ∨ w = 2 ∨ w = 4 ∨ w = 8) ∧ (ak = 1 ∨ ak = 2) ∧ (bk = 1 ∨ bk = 2 ∨ bk = 3) ∧ (ak ≠ 2 ∨ bk ≠ 2)) ∨
  (fS2 op = true ∧ (w = 1 ∨ w = 2 ∨ w = 4 ∨ w = 8) ∧ (ak = 1 ∨ ak = 2) ∧ (bk = 1 ∨ bk = 3)) ∨
  (fS3 op = true ∧ (w = 2 ∨ w = 4 ∨ w = 8) ∧ ak = 1 ∧ (bk = 1 ∨ bk = 2)) ∨
  (fS4 op = true ∧ (w = 2 ∨ w = 4 ∨ w = 8) ∧ ak = 1 ∧ bk = 2) ∨
  (fS5 op = true ∧ w = 8 ∧ (ak = 1 ∨ ak = 2 ∨ ak = 3) ∧ bk = 0) ∨
  (fS6 op = true ∧ w = 8 ∧ (ak = 1 ∨ ak = 2) ∧ bk = 0) ∨
  (fS7 op = true ∧ (w = 1 ∨ w = 2 ∨ w = 4 ∨ w = 8) ∧ (ak = 1 ∨ ak = 2) ∧ bk = 0) ∨
  (fS8 op = true ∧ (w = 1 ∨ w = 2 ∨ w = 4) ∧ (ak = 1 ∨ ak = 2) ∧ bk = 0)) ∨
  ((fS9 op = true ∧ (w = 1 ∨ w = 2 ∨ w = 4 ∨ w = 8) ∧ (ak = 1 ∨ ak = 2) ∧ (bk = 3 ∨ bk = 1 ∧ br = 1)) ∨
  (fSa op = true ∧ (w = 1 ∨ w = 2 ∨ w = 4 ∨ w = 8) ∧ (ak = 1 ∨ ak = 2) ∧ bk = 1) ∨
  (fSb op = true ∧ w = 1 ∧ (ak = 1 ∨ ak = 2) ∧ bk = 0) ∨
  (fJl op = true ∧ w = 8 ∧ (ak = 0 ∨ ak = 1 ∨ ak = 2) ∧ bk = 0) ∨
  (fSc op = true ∧ (w = 2 ∨ w = 4 ∨ w = 8) ∧ ak = 0 ∧ bk = 0) ∨
  (fMs op = true ∧ (w = 1 ∨ w = 2 ∨ w = 4 ∨ w = 8) ∧ ak = 0 ∧ bk = 0) ∨
  (fSd op = true ∧ w = 8 ∧ ak = 0 ∧ bk = 0))
theorem iteT {c a b : Bool} (h : (if c = true then a else b) = true) : (c = true ∧ a = true) ∨ (c = false ∧ b = true) := by
  cases c
  · exact .inr ⟨rfl, h⟩
  · exact .inl ⟨rfl, h⟩
theorem wk_of {w ak bk : Int} {s a b : List UInt8} (h : wk w ak bk s a b = true) : widA w s = true ∧ kinA ak a = true ∧ kinA bk b = true := by
  unfold wk at h
  simp only [andI] at h
  simp only [Bool.and_eq_true] at h
  exact ⟨h.1.1, h.1.2, h.2⟩
theorem shape_of {op w ak bk br : Int} (h : shapeB op w ak bk br = true) : shapeP op w ak bk br := by
  have W : ∀ {s}, widA w s = true → widA w s = true := fun h => h
  have k1 : ∀ {k : Int} {a}, kinA k [a] = true → kchA k a = true := fun h => by simpa [kinA, anyC] using h
  have k2 : ∀ {k : Int} {a b}, kinA k [a, b] = true → kchA k a = true ∨ kchA k b = true := fun h => by simpa [kinA, anyC] using h
  have k3 : ∀ {k : Int} {a b c}, kinA k [a, b, c] = true → kchA k a = true ∨ kchA k b = true ∨ kchA k c = true := fun h => by simpa [kinA, anyC] using h
  have e0 : widA w w0 = true → w = 1 ∨ w = 2 ∨ w = 4 ∨ w = 8 := fun h => by simpa [widA, anyC, dig1, dig2, dig4, dig8] using h
  have e1 : widA w w1 = true → w = 2 ∨ w = 4 ∨ w = 8 := fun h => by simpa [widA, anyC, dig1, dig2, dig4, dig8] using h
  have e2 : widA w w2 = true → w = 8 := fun h => by simpa [widA, anyC, dig1, dig2, dig4, dig8] using h
  have e3 : widA w w3 = true → w = 1 ∨ w = 2 ∨ w = 4 := fun h => by simpa [widA, anyC, dig1, dig2, dig4, dig8] using h
  have e4 : widA w w4 = true → w = 1 := fun h => by simpa [widA, anyC, dig1, dig2, dig4, dig8] using h
  unfold shapeB at h
  rw [isA_S1, isA_S2, isA_S3, isA_S4, isA_S5, isA_S6, isA_S7, isA_S8, isA_S9, isA_Sa, isA_Sb, isA_Jl, isA_Sc, isA_Ms, isA_Sd] at h
  unfold shapeP
  replace h := iteT h
  rcases h with ⟨f, h⟩ | ⟨_, h⟩
  · simp only [andI, orI] at h
    simp only [Bool.and_eq_true, Bool.or_eq_true, bne_iff_ne] at h
    obtain ⟨a, b, c⟩ := wk_of h.1
    have := k2 b; have := k3 c
    simp only [kch0, kch1, kch2, kch3, beq_iff_eq] at *
    exact .inl (.inl ⟨f, e0 a, by assumption, by assumption, h.2⟩)
  replace h := iteT h
  rcases h with ⟨f, h⟩ | ⟨_, h⟩
  · obtain ⟨a, b, c⟩ := wk_of h
    have b := k2 b; have c := k2 c
    simp only [kch0, kch1, kch2, kch3, beq_iff_eq] at b c
    exact .inl (.inr (.inl ⟨f, e0 a, b, c⟩))
  replace h := iteT h
  rcases h with ⟨f, h⟩ | ⟨_, h⟩
  · obtain ⟨a, b, c⟩ := wk_of h
    have b := k1 b; have c := k2 c
    simp only [kch0, kch1, kch2, kch3, beq_iff_eq] at b c
    exact .inl (.inr (.inr (.inl ⟨f, e1 a, b, c⟩)))
  replace h := iteT h
  rcases h with ⟨f, h⟩ | ⟨_, h⟩
  · obtain ⟨a, b, c⟩ := wk_of h
    have b := k1 b; have c := k1 c
    simp only [kch0, kch1, kch2, kch3, beq_iff_eq] at b c
    exact .inl (.inr (.inr (.inr (.inl ⟨f, e1 a, b, c⟩))))
  replace h := iteT h
  rcases h with ⟨f, h⟩ | ⟨_, h⟩
  · obtain ⟨a, b, c⟩ := wk_of h
    have b := k3 b; have c := k1 c
    simp only [kch0, kch1, kch2, kch3, beq_iff_eq] at b c
    exact .inl (.inr (.inr (.inr (.inr (.inl ⟨f, e2 a, b, c⟩)))))
  replace h := iteT h
  rcases h with ⟨f, h⟩ | ⟨_, h⟩
  · obtain ⟨a, b, c⟩ := wk_of h
    have b := k2 b; have c := k1 c
    simp only [kch0, kch1, kch2, kch3, beq_iff_eq] at b c
    exact .inl (.inr (.inr (.inr (.inr (.inr (.inl ⟨f, e2 a, b, c⟩))))))
  replace h := iteT h
  rcases h with ⟨f, h⟩ | ⟨_, h⟩
  · obtain ⟨a, b, c⟩ := wk_of h
    have b := k2 b; have c := k1 c
    simp only [kch0, kch1, kch2, kch3, beq_iff_eq] at b c
    exact .inl (.inr (.inr (.inr (.inr (.inr (.inr (.inl ⟨f, e0 a, b, c⟩)))))))
  replace h := iteT h
  rcases h with ⟨f, h⟩ | ⟨_, h⟩
  · obtain ⟨a, b, c⟩ := wk_of h
    have b := k2 b; have c := k1 c
    simp only [kch0, kch1, kch2, kch3, beq_iff_eq] at b c
    exact .inl (.inr (.inr (.inr (.inr (.inr (.inr (.inr ⟨f, e3 a, b, c⟩)))))))
  replace h := iteT h
  rcases h with ⟨f, h⟩ | ⟨_, h⟩
  · simp only [andI, orI] at h
    simp only [Bool.and_eq_true, Bool.or_eq_true, beq_iff_eq] at h
    obtain ⟨⟨a, b⟩, c⟩ := h
    have b := k2 b
    have c : bk = 3 ∨ bk = 1 ∧ br = 1 := c.imp (fun c => by have := k1 c; simpa [kch3] using this) id
    simp only [kch0, kch1, kch2, kch3, beq_iff_eq] at b
    exact .inr (.inl ⟨f, e0 a, b, c⟩)
  replace h := iteT h
  rcases h with ⟨f, h⟩ | ⟨_, h⟩
  · obtain ⟨a, b, c⟩ := wk_of h
    have b := k2 b; have c := k1 c
    simp only [kch0, kch1, kch2, kch3, beq_iff_eq] at b c
    exact .inr (.inr (.inl ⟨f, e0 a, b, c⟩))
  replace h := iteT h
  rcases h with ⟨f, h⟩ | ⟨_, h⟩
  · obtain ⟨a, b, c⟩ := wk_of h
    have b := k2 b; have c := k1 c
    simp only [kch0, kch1, kch2, kch3, beq_iff_eq] at b c
    exact .inr (.inr (.inr (.inl ⟨f, e4 a, b, c⟩)))
  replace h := iteT h
  rcases h with ⟨f, h⟩ | ⟨_, h⟩
  · obtain ⟨a, b, c⟩ := wk_of h
    have b := k3 b; have c := k1 c
    simp only [kch0, kch1, kch2, kch3, beq_iff_eq] at b c
    exact .inr (.inr (.inr (.inr (.inl ⟨f, e2 a, b, c⟩))))
  replace h := iteT h
  rcases h with ⟨f, h⟩ | ⟨_, h⟩
  · obtain ⟨a, b, c⟩ := wk_of h
    have b := k1 b; have c := k1 c
    simp only [kch0, kch1, kch2, kch3, beq_iff_eq] at b c
    exact .inr (.inr (.inr (.inr (.inr (.inl ⟨f, e1 a, b, c⟩)))))
  replace h := iteT h
  rcases h with ⟨f, h⟩ | ⟨_, h⟩
  · obtain ⟨a, b, c⟩ := wk_of h
    have b := k1 b; have c := k1 c
    simp only [kch0, kch1, kch2, kch3, beq_iff_eq] at b c
    exact .inr (.inr (.inr (.inr (.inr (.inr (.inl ⟨f, e0 a, b, c⟩))))))
  · simp only [andI] at h
    simp only [Bool.and_eq_true] at h
    obtain ⟨⟨⟨f, a⟩, b⟩, c⟩ := h
    have b := k1 b; have c := k1 c
    simp only [kch0, kch1, kch2, kch3, beq_iff_eq] at b c
    exact .inr (.inr (.inr (.inr (.inr (.inr (.inr ⟨f, e2 a, b, c⟩))))))
end Go.Proofs.YtbdddnjncakooaaDoor
set_option maxRecDepth 100000
namespace Go.Proofs.YtbdddnjncakooaaDoor
open Go.Proofs.YtbdddnjncakooaaDoor.Ev Go.RowKit
/- Plain: what may be for the reference may be for the program. -/
theorem isW_of {w : Int} (h : w = 1 ∨ w = 2 ∨ w = 4 ∨ w = 8) : isW w = true := by rcases h with rfl | rfl | rfl | rfl <;> rfl
theorem wideB_of {w : Int} (h : w = 2 ∨ w = 4 ∨ w = 8) : wideB w = true := by rcases h with rfl | rfl | rfl <;> rfl
theorem opK1 {ak ar ab ai ac ad k : Int} (h : opdA ak ar ab ai ac ad = true) (hk : ak = k) : opK ak ar ab ai ac ad [k] = true := by
  subst hk
  unfold opK isK
  rw [h, beq_self_eq_true]; rfl
theorem opK2 {ak ar ab ai ac ad k l : Int} (h : opdA ak ar ab ai ac ad = true) (hk : ak = k ∨ ak = l) : opK ak ar ab ai ac ad [k, l] = true := by
  unfold opK isK isK
  rw [h]
  rcases hk with rfl | rfl
  · rw [beq_self_eq_true]; rfl
  · rw [beq_self_eq_true]; cases (ak == k) <;> rfl
theorem opK3 {ak ar ab ai ac ad k l m : Int} (h : opdA ak ar ab ai ac ad = true) (hk : ak = k ∨ ak = l ∨ ak = m) : opK ak ar ab ai ac ad [k, l, m] = true := by
  unfold opK isK isK isK
  rw [h]
  rcases hk with rfl | rfl | rfl
  · rw [beq_self_eq_true]; rfl
  · rw [beq_self_eq_true]; cases (ak == k) <;> rfl
  · rw [beq_self_eq_true]; cases (ak == k) <;> cases (ak == l) <;> rfl
def hasP (op ak bk : Int) : Prop := ak = 3 ∨ bk = 3 ∨ op = 25 ∨ op = 36 ∨ (37 ≤ op ∧ op ≤ 38 ∧ ak = 0)
structure ImmP (op w ak bk im : Int) : Prop where
  i0 : ¬ hasP op ak bk → im = 0
  i1 : hasP op ak bk → (26 ≤ op ∧ op ≤ 30) → 0 ≤ im ∧ im ≤ 255
  i2 : hasP op ak bk → ¬ (26 ≤ op ∧ op ≤ 30) → ¬ (op = 10 ∧ w = 8 ∧ ak = 1) → immIs w im = true
theorem has_iff (op ak bk : Int) : hasB op ak bk = true ↔ hasP op ak bk := by
  unfold hasB hasP
  rw [isA_Ii, isA_Jl]
  unfold fIi fJl
  simp only [andI, orI]
  simp only [Bool.or_eq_true, Bool.and_eq_true, beq_iff_eq, inB_iff]
  omega
theorem immP_of {op w ak bk im : Int} (him : IntKind.i64.has im) (hw : w = 1 ∨ w = 2 ∨ w = 4 ∨ w = 8) (h : immR op w ak bk im = true) : ImmP op w ak bk im := by
  unfold immR at h
  rw [isA_S9, isA_Mv] at h
  have hh := has_iff op ak bk
  replace h := iteT h
  rcases h with ⟨f, h⟩ | ⟨f, h⟩
  · have nh : ¬ hasP op ak bk := fun e => by rw [hh.2 e] at f; cases f
    exact ⟨fun _ => by simpa using h, fun e => absurd e nh, fun e => absurd e nh⟩
  have hp : hasP op ak bk := hh.1 (by simpa using f)
  replace h := iteT h
  rcases h with ⟨f, h⟩ | ⟨f, h⟩
  · have : 26 ≤ op ∧ op ≤ 30 := inB_iff.1 f
    simp only [andI] at h
    simp only [Bool.and_eq_true, decide_eq_true_eq] at h
    exact ⟨fun e => absurd hp e, fun _ _ => h, fun _ e => absurd this e⟩
  have n9 : ¬ (26 ≤ op ∧ op ≤ 30) := fun e => by rw [show fS9 op = true from inB_iff.2 e] at f; cases f
  replace h := iteT h
  rcases h with ⟨f, h⟩ | ⟨f, h⟩
  · have : op = 10 ∧ w = 8 ∧ ak = 1 := by
      unfold fMv at f
      simp only [andI] at f
      simp only [Bool.and_eq_true, beq_iff_eq] at f
      exact ⟨f.1.1, f.1.2, f.2⟩
    exact ⟨fun e => absurd hp e, fun _ e => absurd e n9, fun _ _ e => absurd this e⟩
  · exact ⟨fun e => absurd hp e, fun _ e => absurd e n9, fun _ _ _ => imm_ours him hw h⟩
theorem immBB_of {op w ak bk im : Int} (h : ImmP op w ak bk im) (ha : ak ≠ 3) (ho : ¬ (25 ≤ op ∧ op ≤ 38)) (hx : ¬ (op = 10 ∧ w = 8 ∧ ak = 1 ∧ bk = 3)) : immBB w bk im = true := by
  unfold immBB
  by_cases hb : bk = 3
  · rw [h.i2 (by unfold hasP; omega) (by omega) (by omega), show (bk == 3) = true by simpa using hb]
    rfl
  · rw [h.i0 (by unfold hasP; omega), show (bk == 3) = false by simpa using hb, show (bk != 3) = true by simpa using hb]
    rfl
theorem zO_of {ak ar ab ai ac ad : Int} (o : OpdOk ak ar ab ai ac ad) (h : ak = 0) : zO ak ar ab ai ac ad = true := by
  have h1 := o.bare (by omega)
  have h2 := o.reg (by omega)
  obtain ⟨rfl, rfl, rfl, rfl⟩ := h1
  subst h h2
  rfl
theorem eqs {a b : Int} (h : a ≠ b) : (a == b) = false := by simpa using h
theorem two_one {op w v ak ar ab ai ac ad bk br bb bi bc bd im : Int} (hs : shapeP op w ak bk br) (hA : opdA ak ar ab ai ac ad = true) (hB : opdA bk br bb bi bc bd = true) (oA : OpdOk ak ar ab ai ac ad) (oB : OpdOk bk br bb bi bc bd) (hi : ImmP op w ak bk im)
    (hv : (11 ≤ op ∧ op ≤ 12) → v = 1 ∨ v = 2 ∧ 4 ≤ w ∨ v = 4 ∧ w = 8 ∧ op = 12) : (twoB op w v ak ar ab ai ac ad bk br bb bi bc bd im || oneB op w ak ar ab ai ac ad bk br bb bi bc bd im) = true := by
  have T : ∀ {b : Bool}, twoB op w v ak ar ab ai ac ad bk br bb bi bc bd im = b → b = true → (twoB op w v ak ar ab ai ac ad bk br bb bi bc bd im || oneB op w ak ar ab ai ac ad bk br bb bi bc bd im) = true := fun h e => by rw [h, e]; rfl
  have O : ∀ {b : Bool}, oneB op w ak ar ab ai ac ad bk br bb bi bc bd im = b → b = true → (twoB op w v ak ar ab ai ac ad bk br bb bi bc bd im || oneB op w ak ar ab ai ac ad bk br bb bi bc bd im) = true := fun h e => by rw [h, e]; exact Bool.or_true _
  unfold shapeP at hs
  rcases hs with (⟨f, hw, ha, hb, hm⟩ | ⟨f, hw, ha, hb⟩ | ⟨f, hw, ha, hb⟩ | ⟨f, hw, ha, hb⟩ | ⟨f, hw, ha, hb⟩ | ⟨f, hw, ha, hb⟩ | ⟨f, hw, ha, hb⟩ | ⟨f, hw, ha, hb⟩) | (⟨f, hw, ha, hb⟩ | ⟨f, hw, ha, hb⟩ | ⟨f, hw, ha, hb⟩ | ⟨f, hw, ha, hb⟩ | ⟨f, hw, ha, hb⟩ | ⟨f, hw, ha, hb⟩ | ⟨f, hw, ha, hb⟩)
  · -- two of registers, memory, immediates
    have hM : mmB ak bk = false := by
      unfold mmB
      rcases hm with h | h
      · rw [eqs h]; rfl
      · rw [eqs h]; cases (ak == 2) <;> rfl
    unfold fS1 at f
    simp only [Bool.or_eq_true, beq_iff_eq, inB_iff] at f
    rcases f with f | rfl
    · refine T (b := two1 w ak ar ab ai ac ad bk br bb bi bc bd im) (by unfold twoB; rw [inB_iff.2 f]; rfl) ?_
      unfold two1
      rw [isW_of hw, opK2 hA ha, opK3 hB hb, hM, immBB_of hi (by omega) (by omega) (by omega)]
      rfl
    · refine T (b := two3 w ak ar ab ai ac ad bk br bb bi bc bd im) (by unfold twoB; rfl) ?_
      unfold two3
      rw [isW_of hw, opK2 hA ha, opK3 hB hb, hM]
      by_cases hx : w = 8 ∧ ak = 1 ∧ bk = 3
      · obtain ⟨rfl, rfl, rfl⟩ := hx
        cases immBB 8 3 im <;> rfl
      · rw [immBB_of hi (by omega) (by omega) (by omega)]
        rfl
  · -- test
    unfold fS2 at f
    obtain rfl : op = 9 := by simpa using f
    refine T (b := two2 w ak ar ab ai ac ad bk br bb bi bc bd im) (by unfold twoB; rfl) ?_
    unfold two2
    rw [isW_of hw, opK2 hA ha, opK2 hB hb, immBB_of hi (by omega) (by omega) (by omega)]
    rfl
  · -- movzx movsx imul imuli cmov
    unfold fS3 at f
    simp only [Bool.or_eq_true, beq_iff_eq, inB_iff] at f
    rcases f with (f | f) | rfl
    · refine T (b := two4 op w v ak ar ab ai ac ad bk br bb bi bc bd) (by unfold twoB; rw [inB_out (by omega), eqs (show op ≠ 9 by omega), eqs (show op ≠ 10 by omega), inB_iff.2 f]; rfl) ?_
      unfold two4
      rw [wideB_of hw, opK1 hA ha, opK2 hB hb]
      show w2B op w v = true
      have h2 := hv f
      unfold w2B
      simp only [andI, orI]
      simp only [Bool.or_eq_true, Bool.and_eq_true, beq_iff_eq, decide_eq_true_eq]
      omega
    · refine T (b := two6 w ak ar ab ai ac ad bk br bb bi bc bd im) (by unfold twoB; rw [inB_out (by omega), eqs (show op ≠ 9 by omega), eqs (show op ≠ 10 by omega), inB_out (by omega), eqs (show op ≠ 13 by omega), inB_iff.2 f]; rfl) ?_
      unfold two6
      rw [wideB_of hw, opK1 hA ha, opK2 hB hb]
      show immIs w im = true
      by_cases hp : hasP op ak bk
      · exact hi.i2 hp (by omega) (by omega)
      · rw [hi.i0 hp]
        rcases hw with rfl | rfl | rfl <;> decide +kernel
    · refine T (b := two9 34 w ak ar ab ai ac ad bk br bb bi bc bd) (by unfold twoB; rfl) ?_
      unfold two9
      rw [wideB_of hw, opK1 hA ha, opK2 hB hb]
      rfl
  · -- lea
    unfold fS4 at f
    obtain rfl : op = 13 := by simpa using f
    refine T (b := two5 w ak ar ab ai ac ad bk br bb bi bc bd) (by unfold twoB; rfl) ?_
    unfold two5
    rw [wideB_of hw, opK1 hA ha, opK1 hB hb]
    rfl
  · -- push
    unfold fS5 at f
    obtain rfl : op = 14 := by simpa using f
    subst hw
    refine O (b := one1 8 ak ar ab ai ac ad im) (by unfold oneB; rw [zO_of oB hb]; rfl) ?_
    unfold one1
    rw [opK3 hA ha]
    by_cases hk : ak = 3
    · rw [hi.i2 (by unfold hasP; omega) (by omega) (by omega), show (ak == 3) = true by simpa using hk]
      rfl
    · rw [hi.i0 (by unfold hasP; omega), eqs hk]
      rfl
  · -- pop
    unfold fS6 at f
    obtain rfl : op = 15 := by simpa using f
    subst hw
    refine O (b := one2 8 ak ar ab ai ac ad) (by unfold oneB; rw [zO_of oB hb]; rfl) ?_
    unfold one2
    rw [opK2 hA ha]
    rfl
  · -- inc .. smul
    have f : 16 ≤ op ∧ op ≤ 21 := inB_iff.1 f
    refine O (b := one3 w ak ar ab ai ac ad) (by unfold oneB; rw [zO_of oB hb, eqs (show op ≠ 14 by omega), eqs (show op ≠ 15 by omega), inB_iff.2 f]; rfl) ?_
    unfold one3
    rw [isW_of hw, opK2 hA ha]
    rfl
  · -- div sdiv
    have f : 22 ≤ op ∧ op ≤ 23 := inB_iff.1 f
    refine O (b := one4 w ak ar ab ai ac ad) (by unfold oneB; rw [zO_of oB hb, eqs (show op ≠ 14 by omega), eqs (show op ≠ 15 by omega), inB_out (by omega), inB_iff.2 f]; rfl) ?_
    unfold one4
    rw [isW_of (by omega), opK2 hA ha, decide_eq_true (show w < 8 by omega)]
    rfl
  · -- rol .. sar
    have f : 26 ≤ op ∧ op ≤ 30 := inB_iff.1 f
    refine T (b := two7 w ak ar ab ai ac ad bk br bb bi bc bd im) (by unfold twoB; rw [inB_out (by omega), eqs (show op ≠ 9 by omega), eqs (show op ≠ 10 by omega), inB_out (by omega), eqs (show op ≠ 13 by omega), inB_out (by omega), inB_iff.2 f]; rfl) ?_
    unfold two7
    rw [isW_of hw, opK2 hA ha]
    rcases hb with hb | ⟨hb, h1⟩
    · have := hi.i1 (by unfold hasP; omega) f
      rw [opK1 hB hb, decide_eq_true this.1, decide_eq_true this.2, eqs (show bk ≠ 1 by omega)]
      rfl
    · have h0 := oB.bare (by omega)
      rw [hi.i0 (by unfold hasP; omega), hb, h1, h0.1, h0.2.1, h0.2.2.1, h0.2.2.2]
      rfl
  · -- xchg cas xadd
    have f : 31 ≤ op ∧ op ≤ 33 := inB_iff.1 f
    refine T (b := two8 w ak ar ab ai ac ad bk br bb bi bc bd) (by unfold twoB; rw [inB_out (by omega), eqs (show op ≠ 9 by omega), eqs (show op ≠ 10 by omega), inB_out (by omega), eqs (show op ≠ 13 by omega), inB_out (by omega), inB_out (by omega), inB_iff.2 f]; rfl) ?_
    unfold two8
    rw [isW_of hw, opK2 hA ha, opK1 hB hb]
    rfl
  · -- set
    unfold fSb at f
    obtain rfl : op = 35 := by simpa using f
    subst hw
    refine O (b := one5 1 ak ar ab ai ac ad) (by unfold oneB; rw [zO_of oB hb]; rfl) ?_
    unfold one5
    rw [opK2 hA ha]
    rfl
  · -- jmp call
    have f : 37 ≤ op ∧ op ≤ 38 := inB_iff.1 f
    subst hw
    refine O (b := one6 8 ak ar ab ai ac ad im) (by unfold oneB; rw [zO_of oB hb, eqs (show op ≠ 14 by omega), eqs (show op ≠ 15 by omega), inB_out (by omega), inB_out (by omega), eqs (show op ≠ 35 by omega), inB_iff.2 f]; rfl) ?_
    unfold one6
    by_cases hk : ak = 0
    · rw [opK1 hA hk, hi.i2 (by unfold hasP; omega) (by omega) (by omega)]
      rfl
    · rw [opK2 hA (show ak = 1 ∨ ak = 2 by omega), hi.i0 (by unfold hasP; omega)]
      cases (if opK ak ar ab ai ac ad [0] = true then immIs 8 0 else false) <;> rfl
  · -- wide sign
    have f : 40 ≤ op ∧ op ≤ 41 := inB_iff.1 f
    refine O (b := one8 w ak ar ab ai ac ad) (by unfold oneB; rw [zO_of oB hb, eqs (show op ≠ 14 by omega), eqs (show op ≠ 15 by omega), inB_out (by omega), inB_out (by omega), eqs (show op ≠ 35 by omega), inB_out (by omega), eqs (show op ≠ 36 by omega), inB_iff.2 f]; rfl) ?_
    unfold one8
    rw [wideB_of hw, opK1 hA ha]
    rfl
  · -- movs stos
    have f : 42 ≤ op ∧ op ≤ 43 := inB_iff.1 f
    refine O (b := one9 w ak ar ab ai ac ad) (by unfold oneB; rw [zO_of oB hb, eqs (show op ≠ 14 by omega), eqs (show op ≠ 15 by omega), inB_out (by omega), inB_out (by omega), eqs (show op ≠ 35 by omega), inB_out (by omega), eqs (show op ≠ 36 by omega), inB_out (by omega), inB_iff.2 f]; rfl) ?_
    unfold one9
    rw [isW_of hw, opK1 hA ha]
    rfl
  · -- jcc ret fence nop sys ud
    unfold fSd at f
    simp only [Bool.or_eq_true, beq_iff_eq, inB_iff] at f
    subst hw
    rcases f with (rfl | rfl) | f
    · refine O (b := one7 8 ak ar ab ai ac ad im) (by unfold oneB; rw [zO_of oB hb]; rfl) ?_
      unfold one7
      rw [opK1 hA ha, hi.i2 (by unfold hasP; omega) (by omega) (by omega)]
      rfl
    · refine O (b := onea 39 8 ak ar ab ai ac ad) (by unfold oneB; rw [zO_of oB hb]; rfl) ?_
      unfold onea
      rw [opK1 hA ha]
      rfl
    · refine O (b := onea op 8 ak ar ab ai ac ad) (by unfold oneB; rw [zO_of oB hb, eqs (show op ≠ 14 by omega), eqs (show op ≠ 15 by omega), inB_out (by omega), inB_out (by omega), eqs (show op ≠ 35 by omega), inB_out (by omega), eqs (show op ≠ 36 by omega), inB_out (by omega), inB_out (by omega)]; rfl) ?_
      unfold onea
      rw [opK1 hA ha, inB_iff.2 f]
      cases (op == 39) <;> rfl
end Go.Proofs.YtbdddnjncakooaaDoor
set_option maxRecDepth 100000
namespace Go.Proofs.YtbdddnjncakooaaDoor
open Go.Proofs.YtbdddnjncakooaaDoor.Ev Go.RowKit
/- The law InstSame. -/
theorem iteF {c b : Bool} (h : (if c = true then false else b) = true) : c = false ∧ b = true := by
  cases c
  · exact ⟨rfl, h⟩
  · cases h
theorem width_of {op w ak bk br : Int} (hs : shapeP op w ak bk br) : w = 1 ∨ w = 2 ∨ w = 4 ∨ w = 8 := by
  unfold shapeP at hs
  rcases hs with (h | h | h | h | h | h | h | h) | (h | h | h | h | h | h | h) <;> (have := h.2.1; omega)
theorem may_ok {op w v ak ar ab ai ac ad bk br bb bi bc bd im cc : Int} {lk rp : Bool} {ln : Int} (him : IntKind.i64.has im) (had : IntKind.i64.has ad) (hbd : IntKind.i64.has bd) (h : mayR op w v ak ar ab ai ac ad bk br bb bi bc bd im cc lk rp ln = true) : mayA op w v ak ar ab ai ac ad bk br bb bi bc bd im cc lk rp ln = true ∧ InstOk op w v ak ar ab ai ac ad bk br bb bi bc bd im cc lk rp ln := by
  unfold mayR at h
  obtain ⟨e1, h⟩ := iteF h
  obtain ⟨e2, h⟩ := iteF h
  rw [isA_Mz] at h
  have h3 : ((11 ≤ op ∧ op ≤ 12) ∧ may3 op w v = true ∨ ¬ (11 ≤ op ∧ op ≤ 12) ∧ v = 0) ∧ may4 op ak lk = false ∧ may5 op rp = true := by
    replace h := iteT h
    rcases h with ⟨f, h⟩ | ⟨f, h⟩
    · obtain ⟨g1, h⟩ := iteF h
      obtain ⟨g2, h⟩ := iteF h
      exact ⟨.inl ⟨inB_iff.1 f, by simpa using g1⟩, g2, h⟩
    · obtain ⟨g1, h⟩ := iteF h
      obtain ⟨g2, h⟩ := iteF h
      refine ⟨.inr ⟨fun e => ?_, by simpa using g1⟩, g2, h⟩
      rw [show fMz op = true from inB_iff.2 e] at f
      cases f
  clear h
  obtain ⟨h3, e4, e5⟩ := h3
  unfold may1 at e1
  simp only [orI] at e1
  simp only [Bool.or_eq_false_iff, Bool.not_eq_false', decide_eq_false_iff_not] at e1
  obtain ⟨⟨⟨⟨⟨hs, hA⟩, hB⟩, hI⟩, hl⟩, hl'⟩ := e1
  obtain ⟨pA, oA⟩ := opd_ok ak ar ab ai ac ad had hA
  obtain ⟨pB, oB⟩ := opd_ok bk br bb bi bc bd hbd hB
  have sP := shape_of hs
  have hw := width_of sP
  have iP := immP_of him hw hI
  have c34 : (34 ≤ op ∧ op ≤ 36) ∧ 0 ≤ cc ∧ cc ≤ 15 ∨ ¬ (34 ≤ op ∧ op ≤ 36) ∧ cc = 0 := by
    unfold may2 at e2
    rw [isA_Cc] at e2
    unfold fCc at e2
    simp only [andI, orI] at e2
    cases hc : inB 34 op 36 with
    | true =>
      rw [hc] at e2
      simp at e2
      exact .inl ⟨inB_iff.1 hc, by omega⟩
    | false =>
      rw [hc] at e2
      simp at e2
      refine .inr ⟨fun e => ?_, e2⟩
      rw [inB_iff.2 e] at hc
      cases hc
  have hv : (11 ≤ op ∧ op ≤ 12) → v = 1 ∨ v = 2 ∧ 4 ≤ w ∨ v = 4 ∧ w = 8 ∧ op = 12 := fun hr => by
    rcases h3 with ⟨_, h⟩ | ⟨h, _⟩
    · unfold may3 at h
      rw [isA_Mx] at h
      unfold fMx at h
      simp only [andI, orI] at h
      simp only [Bool.or_eq_true, Bool.and_eq_true, beq_iff_eq, decide_eq_true_eq] at h
      omega
    · exact absurd hr h
  have l4 : lk = true → ak = 2 ∧ ((1 ≤ op ∧ op ≤ 7) ∨ (16 ≤ op ∧ op ≤ 19) ∨ (31 ≤ op ∧ op ≤ 33)) := fun e => by
    subst e
    unfold may4 at e4
    rw [isA_Lk] at e4
    unfold fLk at e4
    simp only [andI, orI] at e4
    simp at e4
    obtain ⟨h1, h2⟩ := e4
    refine ⟨h1, ?_⟩
    cases g1 : inB 1 op 7 with
    | true => exact .inl (inB_iff.1 g1)
    | false =>
      cases g2 : inB 16 op 19 with
      | true => exact .inr (.inl (inB_iff.1 g2))
      | false => exact .inr (.inr (inB_iff.1 (h2 g1 g2)))
  have r5 : rp = true → 42 ≤ op ∧ op ≤ 43 := fun e => by
    subst e
    unfold may5 at e5
    rw [isA_Ms] at e5
    exact inB_iff.1 (show fMs op = true by simpa using e5)
  have t1 := two_one (v := v) sP pA pB oA oB iP hv
  have rng : 1 ≤ op ∧ op ≤ 47 := by
    have sQ := sP
    unfold shapeP fS1 fS2 fS3 fS4 fS5 fS6 fS7 fS8 fS9 fSa fSb fJl fSc fMs fSd at sQ
    simp only [Bool.or_eq_true, beq_iff_eq, inB_iff] at sQ
    clear sP t1 l4 r5 hv c34 iP
    rcases sQ with (⟨h, _⟩ | ⟨h, _⟩ | ⟨h, _⟩ | ⟨h, _⟩ | ⟨h, _⟩ | ⟨h, _⟩ | ⟨h, _⟩ | ⟨h, _⟩) | (⟨h, _⟩ | ⟨h, _⟩ | ⟨h, _⟩ | ⟨h, _⟩ | ⟨h, _⟩ | ⟨h, _⟩ | ⟨h, _⟩) <;> omega
  refine ⟨?_, ⟨rng, oA, oB, ?_, ?_, fun e => (l4 e).1, fun e => inB_iff.2 (r5 e), ?_, ?_, ?_, ?_, ?_⟩⟩
  · have hL : lockB op ak lk rp ln = true := by
      unfold lockB
      simp only [andI, orI, nandI]
      rw [decide_eq_false hl, decide_eq_false hl']
      have q1 : (rp && !inB 42 op 43) = false := by
        cases hr : rp with
        | false => rfl
        | true => rw [inB_iff.2 (r5 hr)]; rfl
      rw [q1]
      cases hk : lk with
      | false => rfl
      | true =>
        obtain ⟨k1, k2⟩ := l4 hk
        rw [k1]
        rcases k2 with k | k | k
        · rw [inB_iff.2 k]; rfl
        · rw [inB_iff.2 k]; cases inB 1 op 7 <;> rfl
        · rw [inB_iff.2 k]; cases inB 1 op 7 <;> cases inB 16 op 19 <;> rfl
    have hP : plainB v im cc (if (if (if (bk == 3) = true then true else op == 25) = true then true else op == 14) = true then true else inB 36 op 38) (inB 34 op 36) (inB 11 op 12) = true := by
      unfold plainB
      simp only [andI, orI]
      simp only [Bool.and_eq_true, Bool.or_eq_true, beq_iff_eq, decide_eq_true_eq, inB_iff]
      refine ⟨⟨?_, by omega⟩, by omega⟩
      by_cases hp : hasP op ak bk
      · left
        unfold hasP at hp
        have : ak = 3 → op = 14 := fun e => by
          unfold shapeP fS1 fS2 fS3 fS4 fS5 fS6 fS7 fS8 fS9 fSa fSb fJl fSc fMs fSd at sP
          simp only [Bool.or_eq_true, beq_iff_eq, inB_iff] at sP
          omega
        omega
      · exact .inr (iP.i0 hp)
    unfold mayA
    simp only [andI, orI] at hP t1 ⊢
    rw [hL, hP]
    exact t1
  · intro e
    rcases h3 with ⟨hr, _⟩ | ⟨_, h⟩
    · rw [inB_iff.2 hr] at e; cases e
    · exact h
  · intro e
    rcases c34 with ⟨hr, _⟩ | ⟨_, h⟩
    · rw [inB_iff.2 hr] at e; cases e
    · exact h
  · by_cases hp : hasP op ak bk
    · unfold hasP at hp
      rcases hp with h | h | h | h | h
      · exact .inr (.inl h)
      · exact .inr (.inr (.inl h))
      · exact .inr (.inr (.inr (by unfold thirdB; rw [h]; rfl)))
      · refine .inr (.inr (.inr ?_))
        have : ak = 0 := by
          unfold shapeP fS1 fS2 fS3 fS4 fS5 fS6 fS7 fS8 fS9 fSa fSb fJl fSc fMs fSd at sP
          simp only [Bool.or_eq_true, beq_iff_eq, inB_iff] at sP
          omega
        unfold thirdB
        rw [h, this]; rfl
      · refine .inr (.inr (.inr ?_))
        unfold thirdB
        rw [inB_iff.2 (show 36 ≤ op ∧ op ≤ 38 by omega), h.2.2]
        cases (op == 25) <;> rfl
    · exact .inl (iP.i0 hp)
  all_goals
    intro e
    unfold shapeP fS1 fS2 fS3 fS4 fS5 fS6 fS7 fS8 fS9 fSa fSb fJl fSc fMs fSd at sP
    simp only [Bool.or_eq_true, beq_iff_eq, inB_iff] at sP e
    omega
theorem eqX_iff (op w v ak ar ab ai ac ad bk br bb bi bc bd im cc : Int) (lk rp : Bool) (ln : Int) (op' w' v' ak' ar' ab' ai' ac' ad' bk' br' bb' bi' bc' bd' im' cc' : Int) (lk' rp' : Bool) (ln' : Int) : eqX op w v ak ar ab ai ac ad bk br bb bi bc bd im cc lk rp ln op' w' v' ak' ar' ab' ai' ac' ad' bk' br' bb' bi' bc' bd' im' cc' lk' rp' ln' = true ↔ op = op' ∧ w = w' ∧ v = v' ∧ (ak = ak' ∧ ar = ar' ∧ ab = ab' ∧ ai = ai' ∧ ac = ac' ∧ ad = ad' ∧ bk = bk' ∧ br = br' ∧ bb = bb' ∧ bi = bi' ∧ bc = bc' ∧ bd = bd' ∧ im = im') ∧ cc = cc' ∧ lk = lk' ∧ rp = rp' := by
  unfold eqX
  simp only [Bool.and_eq_true, beq_iff_eq, beq_self_eq_true, and_true, and_assoc]
theorem lawSame (op w v ak ar ab ai ac ad bk br bb bi bc bd im cc : Int) (lk rp : Bool) (ln : Int) (op' w' v' ak' ar' ab' ai' ac' ad' bk' br' bb' bi' bc' bd' im' cc' : Int) (lk' rp' : Bool) (ln' : Int) (him : IntKind.i64.has im) (had : IntKind.i64.has ad) (hbd : IntKind.i64.has bd) (him' : IntKind.i64.has im') (had' : IntKind.i64.has ad') (hbd' : IntKind.i64.has bd') :
    (evFn T SE0 noL 1 Tryd.f3 [.agg (cI op w v ak ar ab ai ac ad bk br bb bi bc bd im cc lk rp ln), .agg (cI op' w' v' ak' ar' ab' ai' ac' ad' bk' br' bb' bi' bc' bd' im' cc' lk' rp' ln')]).run = some (.b true) := by
  have e : ∀ q r m m' k k' s s', q = eqX op w v ak ar ab ai ac ad bk br bb bi bc bd im cc lk rp ln op' w' v' ak' ar' ab' ai' ac' ad' bk' br' bb' bi' bc' bd' im' cc' lk' rp' ln' → r = eqX op w v ak ar ab ai ac ad bk br bb bi bc bd im cc lk rp ln op w v ak ar ab ai ac ad bk br bb bi bc bd im cc lk rp ln → m = mayR op w v ak ar ab ai ac ad bk br bb bi bc bd im cc lk rp ln → m' = mayR op' w' v' ak' ar' ab' ai' ac' ad' bk' br' bb' bi' bc' bd' im' cc' lk' rp' ln' → k = mayA op w v ak ar ab ai ac ad bk br bb bi bc bd im cc lk rp ln → k' = mayA op' w' v' ak' ar' ab' ai' ac' ad' bk' br' bb' bi' bc' bd' im' cc' lk' rp' ln' → s = showX op w v ak ar ab ai ac ad bk br bb bi bc bd im cc lk rp ln → s' = showX op' w' v' ak' ar' ab' ai' ac' ad' bk' br' bb' bi' bc' bd' im' cc' lk' rp' ln' → (evFn T SE0 noL 1 Tryd.f3 [.agg (cI op w v ak ar ab ai ac ad bk br bb bi bc bd im cc lk rp ln), .agg (cI op' w' v' ak' ar' ab' ai' ac' ad' bk' br' bb' bi' bc' bd' im' cc' lk' rp' ln')]).run =
    if (if (!(q == q)) = true then true else !r) = true then some (.b false) else if (if (!m) = true then true else !m') = true then some (.b true) else
    some (.b (if (((if k = true then s else [63]) == (if k' = true then s' else [63])) == q) = true then true else false)) := by
    rintro q r m m' k k' s s' rfl rfl rfl rfl rfl rfl rfl rfl
    kernel_rfl
  have hr : eqX op w v ak ar ab ai ac ad bk br bb bi bc bd im cc lk rp ln op w v ak ar ab ai ac ad bk br bb bi bc bd im cc lk rp ln = true := (eqX_iff ..).2 ⟨rfl, rfl, rfl, ⟨rfl, rfl, rfl, rfl, rfl, rfl, rfl, rfl, rfl, rfl, rfl, rfl, rfl⟩, rfl, rfl, rfl⟩
  cases hm : mayR op w v ak ar ab ai ac ad bk br bb bi bc bd im cc lk rp ln with
  | false =>
    rw [e _ _ _ _ _ _ _ _ rfl hr.symm hm.symm rfl rfl rfl rfl rfl]
    simp only [beq_self_eq_true, Bool.not_true, Bool.not_false, Bool.false_eq_true, if_false, if_true]
  | true =>
  cases hm' : mayR op' w' v' ak' ar' ab' ai' ac' ad' bk' br' bb' bi' bc' bd' im' cc' lk' rp' ln' with
  | false =>
    rw [e _ _ _ _ _ _ _ _ rfl hr.symm hm.symm hm'.symm rfl rfl rfl rfl]
    simp only [beq_self_eq_true, Bool.not_true, Bool.not_false, Bool.false_eq_true, if_false, if_true]
  | true =>
  obtain ⟨a, o⟩ := may_ok him had hbd hm
  obtain ⟨a', o'⟩ := may_ok him' had' hbd' hm'
  rw [e _ _ _ _ _ _ _ _ rfl hr.symm hm.symm hm'.symm a.symm a'.symm rfl rfl]
  simp only [beq_self_eq_true, Bool.not_true, Bool.not_false, Bool.false_eq_true, if_false, if_true]
  have key : (showX op w v ak ar ab ai ac ad bk br bb bi bc bd im cc lk rp ln == showX op' w' v' ak' ar' ab' ai' ac' ad' bk' br' bb' bi' bc' bd' im' cc' lk' rp' ln') = eqX op w v ak ar ab ai ac ad bk br bb bi bc bd im cc lk rp ln op' w' v' ak' ar' ab' ai' ac' ad' bk' br' bb' bi' bc' bd' im' cc' lk' rp' ln' := by
    cases hq : eqX op w v ak ar ab ai ac ad bk br bb bi bc bd im cc lk rp ln op' w' v' ak' ar' ab' ai' ac' ad' bk' br' bb' bi' bc' bd' im' cc' lk' rp' ln' with
    | true =>
      obtain ⟨rfl, rfl, rfl, ⟨rfl, rfl, rfl, rfl, rfl, rfl, rfl, rfl, rfl, rfl, rfl, rfl, rfl⟩, rfl, rfl, rfl⟩ := (eqX_iff ..).1 hq
      rw [beq_iff_eq]
      rfl
    | false =>
      rw [beq_eq_false_iff_ne]
      intro hx
      rw [(eqX_iff ..).2 (showX_inj o o' hx)] at hq
      cases hq
  rw [key, beq_self_eq_true]
  rfl
theorem lawSameM (i j : Sh.Val (.st shI)) {C : Ctx} {u u' : Value} (h : VR C (.agg (Sh.cellsL shI i)) u) (h' : VR C (.agg (Sh.cellsL shI j)) u') : (evFn T SE0 noL 1 Tryd.f3 [.agg (Sh.cellsL shI i), .agg (Sh.cellsL shI j)]).run = some (.b true) := by
  obtain ⟨op, w, v, ⟨ak, ar, ab, ai, ac, ad, _⟩, ⟨bk, br, bb, bi, bc, bd, _⟩, im, cc, lk, rp, ln, _⟩ := i
  obtain ⟨op', w', v', ⟨ak', ar', ab', ai', ac', ad', _⟩, ⟨bk', br', bb', bi', bc', bd', _⟩, im', cc', lk', rp', ln', _⟩ := j
  have hh : ∀ n : Int, AV.i .i64 n ∈ cI op w v ak ar ab ai ac ad bk br bb bi bc bd im cc lk rp ln → IntKind.i64.has n := fun n hn => by
    cases h with
    | agg h => exact CR_has h hn
  have hh' : ∀ n : Int, AV.i .i64 n ∈ cI op' w' v' ak' ar' ab' ai' ac' ad' bk' br' bb' bi' bc' bd' im' cc' lk' rp' ln' → IntKind.i64.has n := fun n hn => by
    cases h' with
    | agg h => exact CR_has h hn
  exact lawSame op w v ak ar ab ai ac ad bk br bb bi bc bd im cc lk rp ln op' w' v' ak' ar' ab' ai' ac' ad' bk' br' bb' bi' bc' bd' im' cc' lk' rp' ln' (hh im (by simp)) (hh ad (by simp)) (hh bd (by simp)) (hh' im' (by simp)) (hh' ad' (by simp)) (hh' bd' (by simp))
end Go.Proofs.YtbdddnjncakooaaDoor
