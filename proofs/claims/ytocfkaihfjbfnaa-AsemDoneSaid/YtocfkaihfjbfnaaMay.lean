/- Lemmas: the reference's May is the program's, each function shown by the evaluator. No condition. -/
import Derived.Test.YtocfkaihfjbfnaaHas
import Derived.Test.YtocfkaihfjbfnaaLogim
import Derived.Test.YtocfkaihfjbfnaaDone
set_option linter.unusedVariables false
set_option linter.unusedSimpArgs false
set_option maxRecDepth 100000
namespace Go.Proofs.Ytocfkaihfjbfnaa
open Go.Proofs.Ytocfkaihfjbfnaa.Ev Go.RowKit
/- The reference's questions: four registers; whether a number fits. -/
def fourA (d n m a : Int) : Bool := inB 0 d 31 && (inB 0 n 31 && (inB 0 m 31 && inB 0 a 31))
def L72 : Nat → Live := fun _ => ⟨[8, 10, 15, 16, 17], [], [], none⟩
theorem out31 (x : Int) : (if decide (x < 0) = true then true else decide (31 < x)) = !inB 0 x 31 := by
  unfold inB
  by_cases h : x < 0
  · have : ¬ 0 ≤ x := by omega
    simp [h, this]
  · have : 0 ≤ x := by omega
    by_cases h2 : 31 < x
    · have : ¬ x ≤ 31 := by omega
      simp [h, h2, this]
    · have h3 : x ≤ 31 := by omega
      simp [h, h2, h3, this]
def sr72 : CSpec
  | [.i .i64 d, .i .i64 n, .i .i64 m, .i .i64 a] => some ⟨[], .b (fourA d n m a)⟩
  | _ => none
theorem loops72 : FnLoops T noS L72 6 Try.f72 := FnLoops.no (by kernel_rfl)
theorem okr72 : FnOk Try.prog 72 sr72 := FnOk.of tyOk noS_ok mixed Try.func72 (by kernel_rfl) (by kernel_rfl) <| by
  intro xs r hs hp w R vs hvs
  refine ⟨6, loops72, ?_⟩
  unfold sr72 at hs
  split at hs <;> cases hs
  rename_i d n m a
  have e : (evFn T noS L72 6 Try.f72 [.i .i64 d, .i .i64 n, .i .i64 m, .i .i64 a]).run =
    if (if decide (d < 0) = true then true else decide (31 < d)) = true then some (.b false) else if (if decide (n < 0) = true then true else decide (31 < n)) = true then some (.b false) else
    if (if decide (m < 0) = true then true else decide (31 < m)) = true then some (.b false) else if (if decide (a < 0) = true then true else decide (31 < a)) = true then some (.b false) else some (.b true) := by kernel_rfl
  rw [e]
  simp only [out31]
  show _ = some (AV.b (fourA d n m a))
  unfold fourA
  cases inB 0 d 31 <;> cases inB 0 n 31 <;> cases inB 0 m 31 <;> cases inB 0 a 31 <;> rfl
def fitR (off n : Int) : Bool :=
  if (if decide (64 ≤ n) = true then true else if decide (0 ≤ off) = true then decide ((BitVec.ofInt 64 off).toNat < (BitVec.ofInt 64 1 <<< (BitVec.ofInt 64 (IntKind.i64.wrap (n - 1))).toNat).toNat) else false) = true then true
  else if decide (off < 0) = true then decide ((BitVec.ofInt 64 (IntKind.i64.wrap (-IntKind.i64.wrap (off + 1)))).toNat < (BitVec.ofInt 64 1 <<< (BitVec.ofInt 64 (IntKind.i64.wrap (n - 1))).toNat).toNat) else false
theorem ofInt_nn {v : Int} (h1 : 0 ≤ v) (h2 : v < 18446744073709551616) : (BitVec.ofInt 64 v).toNat = v.toNat := by
  rw [BitVec.toNat_ofInt]
  congr 1
  exact Int.emod_eq_of_lt h1 h2
theorem fit_28 {off : Int} (ho : IntKind.i64.has off) : fitR off 28 = fits off 28 := by
  have hw := fits_code ho (n := 28) (by omega) (by omega)
  obtain ⟨lo, hi⟩ := ho
  have lo : -9223372036854775808 ≤ off := lo
  have hi : off ≤ 9223372036854775807 := hi
  have hf : fits off 28 = (IntKind.i64.wrap (off * 68719476736) / 68719476736 == off) := by
    refine Eq.trans ?_ hw.symm
    rfl
  rw [hf]
  have e3 : (BitVec.ofInt 64 1 <<< (BitVec.ofInt 64 (IntKind.i64.wrap ((28 : Int) - 1))).toNat : W64).toNat = 134217728 := by decide +kernel
  unfold fitR
  rw [e3]
  clear hw hf e3
  have main : (IntKind.i64.wrap (off * 68719476736) / 68719476736 == off) = (decide (-134217728 ≤ off) && decide (off < 134217728)) := by
    rw [Bool.eq_iff_iff]
    simp only [beq_iff_eq, Bool.and_eq_true, decide_eq_true_eq]
    rw [IntKind.wrap_i64]
    omega
  rw [main]
  clear main
  have h64 : decide ((64 : Int) ≤ 28) = false := rfl
  rw [h64]
  by_cases h0 : 0 ≤ off
  · have hn : ¬ off < 0 := by omega
    rw [ofInt_nn h0 (by omega)]
    simp only [h0, hn, decide_true, decide_false, if_true, Bool.false_eq_true, if_false]
    by_cases hlt : off < 134217728
    · have h2 : off.toNat < 134217728 := by omega
      have h3 : -134217728 ≤ off := by omega
      simp only [hlt, h2, h3, decide_true, if_true, Bool.and_self]
    · have h2 : ¬ off.toNat < 134217728 := by omega
      simp only [hlt, h2, decide_false, Bool.and_false, Bool.false_eq_true, if_false]
  · have hn : off < 0 := by omega
    rw [wrap_small (off + 1) (by omega) (by omega), wrap_small (-(off + 1)) (by omega) (by omega), ofInt_nn (v := -(off + 1)) (by omega) (by omega)]
    simp only [h0, hn, decide_true, decide_false, if_true, Bool.false_eq_true, if_false]
    by_cases hlt : -134217728 ≤ off
    · have h2 : (-(off + 1)).toNat < 134217728 := by omega
      have h3 : off < 134217728 := by omega
      simp only [hlt, h2, h3, decide_true, Bool.and_self]
    · have h2 : ¬ (-(off + 1)).toNat < 134217728 := by omega
      simp only [hlt, h2, decide_false, Bool.false_and]
theorem fit_21 {off : Int} (ho : IntKind.i64.has off) : fitR off 21 = fits off 21 := by
  have hw := fits_code ho (n := 21) (by omega) (by omega)
  obtain ⟨lo, hi⟩ := ho
  have lo : -9223372036854775808 ≤ off := lo
  have hi : off ≤ 9223372036854775807 := hi
  have hf : fits off 21 = (IntKind.i64.wrap (off * 8796093022208) / 8796093022208 == off) := by
    refine Eq.trans ?_ hw.symm
    rfl
  rw [hf]
  have e3 : (BitVec.ofInt 64 1 <<< (BitVec.ofInt 64 (IntKind.i64.wrap ((21 : Int) - 1))).toNat : W64).toNat = 1048576 := by decide +kernel
  unfold fitR
  rw [e3]
  clear hw hf e3
  have main : (IntKind.i64.wrap (off * 8796093022208) / 8796093022208 == off) = (decide (-1048576 ≤ off) && decide (off < 1048576)) := by
    rw [Bool.eq_iff_iff]
    simp only [beq_iff_eq, Bool.and_eq_true, decide_eq_true_eq]
    rw [IntKind.wrap_i64]
    omega
  rw [main]
  clear main
  have h64 : decide ((64 : Int) ≤ 21) = false := rfl
  rw [h64]
  by_cases h0 : 0 ≤ off
  · have hn : ¬ off < 0 := by omega
    rw [ofInt_nn h0 (by omega)]
    simp only [h0, hn, decide_true, decide_false, if_true, Bool.false_eq_true, if_false]
    by_cases hlt : off < 1048576
    · have h2 : off.toNat < 1048576 := by omega
      have h3 : -1048576 ≤ off := by omega
      simp only [hlt, h2, h3, decide_true, if_true, Bool.and_self]
    · have h2 : ¬ off.toNat < 1048576 := by omega
      simp only [hlt, h2, decide_false, Bool.and_false, Bool.false_eq_true, if_false]
  · have hn : off < 0 := by omega
    rw [wrap_small (off + 1) (by omega) (by omega), wrap_small (-(off + 1)) (by omega) (by omega), ofInt_nn (v := -(off + 1)) (by omega) (by omega)]
    simp only [h0, hn, decide_true, decide_false, if_true, Bool.false_eq_true, if_false]
    by_cases hlt : -1048576 ≤ off
    · have h2 : (-(off + 1)).toNat < 1048576 := by omega
      have h3 : off < 1048576 := by omega
      simp only [hlt, h2, h3, decide_true, Bool.and_self]
    · have h2 : ¬ (-(off + 1)).toNat < 1048576 := by omega
      simp only [hlt, h2, decide_false, Bool.false_and]
def sr47 : CSpec
  | [.i .i64 off, .i .i64 n] => (match n == 28 || n == 21 with
    | true => some ⟨[], .b (fits off n)⟩
    | false => none)
  | _ => none
theorem okr47 : FnOk Try.prog 47 sr47 := okBy noS_ok Try.func47 (by kernel_rfl) (by kernel_rfl) 1 <| by
  intro xs r hs
  unfold sr47 at hs; split at hs <;> try cases hs
  rename_i off n
  split at hs <;> cases hs
  rename_i hn
  rintro hp ⟨w, R, vs, hvs⟩
  have ho : IntKind.i64.has off := by
    cases hvs with | cons h _ => cases h with | i _ h => exact h
  have e : (evFn T noS noL 1 Try.f47 [.i .i64 off, .i .i64 n]).run = some (.b (fitR off n)) := by kernel_rfl
  rw [e]
  have : n = 28 ∨ n = 21 := by simpa using hn
  rcases this with rfl | rfl
  · rw [fit_28 ho]
  · rw [fit_21 ho]
def badR (op d n m : Int) : Bool := if (if (if hasA op [101] = true then d == 31 else false) = true then true else if hasA op [98] = true then n == 31 else false) = true then true else if hasA op [116] = true then if (m == d) = true then true else m == n else false
def regsR (op d n m a : Int) : Bool := if badR op d n m = true then false else fourA d n m a
def sr45 : CSpec
  | [.agg (cI op w d n m a imm off cond r s)] => some ⟨[], .b (regsR op d n m a)⟩
  | _ => none
end Go.Proofs.Ytocfkaihfjbfnaa
set_option maxRecDepth 100000
namespace Go.Proofs.Ytocfkaihfjbfnaa
open Go.Proofs.Ytocfkaihfjbfnaa.Ev Go.RowKit
noncomputable abbrev SQ3 : FuncId → CSpec := withS (withS SQ2 72 sr72) 47 sr47
theorem SQ3_ok : ∀ f, FnOk Try.prog f (SQ3 f) := withS_ok (withS_ok SQ2_ok okr72) okr47
theorem okr45 : FnOk Try.prog 45 sr45 := okBy SQ3_ok Try.func45 (by kernel_rfl) (by kernel_rfl) 1 <| by
  intro xs r hs
  unfold sr45 at hs; split at hs <;> cases hs
  rename_i op w d n m a imm off cond r s
  rintro hp _
  have e : (evFn T SQ3 noL 1 Try.f45 [.agg (cI op w d n m a imm off cond r s)]).run = if badR op d n m = true then some (.b false) else some (.b (fourA d n m a)) := by kernel_rfl
  rw [e]
  show _ = some (AV.b (regsR op d n m a))
  unfold regsR
  cases badR op d n m <;> rfl
noncomputable abbrev SQ4 : FuncId → CSpec := withS SQ3 45 sr45
theorem SQ4_ok : ∀ f, FnOk Try.prog f (SQ4 f) := withS_ok SQ3_ok okr45
end Go.Proofs.Ytocfkaihfjbfnaa
set_option maxRecDepth 100000
namespace Go.Proofs.Ytocfkaihfjbfnaa
open Go.Proofs.Ytocfkaihfjbfnaa.Ev Go.RowKit
/- The reference's May, as it is asked. -/
def oi (a b : Bool) : Bool := if a = true then true else b
def ai (a b : Bool) : Bool := if a = true then b else false
theorem oi_or (a b : Bool) : oi a b = (a || b) := by cases a <;> rfl
theorem ai_and (a b : Bool) : ai a b = (a && b) := by cases a <;> rfl
def m1 (op d n m a : Int) : Bool := oi (oi (decide (op < 1)) (decide (47 < op))) (!regsR op d n m a)
def m2 (op d n m a : Int) (imm : W64) (off cond r s : Int) : Bool :=
  oi (oi (oi (oi (oi (oi (oi (oi (ai (!hasA op [100, 101]) (d != 0)) (ai (!hasA op [110, 98]) (n != 0))) (ai (!hasA op [109, 116]) (m != 0))) (ai (!hasA op [97]) (a != 0))) (ai (!hasA op [115, 104]) (s != 0))) (ai (!hasA op [114]) (r != 0))) (ai (!hasA op [99, 107]) (cond != 0))) (ai (!hasA op [105, 108, 119, 117, 102]) (imm != BitVec.ofInt 64 0))) (ai (!hasA op [106, 103]) (off != 0))
def m3 (op w : Int) : Bool := ai (w != 8) (!ai (hasA op [122]) (oi (oi (w == 1) (w == 2)) (w == 4)))
def m4 (op cond r s : Int) : Bool := oi (oi (oi (oi (oi (oi (decide (s < 0)) (decide (63 < s))) (decide (r < 0))) (decide (63 < r))) (decide (cond < 0))) (decide (15 < cond))) (ai (hasA op [104]) (decide (3 < s)))
def m5a (op : Int) (imm : W64) : Bool := oi (ai (hasA op [105]) (decide ((BitVec.ofInt 64 4096).toNat ≤ imm.toNat))) (ai (hasA op [119]) (decide ((BitVec.ofInt 64 65536).toNat ≤ imm.toNat)))
def m5 (op w : Int) (imm : W64) : Bool :=
  oi (oi (m5a op imm) (ai (hasA op [117]) (oi (imm % BitVec.ofInt 64 w != BitVec.ofInt 64 0) (decide ((BitVec.ofInt 64 4096).toNat ≤ (imm / BitVec.ofInt 64 w).toNat))))) (ai (hasA op [102]) (oi (decide (imm.toNat < (BitVec.ofInt 64 9).toNat)) (decide ((BitVec.ofInt 64 11).toNat < imm.toNat))))
def m6 (op off : Int) : Bool := ai (ai (off.tmod 4 == 0) (oi (!hasA op [106]) (fits off 28))) (oi (!hasA op [103]) (fits off 21))
def mayR (op w d n m a : Int) (imm : W64) (off cond r s : Int) : Bool :=
  if m1 op d n m a = true then false else if m2 op d n m a imm off cond r s = true then false else if m3 op w = true then false else if m4 op cond r s = true then false else if m5 op w imm = true then false else if hasA op [108] = true then enc2 imm else m6 op off
noncomputable abbrev SQ5 : FuncId → CSpec := withS SQ4 46 s34
theorem SQ5_ok : ∀ f, FnOk Try.prog f (SQ5 f) := withS_ok SQ4_ok ok47
theorem run28 (op w d n m a : Int) (imm : W64) (off cond r s : Int) : (evFn T SQ5 noL 6 Try.f28 [.agg (cI op w d n m a imm off cond r s)]).run =
    if m1 op d n m a = true then some (.b false) else if m2 op d n m a imm off cond r s = true then some (.b false) else if m3 op w = true then some (.b false) else if m4 op cond r s = true then some (.b false) else
    if (if (!(imm % BitVec.ofInt 64 w != BitVec.ofInt 64 0)) = true then (if hasA op [117] = true then (if (!m5a op imm) = true then !(BitVec.ofInt 64 w == 0#64) else true) else true) else true) = true then
    if (if hasA op [117] = true then (if (!m5a op imm) = true then !(BitVec.ofInt 64 w == 0#64) else true) else true) = true then
    if m5 op w imm = true then some (.b false) else if hasA op [108] = true then some (.b (enc2 imm)) else some (.b (m6 op off)) else none else none := by kernel_rfl
theorem run28m (op w d n m a : Int) (imm : W64) (off cond r s : Int) : (evFn T SQ5 noL 6 Try.f28 [.agg (cI op w d n m a imm off cond r s)]).run = some (.b (mayR op w d n m a imm off cond r s)) := by
  rw [run28]
  unfold mayR
  cases h1 : m1 op d n m a with
  | true => rfl
  | false =>
    cases h2 : m2 op d n m a imm off cond r s with
    | true => rfl
    | false =>
      cases h3 : m3 op w with
      | true => rfl
      | false =>
        have hw : (!(BitVec.ofInt 64 w == 0#64)) = true := by
          have h : w = 8 ∨ w = 1 ∨ w = 2 ∨ w = 4 := by
            simp only [m3, oi_or, ai_and] at h3
            by_cases h8 : w = 8
            · exact .inl h8
            · have : (w != 8) = true := by simpa using h8
              rw [this] at h3
              simp at h3
              omega
          rcases h with rfl | rfl | rfl | rfl <;> rfl
        rw [hw]
        simp only [ite_self, Bool.false_eq_true, if_false, if_true]
        cases m4 op cond r s <;> cases m5 op w imm <;> cases hasA op [108] <;> rfl
end Go.Proofs.Ytocfkaihfjbfnaa
set_option maxRecDepth 100000
namespace Go.Proofs.Ytocfkaihfjbfnaa
open Go.Proofs.Ytocfkaihfjbfnaa.Ev Go.RowKit
theorem mayR_1 (w d n m a : Int) (imm : W64) (off cond r s : Int) : mayR 1 w d n m a imm off cond r s = mayA 1 w d n m a imm off cond r s := by
  have E : hasA 1 [101] = true ∧ hasA 1 [98] = true ∧ hasA 1 [116] = false ∧ hasA 1 [100, 101] = true ∧ hasA 1 [110, 98] = true ∧ hasA 1 [109, 116] = false ∧ hasA 1 [97] = false ∧ hasA 1 [115, 104] = false ∧ hasA 1 [114] = false ∧ hasA 1 [99, 107] = false ∧ hasA 1 [105, 108, 119, 117, 102] = true ∧ hasA 1 [106, 103] = false ∧ hasA 1 [122] = false ∧ hasA 1 [104] = false ∧ hasA 1 [105] = true ∧ hasA 1 [119] = false ∧ hasA 1 [117] = false ∧ hasA 1 [102] = false ∧ hasA 1 [108] = false ∧ hasA 1 [106] = false ∧ hasA 1 [103] = false := by decide +kernel
  simp only [mayR, m1, m2, m3, m4, m5, m5a, m6, regsR, badR, E, oi_or, ai_and, fourA, mayA, badA, restA, sameSh, regsB, numsB, isW]
  simp [inB, shD, shN, shM, shA, shI, shO, shC, shR, shS]
  try grind
theorem mayR_2 (w d n m a : Int) (imm : W64) (off cond r s : Int) : mayR 2 w d n m a imm off cond r s = mayA 2 w d n m a imm off cond r s := by
  have E : hasA 2 [101] = true ∧ hasA 2 [98] = true ∧ hasA 2 [116] = false ∧ hasA 2 [100, 101] = true ∧ hasA 2 [110, 98] = true ∧ hasA 2 [109, 116] = false ∧ hasA 2 [97] = false ∧ hasA 2 [115, 104] = false ∧ hasA 2 [114] = false ∧ hasA 2 [99, 107] = false ∧ hasA 2 [105, 108, 119, 117, 102] = true ∧ hasA 2 [106, 103] = false ∧ hasA 2 [122] = false ∧ hasA 2 [104] = false ∧ hasA 2 [105] = true ∧ hasA 2 [119] = false ∧ hasA 2 [117] = false ∧ hasA 2 [102] = false ∧ hasA 2 [108] = false ∧ hasA 2 [106] = false ∧ hasA 2 [103] = false := by decide +kernel
  simp only [mayR, m1, m2, m3, m4, m5, m5a, m6, regsR, badR, E, oi_or, ai_and, fourA, mayA, badA, restA, sameSh, regsB, numsB, isW]
  simp [inB, shD, shN, shM, shA, shI, shO, shC, shR, shS]
  try grind
theorem mayR_3 (w d n m a : Int) (imm : W64) (off cond r s : Int) : mayR 3 w d n m a imm off cond r s = mayA 3 w d n m a imm off cond r s := by
  have E : hasA 3 [101] = false ∧ hasA 3 [98] = true ∧ hasA 3 [116] = false ∧ hasA 3 [100, 101] = true ∧ hasA 3 [110, 98] = true ∧ hasA 3 [109, 116] = false ∧ hasA 3 [97] = false ∧ hasA 3 [115, 104] = false ∧ hasA 3 [114] = false ∧ hasA 3 [99, 107] = false ∧ hasA 3 [105, 108, 119, 117, 102] = true ∧ hasA 3 [106, 103] = false ∧ hasA 3 [122] = false ∧ hasA 3 [104] = false ∧ hasA 3 [105] = true ∧ hasA 3 [119] = false ∧ hasA 3 [117] = false ∧ hasA 3 [102] = false ∧ hasA 3 [108] = false ∧ hasA 3 [106] = false ∧ hasA 3 [103] = false := by decide +kernel
  simp only [mayR, m1, m2, m3, m4, m5, m5a, m6, regsR, badR, E, oi_or, ai_and, fourA, mayA, badA, restA, sameSh, regsB, numsB, isW]
  simp [inB, shD, shN, shM, shA, shI, shO, shC, shR, shS]
  try grind
theorem mayR_4 (w d n m a : Int) (imm : W64) (off cond r s : Int) : mayR 4 w d n m a imm off cond r s = mayA 4 w d n m a imm off cond r s := by
  have E : hasA 4 [101] = false ∧ hasA 4 [98] = true ∧ hasA 4 [116] = false ∧ hasA 4 [100, 101] = true ∧ hasA 4 [110, 98] = true ∧ hasA 4 [109, 116] = false ∧ hasA 4 [97] = false ∧ hasA 4 [115, 104] = false ∧ hasA 4 [114] = false ∧ hasA 4 [99, 107] = false ∧ hasA 4 [105, 108, 119, 117, 102] = true ∧ hasA 4 [106, 103] = false ∧ hasA 4 [122] = false ∧ hasA 4 [104] = false ∧ hasA 4 [105] = true ∧ hasA 4 [119] = false ∧ hasA 4 [117] = false ∧ hasA 4 [102] = false ∧ hasA 4 [108] = false ∧ hasA 4 [106] = false ∧ hasA 4 [103] = false := by decide +kernel
  simp only [mayR, m1, m2, m3, m4, m5, m5a, m6, regsR, badR, E, oi_or, ai_and, fourA, mayA, badA, restA, sameSh, regsB, numsB, isW]
  simp [inB, shD, shN, shM, shA, shI, shO, shC, shR, shS]
  try grind
theorem mayR_5 (w d n m a : Int) (imm : W64) (off cond r s : Int) : mayR 5 w d n m a imm off cond r s = mayA 5 w d n m a imm off cond r s := by
  have E : hasA 5 [101] = false ∧ hasA 5 [98] = false ∧ hasA 5 [116] = false ∧ hasA 5 [100, 101] = true ∧ hasA 5 [110, 98] = true ∧ hasA 5 [109, 116] = true ∧ hasA 5 [97] = false ∧ hasA 5 [115, 104] = true ∧ hasA 5 [114] = false ∧ hasA 5 [99, 107] = false ∧ hasA 5 [105, 108, 119, 117, 102] = false ∧ hasA 5 [106, 103] = false ∧ hasA 5 [122] = false ∧ hasA 5 [104] = false ∧ hasA 5 [105] = false ∧ hasA 5 [119] = false ∧ hasA 5 [117] = false ∧ hasA 5 [102] = false ∧ hasA 5 [108] = false ∧ hasA 5 [106] = false ∧ hasA 5 [103] = false := by decide +kernel
  simp only [mayR, m1, m2, m3, m4, m5, m5a, m6, regsR, badR, E, oi_or, ai_and, fourA, mayA, badA, restA, sameSh, regsB, numsB, isW]
  simp [inB, shD, shN, shM, shA, shI, shO, shC, shR, shS]
  try grind
theorem mayR_6 (w d n m a : Int) (imm : W64) (off cond r s : Int) : mayR 6 w d n m a imm off cond r s = mayA 6 w d n m a imm off cond r s := by
  have E : hasA 6 [101] = false ∧ hasA 6 [98] = false ∧ hasA 6 [116] = false ∧ hasA 6 [100, 101] = true ∧ hasA 6 [110, 98] = true ∧ hasA 6 [109, 116] = true ∧ hasA 6 [97] = false ∧ hasA 6 [115, 104] = true ∧ hasA 6 [114] = false ∧ hasA 6 [99, 107] = false ∧ hasA 6 [105, 108, 119, 117, 102] = false ∧ hasA 6 [106, 103] = false ∧ hasA 6 [122] = false ∧ hasA 6 [104] = false ∧ hasA 6 [105] = false ∧ hasA 6 [119] = false ∧ hasA 6 [117] = false ∧ hasA 6 [102] = false ∧ hasA 6 [108] = false ∧ hasA 6 [106] = false ∧ hasA 6 [103] = false := by decide +kernel
  simp only [mayR, m1, m2, m3, m4, m5, m5a, m6, regsR, badR, E, oi_or, ai_and, fourA, mayA, badA, restA, sameSh, regsB, numsB, isW]
  simp [inB, shD, shN, shM, shA, shI, shO, shC, shR, shS]
  try grind
theorem mayR_7 (w d n m a : Int) (imm : W64) (off cond r s : Int) : mayR 7 w d n m a imm off cond r s = mayA 7 w d n m a imm off cond r s := by
  have E : hasA 7 [101] = false ∧ hasA 7 [98] = false ∧ hasA 7 [116] = false ∧ hasA 7 [100, 101] = true ∧ hasA 7 [110, 98] = true ∧ hasA 7 [109, 116] = true ∧ hasA 7 [97] = false ∧ hasA 7 [115, 104] = true ∧ hasA 7 [114] = false ∧ hasA 7 [99, 107] = false ∧ hasA 7 [105, 108, 119, 117, 102] = false ∧ hasA 7 [106, 103] = false ∧ hasA 7 [122] = false ∧ hasA 7 [104] = false ∧ hasA 7 [105] = false ∧ hasA 7 [119] = false ∧ hasA 7 [117] = false ∧ hasA 7 [102] = false ∧ hasA 7 [108] = false ∧ hasA 7 [106] = false ∧ hasA 7 [103] = false := by decide +kernel
  simp only [mayR, m1, m2, m3, m4, m5, m5a, m6, regsR, badR, E, oi_or, ai_and, fourA, mayA, badA, restA, sameSh, regsB, numsB, isW]
  simp [inB, shD, shN, shM, shA, shI, shO, shC, shR, shS]
  try grind
theorem mayR_8 (w d n m a : Int) (imm : W64) (off cond r s : Int) : mayR 8 w d n m a imm off cond r s = mayA 8 w d n m a imm off cond r s := by
  have E : hasA 8 [101] = false ∧ hasA 8 [98] = false ∧ hasA 8 [116] = false ∧ hasA 8 [100, 101] = true ∧ hasA 8 [110, 98] = true ∧ hasA 8 [109, 116] = true ∧ hasA 8 [97] = false ∧ hasA 8 [115, 104] = true ∧ hasA 8 [114] = false ∧ hasA 8 [99, 107] = false ∧ hasA 8 [105, 108, 119, 117, 102] = false ∧ hasA 8 [106, 103] = false ∧ hasA 8 [122] = false ∧ hasA 8 [104] = false ∧ hasA 8 [105] = false ∧ hasA 8 [119] = false ∧ hasA 8 [117] = false ∧ hasA 8 [102] = false ∧ hasA 8 [108] = false ∧ hasA 8 [106] = false ∧ hasA 8 [103] = false := by decide +kernel
  simp only [mayR, m1, m2, m3, m4, m5, m5a, m6, regsR, badR, E, oi_or, ai_and, fourA, mayA, badA, restA, sameSh, regsB, numsB, isW]
  simp [inB, shD, shN, shM, shA, shI, shO, shC, shR, shS]
  try grind
theorem mayR_9 (w d n m a : Int) (imm : W64) (off cond r s : Int) : mayR 9 w d n m a imm off cond r s = mayA 9 w d n m a imm off cond r s := by
  have E : hasA 9 [101] = false ∧ hasA 9 [98] = false ∧ hasA 9 [116] = false ∧ hasA 9 [100, 101] = true ∧ hasA 9 [110, 98] = true ∧ hasA 9 [109, 116] = true ∧ hasA 9 [97] = false ∧ hasA 9 [115, 104] = true ∧ hasA 9 [114] = false ∧ hasA 9 [99, 107] = false ∧ hasA 9 [105, 108, 119, 117, 102] = false ∧ hasA 9 [106, 103] = false ∧ hasA 9 [122] = false ∧ hasA 9 [104] = false ∧ hasA 9 [105] = false ∧ hasA 9 [119] = false ∧ hasA 9 [117] = false ∧ hasA 9 [102] = false ∧ hasA 9 [108] = false ∧ hasA 9 [106] = false ∧ hasA 9 [103] = false := by decide +kernel
  simp only [mayR, m1, m2, m3, m4, m5, m5a, m6, regsR, badR, E, oi_or, ai_and, fourA, mayA, badA, restA, sameSh, regsB, numsB, isW]
  simp [inB, shD, shN, shM, shA, shI, shO, shC, shR, shS]
  try grind
theorem mayR_10 (w d n m a : Int) (imm : W64) (off cond r s : Int) : mayR 10 w d n m a imm off cond r s = mayA 10 w d n m a imm off cond r s := by
  have E : hasA 10 [101] = false ∧ hasA 10 [98] = false ∧ hasA 10 [116] = false ∧ hasA 10 [100, 101] = true ∧ hasA 10 [110, 98] = true ∧ hasA 10 [109, 116] = true ∧ hasA 10 [97] = false ∧ hasA 10 [115, 104] = true ∧ hasA 10 [114] = false ∧ hasA 10 [99, 107] = false ∧ hasA 10 [105, 108, 119, 117, 102] = false ∧ hasA 10 [106, 103] = false ∧ hasA 10 [122] = false ∧ hasA 10 [104] = false ∧ hasA 10 [105] = false ∧ hasA 10 [119] = false ∧ hasA 10 [117] = false ∧ hasA 10 [102] = false ∧ hasA 10 [108] = false ∧ hasA 10 [106] = false ∧ hasA 10 [103] = false := by decide +kernel
  simp only [mayR, m1, m2, m3, m4, m5, m5a, m6, regsR, badR, E, oi_or, ai_and, fourA, mayA, badA, restA, sameSh, regsB, numsB, isW]
  simp [inB, shD, shN, shM, shA, shI, shO, shC, shR, shS]
  try grind
theorem mayR_11 (w d n m a : Int) (imm : W64) (off cond r s : Int) : mayR 11 w d n m a imm off cond r s = mayA 11 w d n m a imm off cond r s := by
  have E : hasA 11 [101] = false ∧ hasA 11 [98] = false ∧ hasA 11 [116] = false ∧ hasA 11 [100, 101] = true ∧ hasA 11 [110, 98] = true ∧ hasA 11 [109, 116] = true ∧ hasA 11 [97] = false ∧ hasA 11 [115, 104] = true ∧ hasA 11 [114] = false ∧ hasA 11 [99, 107] = false ∧ hasA 11 [105, 108, 119, 117, 102] = false ∧ hasA 11 [106, 103] = false ∧ hasA 11 [122] = false ∧ hasA 11 [104] = false ∧ hasA 11 [105] = false ∧ hasA 11 [119] = false ∧ hasA 11 [117] = false ∧ hasA 11 [102] = false ∧ hasA 11 [108] = false ∧ hasA 11 [106] = false ∧ hasA 11 [103] = false := by decide +kernel
  simp only [mayR, m1, m2, m3, m4, m5, m5a, m6, regsR, badR, E, oi_or, ai_and, fourA, mayA, badA, restA, sameSh, regsB, numsB, isW]
  simp [inB, shD, shN, shM, shA, shI, shO, shC, shR, shS]
  try grind
theorem mayR_12 (w d n m a : Int) (imm : W64) (off cond r s : Int) : mayR 12 w d n m a imm off cond r s = mayA 12 w d n m a imm off cond r s := by
  have E : hasA 12 [101] = false ∧ hasA 12 [98] = false ∧ hasA 12 [116] = false ∧ hasA 12 [100, 101] = true ∧ hasA 12 [110, 98] = true ∧ hasA 12 [109, 116] = true ∧ hasA 12 [97] = false ∧ hasA 12 [115, 104] = true ∧ hasA 12 [114] = false ∧ hasA 12 [99, 107] = false ∧ hasA 12 [105, 108, 119, 117, 102] = false ∧ hasA 12 [106, 103] = false ∧ hasA 12 [122] = false ∧ hasA 12 [104] = false ∧ hasA 12 [105] = false ∧ hasA 12 [119] = false ∧ hasA 12 [117] = false ∧ hasA 12 [102] = false ∧ hasA 12 [108] = false ∧ hasA 12 [106] = false ∧ hasA 12 [103] = false := by decide +kernel
  simp only [mayR, m1, m2, m3, m4, m5, m5a, m6, regsR, badR, E, oi_or, ai_and, fourA, mayA, badA, restA, sameSh, regsB, numsB, isW]
  simp [inB, shD, shN, shM, shA, shI, shO, shC, shR, shS]
  try grind
theorem mayR_13 (w d n m a : Int) (imm : W64) (off cond r s : Int) : mayR 13 w d n m a imm off cond r s = mayA 13 w d n m a imm off cond r s := by
  have E : hasA 13 [101] = true ∧ hasA 13 [98] = false ∧ hasA 13 [116] = false ∧ hasA 13 [100, 101] = true ∧ hasA 13 [110, 98] = true ∧ hasA 13 [109, 116] = false ∧ hasA 13 [97] = false ∧ hasA 13 [115, 104] = false ∧ hasA 13 [114] = false ∧ hasA 13 [99, 107] = false ∧ hasA 13 [105, 108, 119, 117, 102] = true ∧ hasA 13 [106, 103] = false ∧ hasA 13 [122] = false ∧ hasA 13 [104] = false ∧ hasA 13 [105] = false ∧ hasA 13 [119] = false ∧ hasA 13 [117] = false ∧ hasA 13 [102] = false ∧ hasA 13 [108] = true ∧ hasA 13 [106] = false ∧ hasA 13 [103] = false := by decide +kernel
  simp only [mayR, m1, m2, m3, m4, m5, m5a, m6, regsR, badR, E, oi_or, ai_and, fourA, mayA, badA, restA, sameSh, regsB, numsB, isW]
  simp [inB, shD, shN, shM, shA, shI, shO, shC, shR, shS]
  try grind
theorem mayR_14 (w d n m a : Int) (imm : W64) (off cond r s : Int) : mayR 14 w d n m a imm off cond r s = mayA 14 w d n m a imm off cond r s := by
  have E : hasA 14 [101] = true ∧ hasA 14 [98] = false ∧ hasA 14 [116] = false ∧ hasA 14 [100, 101] = true ∧ hasA 14 [110, 98] = true ∧ hasA 14 [109, 116] = false ∧ hasA 14 [97] = false ∧ hasA 14 [115, 104] = false ∧ hasA 14 [114] = false ∧ hasA 14 [99, 107] = false ∧ hasA 14 [105, 108, 119, 117, 102] = true ∧ hasA 14 [106, 103] = false ∧ hasA 14 [122] = false ∧ hasA 14 [104] = false ∧ hasA 14 [105] = false ∧ hasA 14 [119] = false ∧ hasA 14 [117] = false ∧ hasA 14 [102] = false ∧ hasA 14 [108] = true ∧ hasA 14 [106] = false ∧ hasA 14 [103] = false := by decide +kernel
  simp only [mayR, m1, m2, m3, m4, m5, m5a, m6, regsR, badR, E, oi_or, ai_and, fourA, mayA, badA, restA, sameSh, regsB, numsB, isW]
  simp [inB, shD, shN, shM, shA, shI, shO, shC, shR, shS]
  try grind
theorem mayR_15 (w d n m a : Int) (imm : W64) (off cond r s : Int) : mayR 15 w d n m a imm off cond r s = mayA 15 w d n m a imm off cond r s := by
  have E : hasA 15 [101] = true ∧ hasA 15 [98] = false ∧ hasA 15 [116] = false ∧ hasA 15 [100, 101] = true ∧ hasA 15 [110, 98] = true ∧ hasA 15 [109, 116] = false ∧ hasA 15 [97] = false ∧ hasA 15 [115, 104] = false ∧ hasA 15 [114] = false ∧ hasA 15 [99, 107] = false ∧ hasA 15 [105, 108, 119, 117, 102] = true ∧ hasA 15 [106, 103] = false ∧ hasA 15 [122] = false ∧ hasA 15 [104] = false ∧ hasA 15 [105] = false ∧ hasA 15 [119] = false ∧ hasA 15 [117] = false ∧ hasA 15 [102] = false ∧ hasA 15 [108] = true ∧ hasA 15 [106] = false ∧ hasA 15 [103] = false := by decide +kernel
  simp only [mayR, m1, m2, m3, m4, m5, m5a, m6, regsR, badR, E, oi_or, ai_and, fourA, mayA, badA, restA, sameSh, regsB, numsB, isW]
  simp [inB, shD, shN, shM, shA, shI, shO, shC, shR, shS]
  try grind
theorem mayR_16 (w d n m a : Int) (imm : W64) (off cond r s : Int) : mayR 16 w d n m a imm off cond r s = mayA 16 w d n m a imm off cond r s := by
  have E : hasA 16 [101] = false ∧ hasA 16 [98] = false ∧ hasA 16 [116] = false ∧ hasA 16 [100, 101] = true ∧ hasA 16 [110, 98] = false ∧ hasA 16 [109, 116] = false ∧ hasA 16 [97] = false ∧ hasA 16 [115, 104] = true ∧ hasA 16 [114] = false ∧ hasA 16 [99, 107] = false ∧ hasA 16 [105, 108, 119, 117, 102] = true ∧ hasA 16 [106, 103] = false ∧ hasA 16 [122] = false ∧ hasA 16 [104] = true ∧ hasA 16 [105] = false ∧ hasA 16 [119] = true ∧ hasA 16 [117] = false ∧ hasA 16 [102] = false ∧ hasA 16 [108] = false ∧ hasA 16 [106] = false ∧ hasA 16 [103] = false := by decide +kernel
  simp only [mayR, m1, m2, m3, m4, m5, m5a, m6, regsR, badR, E, oi_or, ai_and, fourA, mayA, badA, restA, sameSh, regsB, numsB, isW]
  simp [inB, shD, shN, shM, shA, shI, shO, shC, shR, shS]
  try grind
theorem mayR_17 (w d n m a : Int) (imm : W64) (off cond r s : Int) : mayR 17 w d n m a imm off cond r s = mayA 17 w d n m a imm off cond r s := by
  have E : hasA 17 [101] = false ∧ hasA 17 [98] = false ∧ hasA 17 [116] = false ∧ hasA 17 [100, 101] = true ∧ hasA 17 [110, 98] = false ∧ hasA 17 [109, 116] = false ∧ hasA 17 [97] = false ∧ hasA 17 [115, 104] = true ∧ hasA 17 [114] = false ∧ hasA 17 [99, 107] = false ∧ hasA 17 [105, 108, 119, 117, 102] = true ∧ hasA 17 [106, 103] = false ∧ hasA 17 [122] = false ∧ hasA 17 [104] = true ∧ hasA 17 [105] = false ∧ hasA 17 [119] = true ∧ hasA 17 [117] = false ∧ hasA 17 [102] = false ∧ hasA 17 [108] = false ∧ hasA 17 [106] = false ∧ hasA 17 [103] = false := by decide +kernel
  simp only [mayR, m1, m2, m3, m4, m5, m5a, m6, regsR, badR, E, oi_or, ai_and, fourA, mayA, badA, restA, sameSh, regsB, numsB, isW]
  simp [inB, shD, shN, shM, shA, shI, shO, shC, shR, shS]
  try grind
theorem mayR_18 (w d n m a : Int) (imm : W64) (off cond r s : Int) : mayR 18 w d n m a imm off cond r s = mayA 18 w d n m a imm off cond r s := by
  have E : hasA 18 [101] = false ∧ hasA 18 [98] = false ∧ hasA 18 [116] = false ∧ hasA 18 [100, 101] = true ∧ hasA 18 [110, 98] = false ∧ hasA 18 [109, 116] = false ∧ hasA 18 [97] = false ∧ hasA 18 [115, 104] = true ∧ hasA 18 [114] = false ∧ hasA 18 [99, 107] = false ∧ hasA 18 [105, 108, 119, 117, 102] = true ∧ hasA 18 [106, 103] = false ∧ hasA 18 [122] = false ∧ hasA 18 [104] = true ∧ hasA 18 [105] = false ∧ hasA 18 [119] = true ∧ hasA 18 [117] = false ∧ hasA 18 [102] = false ∧ hasA 18 [108] = false ∧ hasA 18 [106] = false ∧ hasA 18 [103] = false := by decide +kernel
  simp only [mayR, m1, m2, m3, m4, m5, m5a, m6, regsR, badR, E, oi_or, ai_and, fourA, mayA, badA, restA, sameSh, regsB, numsB, isW]
  simp [inB, shD, shN, shM, shA, shI, shO, shC, shR, shS]
  try grind
theorem mayR_19 (w d n m a : Int) (imm : W64) (off cond r s : Int) : mayR 19 w d n m a imm off cond r s = mayA 19 w d n m a imm off cond r s := by
  have E : hasA 19 [101] = false ∧ hasA 19 [98] = false ∧ hasA 19 [116] = false ∧ hasA 19 [100, 101] = true ∧ hasA 19 [110, 98] = true ∧ hasA 19 [109, 116] = true ∧ hasA 19 [97] = true ∧ hasA 19 [115, 104] = false ∧ hasA 19 [114] = false ∧ hasA 19 [99, 107] = false ∧ hasA 19 [105, 108, 119, 117, 102] = false ∧ hasA 19 [106, 103] = false ∧ hasA 19 [122] = false ∧ hasA 19 [104] = false ∧ hasA 19 [105] = false ∧ hasA 19 [119] = false ∧ hasA 19 [117] = false ∧ hasA 19 [102] = false ∧ hasA 19 [108] = false ∧ hasA 19 [106] = false ∧ hasA 19 [103] = false := by decide +kernel
  simp only [mayR, m1, m2, m3, m4, m5, m5a, m6, regsR, badR, E, oi_or, ai_and, fourA, mayA, badA, restA, sameSh, regsB, numsB, isW]
  simp [inB, shD, shN, shM, shA, shI, shO, shC, shR, shS]
  try grind
theorem mayR_20 (w d n m a : Int) (imm : W64) (off cond r s : Int) : mayR 20 w d n m a imm off cond r s = mayA 20 w d n m a imm off cond r s := by
  have E : hasA 20 [101] = false ∧ hasA 20 [98] = false ∧ hasA 20 [116] = false ∧ hasA 20 [100, 101] = true ∧ hasA 20 [110, 98] = true ∧ hasA 20 [109, 116] = true ∧ hasA 20 [97] = true ∧ hasA 20 [115, 104] = false ∧ hasA 20 [114] = false ∧ hasA 20 [99, 107] = false ∧ hasA 20 [105, 108, 119, 117, 102] = false ∧ hasA 20 [106, 103] = false ∧ hasA 20 [122] = false ∧ hasA 20 [104] = false ∧ hasA 20 [105] = false ∧ hasA 20 [119] = false ∧ hasA 20 [117] = false ∧ hasA 20 [102] = false ∧ hasA 20 [108] = false ∧ hasA 20 [106] = false ∧ hasA 20 [103] = false := by decide +kernel
  simp only [mayR, m1, m2, m3, m4, m5, m5a, m6, regsR, badR, E, oi_or, ai_and, fourA, mayA, badA, restA, sameSh, regsB, numsB, isW]
  simp [inB, shD, shN, shM, shA, shI, shO, shC, shR, shS]
  try grind
theorem mayR_21 (w d n m a : Int) (imm : W64) (off cond r s : Int) : mayR 21 w d n m a imm off cond r s = mayA 21 w d n m a imm off cond r s := by
  have E : hasA 21 [101] = false ∧ hasA 21 [98] = false ∧ hasA 21 [116] = false ∧ hasA 21 [100, 101] = true ∧ hasA 21 [110, 98] = true ∧ hasA 21 [109, 116] = true ∧ hasA 21 [97] = false ∧ hasA 21 [115, 104] = false ∧ hasA 21 [114] = false ∧ hasA 21 [99, 107] = false ∧ hasA 21 [105, 108, 119, 117, 102] = false ∧ hasA 21 [106, 103] = false ∧ hasA 21 [122] = false ∧ hasA 21 [104] = false ∧ hasA 21 [105] = false ∧ hasA 21 [119] = false ∧ hasA 21 [117] = false ∧ hasA 21 [102] = false ∧ hasA 21 [108] = false ∧ hasA 21 [106] = false ∧ hasA 21 [103] = false := by decide +kernel
  simp only [mayR, m1, m2, m3, m4, m5, m5a, m6, regsR, badR, E, oi_or, ai_and, fourA, mayA, badA, restA, sameSh, regsB, numsB, isW]
  simp [inB, shD, shN, shM, shA, shI, shO, shC, shR, shS]
  try grind
theorem mayR_22 (w d n m a : Int) (imm : W64) (off cond r s : Int) : mayR 22 w d n m a imm off cond r s = mayA 22 w d n m a imm off cond r s := by
  have E : hasA 22 [101] = false ∧ hasA 22 [98] = false ∧ hasA 22 [116] = false ∧ hasA 22 [100, 101] = true ∧ hasA 22 [110, 98] = true ∧ hasA 22 [109, 116] = true ∧ hasA 22 [97] = false ∧ hasA 22 [115, 104] = false ∧ hasA 22 [114] = false ∧ hasA 22 [99, 107] = false ∧ hasA 22 [105, 108, 119, 117, 102] = false ∧ hasA 22 [106, 103] = false ∧ hasA 22 [122] = false ∧ hasA 22 [104] = false ∧ hasA 22 [105] = false ∧ hasA 22 [119] = false ∧ hasA 22 [117] = false ∧ hasA 22 [102] = false ∧ hasA 22 [108] = false ∧ hasA 22 [106] = false ∧ hasA 22 [103] = false := by decide +kernel
  simp only [mayR, m1, m2, m3, m4, m5, m5a, m6, regsR, badR, E, oi_or, ai_and, fourA, mayA, badA, restA, sameSh, regsB, numsB, isW]
  simp [inB, shD, shN, shM, shA, shI, shO, shC, shR, shS]
  try grind
theorem mayR_23 (w d n m a : Int) (imm : W64) (off cond r s : Int) : mayR 23 w d n m a imm off cond r s = mayA 23 w d n m a imm off cond r s := by
  have E : hasA 23 [101] = false ∧ hasA 23 [98] = false ∧ hasA 23 [116] = false ∧ hasA 23 [100, 101] = true ∧ hasA 23 [110, 98] = true ∧ hasA 23 [109, 116] = true ∧ hasA 23 [97] = false ∧ hasA 23 [115, 104] = false ∧ hasA 23 [114] = false ∧ hasA 23 [99, 107] = false ∧ hasA 23 [105, 108, 119, 117, 102] = false ∧ hasA 23 [106, 103] = false ∧ hasA 23 [122] = false ∧ hasA 23 [104] = false ∧ hasA 23 [105] = false ∧ hasA 23 [119] = false ∧ hasA 23 [117] = false ∧ hasA 23 [102] = false ∧ hasA 23 [108] = false ∧ hasA 23 [106] = false ∧ hasA 23 [103] = false := by decide +kernel
  simp only [mayR, m1, m2, m3, m4, m5, m5a, m6, regsR, badR, E, oi_or, ai_and, fourA, mayA, badA, restA, sameSh, regsB, numsB, isW]
  simp [inB, shD, shN, shM, shA, shI, shO, shC, shR, shS]
  try grind
theorem mayR_24 (w d n m a : Int) (imm : W64) (off cond r s : Int) : mayR 24 w d n m a imm off cond r s = mayA 24 w d n m a imm off cond r s := by
  have E : hasA 24 [101] = false ∧ hasA 24 [98] = false ∧ hasA 24 [116] = false ∧ hasA 24 [100, 101] = true ∧ hasA 24 [110, 98] = true ∧ hasA 24 [109, 116] = true ∧ hasA 24 [97] = false ∧ hasA 24 [115, 104] = false ∧ hasA 24 [114] = false ∧ hasA 24 [99, 107] = false ∧ hasA 24 [105, 108, 119, 117, 102] = false ∧ hasA 24 [106, 103] = false ∧ hasA 24 [122] = false ∧ hasA 24 [104] = false ∧ hasA 24 [105] = false ∧ hasA 24 [119] = false ∧ hasA 24 [117] = false ∧ hasA 24 [102] = false ∧ hasA 24 [108] = false ∧ hasA 24 [106] = false ∧ hasA 24 [103] = false := by decide +kernel
  simp only [mayR, m1, m2, m3, m4, m5, m5a, m6, regsR, badR, E, oi_or, ai_and, fourA, mayA, badA, restA, sameSh, regsB, numsB, isW]
  simp [inB, shD, shN, shM, shA, shI, shO, shC, shR, shS]
  try grind
end Go.Proofs.Ytocfkaihfjbfnaa
set_option maxRecDepth 100000
namespace Go.Proofs.Ytocfkaihfjbfnaa
open Go.Proofs.Ytocfkaihfjbfnaa.Ev Go.RowKit
theorem mayR_25 (w d n m a : Int) (imm : W64) (off cond r s : Int) : mayR 25 w d n m a imm off cond r s = mayA 25 w d n m a imm off cond r s := by
  have E : hasA 25 [101] = false ∧ hasA 25 [98] = false ∧ hasA 25 [116] = false ∧ hasA 25 [100, 101] = true ∧ hasA 25 [110, 98] = true ∧ hasA 25 [109, 116] = true ∧ hasA 25 [97] = false ∧ hasA 25 [115, 104] = false ∧ hasA 25 [114] = false ∧ hasA 25 [99, 107] = false ∧ hasA 25 [105, 108, 119, 117, 102] = false ∧ hasA 25 [106, 103] = false ∧ hasA 25 [122] = false ∧ hasA 25 [104] = false ∧ hasA 25 [105] = false ∧ hasA 25 [119] = false ∧ hasA 25 [117] = false ∧ hasA 25 [102] = false ∧ hasA 25 [108] = false ∧ hasA 25 [106] = false ∧ hasA 25 [103] = false := by decide +kernel
  simp only [mayR, m1, m2, m3, m4, m5, m5a, m6, regsR, badR, E, oi_or, ai_and, fourA, mayA, badA, restA, sameSh, regsB, numsB, isW]
  simp [inB, shD, shN, shM, shA, shI, shO, shC, shR, shS]
  try grind
theorem mayR_26 (w d n m a : Int) (imm : W64) (off cond r s : Int) : mayR 26 w d n m a imm off cond r s = mayA 26 w d n m a imm off cond r s := by
  have E : hasA 26 [101] = false ∧ hasA 26 [98] = false ∧ hasA 26 [116] = false ∧ hasA 26 [100, 101] = true ∧ hasA 26 [110, 98] = true ∧ hasA 26 [109, 116] = true ∧ hasA 26 [97] = false ∧ hasA 26 [115, 104] = false ∧ hasA 26 [114] = false ∧ hasA 26 [99, 107] = false ∧ hasA 26 [105, 108, 119, 117, 102] = false ∧ hasA 26 [106, 103] = false ∧ hasA 26 [122] = false ∧ hasA 26 [104] = false ∧ hasA 26 [105] = false ∧ hasA 26 [119] = false ∧ hasA 26 [117] = false ∧ hasA 26 [102] = false ∧ hasA 26 [108] = false ∧ hasA 26 [106] = false ∧ hasA 26 [103] = false := by decide +kernel
  simp only [mayR, m1, m2, m3, m4, m5, m5a, m6, regsR, badR, E, oi_or, ai_and, fourA, mayA, badA, restA, sameSh, regsB, numsB, isW]
  simp [inB, shD, shN, shM, shA, shI, shO, shC, shR, shS]
  try grind
theorem mayR_27 (w d n m a : Int) (imm : W64) (off cond r s : Int) : mayR 27 w d n m a imm off cond r s = mayA 27 w d n m a imm off cond r s := by
  have E : hasA 27 [101] = false ∧ hasA 27 [98] = false ∧ hasA 27 [116] = false ∧ hasA 27 [100, 101] = true ∧ hasA 27 [110, 98] = true ∧ hasA 27 [109, 116] = true ∧ hasA 27 [97] = false ∧ hasA 27 [115, 104] = false ∧ hasA 27 [114] = false ∧ hasA 27 [99, 107] = false ∧ hasA 27 [105, 108, 119, 117, 102] = false ∧ hasA 27 [106, 103] = false ∧ hasA 27 [122] = false ∧ hasA 27 [104] = false ∧ hasA 27 [105] = false ∧ hasA 27 [119] = false ∧ hasA 27 [117] = false ∧ hasA 27 [102] = false ∧ hasA 27 [108] = false ∧ hasA 27 [106] = false ∧ hasA 27 [103] = false := by decide +kernel
  simp only [mayR, m1, m2, m3, m4, m5, m5a, m6, regsR, badR, E, oi_or, ai_and, fourA, mayA, badA, restA, sameSh, regsB, numsB, isW]
  simp [inB, shD, shN, shM, shA, shI, shO, shC, shR, shS]
  try grind
theorem mayR_28 (w d n m a : Int) (imm : W64) (off cond r s : Int) : mayR 28 w d n m a imm off cond r s = mayA 28 w d n m a imm off cond r s := by
  have E : hasA 28 [101] = false ∧ hasA 28 [98] = false ∧ hasA 28 [116] = false ∧ hasA 28 [100, 101] = true ∧ hasA 28 [110, 98] = true ∧ hasA 28 [109, 116] = true ∧ hasA 28 [97] = false ∧ hasA 28 [115, 104] = false ∧ hasA 28 [114] = false ∧ hasA 28 [99, 107] = false ∧ hasA 28 [105, 108, 119, 117, 102] = false ∧ hasA 28 [106, 103] = false ∧ hasA 28 [122] = false ∧ hasA 28 [104] = false ∧ hasA 28 [105] = false ∧ hasA 28 [119] = false ∧ hasA 28 [117] = false ∧ hasA 28 [102] = false ∧ hasA 28 [108] = false ∧ hasA 28 [106] = false ∧ hasA 28 [103] = false := by decide +kernel
  simp only [mayR, m1, m2, m3, m4, m5, m5a, m6, regsR, badR, E, oi_or, ai_and, fourA, mayA, badA, restA, sameSh, regsB, numsB, isW]
  simp [inB, shD, shN, shM, shA, shI, shO, shC, shR, shS]
  try grind
theorem mayR_29 (w d n m a : Int) (imm : W64) (off cond r s : Int) : mayR 29 w d n m a imm off cond r s = mayA 29 w d n m a imm off cond r s := by
  have E : hasA 29 [101] = false ∧ hasA 29 [98] = false ∧ hasA 29 [116] = false ∧ hasA 29 [100, 101] = true ∧ hasA 29 [110, 98] = true ∧ hasA 29 [109, 116] = false ∧ hasA 29 [97] = false ∧ hasA 29 [115, 104] = true ∧ hasA 29 [114] = true ∧ hasA 29 [99, 107] = false ∧ hasA 29 [105, 108, 119, 117, 102] = false ∧ hasA 29 [106, 103] = false ∧ hasA 29 [122] = false ∧ hasA 29 [104] = false ∧ hasA 29 [105] = false ∧ hasA 29 [119] = false ∧ hasA 29 [117] = false ∧ hasA 29 [102] = false ∧ hasA 29 [108] = false ∧ hasA 29 [106] = false ∧ hasA 29 [103] = false := by decide +kernel
  simp only [mayR, m1, m2, m3, m4, m5, m5a, m6, regsR, badR, E, oi_or, ai_and, fourA, mayA, badA, restA, sameSh, regsB, numsB, isW]
  simp [inB, shD, shN, shM, shA, shI, shO, shC, shR, shS]
  try grind
theorem mayR_30 (w d n m a : Int) (imm : W64) (off cond r s : Int) : mayR 30 w d n m a imm off cond r s = mayA 30 w d n m a imm off cond r s := by
  have E : hasA 30 [101] = false ∧ hasA 30 [98] = false ∧ hasA 30 [116] = false ∧ hasA 30 [100, 101] = true ∧ hasA 30 [110, 98] = true ∧ hasA 30 [109, 116] = false ∧ hasA 30 [97] = false ∧ hasA 30 [115, 104] = true ∧ hasA 30 [114] = true ∧ hasA 30 [99, 107] = false ∧ hasA 30 [105, 108, 119, 117, 102] = false ∧ hasA 30 [106, 103] = false ∧ hasA 30 [122] = false ∧ hasA 30 [104] = false ∧ hasA 30 [105] = false ∧ hasA 30 [119] = false ∧ hasA 30 [117] = false ∧ hasA 30 [102] = false ∧ hasA 30 [108] = false ∧ hasA 30 [106] = false ∧ hasA 30 [103] = false := by decide +kernel
  simp only [mayR, m1, m2, m3, m4, m5, m5a, m6, regsR, badR, E, oi_or, ai_and, fourA, mayA, badA, restA, sameSh, regsB, numsB, isW]
  simp [inB, shD, shN, shM, shA, shI, shO, shC, shR, shS]
  try grind
theorem mayR_31 (w d n m a : Int) (imm : W64) (off cond r s : Int) : mayR 31 w d n m a imm off cond r s = mayA 31 w d n m a imm off cond r s := by
  have E : hasA 31 [101] = false ∧ hasA 31 [98] = false ∧ hasA 31 [116] = false ∧ hasA 31 [100, 101] = true ∧ hasA 31 [110, 98] = true ∧ hasA 31 [109, 116] = true ∧ hasA 31 [97] = false ∧ hasA 31 [115, 104] = false ∧ hasA 31 [114] = false ∧ hasA 31 [99, 107] = true ∧ hasA 31 [105, 108, 119, 117, 102] = false ∧ hasA 31 [106, 103] = false ∧ hasA 31 [122] = false ∧ hasA 31 [104] = false ∧ hasA 31 [105] = false ∧ hasA 31 [119] = false ∧ hasA 31 [117] = false ∧ hasA 31 [102] = false ∧ hasA 31 [108] = false ∧ hasA 31 [106] = false ∧ hasA 31 [103] = false := by decide +kernel
  simp only [mayR, m1, m2, m3, m4, m5, m5a, m6, regsR, badR, E, oi_or, ai_and, fourA, mayA, badA, restA, sameSh, regsB, numsB, isW]
  simp [inB, shD, shN, shM, shA, shI, shO, shC, shR, shS]
  try grind
theorem mayR_32 (w d n m a : Int) (imm : W64) (off cond r s : Int) : mayR 32 w d n m a imm off cond r s = mayA 32 w d n m a imm off cond r s := by
  have E : hasA 32 [101] = false ∧ hasA 32 [98] = false ∧ hasA 32 [116] = false ∧ hasA 32 [100, 101] = true ∧ hasA 32 [110, 98] = true ∧ hasA 32 [109, 116] = true ∧ hasA 32 [97] = false ∧ hasA 32 [115, 104] = false ∧ hasA 32 [114] = false ∧ hasA 32 [99, 107] = true ∧ hasA 32 [105, 108, 119, 117, 102] = false ∧ hasA 32 [106, 103] = false ∧ hasA 32 [122] = false ∧ hasA 32 [104] = false ∧ hasA 32 [105] = false ∧ hasA 32 [119] = false ∧ hasA 32 [117] = false ∧ hasA 32 [102] = false ∧ hasA 32 [108] = false ∧ hasA 32 [106] = false ∧ hasA 32 [103] = false := by decide +kernel
  simp only [mayR, m1, m2, m3, m4, m5, m5a, m6, regsR, badR, E, oi_or, ai_and, fourA, mayA, badA, restA, sameSh, regsB, numsB, isW]
  simp [inB, shD, shN, shM, shA, shI, shO, shC, shR, shS]
  try grind
theorem mayR_33 (w d n m a : Int) (imm : W64) (off cond r s : Int) : mayR 33 w d n m a imm off cond r s = mayA 33 w d n m a imm off cond r s := by
  have E : hasA 33 [101] = false ∧ hasA 33 [98] = true ∧ hasA 33 [116] = false ∧ hasA 33 [100, 101] = true ∧ hasA 33 [110, 98] = true ∧ hasA 33 [109, 116] = false ∧ hasA 33 [97] = false ∧ hasA 33 [115, 104] = false ∧ hasA 33 [114] = false ∧ hasA 33 [99, 107] = false ∧ hasA 33 [105, 108, 119, 117, 102] = true ∧ hasA 33 [106, 103] = false ∧ hasA 33 [122] = true ∧ hasA 33 [104] = false ∧ hasA 33 [105] = false ∧ hasA 33 [119] = false ∧ hasA 33 [117] = true ∧ hasA 33 [102] = false ∧ hasA 33 [108] = false ∧ hasA 33 [106] = false ∧ hasA 33 [103] = false := by decide +kernel
  simp only [mayR, m1, m2, m3, m4, m5, m5a, m6, regsR, badR, E, oi_or, ai_and, fourA, mayA, badA, restA, sameSh, regsB, numsB, isW]
  simp [inB, shD, shN, shM, shA, shI, shO, shC, shR, shS]
  try grind
theorem mayR_34 (w d n m a : Int) (imm : W64) (off cond r s : Int) : mayR 34 w d n m a imm off cond r s = mayA 34 w d n m a imm off cond r s := by
  have E : hasA 34 [101] = false ∧ hasA 34 [98] = true ∧ hasA 34 [116] = false ∧ hasA 34 [100, 101] = true ∧ hasA 34 [110, 98] = true ∧ hasA 34 [109, 116] = false ∧ hasA 34 [97] = false ∧ hasA 34 [115, 104] = false ∧ hasA 34 [114] = false ∧ hasA 34 [99, 107] = false ∧ hasA 34 [105, 108, 119, 117, 102] = true ∧ hasA 34 [106, 103] = false ∧ hasA 34 [122] = true ∧ hasA 34 [104] = false ∧ hasA 34 [105] = false ∧ hasA 34 [119] = false ∧ hasA 34 [117] = true ∧ hasA 34 [102] = false ∧ hasA 34 [108] = false ∧ hasA 34 [106] = false ∧ hasA 34 [103] = false := by decide +kernel
  simp only [mayR, m1, m2, m3, m4, m5, m5a, m6, regsR, badR, E, oi_or, ai_and, fourA, mayA, badA, restA, sameSh, regsB, numsB, isW]
  simp [inB, shD, shN, shM, shA, shI, shO, shC, shR, shS]
  try grind
theorem mayR_35 (w d n m a : Int) (imm : W64) (off cond r s : Int) : mayR 35 w d n m a imm off cond r s = mayA 35 w d n m a imm off cond r s := by
  have E : hasA 35 [101] = false ∧ hasA 35 [98] = true ∧ hasA 35 [116] = false ∧ hasA 35 [100, 101] = true ∧ hasA 35 [110, 98] = true ∧ hasA 35 [109, 116] = false ∧ hasA 35 [97] = false ∧ hasA 35 [115, 104] = false ∧ hasA 35 [114] = false ∧ hasA 35 [99, 107] = false ∧ hasA 35 [105, 108, 119, 117, 102] = false ∧ hasA 35 [106, 103] = false ∧ hasA 35 [122] = true ∧ hasA 35 [104] = false ∧ hasA 35 [105] = false ∧ hasA 35 [119] = false ∧ hasA 35 [117] = false ∧ hasA 35 [102] = false ∧ hasA 35 [108] = false ∧ hasA 35 [106] = false ∧ hasA 35 [103] = false := by decide +kernel
  simp only [mayR, m1, m2, m3, m4, m5, m5a, m6, regsR, badR, E, oi_or, ai_and, fourA, mayA, badA, restA, sameSh, regsB, numsB, isW]
  simp [inB, shD, shN, shM, shA, shI, shO, shC, shR, shS]
  try grind
theorem mayR_36 (w d n m a : Int) (imm : W64) (off cond r s : Int) : mayR 36 w d n m a imm off cond r s = mayA 36 w d n m a imm off cond r s := by
  have E : hasA 36 [101] = false ∧ hasA 36 [98] = true ∧ hasA 36 [116] = false ∧ hasA 36 [100, 101] = true ∧ hasA 36 [110, 98] = true ∧ hasA 36 [109, 116] = false ∧ hasA 36 [97] = false ∧ hasA 36 [115, 104] = false ∧ hasA 36 [114] = false ∧ hasA 36 [99, 107] = false ∧ hasA 36 [105, 108, 119, 117, 102] = false ∧ hasA 36 [106, 103] = false ∧ hasA 36 [122] = true ∧ hasA 36 [104] = false ∧ hasA 36 [105] = false ∧ hasA 36 [119] = false ∧ hasA 36 [117] = false ∧ hasA 36 [102] = false ∧ hasA 36 [108] = false ∧ hasA 36 [106] = false ∧ hasA 36 [103] = false := by decide +kernel
  simp only [mayR, m1, m2, m3, m4, m5, m5a, m6, regsR, badR, E, oi_or, ai_and, fourA, mayA, badA, restA, sameSh, regsB, numsB, isW]
  simp [inB, shD, shN, shM, shA, shI, shO, shC, shR, shS]
  try grind
theorem mayR_37 (w d n m a : Int) (imm : W64) (off cond r s : Int) : mayR 37 w d n m a imm off cond r s = mayA 37 w d n m a imm off cond r s := by
  have E : hasA 37 [101] = false ∧ hasA 37 [98] = true ∧ hasA 37 [116] = false ∧ hasA 37 [100, 101] = true ∧ hasA 37 [110, 98] = true ∧ hasA 37 [109, 116] = false ∧ hasA 37 [97] = false ∧ hasA 37 [115, 104] = false ∧ hasA 37 [114] = false ∧ hasA 37 [99, 107] = false ∧ hasA 37 [105, 108, 119, 117, 102] = false ∧ hasA 37 [106, 103] = false ∧ hasA 37 [122] = true ∧ hasA 37 [104] = false ∧ hasA 37 [105] = false ∧ hasA 37 [119] = false ∧ hasA 37 [117] = false ∧ hasA 37 [102] = false ∧ hasA 37 [108] = false ∧ hasA 37 [106] = false ∧ hasA 37 [103] = false := by decide +kernel
  simp only [mayR, m1, m2, m3, m4, m5, m5a, m6, regsR, badR, E, oi_or, ai_and, fourA, mayA, badA, restA, sameSh, regsB, numsB, isW]
  simp [inB, shD, shN, shM, shA, shI, shO, shC, shR, shS]
  try grind
theorem mayR_38 (w d n m a : Int) (imm : W64) (off cond r s : Int) : mayR 38 w d n m a imm off cond r s = mayA 38 w d n m a imm off cond r s := by
  have E : hasA 38 [101] = false ∧ hasA 38 [98] = true ∧ hasA 38 [116] = true ∧ hasA 38 [100, 101] = true ∧ hasA 38 [110, 98] = true ∧ hasA 38 [109, 116] = true ∧ hasA 38 [97] = false ∧ hasA 38 [115, 104] = false ∧ hasA 38 [114] = false ∧ hasA 38 [99, 107] = false ∧ hasA 38 [105, 108, 119, 117, 102] = false ∧ hasA 38 [106, 103] = false ∧ hasA 38 [122] = true ∧ hasA 38 [104] = false ∧ hasA 38 [105] = false ∧ hasA 38 [119] = false ∧ hasA 38 [117] = false ∧ hasA 38 [102] = false ∧ hasA 38 [108] = false ∧ hasA 38 [106] = false ∧ hasA 38 [103] = false := by decide +kernel
  simp only [mayR, m1, m2, m3, m4, m5, m5a, m6, regsR, badR, E, oi_or, ai_and, fourA, mayA, badA, restA, sameSh, regsB, numsB, isW]
  simp [inB, shD, shN, shM, shA, shI, shO, shC, shR, shS]
  try grind
theorem mayR_39 (w d n m a : Int) (imm : W64) (off cond r s : Int) : mayR 39 w d n m a imm off cond r s = mayA 39 w d n m a imm off cond r s := by
  have E : hasA 39 [101] = false ∧ hasA 39 [98] = false ∧ hasA 39 [116] = false ∧ hasA 39 [100, 101] = false ∧ hasA 39 [110, 98] = false ∧ hasA 39 [109, 116] = false ∧ hasA 39 [97] = false ∧ hasA 39 [115, 104] = false ∧ hasA 39 [114] = false ∧ hasA 39 [99, 107] = false ∧ hasA 39 [105, 108, 119, 117, 102] = true ∧ hasA 39 [106, 103] = false ∧ hasA 39 [122] = false ∧ hasA 39 [104] = false ∧ hasA 39 [105] = false ∧ hasA 39 [119] = false ∧ hasA 39 [117] = false ∧ hasA 39 [102] = true ∧ hasA 39 [108] = false ∧ hasA 39 [106] = false ∧ hasA 39 [103] = false := by decide +kernel
  simp only [mayR, m1, m2, m3, m4, m5, m5a, m6, regsR, badR, E, oi_or, ai_and, fourA, mayA, badA, restA, sameSh, regsB, numsB, isW]
  simp [inB, shD, shN, shM, shA, shI, shO, shC, shR, shS]
  try grind
theorem mayR_40 (w d n m a : Int) (imm : W64) (off cond r s : Int) : mayR 40 w d n m a imm off cond r s = mayA 40 w d n m a imm off cond r s := by
  have E : hasA 40 [101] = false ∧ hasA 40 [98] = false ∧ hasA 40 [116] = false ∧ hasA 40 [100, 101] = false ∧ hasA 40 [110, 98] = false ∧ hasA 40 [109, 116] = false ∧ hasA 40 [97] = false ∧ hasA 40 [115, 104] = false ∧ hasA 40 [114] = false ∧ hasA 40 [99, 107] = false ∧ hasA 40 [105, 108, 119, 117, 102] = false ∧ hasA 40 [106, 103] = true ∧ hasA 40 [122] = false ∧ hasA 40 [104] = false ∧ hasA 40 [105] = false ∧ hasA 40 [119] = false ∧ hasA 40 [117] = false ∧ hasA 40 [102] = false ∧ hasA 40 [108] = false ∧ hasA 40 [106] = true ∧ hasA 40 [103] = false := by decide +kernel
  simp only [mayR, m1, m2, m3, m4, m5, m5a, m6, regsR, badR, E, oi_or, ai_and, fourA, mayA, badA, restA, sameSh, regsB, numsB, isW]
  simp [inB, shD, shN, shM, shA, shI, shO, shC, shR, shS]
  try grind
theorem mayR_41 (w d n m a : Int) (imm : W64) (off cond r s : Int) : mayR 41 w d n m a imm off cond r s = mayA 41 w d n m a imm off cond r s := by
  have E : hasA 41 [101] = false ∧ hasA 41 [98] = false ∧ hasA 41 [116] = false ∧ hasA 41 [100, 101] = false ∧ hasA 41 [110, 98] = false ∧ hasA 41 [109, 116] = false ∧ hasA 41 [97] = false ∧ hasA 41 [115, 104] = false ∧ hasA 41 [114] = false ∧ hasA 41 [99, 107] = true ∧ hasA 41 [105, 108, 119, 117, 102] = false ∧ hasA 41 [106, 103] = true ∧ hasA 41 [122] = false ∧ hasA 41 [104] = false ∧ hasA 41 [105] = false ∧ hasA 41 [119] = false ∧ hasA 41 [117] = false ∧ hasA 41 [102] = false ∧ hasA 41 [108] = false ∧ hasA 41 [106] = false ∧ hasA 41 [103] = true := by decide +kernel
  simp only [mayR, m1, m2, m3, m4, m5, m5a, m6, regsR, badR, E, oi_or, ai_and, fourA, mayA, badA, restA, sameSh, regsB, numsB, isW]
  simp [inB, shD, shN, shM, shA, shI, shO, shC, shR, shS]
  try grind
theorem mayR_42 (w d n m a : Int) (imm : W64) (off cond r s : Int) : mayR 42 w d n m a imm off cond r s = mayA 42 w d n m a imm off cond r s := by
  have E : hasA 42 [101] = false ∧ hasA 42 [98] = false ∧ hasA 42 [116] = false ∧ hasA 42 [100, 101] = true ∧ hasA 42 [110, 98] = false ∧ hasA 42 [109, 116] = false ∧ hasA 42 [97] = false ∧ hasA 42 [115, 104] = false ∧ hasA 42 [114] = false ∧ hasA 42 [99, 107] = false ∧ hasA 42 [105, 108, 119, 117, 102] = false ∧ hasA 42 [106, 103] = true ∧ hasA 42 [122] = false ∧ hasA 42 [104] = false ∧ hasA 42 [105] = false ∧ hasA 42 [119] = false ∧ hasA 42 [117] = false ∧ hasA 42 [102] = false ∧ hasA 42 [108] = false ∧ hasA 42 [106] = false ∧ hasA 42 [103] = true := by decide +kernel
  simp only [mayR, m1, m2, m3, m4, m5, m5a, m6, regsR, badR, E, oi_or, ai_and, fourA, mayA, badA, restA, sameSh, regsB, numsB, isW]
  simp [inB, shD, shN, shM, shA, shI, shO, shC, shR, shS]
  try grind
theorem mayR_43 (w d n m a : Int) (imm : W64) (off cond r s : Int) : mayR 43 w d n m a imm off cond r s = mayA 43 w d n m a imm off cond r s := by
  have E : hasA 43 [101] = false ∧ hasA 43 [98] = false ∧ hasA 43 [116] = false ∧ hasA 43 [100, 101] = true ∧ hasA 43 [110, 98] = false ∧ hasA 43 [109, 116] = false ∧ hasA 43 [97] = false ∧ hasA 43 [115, 104] = false ∧ hasA 43 [114] = false ∧ hasA 43 [99, 107] = false ∧ hasA 43 [105, 108, 119, 117, 102] = false ∧ hasA 43 [106, 103] = true ∧ hasA 43 [122] = false ∧ hasA 43 [104] = false ∧ hasA 43 [105] = false ∧ hasA 43 [119] = false ∧ hasA 43 [117] = false ∧ hasA 43 [102] = false ∧ hasA 43 [108] = false ∧ hasA 43 [106] = false ∧ hasA 43 [103] = true := by decide +kernel
  simp only [mayR, m1, m2, m3, m4, m5, m5a, m6, regsR, badR, E, oi_or, ai_and, fourA, mayA, badA, restA, sameSh, regsB, numsB, isW]
  simp [inB, shD, shN, shM, shA, shI, shO, shC, shR, shS]
  try grind
theorem mayR_44 (w d n m a : Int) (imm : W64) (off cond r s : Int) : mayR 44 w d n m a imm off cond r s = mayA 44 w d n m a imm off cond r s := by
  have E : hasA 44 [101] = false ∧ hasA 44 [98] = false ∧ hasA 44 [116] = false ∧ hasA 44 [100, 101] = false ∧ hasA 44 [110, 98] = true ∧ hasA 44 [109, 116] = false ∧ hasA 44 [97] = false ∧ hasA 44 [115, 104] = false ∧ hasA 44 [114] = false ∧ hasA 44 [99, 107] = false ∧ hasA 44 [105, 108, 119, 117, 102] = false ∧ hasA 44 [106, 103] = false ∧ hasA 44 [122] = false ∧ hasA 44 [104] = false ∧ hasA 44 [105] = false ∧ hasA 44 [119] = false ∧ hasA 44 [117] = false ∧ hasA 44 [102] = false ∧ hasA 44 [108] = false ∧ hasA 44 [106] = false ∧ hasA 44 [103] = false := by decide +kernel
  simp only [mayR, m1, m2, m3, m4, m5, m5a, m6, regsR, badR, E, oi_or, ai_and, fourA, mayA, badA, restA, sameSh, regsB, numsB, isW]
  simp [inB, shD, shN, shM, shA, shI, shO, shC, shR, shS]
  try grind
theorem mayR_45 (w d n m a : Int) (imm : W64) (off cond r s : Int) : mayR 45 w d n m a imm off cond r s = mayA 45 w d n m a imm off cond r s := by
  have E : hasA 45 [101] = false ∧ hasA 45 [98] = false ∧ hasA 45 [116] = false ∧ hasA 45 [100, 101] = false ∧ hasA 45 [110, 98] = false ∧ hasA 45 [109, 116] = false ∧ hasA 45 [97] = false ∧ hasA 45 [115, 104] = false ∧ hasA 45 [114] = false ∧ hasA 45 [99, 107] = false ∧ hasA 45 [105, 108, 119, 117, 102] = true ∧ hasA 45 [106, 103] = false ∧ hasA 45 [122] = false ∧ hasA 45 [104] = false ∧ hasA 45 [105] = false ∧ hasA 45 [119] = true ∧ hasA 45 [117] = false ∧ hasA 45 [102] = false ∧ hasA 45 [108] = false ∧ hasA 45 [106] = false ∧ hasA 45 [103] = false := by decide +kernel
  simp only [mayR, m1, m2, m3, m4, m5, m5a, m6, regsR, badR, E, oi_or, ai_and, fourA, mayA, badA, restA, sameSh, regsB, numsB, isW]
  simp [inB, shD, shN, shM, shA, shI, shO, shC, shR, shS]
  try grind
theorem mayR_46 (w d n m a : Int) (imm : W64) (off cond r s : Int) : mayR 46 w d n m a imm off cond r s = mayA 46 w d n m a imm off cond r s := by
  have E : hasA 46 [101] = false ∧ hasA 46 [98] = false ∧ hasA 46 [116] = false ∧ hasA 46 [100, 101] = false ∧ hasA 46 [110, 98] = false ∧ hasA 46 [109, 116] = false ∧ hasA 46 [97] = false ∧ hasA 46 [115, 104] = false ∧ hasA 46 [114] = false ∧ hasA 46 [99, 107] = false ∧ hasA 46 [105, 108, 119, 117, 102] = true ∧ hasA 46 [106, 103] = false ∧ hasA 46 [122] = false ∧ hasA 46 [104] = false ∧ hasA 46 [105] = false ∧ hasA 46 [119] = true ∧ hasA 46 [117] = false ∧ hasA 46 [102] = false ∧ hasA 46 [108] = false ∧ hasA 46 [106] = false ∧ hasA 46 [103] = false := by decide +kernel
  simp only [mayR, m1, m2, m3, m4, m5, m5a, m6, regsR, badR, E, oi_or, ai_and, fourA, mayA, badA, restA, sameSh, regsB, numsB, isW]
  simp [inB, shD, shN, shM, shA, shI, shO, shC, shR, shS]
  try grind
theorem mayR_47 (w d n m a : Int) (imm : W64) (off cond r s : Int) : mayR 47 w d n m a imm off cond r s = mayA 47 w d n m a imm off cond r s := by
  have E : hasA 47 [101] = false ∧ hasA 47 [98] = false ∧ hasA 47 [116] = false ∧ hasA 47 [100, 101] = false ∧ hasA 47 [110, 98] = false ∧ hasA 47 [109, 116] = false ∧ hasA 47 [97] = false ∧ hasA 47 [115, 104] = false ∧ hasA 47 [114] = false ∧ hasA 47 [99, 107] = false ∧ hasA 47 [105, 108, 119, 117, 102] = false ∧ hasA 47 [106, 103] = false ∧ hasA 47 [122] = false ∧ hasA 47 [104] = false ∧ hasA 47 [105] = false ∧ hasA 47 [119] = false ∧ hasA 47 [117] = false ∧ hasA 47 [102] = false ∧ hasA 47 [108] = false ∧ hasA 47 [106] = false ∧ hasA 47 [103] = false := by decide +kernel
  simp only [mayR, m1, m2, m3, m4, m5, m5a, m6, regsR, badR, E, oi_or, ai_and, fourA, mayA, badA, restA, sameSh, regsB, numsB, isW]
  simp [inB, shD, shN, shM, shA, shI, shO, shC, shR, shS]
  try grind
end Go.Proofs.Ytocfkaihfjbfnaa
set_option maxRecDepth 100000
namespace Go.Proofs.Ytocfkaihfjbfnaa
open Go.Proofs.Ytocfkaihfjbfnaa.Ev Go.RowKit
theorem mayR_out {op w d n m a : Int} {imm : W64} {off cond r s : Int} (h : ¬ (1 ≤ op ∧ op ≤ 47)) : mayR op w d n m a imm off cond r s = mayA op w d n m a imm off cond r s := by
  have e1 : m1 op d n m a = true := by
    unfold m1
    by_cases h1 : op < 1
    · simp [oi_or, h1]
    · have h2 : 47 < op := by omega
      simp [oi_or, h2]
  have e2 : mayA op w d n m a imm off cond r s = false := by
    cases hh : mayA op w d n m a imm off cond r s with
    | false => rfl
    | true => exact absurd (may_range hh) h
  unfold mayR
  rw [e1, e2]
  rfl
theorem mayR_eq (op w d n m a : Int) (imm : W64) (off cond r s : Int) : mayR op w d n m a imm off cond r s = mayA op w d n m a imm off cond r s := by
  by_cases h : 1 ≤ op ∧ op ≤ 47
  · rcases range47_of h with rfl | rfl | rfl | rfl | rfl | rfl | rfl | rfl | rfl | rfl | rfl | rfl | rfl | rfl | rfl | rfl | rfl | rfl | rfl | rfl | rfl | rfl | rfl | rfl | rfl | rfl | rfl | rfl | rfl | rfl | rfl | rfl | rfl | rfl | rfl | rfl | rfl | rfl | rfl | rfl | rfl | rfl | rfl | rfl | rfl | rfl | rfl
    · exact mayR_1 ..
    · exact mayR_2 ..
    · exact mayR_3 ..
    · exact mayR_4 ..
    · exact mayR_5 ..
    · exact mayR_6 ..
    · exact mayR_7 ..
    · exact mayR_8 ..
    · exact mayR_9 ..
    · exact mayR_10 ..
    · exact mayR_11 ..
    · exact mayR_12 ..
    · exact mayR_13 ..
    · exact mayR_14 ..
    · exact mayR_15 ..
    · exact mayR_16 ..
    · exact mayR_17 ..
    · exact mayR_18 ..
    · exact mayR_19 ..
    · exact mayR_20 ..
    · exact mayR_21 ..
    · exact mayR_22 ..
    · exact mayR_23 ..
    · exact mayR_24 ..
    · exact mayR_25 ..
    · exact mayR_26 ..
    · exact mayR_27 ..
    · exact mayR_28 ..
    · exact mayR_29 ..
    · exact mayR_30 ..
    · exact mayR_31 ..
    · exact mayR_32 ..
    · exact mayR_33 ..
    · exact mayR_34 ..
    · exact mayR_35 ..
    · exact mayR_36 ..
    · exact mayR_37 ..
    · exact mayR_38 ..
    · exact mayR_39 ..
    · exact mayR_40 ..
    · exact mayR_41 ..
    · exact mayR_42 ..
    · exact mayR_43 ..
    · exact mayR_44 ..
    · exact mayR_45 ..
    · exact mayR_46 ..
    · exact mayR_47 ..
  · exact mayR_out h
theorem okr28 : FnOk Try.prog 28 sr26 := okBy SQ5_ok Try.func28 (by kernel_rfl) (by kernel_rfl) 6 <| by
  intro xs r hs
  unfold sr26 at hs
  split at hs <;> cases hs
  rename_i op w d n m a imm off cond r s
  intro hp _
  show _ = some (AV.b (mayA op w d n m a imm off cond r s))
  rw [run28m, mayR_eq]
/- What the reference asks of memory. -/
noncomputable abbrev SU0 : FuncId → CSpec := withS (withS (withS (withS SQ5 28 sr26) 19 sr19) 21 sr21) 23 sr23
theorem SU0_ok : ∀ f, FnOk Try.prog f (SU0 f) := withS_ok (withS_ok (withS_ok (withS_ok SQ5_ok okr28) okr19) okr21) okr23
def kindB (st ld : Bool) : Int := bif st then 2 else bif ld then 1 else 0
def needR (may : Bool) (op w : Int) (at_ dv : W64) : List AV :=
  [.i .i64 (kindB (may && isSt op) (may && isLd op)), .b (may && (op == 37 || op == 38)), .b (may && (op == 35 || op == 37)), .b (may && (op == 36 || op == 38)), .u 64 (nW (may && isMm op) at_), .u 64 (nW (may && isSt op) (zx dv w)), .i .i64 (if (may && isMm op) = true then w else 0)]
def needR0 : List AV := [.i .i64 0, .b false, .b false, .b false, .u 64 0#64, .u 64 0#64, .i .i64 0]
def sr12 : CSpec
  | [.agg (cR X n z c v pc k ex aq rl ta vv w), .agg (cI op' w' d' n' m' a' imm' off' cond' r' s')] => (match allU X 31 with
    | true => some ⟨[], .agg (needR (mayA op' w' d' n' m' a' imm' off' cond' r' s') op' w' (getX X n' + imm') (getX X d'))⟩
    | false => none)
  | _ => none
theorem run12 (X : Nat → AV) (n z c v : Bool) (pc : W64) (k : Int) (ex aq rl : Bool) (ta vv : W64) (w : Int) (w' d' n' m' a' : Int) (imm' : W64) (off' cond' r' s' : Int) (q : Int) (hq : range47 q) :
    (evFn T SU0 noL 1 Try.f12 [.agg (cR (words X) n z c v pc k ex aq rl ta vv w), .agg (cI q w' d' n' m' a' imm' off' cond' r' s')]).run =
      if (!mayA q w' d' n' m' a' imm' off' cond' r' s') = true then some (.agg needR0) else some (.agg (needR true q w' (getX X n' + imm') (getX X d'))) := by
  rcases hq with rfl | rfl | rfl | rfl | rfl | rfl | rfl | rfl | rfl | rfl | rfl | rfl | rfl | rfl | rfl | rfl | rfl | rfl | rfl | rfl | rfl | rfl | rfl | rfl | rfl | rfl | rfl | rfl | rfl | rfl | rfl | rfl | rfl | rfl | rfl | rfl | rfl | rfl | rfl | rfl | rfl | rfl | rfl | rfl | rfl | rfl | rfl
  all_goals kernel_rfl
theorem okr12 : FnOk Try.prog 12 sr12 := okC SU0_ok Try.func12 (by kernel_rfl) (by kernel_rfl) 1 <| by
  intro xs r hs
  unfold sr12 at hs; split at hs <;> try cases hs
  rename_i X n z c v pc k ex aq rl ta vv w op' w' d' n' m' a' imm' off' cond' r' s'
  split at hs <;> cases hs
  rename_i hU
  rintro hp _
  show (evFn T SU0 noL 1 Try.f12 [.agg ((cR X n z c v pc k ex aq rl ta vv w).map canA), .agg (cI op' w' d' n' m' a' imm' off' cond' r' s')]).run = some (.agg (needR (mayA op' w' d' n' m' a' imm' off' cond' r' s') op' w' (getX X n' + imm') (getX X d')))
  rw [can_cR hU]
  cases hm : mayA op' w' d' n' m' a' imm' off' cond' r' s' with
  | false =>
    have e : ∃ t, (evFn T SU0 noL 1 Try.f12 [.agg (cR (words X) n z c v pc k ex aq rl ta vv w), .agg (cI op' w' d' n' m' a' imm' off' cond' r' s')]).run = if (!mayA op' w' d' n' m' a' imm' off' cond' r' s') = true then some (.agg needR0) else t :=
      ⟨match evFn T SU0 noL 1 Try.f12 [.agg (cR (words X) n z c v pc k ex aq rl ta vv w), .agg (cI op' w' d' n' m' a' imm' off' cond' r' s')] with
        | .ite _ _ b => b.run
        | _ => none, by kernel_rfl⟩
    obtain ⟨t, e⟩ := e
    rw [e, hm]
    rfl
  | true =>
    rw [run12 X n z c v pc k ex aq rl ta vv w w' d' n' m' a' imm' off' cond' r' s' op' (range47_of (may_range hm)), hm]
    rfl
noncomputable abbrev SU1 : FuncId → CSpec := withS SU0 12 sr12
theorem SU1_ok : ∀ f, FnOk Try.prog f (SU1 f) := withS_ok SU0_ok okr12
end Go.Proofs.Ytocfkaihfjbfnaa
