/- Lemmas: the immediates of the logical instructions: the functions of logim and of the reference, each shown by the evaluator. No condition. -/
import Derived.Test.YtffihbfmdmlbcaaBits
import Derived.Test.YtffihbfmdmlbcaaBits2
set_option linter.unusedVariables false
set_option linter.unusedSimpArgs false
namespace Go.Proofs.Ytffihbfmdmlbcaa
/- Plain: elements of ones, turned, over and over. -/
def tbit (s o t i : Nat) : Bool := decide ((i % s + t) % s < o)
def turnedN (s o t : Nat) : W64 := sumBits (tbit s o t) 64
def isSize (z : Int) : Bool := z == 2 || z == 4 || z == 8 || z == 16 || z == 32 || z == 64
def okT (z o t : Int) : Bool := isSize z && (decide (1 ≤ o) && (decide (o < z) && (decide (0 ≤ t) && decide (t < z))))
def turned (z o t : Int) : W64 := bif okT z o t then turnedN z.toNat o.toNat t.toNat else 0#64
def repL : List Nat → W64 → W64
  | [], x => x
  | n :: l, x => repL l (x ||| x <<< n)
theorem rep_step {f : Nat → Bool} {s n : Nat} (hs : n % s = 0) (hf : ∀ i, f (i % s) = f i) (hn : n + n ≤ 64) {x : W64} (hx : ∀ i, i < 64 → x.getLsbD i = (decide (i < n) && f i)) : ∀ i, i < 64 → (x ||| x <<< n).getLsbD i = (decide (i < n + n) && f i) := by
  intro i hi
  rw [BitVec.getLsbD_or, BitVec.getLsbD_shiftLeft, hx i hi]
  simp only [hi, decide_true, Bool.true_and]
  by_cases h1 : i < n
  · have : i < n + n := by omega
    simp [h1, this]
  · have e : f (i - n) = f i := by
      rw [← hf (i - n), ← hf i]
      congr 1
      have : i = (i - n) + n := by omega
      conv => rhs; rw [this, Nat.add_mod, hs, Nat.add_zero, Nat.mod_mod]
    rw [hx (i - n) (by omega), e]
    by_cases h2 : i - n < n
    · have : i < n + n := by omega
      simp [h1, h2, this]
    · have : ¬ i < n + n := by omega
      simp [h1, h2, this]
theorem tbit_mod (s o t i : Nat) : tbit s o t (i % s) = tbit s o t i := by simp [tbit, Nat.mod_mod]
/-- the least element -/
theorem elem_code {s o t : Nat} (hs : s ≤ 64) (ho : o < s) (ht : t < s) : ∀ i, i < 64 → (((BitVec.allOnes 64 >>> (64 - o)) >>> t ||| (BitVec.allOnes 64 >>> (64 - o)) <<< (s - t)) &&& (BitVec.allOnes 64 >>> (64 - s))).getLsbD i = (decide (i < s) && tbit s o t i) := by
  intro i hi
  have hg : ∀ n, n ≤ 64 → ∀ j, (BitVec.allOnes 64 >>> (64 - n)).getLsbD j = decide (j < n) := by
    intro n hn j
    rw [BitVec.getLsbD_ushiftRight, BitVec.getLsbD_allOnes, decide_eq_decide]; omega
  rw [BitVec.getLsbD_and, BitVec.getLsbD_or, hg s hs, BitVec.getLsbD_ushiftRight, BitVec.getLsbD_shiftLeft, hg o (by omega), hg o (by omega), Bool.and_comm]
  by_cases h : i < s
  · simp only [h, hi, decide_true, Bool.true_and, tbit, Nat.mod_eq_of_lt h, idx2 h ht]
    split
    · rename_i h1
      have : i < s - t := by omega
      simp [this, Nat.add_comm]
    · rename_i h1
      have h2 : ¬ i < s - t := by omega
      have h3 : ¬ t + i < o := by omega
      have h4 : i - (s - t) = i + t - s := by omega
      simp [h2, h3, h4]
  · simp [h]
theorem rep_all {s o t : Nat} {x : W64} (hx : ∀ i, i < 64 → x.getLsbD i = (decide (i < s) && tbit s o t i)) (l : List Nat) (h : (s = 2 ∧ l = [2, 4, 8, 16, 32]) ∨ (s = 4 ∧ l = [4, 8, 16, 32]) ∨ (s = 8 ∧ l = [8, 16, 32]) ∨ (s = 16 ∧ l = [16, 32]) ∨ (s = 32 ∧ l = [32]) ∨ (s = 64 ∧ l = [])) : repL l x = turnedN s o t := by
  have fin : ∀ y : W64, (∀ i, i < 64 → y.getLsbD i = (decide (i < 64) && tbit s o t i)) → y = turnedN s o t := fun y hy => eq_sumBits (Nat.le_refl _) hy
  have m := tbit_mod s o t
  rcases h with ⟨rfl, rfl⟩ | ⟨rfl, rfl⟩ | ⟨rfl, rfl⟩ | ⟨rfl, rfl⟩ | ⟨rfl, rfl⟩ | ⟨rfl, rfl⟩
  · exact fin _ (rep_step (n := 32) rfl m (by decide) (rep_step (n := 16) rfl m (by decide) (rep_step (n := 8) rfl m (by decide) (rep_step (n := 4) rfl m (by decide) (rep_step (n := 2) rfl m (by decide) hx)))))
  · exact fin _ (rep_step (n := 32) rfl m (by decide) (rep_step (n := 16) rfl m (by decide) (rep_step (n := 8) rfl m (by decide) (rep_step (n := 4) rfl m (by decide) hx))))
  · exact fin _ (rep_step (n := 32) rfl m (by decide) (rep_step (n := 16) rfl m (by decide) (rep_step (n := 8) rfl m (by decide) hx)))
  · exact fin _ (rep_step (n := 32) rfl m (by decide) (rep_step (n := 16) rfl m (by decide) hx))
  · exact fin _ (rep_step (n := 32) rfl m (by decide) hx)
  · exact fin _ hx
theorem isSize_cases {z : Int} (h : isSize z = true) : z = 2 ∨ z = 4 ∨ z = 8 ∨ z = 16 ∨ z = 32 ∨ z = 64 := by
  simp only [isSize, Bool.or_eq_true, beq_iff_eq] at h; omega
theorem pow2_all : ∀ n : Fin 65, 2 ≤ n.val → ((((BitVec.ofNat 64 n.val) &&& (BitVec.ofNat 64 (n.val - 1))).toInt == 0) = isSize (n.val : Int)) := by decide +kernel
end Go.Proofs.Ytffihbfmdmlbcaa
namespace Go.Proofs.Ytffihbfmdmlbcaa
open Go.Proofs.Ytffihbfmdmlbcaa.Ev
def s63 : CSpec | [.i .i64 z, .i .i64 o, .i .i64 t] => some ⟨[], .b (okT z o t)⟩ | _ => none
theorem is_code {z : Int} (h1 : 2 ≤ z) (h2 : z ≤ 64) : ((BitVec.ofInt 64 z &&& BitVec.ofInt 64 (IntKind.i64.wrap (z - 1))).toInt == 0) = isSize z := by
  obtain ⟨n, rfl⟩ : ∃ n : Nat, z = n := ⟨z.toNat, by omega⟩
  have := pow2_all ⟨n, by omega⟩ (by show 2 ≤ n; omega)
  rw [wrap_small _ (by omega) (by omega), show (n : Int) - 1 = ((n - 1 : Nat) : Int) by omega, BitVec.ofInt_natCast, BitVec.ofInt_natCast]
  exact this
theorem ok63 : FnOk Try.prog 63 s63 := okBy noS_ok Try.func63 (by kernel_rfl) (by kernel_rfl) 1 <| by
  intro xs r hs
  unfold s63 at hs; split at hs <;> cases hs
  rename_i z o t
  intro hp _
  have e : (evFn T noS noL 1 Try.f63 [.i .i64 z, .i .i64 o, .i .i64 t]).run = some (.b (if (if (if (if (if (if decide (2 ≤ z) = true then decide (z ≤ 64) else false) = true then (BitVec.ofInt 64 z &&& BitVec.ofInt 64 (IntKind.i64.wrap (z - 1))).toInt == 0 else false) = true then decide (1 ≤ o) else false) = true then decide (o < z) else false) = true then decide (0 ≤ t) else false) = true then decide (t < z) else false)) := by kernel_rfl
  rw [e]
  have k : (if (if decide (2 ≤ z) = true then decide (z ≤ 64) else false) = true then (BitVec.ofInt 64 z &&& BitVec.ofInt 64 (IntKind.i64.wrap (z - 1))).toInt == 0 else false) = isSize z := by
    by_cases h1 : 2 ≤ z
    · by_cases h2 : z ≤ 64
      · rw [is_code h1 h2]; simp [h1, h2]
      · have : isSize z = false := by simp [isSize]; omega
        simp [h1, h2, this]
    · have : isSize z = false := by simp [isSize]; omega
      simp [h1, this]
  rw [k]
  cases h : isSize z <;> by_cases h1 : 1 ≤ o <;> by_cases h2 : o < z <;> by_cases h3 : 0 ≤ t <;> by_cases h4 : t < z <;> simp [okT, h, h1, h2, h3, h4]
def s64 : CSpec | [.i .i64 n] => some ⟨[decide (0 ≤ IntKind.i64.wrap (64 - n))], .u 64 (BitVec.allOnes 64 >>> (IntKind.i64.wrap (64 - n)).toNat)⟩ | _ => none
theorem ok64 : FnOk Try.prog 64 s64 := okBy noS_ok Try.func64 (by kernel_rfl) (by kernel_rfl) 1 <| by
  intro xs r hs
  unfold s64 at hs; split at hs <;> cases hs
  rename_i n
  intro hp _
  have hp : decide (0 ≤ IntKind.i64.wrap (64 - n)) = true := by simpa using hp
  have e : (evFn T noS noL 1 Try.f64 [.i .i64 n]).run = if decide (0 ≤ IntKind.i64.wrap (64 - n)) = true then some (.u 64 (BitVec.allOnes 64 >>> (IntKind.i64.wrap (64 - n)).toNat)) else none := by kernel_rfl
  rw [e, if_pos hp]
abbrev SL1 := withS (withS SB 63 s63) 64 s64
theorem SL1_ok : ∀ f, FnOk Try.prog f (SL1 f) := withS_ok (withS_ok SB_ok ok63) ok64
def s32 : CSpec | [.i .i64 z, .i .i64 o, .i .i64 t] => some ⟨[], .u 64 (turned z o t)⟩ | _ => none
def L32 : Nat → Live := fun _ => ⟨[0, 1, 2, 7, 8], [], [], none⟩
def e32 (z o t : Int) : W64 := ((BitVec.allOnes 64 >>> (IntKind.i64.wrap (64 - o)).toNat) >>> t.toNat ||| (BitVec.allOnes 64 >>> (IntKind.i64.wrap (64 - o)).toNat) <<< (IntKind.i64.wrap (z - t)).toNat) &&& (BitVec.allOnes 64 >>> (IntKind.i64.wrap (64 - z)).toNat)
def n32 (z o t : Int) (l : List Nat) : Option AV := if (!okT z o t) = true then some (.u 64 0#64) else if decide (0 ≤ IntKind.i64.wrap (64 - o)) = true then if decide (0 ≤ IntKind.i64.wrap (z - t)) = true then if decide (0 ≤ t) = true then some (.u 64 (repL l (e32 z o t))) else none else none else none
theorem f32_2 (o t : Int) : (evFn T SL1 L32 8 Try.f32 [.i .i64 2, .i .i64 o, .i .i64 t]).run = n32 2 o t [2, 4, 8, 16, 32] := by kernel_rfl
theorem f32_4 (o t : Int) : (evFn T SL1 L32 8 Try.f32 [.i .i64 4, .i .i64 o, .i .i64 t]).run = n32 4 o t [4, 8, 16, 32] := by kernel_rfl
theorem f32_8 (o t : Int) : (evFn T SL1 L32 8 Try.f32 [.i .i64 8, .i .i64 o, .i .i64 t]).run = n32 8 o t [8, 16, 32] := by kernel_rfl
theorem f32_16 (o t : Int) : (evFn T SL1 L32 8 Try.f32 [.i .i64 16, .i .i64 o, .i .i64 t]).run = n32 16 o t [16, 32] := by kernel_rfl
theorem f32_32 (o t : Int) : (evFn T SL1 L32 8 Try.f32 [.i .i64 32, .i .i64 o, .i .i64 t]).run = n32 32 o t [32] := by kernel_rfl
theorem f32_64 (o t : Int) : (evFn T SL1 L32 8 Try.f32 [.i .i64 64, .i .i64 o, .i .i64 t]).run = n32 64 o t [] := by kernel_rfl
theorem okT_nat {z o t : Int} (h : okT z o t = true) : isSize z = true ∧ ∃ s a b : Nat, z = s ∧ o = a ∧ t = b ∧ 1 ≤ a ∧ a < s ∧ b < s ∧ s ≤ 64 := by
  simp only [okT, Bool.and_eq_true, decide_eq_true_eq] at h
  obtain ⟨h0, h1, h2, h3, h4⟩ := h
  have := isSize_cases h0
  exact ⟨h0, z.toNat, o.toNat, t.toNat, by omega, by omega, by omega, by omega, by omega, by omega, by omega⟩
theorem n32_eq {z o t : Int} {l : List Nat} (hl : (z = 2 ∧ l = [2, 4, 8, 16, 32]) ∨ (z = 4 ∧ l = [4, 8, 16, 32]) ∨ (z = 8 ∧ l = [8, 16, 32]) ∨ (z = 16 ∧ l = [16, 32]) ∨ (z = 32 ∧ l = [32]) ∨ (z = 64 ∧ l = [])) : n32 z o t l = some (.u 64 (turned z o t)) := by
  unfold n32
  cases h : okT z o t with
  | false => simp [turned, h]
  | true =>
    obtain ⟨h0, s, a, b, rfl, rfl, rfl, h1, h2, h3, h4⟩ := okT_nat h
    rw [if_neg (by simp), wrap_small (64 - (a : Int)) (by omega) (by omega), wrap_small ((s : Int) - (b : Int)) (by omega) (by omega), if_pos (by simp; omega), if_pos (by simp; omega), if_pos (by simp)]
    have e : e32 (s : Int) (a : Int) (b : Int) = ((BitVec.allOnes 64 >>> (64 - a)) >>> b ||| (BitVec.allOnes 64 >>> (64 - a)) <<< (s - b)) &&& (BitVec.allOnes 64 >>> (64 - s)) := by
      unfold e32
      rw [wrap_small (64 - (a : Int)) (by omega) (by omega), wrap_small ((s : Int) - (b : Int)) (by omega) (by omega), wrap_small (64 - (s : Int)) (by omega) (by omega),
        show (64 - (a : Int)).toNat = 64 - a by omega, show ((s : Int) - (b : Int)).toNat = s - b by omega, show (64 - (s : Int)).toNat = 64 - s by omega, Int.toNat_natCast]
    have k := rep_all (elem_code h4 h2 h3) l (by
      rcases hl with ⟨hz, hl⟩ | ⟨hz, hl⟩ | ⟨hz, hl⟩ | ⟨hz, hl⟩ | ⟨hz, hl⟩ | ⟨hz, hl⟩
      · exact .inl ⟨by omega, hl⟩
      · exact .inr (.inl ⟨by omega, hl⟩)
      · exact .inr (.inr (.inl ⟨by omega, hl⟩))
      · exact .inr (.inr (.inr (.inl ⟨by omega, hl⟩)))
      · exact .inr (.inr (.inr (.inr (.inl ⟨by omega, hl⟩))))
      · exact .inr (.inr (.inr (.inr (.inr ⟨by omega, hl⟩)))))
    rw [e, k]
    simp [turned, h]
theorem ok32 : FnOk Try.prog 32 s32 := FnOk.of (L := L32) tyOk SL1_ok mixed Try.func32 (by kernel_rfl) (by kernel_rfl) <| by
  intro xs r hs
  unfold s32 at hs; split at hs <;> cases hs
  rename_i z o t
  intro hp _ _ _ _
  refine ⟨8, FnLoops.no (by kernel_rfl), ?_⟩
  cases h : isSize z with
  | true =>
    rcases isSize_cases h with rfl | rfl | rfl | rfl | rfl | rfl
    · rw [f32_2]; exact n32_eq (.inl ⟨rfl, rfl⟩)
    · rw [f32_4]; exact n32_eq (.inr (.inl ⟨rfl, rfl⟩))
    · rw [f32_8]; exact n32_eq (.inr (.inr (.inl ⟨rfl, rfl⟩)))
    · rw [f32_16]; exact n32_eq (.inr (.inr (.inr (.inl ⟨rfl, rfl⟩))))
    · rw [f32_32]; exact n32_eq (.inr (.inr (.inr (.inr (.inl ⟨rfl, rfl⟩)))))
    · rw [f32_64]; exact n32_eq (.inr (.inr (.inr (.inr (.inr ⟨rfl, rfl⟩)))))
  | false =>
    have h0 : okT z o t = false := by simp [okT, h]
    obtain ⟨c, hc⟩ : ∃ c : Tr AV, evFn T SL1 L32 8 Try.f32 [.i .i64 z, .i .i64 o, .i .i64 t] = Tr.ite (!okT z o t) (.leaf (.u 64 0#64)) c := ⟨_, rfl⟩
    rw [hc]
    simp [Tr.run, turned, h0]
def q33 : St → Option LRes
  | ⟨[(0, .i .i64 z), (1, .i .i64 o), (2, .i .i64 t), (8, .u 64 r), (9, .i .i64 i)], [], [], _⟩ => some ⟨[okT z o t, r == 0#64, i == 0], .exit 0, [(0, .i .i64 z), (1, .i .i64 o), (2, .i .i64 t), (8, .u 64 (turned z o t)), (9, .i .i64 64)], [], []⟩
  | _ => none
def L33 : Nat → Live := fun _ => ⟨[0, 1, 2, 8, 9], [], [], some q33⟩
theorem loop33 (N : Nat) : LoopOk T SL1 L33 73 N (loopOf Try.f33 0) := LoopOk.of rfl <| by
  intro τ r hcut hr
  unfold q33 at hr; split at hr <;> cases hr
  rename_i z o t r i c
  obtain rfl : c = 0 := hcut
  intro hp
  simp only [List.mem_cons, List.not_mem_nil, or_false, forall_eq_or_imp, forall_eq, beq_iff_eq, decide_eq_true_eq] at hp
  obtain ⟨h, rfl, rfl⟩ := hp
  have e : ∀ (r : W64) (i : Int), (atHead (evCode T SL1 L33 73 N (loopOf Try.f33 0)) (L33 (firstR (loopOf Try.f33 0))) ⟨[(0, .i .i64 z), (1, .i .i64 o), (2, .i .i64 t), (8, .u 64 r), (9, .i .i64 i)], [], [], 0⟩).run =
      if decide (i < 64) = true then if (!z == 0) = true then if (!z == 0) = true then
        some (.normal, ⟨[(0, .i .i64 z), (1, .i .i64 o), (2, .i .i64 t), (8, .u 64 (if decide ((IntKind.i64.wrap (i.tmod z + t)).tmod z < o) = true then r + 1#64 <<< (BitVec.ofInt 64 i).toNat else r)), (9, .i .i64 (IntKind.i64.wrap (i + 1)))], [], [], 0⟩) else none else none
      else some (.exit 0, ⟨[(0, .i .i64 z), (1, .i .i64 o), (2, .i .i64 t), (8, .u 64 r), (9, .i .i64 i)], [], [], 0⟩) := fun r i => by kernel_rfl
  have ht : turned z o t = turnedN z.toNat o.toNat t.toNat := by simp [turned, h]
  obtain ⟨h0, s, a, b, rfl, rfl, rfl, h1, h2, h3, h4⟩ := okT_nat h
  rw [ht]
  simp only [Int.toNat_natCast]
  refine ⟨64 + 1, iter_for (fun j => ⟨[(0, .i .i64 (s : Int)), (1, .i .i64 (a : Int)), (2, .i .i64 (b : Int)), (8, .u 64 (sumBits (tbit s a b) j)), (9, .i .i64 (j : Int))], [], [], 0⟩) 64 ?_ ?_ (by simp)⟩
  · intro j hj
    have e1 : ((j : Int).tmod (s : Int)) = ((j % s : Nat) : Int) := rfl
    have e2 : j % s < s := Nat.mod_lt _ (by omega)
    have e3 : IntKind.i64.wrap (((j % s : Nat) : Int) + (b : Int)) = ((j % s + b : Nat) : Int) := by rw [wrap_small] <;> omega
    have e4 : (((j % s + b : Nat) : Int).tmod (s : Int)) = (((j % s + b) % s : Nat) : Int) := rfl
    rw [e, if_pos (by simp; omega), if_pos (by simp; omega), if_pos (by simp; omega), wrap_succ j (by omega), ofInt_nat j (by omega), e1, e3, e4, sumBits_succ]
    by_cases hc : (j % s + b) % s < a
    · rw [if_pos (decide_eq_true (Int.ofNat_lt.2 hc))]; simp only [tbit, hc, decide_true, bitB, cond_true]
    · rw [if_neg (by rw [decide_eq_true_eq]; exact fun h => hc (Int.ofNat_lt.1 h))]; simp only [tbit, hc, decide_false, bitB, cond_false, BitVec.zero_shiftLeft, BitVec.add_zero]
  · rw [e, if_neg (by simp)]; rfl
theorem ok33 : FnOk Try.prog 33 s32 := FnOk.of tyOk SL1_ok mixed Try.func33 (by kernel_rfl) (by kernel_rfl) <| by
  intro xs r hs
  unfold s32 at hs; split at hs <;> cases hs
  rename_i z o t
  intro hp _ _ _ _
  refine ⟨1, FnLoops.one (by kernel_rfl) (loop33 1), ?_⟩
  have e : ∀ (p q : Bool), q = (if (if (if (if (if (z == 2) = true then true else z == 4) = true then true else z == 8) = true then true else z == 16) = true then true else z == 32) = true then true else z == 64) →
    p = (if (if (if (if (!q) = true then true else decide (o < 1)) = true then true else decide (IntKind.i64.wrap (z - 1) < o)) = true then true else decide (t < 0)) = true then true else decide (IntKind.i64.wrap (z - 1) < t)) →
    (evFn T SL1 L33 1 Try.f33 [.i .i64 z, .i .i64 o, .i .i64 t]).run = if p = true then some (.u 64 0#64) else if okT z o t = true then some (.u 64 (turned z o t)) else none := fun p q hq hp => by subst hq; subst hp; kernel_rfl
  have hq : isSize z = (if (if (if (if (if (z == 2) = true then true else z == 4) = true then true else z == 8) = true then true else z == 16) = true then true else z == 32) = true then true else z == 64) := by
    unfold isSize
    cases z == 2 <;> cases z == 4 <;> cases z == 8 <;> cases z == 16 <;> cases z == 32 <;> rfl
  rw [e _ _ hq rfl]
  cases h : isSize z with
  | false =>
    have h0 : okT z o t = false := by simp [okT, h]
    simp [turned, h0]
  | true =>
    have hz := isSize_cases h
    rw [wrap_small (z - 1) (by omega) (by omega)]
    cases h0 : okT z o t with
    | true =>
      have h1 := h0
      simp only [okT, Bool.and_eq_true, decide_eq_true_eq] at h1
      obtain ⟨_, h1, h2, h3, h4⟩ := h1
      have c1 : ¬ o < 1 := by omega
      have c2 : ¬ z - 1 < o := by omega
      have c3 : ¬ t < 0 := by omega
      have c4 : ¬ z - 1 < t := by omega
      simp [c1, c2, c3, c4]
    | false =>
      have h1 := h0
      simp only [okT, h, Bool.true_and] at h1
      have : o < 1 ∨ z - 1 < o ∨ t < 0 ∨ z - 1 < t := by
        by_cases a1 : 1 ≤ o <;> by_cases a2 : o < z <;> by_cases a3 : 0 ≤ t <;> by_cases a4 : t < z <;> simp [a1, a2, a3, a4] at h1 <;> omega
      rw [show turned z o t = 0#64 by simp [turned, h0]]
      by_cases c1 : o < 1 <;> by_cases c2 : z - 1 < o <;> by_cases c3 : t < 0 <;> by_cases c4 : z - 1 < t <;> simp [c1, c2, c3, c4] <;> omega
abbrev SL2 := withS (withS SL1 32 s32) 33 s32
theorem SL2_ok : ∀ f, FnOk Try.prog f (SL2 f) := withS_ok (withS_ok SL1_ok ok32) ok33
end Go.Proofs.Ytffihbfmdmlbcaa
namespace Go.Proofs.Ytffihbfmdmlbcaa
open Go.Proofs.Ytffihbfmdmlbcaa.Ev
def szc (b : W32) (k : Nat) : Bool := b >>> k &&& 1#32 == 0#32
def sizeB (b : W32) : Int := if (b >>> 12 == 1#32) = true then 64 else if szc b 5 = true then 32 else if szc b 4 = true then 16 else if szc b 3 = true then 8 else if szc b 2 = true then 4 else if szc b 1 = true then 2 else 0
def s70 : CSpec | [.u 32 b] => some ⟨[], .i .i64 (sizeB b)⟩ | _ => none
def L70 : Nat → Live := fun _ => ⟨[0, 2, 3], [], [], none⟩
def st70 (c : Bool) (v : Int) (rest : Option AV) : Option AV := if (if c = true then true else true) = true then (if c = true then some (.i .i64 v) else rest) else none
theorem st70_eq (c : Bool) (v : Int) (x : Int) : st70 c v (some (.i .i64 x)) = some (.i .i64 (if c = true then v else x)) := by cases c <;> rfl
theorem ok70 : FnOk Try.prog 70 s70 := FnOk.of (L := L70) tyOk SL2_ok mixed Try.func70 (by kernel_rfl) (by kernel_rfl) <| by
  intro xs r hs
  unfold s70 at hs; split at hs <;> cases hs
  rename_i b
  intro hp _ _ _ _
  refine ⟨8, FnLoops.no (by kernel_rfl), ?_⟩
  have e : (evFn T SL2 L70 8 Try.f70 [.u 32 b]).run = if (b >>> 12 == 1#32) = true then some (.i .i64 64) else st70 (szc b 5) 32 (st70 (szc b 4) 16 (st70 (szc b 3) 8 (st70 (szc b 2) 4 (st70 (szc b 1) 2 (some (.i .i64 0)))))) := by kernel_rfl
  rw [e]
  simp only [st70_eq]
  unfold sizeB
  split <;> rfl
abbrev SL3 := withS SL2 70 s70
theorem SL3_ok : ∀ f, FnOk Try.prog f (SL3 f) := withS_ok SL2_ok ok70
/- the code's -/
def onesC (b : W32) (z : Int) : Int := IntKind.i64.wrap ((BitVec.ofInt 64 (IntKind.i64.wrap (b.toNat : Int)) &&& BitVec.ofInt 64 (IntKind.i64.wrap (z - 1))).toInt + 1)
def turnC (b : W32) (z : Int) : Int := (BitVec.ofInt 64 (BitVec.ofInt 64 (IntKind.i64.wrap ((b >>> 6).toNat : Int)) &&& 63#64).toInt &&& BitVec.ofInt 64 (IntKind.i64.wrap (z - 1))).toInt
theorem run45 (b : W32) : (evFn T SL3 noL 1 Try.f45 [.u 32 b]).run = if (if decide (8191 < b.toNat) = true then true else sizeB b == 0) = true then some (.tup [.u 64 0#64, .b false]) else
    if (onesC b (sizeB b) == sizeB b) = true then some (.tup [.u 64 0#64, .b false]) else some (.tup [.u 64 (turned (sizeB b) (onesC b (sizeB b)) (turnC b (sizeB b))), .b true]) := by kernel_rfl
/- the reference's -/
def L46 : Nat → Live := fun _ => ⟨[0, 4, 5, 6, 20, 21, 22, 2, 3], [], [], none⟩
def stepR (s : Int) (z : Int) (k : Nat) (n : Int) : Int := if (if (z == 0) = true then (s / 2 ^ k).tmod 2 == 0 else false) = true then n else z
def sizeR (b : W32) (s : Int) : Int := if decide (b.toNat < 4096) = true then stepR s (stepR s (stepR s (stepR s (stepR s 0 5 32) 4 16) 3 8) 2 4) 1 2 else 64
def sR (b : W32) : Int := IntKind.i64.wrap ((b % 64#32).toNat : Int)
def rR (b : W32) : Int := IntKind.i64.wrap ((b / 64#32 % 64#32).toNat : Int)
def nd (c : Bool) (rest : Option AV) : Option AV := if (if c = true then true else true) = true then rest else none
theorem nd_eq (c : Bool) (rest : Option AV) : nd c rest = rest := by cases c <;> rfl
def rest46 (z s r : Int) : Option AV := if (if (!(z == 0)) = true then !(z == 0) else true) = true then if (if (z == 0) = true then true else s.tmod z == IntKind.i64.wrap (z - 1)) = true then some (.tup [.u 64 0#64, .b false]) else
  if (!(z == 0)) = true then if (!(z == 0)) = true then some (.tup [.u 64 (turned z (IntKind.i64.wrap (s.tmod z + 1)) (r.tmod z)), .b true]) else none else none else none
theorem run46 (b : W32) : ∀ (s r z1 z2 z3 z4 : Int), s = sR b → r = rR b → z1 = stepR s 0 5 32 → z2 = stepR s z1 4 16 → z3 = stepR s z2 3 8 → z4 = stepR s z3 2 4 →
    (evFn T SL3 L46 7 Try.f46 [.u 32 b]).run = if decide (8191 < b.toNat) = true then some (.tup [.u 64 0#64, .b false]) else
    if decide (b.toNat < 4096) = true then nd (z1 == 0) (nd (z2 == 0) (nd (z3 == 0) (nd (z4 == 0) (rest46 (stepR s z4 1 2) s r)))) else rest46 64 s r := by
  intro s r z1 z2 z3 z4 h1 h2 h3 h4 h5 h6
  subst h6; subst h5; subst h4; subst h3; subst h2; subst h1
  kernel_rfl
def tripC (b : W32) : Option (Int × Int × Int) := if sizeB b == 0 then none else if onesC b (sizeB b) == sizeB b then none else some (sizeB b, onesC b (sizeB b), turnC b (sizeB b))
def tripR (b : W32) : Option (Int × Int × Int) := if sizeR b (sR b) == 0 then none else if (sR b).tmod (sizeR b (sR b)) == IntKind.i64.wrap (sizeR b (sR b) - 1) then none else some (sizeR b (sR b), IntKind.i64.wrap ((sR b).tmod (sizeR b (sR b)) + 1), (rR b).tmod (sizeR b (sR b)))
theorem trip_all : ∀ i : Fin 128, ∀ j : Fin 64, tripC (BitVec.ofNat 32 (64 * i.val + j.val)) = tripR (BitVec.ofNat 32 (64 * i.val + j.val)) := by decide +kernel
theorem trip_eq (b : W32) (h : b.toNat ≤ 8191) : tripC b = tripR b := by
  have := trip_all ⟨b.toNat / 64, by omega⟩ ⟨b.toNat % 64, Nat.mod_lt _ (by omega)⟩
  simp only at this
  rw [show 64 * (b.toNat / 64) + b.toNat % 64 = b.toNat by omega, BitVec.ofNat_toNat, BitVec.setWidth_eq] at this
  exact this
def decV (b : W32) : AV := if decide (8191 < b.toNat) = true then .tup [.u 64 0#64, .b false] else match tripC b with
  | none => .tup [.u 64 0#64, .b false]
  | some (z, o, t) => .tup [.u 64 (turned z o t), .b true]
def s45 : CSpec | [.u 32 b] => some ⟨[], decV b⟩ | _ => none
theorem ok45 : FnOk Try.prog 45 s45 := okBy SL3_ok Try.func45 (by kernel_rfl) (by kernel_rfl) 1 <| by
  intro xs r hs
  unfold s45 at hs; split at hs <;> cases hs
  rename_i b
  intro hp _
  rw [run45]
  show _ = some (decV b)
  unfold decV tripC
  cases h1 : decide (8191 < b.toNat) with
  | true => simp
  | false =>
    cases h2 : sizeB b == 0 with
    | true => simp
    | false => cases h3 : onesC b (sizeB b) == sizeB b <;> simp
theorem rest46_eq (z s r : Int) : rest46 z s r = some (match (if z == 0 then none else if s.tmod z == IntKind.i64.wrap (z - 1) then none else some (z, IntKind.i64.wrap (s.tmod z + 1), r.tmod z) : Option (Int × Int × Int)) with
  | none => .tup [.u 64 0#64, .b false]
  | some (z, o, t) => .tup [.u 64 (turned z o t), .b true]) := by
  unfold rest46
  cases h : z == 0 with
  | true => simp
  | false => cases h2 : s.tmod z == IntKind.i64.wrap (z - 1) <;> simp
theorem ok46 : FnOk Try.prog 46 s45 := FnOk.of (L := L46) tyOk SL3_ok mixed Try.func46 (by kernel_rfl) (by kernel_rfl) <| by
  intro xs r hs
  unfold s45 at hs; split at hs <;> cases hs
  rename_i b
  intro hp _ _ _ _
  refine ⟨7, FnLoops.no (by kernel_rfl), ?_⟩
  rw [run46 b _ _ _ _ _ _ rfl rfl rfl rfl rfl rfl]
  simp only [nd_eq]
  show _ = some (decV b)
  unfold decV
  by_cases h : 8191 < b.toNat
  · simp [h]
  · have h' : decide (8191 < b.toNat) = false := by simpa using h
    simp only [h', Bool.false_eq_true, if_false]
    rw [trip_eq b (by omega)]
    unfold tripR sizeR
    cases h4 : decide (b.toNat < 4096) <;> simp only [h4, if_true, Bool.false_eq_true, if_false, rest46_eq]
def runS (S : FuncId → CSpec) (N : Nat) (fn : Func) (L : Nat → Live) : CSpec := fun xs => match (evFn T S L N fn xs).run with
  | some v => some ⟨[], v⟩
  | none => none
def L34 : Nat → Live := fun _ => ⟨List.range 60, [], [], none⟩
theorem runS_ok {S : FuncId → CSpec} (hS : ∀ f, FnOk Try.prog f (S f)) {f : FuncId} {fn : Func} (hf : Try.prog.funcs[f]? = some fn) (hname : (fn.name == "runtime.NumGoroutine") = false) (hbody : fn.body.isNone = false) (N : Nat) {L : Nat → Live} (hL : noSum L fn = true) : FnOk Try.prog f (runS S N fn L) :=
  FnOk.of tyOk hS mixed hf hname hbody fun xs r hs hp w R vs hvs => ⟨N, FnLoops.no hL, by
    unfold runS at hs
    split at hs
    · rename_i v hv; cases hs; exact hv
    · cases hs⟩
end Go.Proofs.Ytffihbfmdmlbcaa
namespace Go.Proofs.Ytffihbfmdmlbcaa
open Go.Proofs.Ytffihbfmdmlbcaa.Ev
noncomputable abbrev SL4 := withS (withS (withS SL3 45 s45) 46 s45) 72 (runS SL3 1 Try.f72 noL)
theorem SL4_ok : ∀ f, FnOk Try.prog f (SL4 f) := withS_ok (withS_ok (withS_ok SL3_ok ok45) ok46) (runS_ok SL3_ok Try.func72 (by kernel_rfl) (by kernel_rfl) 1 (by kernel_rfl))
def L65 : Nat → Live := fun _ => ⟨[0, 2, 3, 4, 5], [], [], none⟩
def L34b : Nat → Live := fun _ => ⟨[0, 2, 3, 4, 5, 6, 7, 8, 23, 24], [], [], none⟩
noncomputable abbrev SL5 := withS (withS SL4 55 (runS SL4 1 Try.f55 noL)) 65 (runS SL4 70 Try.f65 L65)
theorem SL5_ok : ∀ f, FnOk Try.prog f (SL5 f) := withS_ok (withS_ok SL4_ok (runS_ok SL4_ok Try.func55 (by kernel_rfl) (by kernel_rfl) 1 (by kernel_rfl))) (runS_ok SL4_ok Try.func65 (by kernel_rfl) (by kernel_rfl) 70 (by kernel_rfl))
noncomputable abbrev SL6 := withS SL5 34 (runS SL5 70 Try.f34 L34b)
theorem SL6_ok : ∀ f, FnOk Try.prog f (SL6 f) := withS_ok SL5_ok (runS_ok SL5_ok Try.func34 (by kernel_rfl) (by kernel_rfl) 70 (by kernel_rfl))
theorem ok35 : FnOk Try.prog 35 sTrue := okBy SL6_ok Try.func35 (by kernel_rfl) (by kernel_rfl) 1 <| by
  intro xs r hs
  unfold sTrue at hs; split at hs <;> cases hs
  intro hp _
  kernel_rfl
noncomputable abbrev SL7 := withS SL6 35 sTrue
theorem SL7_ok : ∀ f, FnOk Try.prog f (SL7 f) := withS_ok SL6_ok ok35
theorem decV_cases (b : W32) : ∃ v x, decV b = .tup [.u 64 v, .b x] := by
  unfold decV
  split
  · exact ⟨_, _, rfl⟩
  · split <;> exact ⟨_, _, rfl⟩
def dec1 (b : W32) : W64 := if decide (8191 < b.toNat) = true then 0#64 else match tripC b with
  | none => 0#64
  | some (z, o, t) => turned z o t
def dec2 (b : W32) : Bool := if decide (8191 < b.toNat) = true then false else match tripC b with
  | none => false
  | some _ => true
theorem decV_eq (b : W32) : decV b = .tup [.u 64 (dec1 b), .b (dec2 b)] := by
  unfold decV dec1 dec2
  by_cases h : decide (8191 < b.toNat) = true
  · simp only [h, if_true]
  · simp only [h, Bool.false_eq_true, if_false]
    cases tripC b with
    | none => rfl
    | some q => obtain ⟨z, o, t⟩ := q; rfl
def s45b : CSpec | [.u 32 b] => some ⟨[], .tup [.u 64 (dec1 b), .b (dec2 b)]⟩ | _ => none
theorem ok45b {f : Nat} (h : FnOk Try.prog f s45) : FnOk Try.prog f s45b := by
  intro xs r hs
  unfold s45b at hs; split at hs <;> cases hs
  rename_i b
  exact h [.u 32 b] ⟨[], .tup [.u 64 (dec1 b), .b (dec2 b)]⟩ (by rw [← decV_eq]; rfl)
noncomputable abbrev SL8 := withS (withS SL7 45 s45b) 46 s45b
theorem SL8_ok : ∀ f, FnOk Try.prog f (SL8 f) := withS_ok (withS_ok SL7_ok (ok45b ok45)) (ok45b ok46)
theorem law11 (b : W32) : (evFn T SL8 noL 1 Try.f11 [.u 32 b]).run = some (.b true) := by
  have e : ∀ v x, v = dec1 b → x = dec2 b → (evFn T SL8 noL 1 Try.f11 [.u 32 b]).run = some (.b (if (if (v == v) = true then x == x else false) = true then true else false)) := fun v x h1 h2 => by subst h1; subst h2; kernel_rfl
  rw [e _ _ rfl rfl]; simp
end Go.Proofs.Ytffihbfmdmlbcaa
