/- Lemmas: which steps there may be, by the program and by the reference, each function shown by the evaluator. No condition. -/
import Derived.Test.YtcdnbdphakhilaaGreatDoorLib
import Derived.Test.YtcdnbdphakhilaaGreatDoorBits
import Derived.Test.YtcdnbdphakhilaaGreatDoorWake
set_option linter.unusedVariables false
set_option linter.unusedSimpArgs false
set_option maxRecDepth 100000
namespace Go.Proofs.YtcdnbdphakhilaaGreatDoor
open Go.Proofs.YtcdnbdphakhilaaGreatDoor.Ev Go.RowKit
/- What a kind has, by the reference. -/
theorem LoopOk.sub {S : FuncId → CSpec} {L : Nat → Live} {nt N : Nat} {a : Code} {q : St → Tr (Ex × St)} (hs : (L (firstR a)).sum = some q)
    (h : ∀ τ e st, τ.cut = 0 → (q τ).run = some (e, st) → ∃ n st', (iter (atHead (evCode T S L nt N a) (L (firstR a))) n τ).run = some (e, st') ∧ (∀ t v, Ev.look st.env t = some v → Ev.look st'.env t = some v) ∧ st'.mem = st.mem ∧ st'.ids = st.ids) : LoopOk T S L nt N a := by
  intro q' hq'
  rw [hs] at hq'
  cases hq'
  exact h
theorem wrap_succ (j : Nat) (hj : j ≤ 134217728) : IntKind.i64.wrap ((j : Int) + 1) = ((j + 1 : Nat) : Int) := by rw [wrap_small _ (by omega) (by omega)]; rfl
theorem getD_at {t : Nat} {xs : List (Dat t)} {j : Nat} (h : j < xs.length) : xs.getD j (dat0 t) = xs[j] := by rw [List.getD_eq_getElem?_getD, List.getElem?_eq_getElem h]; rfl
theorem some_iteB {c : Bool} {a b : Bool} : (if c = true then some (AV.b a) else some (.b b)) = some (.b (if c = true then a else b)) := by cases c <;> rfl
def elseR : Tr AV → Option AV
  | .ite _ _ e => e.run
  | _ => none
/-- The first one of which something holds. -/
theorem firstP {α : Type} : ∀ (xs : List α) (p : α → Bool), (xs.takeWhile fun x => !p x).length ≤ xs.length ∧ (∀ j (h : j < xs.length), j < (xs.takeWhile fun x => !p x).length → p xs[j] = false) ∧ (xs.any p = true → ∃ h : (xs.takeWhile fun x => !p x).length < xs.length, p xs[(xs.takeWhile fun x => !p x).length] = true)
  | [], p => ⟨by simp, fun j h => by simp at h, fun h => by simp at h⟩
  | x :: xs, p => by
    obtain ⟨h1, h2, h3⟩ := firstP xs p
    cases hp : p x with
    | true => refine ⟨by simp [hp], fun j h hj => by simp [hp] at hj, fun _ => ⟨by simp [hp], by simp [hp]⟩⟩
    | false =>
      have e : (x :: xs).takeWhile (fun x => !p x) = x :: xs.takeWhile (fun x => !p x) := by simp [hp]
      refine ⟨by rw [e]; simp; omega, fun j h hj => ?_, fun ha => ?_⟩
      · cases j with
        | zero => exact hp
        | succ j => exact h2 j (by simpa using h) (by rw [e] at hj; simpa using hj)
      · have : xs.any p = true := by simpa [hp] using ha
        obtain ⟨k1, k2⟩ := h3 this
        simp only [e]
        exact ⟨by simpa using k1, by simpa using k2⟩
def rowsT : List (List UInt8) := [[], [110, 118, 112], [110, 118, 112], [110, 97], [102, 97, 98, 118, 112], [119, 115, 97, 118, 112], [97, 98, 99, 118, 112], [119, 97, 111, 118], [119, 97, 98, 111], [119, 97, 118], [119, 97, 98], [102], [110, 97], [110, 97]]
def rowS (k : Int) : List UInt8 := if (if decide (k < 1) = true then true else decide (13 < k)) = true then [] else rowsT.getD k.toNat []
def s115 : CSpec | [.i .i64 k] => some ⟨[], .str (rowS k)⟩ | _ => none
theorem ok115 : FnOk Tryz.prog 115 s115 := okBy noS_ok Tryz.func115 (by kernel_rfl) (by kernel_rfl) 1 <| by
  intro xs r hs
  unfold s115 at hs; split at hs <;> cases hs
  rename_i k
  rintro hp _
  have e : (evFn T noS noL 1 Tryz.f115 [.i .i64 k]).run = if (if decide (k < 1) = true then true else decide (13 < k)) = true then some (.str []) else if decide (0 ≤ k) = true then if decide (k < (rowsT.length : Int)) = true then some (.str (rowsT.getD k.toNat [])) else none else none := by kernel_rfl
  rw [e]
  show _ = some (AV.str (rowS k))
  unfold rowS
  by_cases h : k < 1 ∨ 13 < k
  · have hc : (if decide (k < 1) = true then true else decide (13 < k)) = true := by rcases h with h | h <;> simp [h]
    rw [if_pos hc, if_pos hc]
  · have hc : ¬ (if decide (k < 1) = true then true else decide (13 < k)) = true := by simp; omega
    have hl : (rowsT.length : Int) = 14 := rfl
    rw [if_neg hc, if_neg hc, if_pos (by simp; omega), if_pos (by rw [hl]; simp; omega)]
theorem rowS_out {k : Int} (h : k < 1 ∨ 13 < k) : rowS k = [] := by
  unfold rowS
  rw [if_pos (by rcases h with h | h <;> simp [h])]
theorem kind_cases (k : Int) : (k < 1 ∨ 13 < k) ∨ k = 1 ∨ k = 2 ∨ k = 3 ∨ k = 4 ∨ k = 5 ∨ k = 6 ∨ k = 7 ∨ k = 8 ∨ k = 9 ∨ k = 10 ∨ k = 11 ∨ k = 12 ∨ k = 13 := by omega
theorem rowS_len (k : Int) : (rowS k).length ≤ 5 := by
  rcases kind_cases k with h | rfl | rfl | rfl | rfl | rfl | rfl | rfl | rfl | rfl | rfl | rfl | rfl | rfl
  · rw [rowS_out h]; simp
  all_goals decide
def hasF (k : Int) (c : UInt8) : Bool := (rowS k).any (· == c)
end Go.Proofs.YtcdnbdphakhilaaGreatDoor
set_option maxRecDepth 100000
namespace Go.Proofs.YtcdnbdphakhilaaGreatDoor
open Go.Proofs.YtcdnbdphakhilaaGreatDoor.Ev Go.RowKit
/- Has, and what is made of it. -/
noncomputable abbrev ST0 : FuncId → CSpec := withS noS 115 s115
theorem ST0_ok : ∀ f, FnOk Tryz.prog f (ST0 f) := withS_ok noS_ok ok115
def st69 (c : BitVec 8) (b : Bool) (s : List UInt8) (j : Int) : St := ⟨[(1, .u 8 c), (4, .b b), (5, .str s), (6, .i .i64 j)], [], [], 0⟩
def isC (c : BitVec 8) (x : UInt8) : Bool := x.toBitVec == c
def q69 : St → Tr (Ex × St)
  | ⟨[(1, .u 8 c), (4, .b b), (5, .str s), (6, .i .i64 j)], [], [], _⟩ =>
    .need ((!b && j == 0) && decide (s.length ≤ 1000000)) (.ite (s.any (isC c)) (.leaf (.ret, st69 c true s ((s.takeWhile fun x => !isC c x).length : Int))) (.leaf (.exit 0, st69 c false s (s.length : Int))))
  | _ => .fail
def L69 : Nat → Live := fun _ => ⟨[1, 4, 5, 6], [], [], some q69⟩
theorem step69 (c : BitVec 8) (s : List UInt8) (j : Int) : (atHead (evCode T ST0 L69 20 1 (loopOf Tryz.f69 0)) (L69 (firstR (loopOf Tryz.f69 0))) (st69 c false s j)).run =
    if decide (j < (s.length : Int)) = true then if decide (0 ≤ j) = true then if decide (j < (s.length : Int)) = true then
      if isC c (s.getD j.toNat 0) = true then some (.ret, st69 c true s j) else some (.normal, st69 c false s (IntKind.i64.wrap (j + 1))) else none else none else some (.exit 0, st69 c false s j) := by kernel_rfl
theorem getS_at {xs : List UInt8} {j : Nat} (h : j < xs.length) : xs.getD j 0 = xs[j] := by rw [List.getD_eq_getElem?_getD, List.getElem?_eq_getElem h]; rfl
theorem loop69 (N : Nat) : LoopOk T ST0 L69 20 N (loopOf Tryz.f69 0) := LoopOk.sub rfl <| by
  intro τ e st hcut hr
  unfold q69 at hr
  split at hr
  case h_2 => exact (Tr.of_fail hr).elim
  rename_i c b s j cu
  obtain rfl : cu = 0 := hcut
  obtain ⟨hc, hr2⟩ := Tr.of_need hr
  clear hr
  simp only [Bool.and_eq_true, Bool.not_eq_true', beq_iff_eq, decide_eq_true_eq] at hc
  obtain ⟨⟨rfl, rfl⟩, hlen⟩ := hc
  have sameN : ∀ τ, atHead (evCode T ST0 L69 20 N (loopOf Tryz.f69 0)) (L69 (firstR (loopOf Tryz.f69 0))) τ = atHead (evCode T ST0 L69 20 1 (loopOf Tryz.f69 0)) (L69 (firstR (loopOf Tryz.f69 0))) τ := fun τ => rfl
  have go : ∀ j, j < s.length → (∀ h : j < s.length, isC c s[j] = false) → (atHead (evCode T ST0 L69 20 N (loopOf Tryz.f69 0)) (L69 (firstR (loopOf Tryz.f69 0))) (st69 c false s (j : Int))).run = some (.normal, st69 c false s ((j + 1 : Nat) : Int)) := by
    intro j hj hp
    rw [sameN, step69, if_pos (by simpa using hj), if_pos (by simp), if_pos (by simpa using hj), Int.toNat_natCast, getS_at hj, if_neg (by rw [hp hj]; simp), wrap_succ j (by omega)]
  obtain ⟨h1, h2, h3⟩ := firstP s (isC c)
  rcases Tr.of_ite hr2 with ⟨hp, hr⟩ | ⟨hp, hr⟩
  · simp only [Tr.run, Option.some.injEq, Prod.mk.injEq] at hr
    obtain ⟨rfl, rfl⟩ := hr
    obtain ⟨k1, k2⟩ := h3 hp
    obtain ⟨n, hn⟩ := iter_from (g := atHead (evCode T ST0 L69 20 N (loopOf Tryz.f69 0)) (L69 (firstR (loopOf Tryz.f69 0)))) (fun j => st69 c false s (j : Int)) 0 (s.takeWhile fun x => !isC c x).length (Nat.zero_le _)
      (fun j _ hj => go j (by omega) (fun h => h2 j h hj)) (by rw [sameN, step69, if_pos (by simpa using k1), if_pos (by simp), if_pos (by simpa using k1), Int.toNat_natCast, getS_at k1, if_pos k2]) (by simp)
    exact ⟨n, _, hn, fun _ _ h => h, rfl, rfl⟩
  · simp only [Tr.run, Option.some.injEq, Prod.mk.injEq] at hr
    obtain ⟨rfl, rfl⟩ := hr
    obtain ⟨n, hn⟩ := iter_from (g := atHead (evCode T ST0 L69 20 N (loopOf Tryz.f69 0)) (L69 (firstR (loopOf Tryz.f69 0)))) (fun j => st69 c false s (j : Int)) 0 s.length (Nat.zero_le _)
      (fun j _ hj => go j hj (fun h => by
        have := List.any_eq_false.1 hp s[j] (List.getElem_mem h)
        simpa using this)) (by rw [sameN, step69, if_neg (by simp)]) (by simp)
    exact ⟨n, _, hn, fun _ _ h => h, rfl, rfl⟩
def hasB (k : Int) (c : BitVec 8) : Bool := (rowS k).any (isC c)
def s69 : CSpec | [.i .i64 k, .u 8 c] => some ⟨[], .b (hasB k c)⟩ | _ => none
theorem ok69 : FnOk Tryz.prog 69 s69 := FnOk.of tyOk ST0_ok mixed (L := L69) Tryz.func69 (by kernel_rfl) (by kernel_rfl) (fun xs r hs hp w R vs hvs => by
  unfold s69 at hs; split at hs <;> cases hs
  rename_i k c
  refine ⟨1, FnLoops.one (by kernel_rfl) (loop69 1), ?_⟩
  show (evFn T ST0 L69 1 Tryz.f69 [.i .i64 k, .u 8 c]).run = some (.b (hasB k c))
  have e : (evFn T ST0 L69 1 Tryz.f69 [.i .i64 k, .u 8 c]).run = if ((!false && (0 : Int) == 0) && decide ((rowS k).length ≤ 1000000)) = true then if (rowS k).any (isC c) = true then some (.b true) else some (.b false) else none := by kernel_rfl
  have := rowS_len k
  rw [e, if_pos (by simp; omega), some_iteB]
  unfold hasB
  cases (rowS k).any (isC c) <;> rfl)
noncomputable abbrev ST1 : FuncId → CSpec := withS ST0 69 s69
theorem ST1_ok : ∀ f, FnOk Tryz.prog f (ST1 f) := withS_ok ST0_ok ok69
def makesR (k : Int) : Bool := hasB k 118#8
def pureR (k : Int) : Bool := hasB k 112#8
def s22 : CSpec | [.agg (opC k f w a b c n s o)] => some ⟨[], .b (makesR k)⟩ | _ => none
theorem ok22 : FnOk Tryz.prog 22 s22 := okBy ST1_ok Tryz.func22 (by kernel_rfl) (by kernel_rfl) 1 <| by
  intro xs r hs
  unfold s22 at hs; split at hs <;> cases hs
  rename_i k f w a b c n s o
  rintro hp _
  show (evFn T ST1 noL 1 Tryz.f22 [.agg (opC k f w a b c n s o)]).run = some (.b (makesR k))
  kernel_rfl
def s24 : CSpec | [.agg (opC k f w a b c n s o)] => some ⟨[], .b (pureR k)⟩ | _ => none
theorem ok24 : FnOk Tryz.prog 24 s24 := okBy ST1_ok Tryz.func24 (by kernel_rfl) (by kernel_rfl) 1 <| by
  intro xs r hs
  unfold s24 at hs; split at hs <;> cases hs
  rename_i k f w a b c n s o
  rintro hp _
  show (evFn T ST1 noL 1 Tryz.f24 [.agg (opC k f w a b c n s o)]).run = some (.b (pureR k))
  kernel_rfl
def useA (k a : Int) : List (Dat 2) := if hasB k 97#8 = true then [] ++ [a] else []
def useB (k a b : Int) : List (Dat 2) := if hasB k 98#8 = true then useA k a ++ [b] else useA k a
def usesR (k a b c : Int) : List (Dat 2) := if hasB k 99#8 = true then useB k a b ++ [c] else useB k a b
theorem useB_len (k a b : Int) : (useA k a).length ≤ 1 ∧ (useB k a b).length ≤ 2 := by
  have : (useA k a).length ≤ 1 := by unfold useA; split <;> simp
  refine ⟨this, ?_⟩
  unfold useB; split
  · rw [List.length_append, List.length_singleton]; omega
  · omega
def s20 : CSpec | [.agg (opC k f w a b c n s o)] => some ⟨[], .vw 2 (usesR k a b c)⟩ | _ => none
theorem ok20 : FnOk Tryz.prog 20 s20 := okBy ST1_ok Tryz.func20 (by kernel_rfl) (by kernel_rfl) 1 <| by
  intro xs r hs
  unfold s20 at hs; split at hs <;> cases hs
  rename_i k f w a b c n s o
  rintro hp _
  have e : (evFn T ST1 noL 1 Tryz.f20 [.agg (opC k f w a b c n s o)]).run =
    if (if hasB k 97#8 = true then decide (([] : List (Dat 2)).length + [a].length ≤ 134217728) else true) = true then
    if (if hasB k 98#8 = true then decide ((useA k a).length + [b].length ≤ 134217728) else true) = true then
    if (if hasB k 99#8 = true then decide ((useB k a b).length + [c].length ≤ 134217728) else true) = true then some (.vw 2 (usesR k a b c)) else none else none else none := by kernel_rfl
  obtain ⟨h1, h2⟩ := useB_len k a b
  rw [e, if_pos (by split <;> simp), if_pos (by split; (rw [decide_eq_true_eq]; simp; omega); rfl), if_pos (by split; (rw [decide_eq_true_eq]; simp; omega); rfl)]
/- The program's own. -/
def pureP (k : Int) : Bool := if (if (k == 1) = true then k == 1 else if (k == 2) = true then k == 2 else if (k == 4) = true then k == 4 else if (k == 5) = true then k == 5 else k == 6) = true then true else false
def s23p : CSpec | [.agg (opC k f w a b c n s o)] => some ⟨[], .b (pureP k)⟩ | _ => none
theorem ok23p : FnOk Tryz.prog 23 s23p := okBy noS_ok Tryz.func23 (by kernel_rfl) (by kernel_rfl) 1 <| by
  intro xs r hs
  unfold s23p at hs; split at hs <;> cases hs
  rename_i k f w a b c n s o
  rintro hp _
  have e : (evFn T noS noL 1 Tryz.f23 [.agg (opC k f w a b c n s o)]).run = if (if (k == 1) = true then k == 1 else if (k == 2) = true then k == 2 else if (k == 4) = true then k == 4 else if (k == 5) = true then k == 5 else k == 6) = true then some (.b true) else some (.b false) := by kernel_rfl
  rw [e, some_iteB]; rfl
noncomputable abbrev SP0 : FuncId → CSpec := withS noS 23 s23p
theorem SP0_ok : ∀ f, FnOk Tryz.prog f (SP0 f) := withS_ok noS_ok ok23p
end Go.Proofs.YtcdnbdphakhilaaGreatDoor
set_option maxRecDepth 100000
namespace Go.Proofs.YtcdnbdphakhilaaGreatDoor
open Go.Proofs.YtcdnbdphakhilaaGreatDoor.Ev Go.RowKit
/- The program's Makes, Uses. -/
theorem some_iteV {c : Bool} {a b : List (Dat 2)} : (if c = true then some (AV.vw 2 a) else some (.vw 2 b)) = some (.vw 2 (if c = true then a else b)) := by cases c <;> rfl
def makesP (k : Int) : Bool := if (if pureP k = true then true else k == 7) = true then true else k == 9
def s21 : CSpec | [.agg (opC k f w a b c n s o)] => some ⟨[], .b (makesP k)⟩ | _ => none
theorem ok21 : FnOk Tryz.prog 21 s21 := okBy SP0_ok Tryz.func21 (by kernel_rfl) (by kernel_rfl) 1 <| by
  intro xs r hs
  unfold s21 at hs; split at hs <;> cases hs
  rename_i k f w a b c n s o
  rintro hp _
  show (evFn T SP0 noL 1 Tryz.f21 [.agg (opC k f w a b c n s o)]).run = some (.b (makesP k))
  kernel_rfl
def is2 (k : Int) : Bool := if (k == 4) = true then k == 4 else if (k == 8) = true then k == 8 else k == 10
def is1 (k : Int) : Bool := if (k == 3) = true then k == 3 else if (k == 5) = true then k == 5 else if (k == 7) = true then k == 7 else if (k == 9) = true then k == 9 else if (k == 12) = true then k == 12 else k == 13
def usesP (k a b c : Int) : List (Dat 2) := if (k == 6) = true then [a, b, c] else if is2 k = true then [a, b] else if is1 k = true then [a] else []
def s19 : CSpec | [.agg (opC k f w a b c n s o)] => some ⟨[], .vw 2 (usesP k a b c)⟩ | _ => none
theorem ok19 : FnOk Tryz.prog 19 s19 := okBy SP0_ok Tryz.func19 (by kernel_rfl) (by kernel_rfl) 1 <| by
  intro xs r hs
  unfold s19 at hs; split at hs <;> cases hs
  rename_i k f w a b c n s o
  rintro hp _
  have e : (evFn T SP0 noL 1 Tryz.f19 [.agg (opC k f w a b c n s o)]).run = if (k == 6) = true then some (.vw 2 [a, b, c]) else if is2 k = true then some (.vw 2 [a, b]) else if is1 k = true then some (.vw 2 [a]) else some (.vw 2 []) := by kernel_rfl
  rw [e]
  show _ = some (AV.vw 2 (usesP k a b c))
  unfold usesP
  simp only [some_iteV]
def s110 : CSpec | [.i .i64 w] => some ⟨[], .b (A.isW w)⟩ | _ => none
noncomputable abbrev SP1 : FuncId → CSpec := withS (withS SP0 21 s21) 19 s19
theorem SP1_ok : ∀ f, FnOk Tryz.prog f (SP1 f) := withS_ok (withS_ok SP0_ok ok21) ok19
end Go.Proofs.YtcdnbdphakhilaaGreatDoor
set_option maxRecDepth 100000
namespace Go.Proofs.YtcdnbdphakhilaaGreatDoor
open Go.Proofs.YtcdnbdphakhilaaGreatDoor.Ev Go.RowKit
/- A step's shape. -/
def c1 (k : Int) : Bool := if (k == 1) = true then k == 1 else if (k == 2) = true then k == 2 else if (k == 3) = true then k == 3 else if (k == 12) = true then k == 12 else k == 13
def cf (k : Int) : Bool := if (k == 4) = true then k == 4 else k == 11
def cl (k : Int) : Bool := if (k == 7) = true then k == 7 else k == 8
def cx (k : Int) : Bool := if (k == 9) = true then k == 9 else k == 10
def useAt (u : List (Dat 2)) (i : Int) : Int := if decide (i < (u.length : Int)) = true then u.getD i.toNat (dat0 2) else 0
def shF (k f : Int) : Int := if c1 k = true then 0 else if cf k = true then f else 0
def shW (k w : Int) : Int := if c1 k = true then 0 else if cf k = true then 0 else if (k == 5) = true then w else if cl k = true then w else if cx k = true then w else 0
def shN (k : Int) (n : BitVec 64) : BitVec 64 := if c1 k = true then n else 0#64
def shS (k : Int) (s : Bool) : Bool := if c1 k = true then false else if cf k = true then false else if (k == 5) = true then s else false
def shO (k o : Int) : Int := if c1 k = true then 0 else if cf k = true then 0 else if (k == 5) = true then 0 else if cl k = true then o else 0
def ifB (c d : Bool) : Bool := if c = true then d else true
theorem ifB_self (c : Bool) : ifB c c = true := by cases c <;> rfl
theorem ifB_true (c : Bool) : ifB c true = true := by cases c <;> rfl
def s109 : CSpec | [.agg (opC k f w a b c n s o)] => some ⟨[], .agg (opC k (shF k f) (shW k w) (useAt (usesP k a b c) 0) (useAt (usesP k a b c) 1) (useAt (usesP k a b c) 2) (shN k n) (shS k s) (shO k o))⟩ | _ => none
theorem L40_ok {S : FuncId → CSpec} {N : Nat} {fn : Func} : FnLoops T S L40 N fn := nosum_ok L40 fun _ => rfl
theorem okL {S : FuncId → CSpec} (hS : ∀ f, FnOk Tryz.prog f (S f)) {f : FuncId} {fn : Func} (hf : Tryz.prog.funcs[f]? = some fn) (hname : (fn.name == "runtime.NumGoroutine") = false) (hbody : fn.body.isNone = false) {s : CSpec} (L : Nat → Live) (N : Nat) (hL : FnLoops T S L N fn)
    (h : ∀ xs r, s xs = some r → (∀ c ∈ r.pre, c = true) → (evFn T S L N fn xs).run = some r.res) (hlt : f < offO := by decide) : FnOk Tryz.prog f s :=
  FnOk.of tyOk hS mixed hf hname hbody (fun xs r hs hp w R vs hvs => ⟨N, hL, h xs r hs hp⟩) hlt
theorem ok109 : FnOk Tryz.prog 109 s109 := okL SP1_ok Tryz.func109 (by kernel_rfl) (by kernel_rfl) L40 5 L40_ok <| by
  intro xs r hs
  unfold s109 at hs; split at hs <;> cases hs
  rename_i k f w a b c n s o
  rintro hp
  have e : (evFn T SP1 L40 5 Tryz.f109 [.agg (opC k f w a b c n s o)]).run =
    if ifB (decide ((0 : Int) < ((usesP k a b c).length : Int))) (decide ((0 : Int) ≤ 0)) = true then if ifB (decide ((0 : Int) < ((usesP k a b c).length : Int))) (decide ((0 : Int) < ((usesP k a b c).length : Int))) = true then
    if ifB (decide ((1 : Int) < ((usesP k a b c).length : Int))) (decide ((0 : Int) ≤ 1)) = true then if ifB (decide ((1 : Int) < ((usesP k a b c).length : Int))) (decide ((1 : Int) < ((usesP k a b c).length : Int))) = true then
    if ifB (decide ((2 : Int) < ((usesP k a b c).length : Int))) (decide ((0 : Int) ≤ 2)) = true then if ifB (decide ((2 : Int) < ((usesP k a b c).length : Int))) (decide ((2 : Int) < ((usesP k a b c).length : Int))) = true then
      some (.agg (opC k (shF k f) (shW k w) (useAt (usesP k a b c) 0) (useAt (usesP k a b c) 1) (useAt (usesP k a b c) 2) (shN k n) (shS k s) (shO k o)))
    else none else none else none else none else none else none := by kernel_rfl
  rw [e, if_pos (by rw [show decide ((0 : Int) ≤ 0) = true from rfl, ifB_true]), if_pos (ifB_self _), if_pos (by rw [show decide ((0 : Int) ≤ 1) = true from rfl, ifB_true]), if_pos (ifB_self _), if_pos (by rw [show decide ((0 : Int) ≤ 2) = true from rfl, ifB_true]), if_pos (ifB_self _)]
noncomputable abbrev SP2 : FuncId → CSpec := withS (withS SP1 109 s109) 110 A.s14
theorem SP2_ok : ∀ f, FnOk Tryz.prog f (SP2 f) := withS_ok (withS_ok SP1_ok ok109) A.ok14
end Go.Proofs.YtcdnbdphakhilaaGreatDoor
set_option maxRecDepth 100000
namespace Go.Proofs.YtcdnbdphakhilaaGreatDoor
open Go.Proofs.YtcdnbdphakhilaaGreatDoor.Ev Go.RowKit
/- What may be, step by step. -/
def wordsT : List (List UInt8) := [[], [99, 111, 110, 115, 116], [103, 101, 116], [112, 117, 116], [97, 108, 117], [101, 120, 116], [115, 101, 108], [108, 111, 97, 100], [115, 116, 111, 114, 101], [108, 120], [115, 120], [102, 101, 110, 99, 101], [116, 114, 97, 112], [115, 107, 105, 112]]
def functT : List (List UInt8) := [[], [97, 100, 100], [115, 117, 98], [97, 110, 100], [111, 114], [120, 111, 114], [109, 117, 108], [109, 117, 108, 117], [109, 117, 108, 115], [100, 105, 118, 117], [100, 105, 118, 115], [115, 104, 108], [115, 104, 114], [115, 97, 114], [101, 113], [108, 116, 117], [108, 116, 115]]
def s66 : CSpec | [] => some ⟨[], .vw 5 wordsT⟩ | _ => none
theorem ok66 : FnOk Tryz.prog 66 s66 := okBy noS_ok Tryz.func66 (by kernel_rfl) (by kernel_rfl) 1 <| by
  intro xs r hs
  unfold s66 at hs; split at hs <;> cases hs
  rintro hp _
  kernel_rfl
def s48 : CSpec | [] => some ⟨[], .vw 5 functT⟩ | _ => none
theorem ok48 : FnOk Tryz.prog 48 s48 := okBy noS_ok Tryz.func48 (by kernel_rfl) (by kernel_rfl) 1 <| by
  intro xs r hs
  unfold s48 at hs; split at hs <;> cases hs
  rintro hp _
  kernel_rfl
def orB (a b : Bool) : Bool := if a = true then true else b
def andB (a b : Bool) : Bool := if a = true then b else false
theorem orB_eq (a b : Bool) : orB a b = (a || b) := by cases a <;> rfl
theorem andB_eq (a b : Bool) : andB a b = (a && b) := by cases a <;> rfl
def mayP (k f w a b c : Int) (n : BitVec 64) (s : Bool) (o : Int) : Bool :=
  if orB (orB (decide (k < 1)) (decide (13 < k))) (!(k == k && (f == shF k f && (w == shW k w && (a == useAt (usesP k a b c) 0 && (b == useAt (usesP k a b c) 1 && (c == useAt (usesP k a b c) 2 && (n == shN k n && (s == shS k s && (o == shO k o && true)))))))))) = true then false
  else if (if (k == 2) = true then k == 2 else k == 3) = true then decide (n.toNat < (BitVec.ofInt 64 19).toNat)
  else if (k == 4) = true then andB (decide (1 ≤ f)) (decide (f ≤ 16))
  else if (k == 11) = true then andB (decide (1 ≤ f)) (decide (f ≤ 3))
  else if (k == 12) = true then andB (decide ((BitVec.ofInt 64 1).toNat ≤ n.toNat)) (decide (n.toNat ≤ (BitVec.ofInt 64 6).toNat))
  else if (if (k == 5) = true then k == 5 else if (k == 7) = true then k == 7 else if (k == 8) = true then k == 8 else if (k == 9) = true then k == 9 else k == 10) = true then andB (andB (A.isW w) (decide (0 ≤ o))) (decide (o ≤ 1))
  else true
def s59 : CSpec | [.agg (opC k f w a b c n s o)] => some ⟨[], .b (mayP k f w a b c n s o)⟩ | _ => none
theorem ok59 : FnOk Tryz.prog 59 s59 := okBy SP2_ok Tryz.func59 (by kernel_rfl) (by kernel_rfl) 1 <| by
  intro xs r hs
  unfold s59 at hs; split at hs <;> cases hs
  rename_i k f w a b c n s o
  rintro hp _
  have e : (evFn T SP2 noL 1 Tryz.f59 [.agg (opC k f w a b c n s o)]).run =
    if orB (orB (decide (k < 1)) (decide (13 < k))) (!(k == k && (f == shF k f && (w == shW k w && (a == useAt (usesP k a b c) 0 && (b == useAt (usesP k a b c) 1 && (c == useAt (usesP k a b c) 2 && (n == shN k n && (s == shS k s && (o == shO k o && true)))))))))) = true then some (.b false)
    else if (if (k == 2) = true then k == 2 else k == 3) = true then some (.b (decide (n.toNat < (BitVec.ofInt 64 19).toNat)))
    else if (k == 4) = true then some (.b (andB (decide (1 ≤ f)) (decide (f ≤ 16))))
    else if (k == 11) = true then some (.b (andB (decide (1 ≤ f)) (decide (f ≤ 3))))
    else if (k == 12) = true then some (.b (andB (decide ((BitVec.ofInt 64 1).toNat ≤ n.toNat)) (decide (n.toNat ≤ (BitVec.ofInt 64 6).toNat))))
    else if (if (k == 5) = true then k == 5 else if (k == 7) = true then k == 7 else if (k == 8) = true then k == 8 else if (k == 9) = true then k == 9 else k == 10) = true then some (.b (andB (andB (A.isW w) (decide (0 ≤ o))) (decide (o ≤ 1))))
    else some (.b true) := by kernel_rfl
  rw [e]
  show _ = some (AV.b (mayP k f w a b c n s o))
  unfold mayP
  simp only [some_iteB]
def valP (xs : List IOp) (k h : Int) : Bool := andB (andB (decide (0 ≤ k)) (decide (k < h))) (makesP (xs.getD k.toNat (dat0 11)).Kind)
def s62 : CSpec | [.agg (mkC a n (.vw 11 xs) ek ea et el), .i .i64 k, .i .i64 h] => some ⟨[decide (h ≤ (xs.length : Int))], .b (valP xs k h)⟩ | _ => none
theorem ok62 : FnOk Tryz.prog 62 s62 := okBy SP2_ok Tryz.func62 (by kernel_rfl) (by kernel_rfl) 1 <| by
  intro xs r hs
  unfold s62 at hs; split at hs <;> cases hs
  rename_i a n xs ek ea et el k h
  rintro hp _
  have hp0 : h ≤ (xs.length : Int) := of_decide_eq_true (hp _ (List.mem_cons_self ..))
  have e : (evFn T SP2 noL 1 Tryz.f62 [.agg (mkC a n (.vw 11 xs) ek ea et el), .i .i64 k, .i .i64 h]).run =
    if ifB (andB (decide (0 ≤ k)) (decide (k < h))) (decide (0 ≤ k)) = true then if ifB (andB (decide (0 ≤ k)) (decide (k < h))) (decide (k < (xs.length : Int))) = true then some (.b (valP xs k h)) else none else none := by kernel_rfl
  rw [e, if_pos, if_pos]
  · unfold ifB andB
    by_cases h1 : 0 ≤ k
    · by_cases h2 : k < h
      · simp [h1, h2]; omega
      · simp [h1, h2]
    · simp [h1]
  · unfold ifB andB
    by_cases h1 : 0 ≤ k <;> simp [h1]
noncomputable abbrev SR0 : FuncId → CSpec := withS (withS (withS (withS ST1 22 s22) 20 s20) 116 A.s14) 66 s66
theorem SR0_ok : ∀ f, FnOk Tryz.prog f (SR0 f) := withS_ok (withS_ok (withS_ok (withS_ok ST1_ok ok22) ok20) A.ok15) ok66
def valR (xs : List IOp) (k h : Int) : Bool := andB (andB (decide (0 ≤ k)) (decide (k < h))) (makesR (xs.getD k.toNat (dat0 11)).Kind)
def s67 : CSpec | [.agg (mkC a n (.vw 11 xs) ek ea et el), .i .i64 k, .i .i64 h] => some ⟨[decide (h ≤ (xs.length : Int))], .b (valR xs k h)⟩ | _ => none
theorem ok67 : FnOk Tryz.prog 67 s67 := okBy SR0_ok Tryz.func67 (by kernel_rfl) (by kernel_rfl) 1 <| by
  intro xs r hs
  unfold s67 at hs; split at hs <;> cases hs
  rename_i a n xs ek ea et el k h
  rintro hp _
  have hp0 : h ≤ (xs.length : Int) := of_decide_eq_true (hp _ (List.mem_cons_self ..))
  have e : (evFn T SR0 noL 1 Tryz.f67 [.agg (mkC a n (.vw 11 xs) ek ea et el), .i .i64 k, .i .i64 h]).run =
    if ifB (andB (decide (0 ≤ k)) (decide (k < h))) (decide (0 ≤ k)) = true then if ifB (andB (decide (0 ≤ k)) (decide (k < h))) (decide (k < (xs.length : Int))) = true then some (.b (valR xs k h)) else none else none := by kernel_rfl
  rw [e, if_pos, if_pos]
  · unfold ifB andB
    by_cases h1 : 0 ≤ k
    · by_cases h2 : k < h
      · simp [h1, h2]; omega
      · simp [h1, h2]
    · simp [h1]
  · unfold ifB andB
    by_cases h1 : 0 ≤ k <;> simp [h1]
noncomputable abbrev SR1 : FuncId → CSpec := withS SR0 67 s67
theorem SR1_ok : ∀ f, FnOk Tryz.prog f (SR1 f) := withS_ok SR0_ok ok67
def keys65 : List Key := [(2,0),(2,1),(2,2),(2,3),(2,4),(2,5),(2,6),(5,0),(5,1),(5,2),(5,3),(5,4),(5,5),(5,6),(5,7),(5,8)]
def st65 (a n : BitVec 64) (ek ea : Int) (et el : BitVec 64) (xs : List IOp) (i k0 : Int) (p : IOp) (ks : List (Dat 2)) (j : Int) : St :=
  ⟨[(1, .i .i64 i), (2, .ptr 2 0), (4, .b false), (5, .ptr 5 0), (6, .i .i64 k0), (99, .vw 2 ks), (100, .i .i64 (ks.length : Int)), (101, .i .i64 j)],
   [((2,0), .u 64 a), ((2,1), .u 64 n), ((2,2), .vw 11 xs), ((2,3), .i .i64 ek), ((2,4), .i .i64 ea), ((2,5), .u 64 et), ((2,6), .u 64 el),
    ((5,0), .i .i64 p.Kind), ((5,1), .i .i64 p.F), ((5,2), .i .i64 p.W), ((5,3), .i .i64 p.A), ((5,4), .i .i64 p.B), ((5,5), .i .i64 p.C), ((5,6), .u 64 p.N), ((5,7), .b p.Signed), ((5,8), .i .i64 p.Ord)], [(5,9),(2,7)], 0⟩
def badU (xs : List IOp) (i : Int) (k : Dat 2) : Bool := !valR xs k i
def q65 : St → Tr (Ex × St)
  | ⟨[(1, .i .i64 i), (2, .ptr p2 o2), (4, .b b4), (5, .ptr p5 o5), (6, .i .i64 k0), (99, .vw 2 ks), (100, .i .i64 m), (101, .i .i64 j)],
     [(k20, .u 64 a), (k21, .u 64 n), (k22, .vw 11 xs), (k23, .i .i64 ek), (k24, .i .i64 ea), (k25, .u 64 et), (k26, .u 64 el),
      (k50, .i .i64 x0), (k51, .i .i64 x1), (k52, .i .i64 x2), (k53, .i .i64 x3), (k54, .i .i64 x4), (k55, .i .i64 x5), (k56, .u 64 x6), (k57, .b x7), (k58, .i .i64 x8)], ids, _⟩ =>
    .need ((p2 == 2 && o2 == 0) && ((p5 == 5 && o5 == 0) && (!b4 && ([k20, k21, k22, k23, k24, k25, k26, k50, k51, k52, k53, k54, k55, k56, k57, k58] == keys65 && ids == [(5,9),(2,7)]))))
      (.need ((m == (ks.length : Int) && j == 0) && (decide (ks.length ≤ 1000000) && decide (i ≤ (xs.length : Int))))
        (.ite (ks.any (badU xs i)) (.leaf (.ret, st65 a n ek ea et el xs i k0 ⟨x0, x1, x2, x3, x4, x5, x6, x7, x8⟩ ks ((ks.takeWhile fun k => !badU xs i k).length : Int)))
          (.leaf (.exit 0, st65 a n ek ea et el xs i k0 ⟨x0, x1, x2, x3, x4, x5, x6, x7, x8⟩ ks (ks.length : Int)))))
  | _ => .fail
def L65 : Nat → Live := fun _ => ⟨[1, 2, 4, 5, 6, 99, 100, 101], keys65, [2, 5], some q65⟩
theorem step65 (a n : BitVec 64) (ek ea : Int) (et el : BitVec 64) (xs : List IOp) (i k0 : Int) (p : IOp) (ks : List (Dat 2)) (j : Int) :
  (atHead (evCode T SR1 L65 169 1 (loopOf Tryz.f65 0)) (L65 (firstR (loopOf Tryz.f65 0))) (st65 a n ek ea et el xs i k0 p ks j)).run =
    if decide (j < (ks.length : Int)) = true then if decide (0 ≤ j) = true then if decide (j < (ks.length : Int)) = true then if decide (i ≤ (xs.length : Int)) = true then
      if badU xs i (ks.getD j.toNat (dat0 2)) = true then some (.ret, st65 a n ek ea et el xs i k0 p ks j) else some (.normal, st65 a n ek ea et el xs i k0 p ks (IntKind.i64.wrap (j + 1)))
      else none else none else none else some (.exit 0, st65 a n ek ea et el xs i k0 p ks j) := by kernel_rfl
theorem loop65 (N : Nat) : LoopOk T SR1 L65 169 N (loopOf Tryz.f65 0) := LoopOk.sub rfl <| by
  intro τ e st hcut hr
  unfold q65 at hr
  split at hr
  case h_2 => exact (Tr.of_fail hr).elim
  rename_i i p2 o2 b4 p5 o5 k0 ks m j k20 a k21 n k22 xs k23 ek k24 ea k25 et k26 el k50 x0 k51 x1 k52 x2 k53 x3 k54 x4 k55 x5 k56 x6 k57 x7 k58 x8 ids cu
  obtain rfl : cu = 0 := hcut
  obtain ⟨hc, hr1⟩ := Tr.of_need hr
  obtain ⟨hd, hr2⟩ := Tr.of_need hr1
  clear hr hr1
  simp only [Bool.and_eq_true, beq_iff_eq, Bool.not_eq_true'] at hc
  obtain ⟨⟨rfl, rfl⟩, ⟨rfl, rfl⟩, rfl, hk, rfl⟩ := hc
  simp only [keys65, List.cons.injEq, and_true] at hk
  obtain ⟨rfl, rfl, rfl, rfl, rfl, rfl, rfl, rfl, rfl, rfl, rfl, rfl, rfl, rfl, rfl, rfl⟩ := hk
  simp only [Bool.and_eq_true, beq_iff_eq, decide_eq_true_eq] at hd
  obtain ⟨⟨rfl, rfl⟩, hlen, hil⟩ := hd
  have hlen : ks.length ≤ 1000000 := hlen
  have sameN : ∀ τ, atHead (evCode T SR1 L65 169 N (loopOf Tryz.f65 0)) (L65 (firstR (loopOf Tryz.f65 0))) τ = atHead (evCode T SR1 L65 169 1 (loopOf Tryz.f65 0)) (L65 (firstR (loopOf Tryz.f65 0))) τ := fun τ => rfl
  have go : ∀ j, j < ks.length → (∀ h : j < ks.length, badU xs i ks[j] = false) → (atHead (evCode T SR1 L65 169 N (loopOf Tryz.f65 0)) (L65 (firstR (loopOf Tryz.f65 0))) (st65 a n ek ea et el xs i k0 ⟨x0, x1, x2, x3, x4, x5, x6, x7, x8⟩ ks (j : Int))).run = some (.normal, st65 a n ek ea et el xs i k0 ⟨x0, x1, x2, x3, x4, x5, x6, x7, x8⟩ ks ((j + 1 : Nat) : Int)) := by
    intro j hj hp
    rw [sameN, step65, if_pos (by simpa using hj), if_pos (by simp), if_pos (by simpa using hj), if_pos (by simpa using hil), Int.toNat_natCast, getD_at hj, if_neg (by rw [hp hj]; simp), wrap_succ j (by omega)]
  obtain ⟨h1, h2, h3⟩ := firstP ks (badU xs i)
  rcases Tr.of_ite hr2 with ⟨hp, hr⟩ | ⟨hp, hr⟩
  · simp only [Tr.run, Option.some.injEq, Prod.mk.injEq] at hr
    obtain ⟨rfl, rfl⟩ := hr
    obtain ⟨k1, k2⟩ := h3 hp
    obtain ⟨n', hn⟩ := iter_from (g := atHead (evCode T SR1 L65 169 N (loopOf Tryz.f65 0)) (L65 (firstR (loopOf Tryz.f65 0)))) (fun j => st65 a n ek ea et el xs i k0 ⟨x0, x1, x2, x3, x4, x5, x6, x7, x8⟩ ks (j : Int)) 0 (ks.takeWhile fun k => !badU xs i k).length (Nat.zero_le _)
      (fun j _ hj => go j (by omega) (fun h => h2 j h hj)) (by rw [sameN, step65, if_pos (by simpa using k1), if_pos (by simp), if_pos (by simpa using k1), if_pos (by simpa using hil), Int.toNat_natCast, getD_at k1, if_pos k2]) (by simp)
    exact ⟨n', _, hn, fun _ _ h => h, rfl, rfl⟩
  · simp only [Tr.run, Option.some.injEq, Prod.mk.injEq] at hr
    obtain ⟨rfl, rfl⟩ := hr
    obtain ⟨n', hn⟩ := iter_from (g := atHead (evCode T SR1 L65 169 N (loopOf Tryz.f65 0)) (L65 (firstR (loopOf Tryz.f65 0)))) (fun j => st65 a n ek ea et el xs i k0 ⟨x0, x1, x2, x3, x4, x5, x6, x7, x8⟩ ks (j : Int)) 0 ks.length (Nat.zero_le _)
      (fun j _ hj => go j hj (fun h => by
        have := List.any_eq_false.1 hp ks[j] (List.getElem_mem h)
        simpa using this)) (by rw [sameN, step65, if_neg (by simp)]) (by simp)
    exact ⟨n', _, hn, fun _ _ h => h, rfl, rfl⟩
def badR (p : IOp) : Bool :=
  orB (orB (orB (orB (orB (orB (orB (orB (rowS p.Kind == []) (andB (!hasB p.Kind 97#8) (p.A != 0))) (andB (!hasB p.Kind 98#8) (p.B != 0))) (andB (!hasB p.Kind 99#8) (p.C != 0))) (andB (!hasB p.Kind 110#8) (p.N != 0#64))) (andB (!hasB p.Kind 102#8) (p.F != 0))) (andB (!hasB p.Kind 119#8) (p.W != 0))) (andB (!hasB p.Kind 115#8) p.Signed)) (andB (!hasB p.Kind 111#8) (p.Ord != 0))
def wrongR (p : IOp) : Bool := orB (andB (hasB p.Kind 119#8) (!A.isW p.W)) (andB (p.Ord != 0) (p.Ord != 1))
def wordS (k : Int) : List UInt8 := wordsT.getD k.toNat []
def goodR (p : IOp) : Bool :=
  if (if (wordS p.Kind == [103, 101, 116]) = true then wordS p.Kind == [103, 101, 116] else wordS p.Kind == [112, 117, 116]) = true then decide (p.N.toNat < (BitVec.ofInt 64 19).toNat)
  else if (wordS p.Kind == [97, 108, 117]) = true then andB (decide (1 ≤ p.F)) (decide (p.F ≤ 16))
  else if (wordS p.Kind == [102, 101, 110, 99, 101]) = true then andB (decide (1 ≤ p.F)) (decide (p.F ≤ 3))
  else if (wordS p.Kind == [116, 114, 97, 112]) = true then andB (decide ((BitVec.ofInt 64 1).toNat ≤ p.N.toNat)) (decide (p.N.toNat ≤ (BitVec.ofInt 64 6).toNat))
  else true
def usesO (p : IOp) : List (Dat 2) := usesR p.Kind p.A p.B p.C
def mayR (xs : List IOp) (i : Int) (p : IOp) : Bool := if badR p = true then false else if (usesO p).any (badU xs i) = true then false else if wrongR p = true then false else goodR p
def s65 : CSpec | [.agg (mkC a n (.vw 11 xs) ek ea et el), .i .i64 i] => some ⟨[decide (0 ≤ i), decide (i < (xs.length : Int))], .b (mayR xs i (xs.getD i.toNat (dat0 11)))⟩ | _ => none
theorem bad_out {p : IOp} (h : badR p = false) : 0 ≤ p.Kind ∧ p.Kind < 14 := by
  by_cases hk : p.Kind < 1 ∨ 13 < p.Kind
  · have : rowS p.Kind = [] := rowS_out hk
    unfold badR at h
    simp only [this, orB_eq, beq_self_eq_true, Bool.true_or] at h
    cases h
  · omega
theorem usesO_len (p : IOp) : (usesO p).length ≤ 3 := by
  obtain ⟨_, h⟩ := useB_len p.Kind p.A p.B
  unfold usesO usesR
  split
  · rw [List.length_append, List.length_singleton]; omega
  · omega
theorem ok65 : FnOk Tryz.prog 65 s65 := okL SR1_ok Tryz.func65 (by kernel_rfl) (by kernel_rfl) L65 1 (FnLoops.one (by kernel_rfl) (loop65 1)) <| by
  intro xs r hs
  unfold s65 at hs; split at hs <;> cases hs
  rename_i a n xs ek ea et el i
  rintro hp
  have h0 : decide (0 ≤ i) = true := hp _ (List.mem_cons_self ..)
  have h1 : decide (i < (xs.length : Int)) = true := hp _ (List.mem_cons_of_mem _ (List.mem_cons_self ..))
  show (evFn T SR1 L65 1 Tryz.f65 [.agg (mkC a n (.vw 11 xs) ek ea et el), .i .i64 i]).run = some (.b (mayR xs i (xs.getD i.toNat (dat0 11))))
  have e : ∀ p, p = xs.getD i.toNat (dat0 11) → (evFn T SR1 L65 1 Tryz.f65 [.agg (mkC a n (.vw 11 xs) ek ea et el), .i .i64 i]).run =
    if decide (0 ≤ i) = true then if decide (i < (xs.length : Int)) = true then if badR p = true then some (.b false)
    else if ((((usesO p).length : Int) == ((usesO p).length : Int) && (0 : Int) == 0) && (decide ((usesO p).length ≤ 1000000) && decide (i ≤ (xs.length : Int)))) = true then
      if (usesO p).any (badU xs i) = true then some (.b false)
      else if wrongR p = true then some (.b false) else
      if decide (0 ≤ p.Kind) = true then if decide (p.Kind < (wordsT.length : Int)) = true then
        if (if (wordS p.Kind == [103, 101, 116]) = true then wordS p.Kind == [103, 101, 116] else wordS p.Kind == [112, 117, 116]) = true then some (.b (decide (p.N.toNat < (BitVec.ofInt 64 19).toNat)))
        else if (wordS p.Kind == [97, 108, 117]) = true then some (.b (andB (decide (1 ≤ p.F)) (decide (p.F ≤ 16))))
        else if (wordS p.Kind == [102, 101, 110, 99, 101]) = true then some (.b (andB (decide (1 ≤ p.F)) (decide (p.F ≤ 3))))
        else if (wordS p.Kind == [116, 114, 97, 112]) = true then some (.b (andB (decide ((BitVec.ofInt 64 1).toNat ≤ p.N.toNat)) (decide (p.N.toNat ≤ (BitVec.ofInt 64 6).toNat))))
        else some (.b true)
      else none else none
    else none else none else none := by intro p hp; subst hp; kernel_rfl
  have hil : i < (xs.length : Int) := of_decide_eq_true h1
  rw [e _ rfl, if_pos h0, if_pos h1]
  generalize xs.getD i.toNat (dat0 11) = p
  have hl := usesO_len p
  unfold mayR
  cases hb : badR p with
  | true => rfl
  | false =>
    obtain ⟨b1, b2⟩ := bad_out hb
    have hw : (wordsT.length : Int) = 14 := rfl
    have hc : ((((usesO p).length : Int) == ((usesO p).length : Int) && (0 : Int) == 0) && (decide ((usesO p).length ≤ 1000000) && decide (i ≤ (xs.length : Int)))) = true := by simp; omega
    have hk0 : decide (0 ≤ p.Kind) = true := by simpa using b1
    have hk1 : decide (p.Kind < (wordsT.length : Int)) = true := by rw [hw]; simpa using b2
    simp only [Bool.false_eq_true, if_false]
    rw [if_pos hc]
    cases (usesO p).any (badU xs i) with
    | true => rfl
    | false =>
      simp only [Bool.false_eq_true, if_false]
      cases wrongR p with
      | true => rfl
      | false =>
        simp only [Bool.false_eq_true, if_false]
        rw [if_pos hk0, if_pos hk1]
        unfold goodR
        simp only [some_iteB]
end Go.Proofs.YtcdnbdphakhilaaGreatDoor
set_option maxRecDepth 100000
namespace Go.Proofs.YtcdnbdphakhilaaGreatDoor
open Go.Proofs.YtcdnbdphakhilaaGreatDoor.Ev Go.RowKit
/- Searches by closures. -/
def badV (xs : List IOp) (i : Int) (k : Dat 2) : Bool := !valP xs k i
def s61 : CSpec | [.i .i64 k, .rp (mkC a n (.vw 11 xs) ek ea et el) 0, .rp [.i .i64 i] 0] => some ⟨[decide (i ≤ (xs.length : Int))], .b (badV xs i k)⟩ | _ => none
noncomputable abbrev SP3 : FuncId → CSpec := withS (withS SP2 59 s59) 62 s62
theorem SP3_ok : ∀ f, FnOk Tryz.prog f (SP3 f) := withS_ok (withS_ok SP2_ok ok59) ok62
theorem ok61 : FnOk Tryz.prog 61 s61 := okBy SP3_ok Tryz.func61 (by kernel_rfl) (by kernel_rfl) 1 <| by
  intro xs r hs
  unfold s61 at hs; split at hs <;> cases hs
  rename_i k a n xs ek ea et el i
  rintro hp _
  have hp0 := hp _ (List.mem_cons_self ..)
  have e : (evFn T SP3 noL 1 Tryz.f61 [.i .i64 k, .rp (mkC a n (.vw 11 xs) ek ea et el) 0, .rp [.i .i64 i] 0]).run = if decide (i ≤ (xs.length : Int)) = true then some (.b (badV xs i k)) else none := by kernel_rfl
  rw [e, if_pos hp0]
def badQ (p : Dat 11) : Bool := !pureP (show IOp from p).Kind
def s114 : CSpec | [.agg (opC k f w a b c n s o)] => some ⟨[], .b (!pureP k)⟩ | _ => none
theorem ok114 : FnOk Tryz.prog 114 s114 := okBy SP3_ok Tryz.func114 (by kernel_rfl) (by kernel_rfl) 1 <| by
  intro xs r hs
  unfold s114 at hs; split at hs <;> cases hs
  rename_i k f w a b c n s o
  rintro hp _
  show (evFn T SP3 noL 1 Tryz.f114 [.agg (opC k f w a b c n s o)]).run = some (.b (!pureP k))
  kernel_rfl
noncomputable abbrev SP4 : FuncId → CSpec := withS (withS SP3 61 s61) 114 s114
theorem SP4_ok : ∀ f, FnOk Tryz.prog f (SP4 f) := withS_ok (withS_ok SP3_ok ok61) ok114
def idxOf {α : Type} (p : α → Bool) (ks : List α) : Int := if ks.any p = true then ((ks.takeWhile fun k => !p k).length : Int) else -1
theorem idx_ge {α : Type} (p : α → Bool) (ks : List α) : decide (0 ≤ idxOf p ks) = ks.any p := by
  unfold idxOf
  cases ks.any p with
  | true => rw [if_pos rfl]; simp
  | false => rfl
def st111 (a : BitVec 64) (n : BitVec 64) (xs : List IOp) (ek : Int) (ea : Int) (et : BitVec 64) (el : BitVec 64) (i : Int) (ks : List (Dat 2)) (r j : Int) : St := ⟨[(0, .vw 2 ks), (1, .clo 61 [.rp (mkC a n (.vw 11 xs) ek ea et el) 0, .rp [.i .i64 i] 0]), (4, .i .i64 r), (7, .i .i64 (ks.length : Int)), (8, .i .i64 j)], [], [], 0⟩
def q111 : St → Tr (Ex × St)
  | ⟨[(0, .vw 2 ks), (1, .clo cf [.rp (mkC a n (.vw 11 xs) ek ea et el) 0, .rp [.i .i64 i] 0]), (4, .i .i64 r), (7, .i .i64 m), (8, .i .i64 j)], [], [], _⟩ =>
    .need (cf == 61) (.need ((m == (ks.length : Int) && j == 0) && (decide (ks.length ≤ 1000000) && decide (i ≤ (xs.length : Int))))
      (.ite (ks.any (badV xs i)) (.leaf (.ret, st111 a n xs ek ea et el i ks ((ks.takeWhile fun k => !(badV xs i) k).length : Int) ((ks.takeWhile fun k => !(badV xs i) k).length : Int))) (.leaf (.exit 0, st111 a n xs ek ea et el i ks r (ks.length : Int)))))
  | _ => .fail
def L111 : Nat → Live := fun _ => ⟨[0, 1, 4, 7, 8], [], [], some q111⟩
theorem step111 (a : BitVec 64) (n : BitVec 64) (xs : List IOp) (ek : Int) (ea : Int) (et : BitVec 64) (el : BitVec 64) (i : Int) (ks : List (Dat 2)) (r j : Int) : (atHead (evCode T SP4 L111 19 1 (loopOf Tryz.f111 0)) (L111 (firstR (loopOf Tryz.f111 0))) (st111 a n xs ek ea et el i ks r j)).run =
    if decide (j < (ks.length : Int)) = true then if decide (i ≤ (xs.length : Int)) = true then if decide (0 ≤ j) = true then if decide (j < (ks.length : Int)) = true then
      if (badV xs i) (ks.getD j.toNat (dat0 2)) = true then some (.ret, st111 a n xs ek ea et el i ks j j) else some (.normal, st111 a n xs ek ea et el i ks r (IntKind.i64.wrap (j + 1)))
      else none else none else none else some (.exit 0, st111 a n xs ek ea et el i ks r j) := by kernel_rfl
theorem loop111 (N : Nat) : LoopOk T SP4 L111 19 N (loopOf Tryz.f111 0) := LoopOk.sub rfl <| by
  intro τ e st hcut hr
  unfold q111 at hr
  split at hr
  case h_2 => exact (Tr.of_fail hr).elim
  rename_i ks cf a n xs ek ea et el i r m j cu
  obtain rfl : cu = 0 := hcut
  obtain ⟨hc, hr1⟩ := Tr.of_need hr
  obtain rfl := eq_of_beq hc
  obtain ⟨hd, hr2⟩ := Tr.of_need hr1
  clear hr hr1
  simp only [Bool.and_eq_true, beq_iff_eq, decide_eq_true_eq] at hd
  obtain ⟨⟨rfl, rfl⟩, hlen, hil⟩ := hd
  have hlen : ks.length ≤ 1000000 := hlen
  have sameN : ∀ τ, atHead (evCode T SP4 L111 19 N (loopOf Tryz.f111 0)) (L111 (firstR (loopOf Tryz.f111 0))) τ = atHead (evCode T SP4 L111 19 1 (loopOf Tryz.f111 0)) (L111 (firstR (loopOf Tryz.f111 0))) τ := fun τ => rfl
  have go : ∀ j, j < ks.length → (∀ h : j < ks.length, (badV xs i) ks[j] = false) → (atHead (evCode T SP4 L111 19 N (loopOf Tryz.f111 0)) (L111 (firstR (loopOf Tryz.f111 0))) (st111 a n xs ek ea et el i ks r (j : Int))).run = some (.normal, st111 a n xs ek ea et el i ks r ((j + 1 : Nat) : Int)) := by
    intro j hj hp
    rw [sameN, step111, if_pos (by simpa using hj), if_pos (by simpa using hil), if_pos (by simp), if_pos (by simpa using hj), Int.toNat_natCast, getD_at hj, if_neg (by rw [hp hj]; simp), wrap_succ j (by omega)]
  obtain ⟨h1, h2, h3⟩ := firstP ks (badV xs i)
  rcases Tr.of_ite hr2 with ⟨hp, hr⟩ | ⟨hp, hr⟩
  · simp only [Tr.run, Option.some.injEq, Prod.mk.injEq] at hr
    obtain ⟨rfl, rfl⟩ := hr
    obtain ⟨k1, k2⟩ := h3 hp
    obtain ⟨n', hn⟩ := iter_from (g := atHead (evCode T SP4 L111 19 N (loopOf Tryz.f111 0)) (L111 (firstR (loopOf Tryz.f111 0)))) (fun j => st111 a n xs ek ea et el i ks r (j : Int)) 0 (ks.takeWhile fun k => !(badV xs i) k).length (Nat.zero_le _)
      (fun j _ hj => go j (by omega) (fun h => h2 j h hj)) (by rw [sameN, step111, if_pos (by simpa using k1), if_pos (by simpa using hil), if_pos (by simp), if_pos (by simpa using k1), Int.toNat_natCast, getD_at k1, if_pos k2]) (by simp)
    exact ⟨n', _, hn, fun _ _ h => h, rfl, rfl⟩
  · simp only [Tr.run, Option.some.injEq, Prod.mk.injEq] at hr
    obtain ⟨rfl, rfl⟩ := hr
    obtain ⟨n', hn⟩ := iter_from (g := atHead (evCode T SP4 L111 19 N (loopOf Tryz.f111 0)) (L111 (firstR (loopOf Tryz.f111 0)))) (fun j => st111 a n xs ek ea et el i ks r (j : Int)) 0 ks.length (Nat.zero_le _)
      (fun j _ hj => go j hj (fun h => by
        have := List.any_eq_false.1 hp ks[j] (List.getElem_mem h)
        simpa using this)) (by rw [sameN, step111, if_neg (by simp)]) (by simp)
    exact ⟨n', _, hn, fun _ _ h => h, rfl, rfl⟩
def st162  (ks : List (Dat 11)) (r j : Int) : St := ⟨[(0, .vw 11 ks), (1, .clo 114 []), (4, .i .i64 r), (7, .i .i64 (ks.length : Int)), (8, .i .i64 j)], [], [], 0⟩
def q162 : St → Tr (Ex × St)
  | ⟨[(0, .vw 11 ks), (1, .clo cf []), (4, .i .i64 r), (7, .i .i64 m), (8, .i .i64 j)], [], [], _⟩ =>
    .need (cf == 114) (.need ((m == (ks.length : Int) && j == 0) && (decide (ks.length ≤ 1000000) && true))
      (.ite (ks.any (badQ)) (.leaf (.ret, st162 ks ((ks.takeWhile fun k => !(badQ) k).length : Int) ((ks.takeWhile fun k => !(badQ) k).length : Int))) (.leaf (.exit 0, st162 ks r (ks.length : Int)))))
  | _ => .fail
def L162 : Nat → Live := fun _ => ⟨[0, 1, 4, 7, 8], [], [], some q162⟩
theorem step162  (ks : List (Dat 11)) (r j : Int) : (atHead (evCode T SP4 L162 19 1 (loopOf Tryz.f162 0)) (L162 (firstR (loopOf Tryz.f162 0))) (st162 ks r j)).run =
    if decide (j < (ks.length : Int)) = true then  if decide (0 ≤ j) = true then if decide (j < (ks.length : Int)) = true then
      if (badQ) (ks.getD j.toNat (dat0 11)) = true then some (.ret, st162 ks j j) else some (.normal, st162 ks r (IntKind.i64.wrap (j + 1)))
       else none else none else some (.exit 0, st162 ks r j) := by kernel_rfl
theorem loop162 (N : Nat) : LoopOk T SP4 L162 19 N (loopOf Tryz.f162 0) := LoopOk.sub rfl <| by
  intro τ e st hcut hr
  unfold q162 at hr
  split at hr
  case h_2 => exact (Tr.of_fail hr).elim
  rename_i ks cf  r m j cu
  obtain rfl : cu = 0 := hcut
  obtain ⟨hc, hr1⟩ := Tr.of_need hr
  obtain rfl := eq_of_beq hc
  obtain ⟨hd, hr2⟩ := Tr.of_need hr1
  clear hr hr1
  simp only [Bool.and_eq_true, beq_iff_eq, decide_eq_true_eq] at hd
  obtain ⟨⟨rfl, rfl⟩, hlen, _⟩ := hd
  have hlen : ks.length ≤ 1000000 := hlen
  have sameN : ∀ τ, atHead (evCode T SP4 L162 19 N (loopOf Tryz.f162 0)) (L162 (firstR (loopOf Tryz.f162 0))) τ = atHead (evCode T SP4 L162 19 1 (loopOf Tryz.f162 0)) (L162 (firstR (loopOf Tryz.f162 0))) τ := fun τ => rfl
  have go : ∀ j, j < ks.length → (∀ h : j < ks.length, (badQ) ks[j] = false) → (atHead (evCode T SP4 L162 19 N (loopOf Tryz.f162 0)) (L162 (firstR (loopOf Tryz.f162 0))) (st162 ks r (j : Int))).run = some (.normal, st162 ks r ((j + 1 : Nat) : Int)) := by
    intro j hj hp
    rw [sameN, step162, if_pos (by simpa using hj), if_pos (by simp), if_pos (by simpa using hj), Int.toNat_natCast, getD_at hj, if_neg (by rw [hp hj]; simp), wrap_succ j (by omega)]
  obtain ⟨h1, h2, h3⟩ := firstP ks (badQ)
  rcases Tr.of_ite hr2 with ⟨hp, hr⟩ | ⟨hp, hr⟩
  · simp only [Tr.run, Option.some.injEq, Prod.mk.injEq] at hr
    obtain ⟨rfl, rfl⟩ := hr
    obtain ⟨k1, k2⟩ := h3 hp
    obtain ⟨n', hn⟩ := iter_from (g := atHead (evCode T SP4 L162 19 N (loopOf Tryz.f162 0)) (L162 (firstR (loopOf Tryz.f162 0)))) (fun j => st162 ks r (j : Int)) 0 (ks.takeWhile fun k => !(badQ) k).length (Nat.zero_le _)
      (fun j _ hj => go j (by omega) (fun h => h2 j h hj)) (by rw [sameN, step162, if_pos (by simpa using k1), if_pos (by simp), if_pos (by simpa using k1), Int.toNat_natCast, getD_at k1, if_pos k2]) (by simp)
    exact ⟨n', _, hn, fun _ _ h => h, rfl, rfl⟩
  · simp only [Tr.run, Option.some.injEq, Prod.mk.injEq] at hr
    obtain ⟨rfl, rfl⟩ := hr
    obtain ⟨n', hn⟩ := iter_from (g := atHead (evCode T SP4 L162 19 N (loopOf Tryz.f162 0)) (L162 (firstR (loopOf Tryz.f162 0)))) (fun j => st162 ks r (j : Int)) 0 ks.length (Nat.zero_le _)
      (fun j _ hj => go j hj (fun h => by
        have := List.any_eq_false.1 hp ks[j] (List.getElem_mem h)
        simpa using this)) (by rw [sameN, step162, if_neg (by simp)]) (by simp)
    exact ⟨n', _, hn, fun _ _ h => h, rfl, rfl⟩
def s111 : CSpec | [.vw 2 ks, .clo 61 [.rp (mkC a n (.vw 11 xs) ek ea et el) 0, .rp [.i .i64 i] 0]] => some ⟨[decide (i ≤ (xs.length : Int)), decide (ks.length ≤ 1000000)], .i .i64 (idxOf (badV xs i) ks)⟩ | _ => none
theorem some_iteI {c : Bool} {a b : Int} : (if c = true then some (AV.i .i64 a) else some (.i .i64 b)) = some (.i .i64 (if c = true then a else b)) := by cases c <;> rfl
theorem ok111 : FnOk Tryz.prog 111 s111 := okL SP4_ok Tryz.func111 (by kernel_rfl) (by kernel_rfl) L111 1 (FnLoops.one (by kernel_rfl) (loop111 1)) <| by
  intro xs r hs hp
  unfold s111 at hs; split at hs <;> cases hs
  rename_i ks a n xs ek ea et el i
  have h0 := of_decide_eq_true (hp _ (List.mem_cons_self ..))
  have h1 := of_decide_eq_true (hp _ (List.mem_cons_of_mem _ (List.mem_cons_self ..)))
  have e : (evFn T SP4 L111 1 Tryz.f111 [.vw 2 ks, .clo 61 [.rp (mkC a n (.vw 11 xs) ek ea et el) 0, .rp [.i .i64 i] 0]]).run =
    if (((ks.length : Int) == (ks.length : Int) && (0 : Int) == 0) && (decide (ks.length ≤ 1000000) && decide (i ≤ (xs.length : Int)))) = true then
      if ks.any (badV xs i) = true then some (.i .i64 ((ks.takeWhile fun k => !badV xs i k).length : Int)) else some (.i .i64 (-1)) else none := by kernel_rfl
  rw [e, if_pos (by simp [h0, h1]), some_iteI]
  rfl
def s162 : CSpec | [.vw 11 ks, .clo 114 []] => some ⟨[decide (ks.length ≤ 1000000)], .i .i64 (idxOf badQ ks)⟩ | _ => none
theorem ok162 : FnOk Tryz.prog 162 s162 := okL SP4_ok Tryz.func162 (by kernel_rfl) (by kernel_rfl) L162 1 (FnLoops.one (by kernel_rfl) (loop162 1)) <| by
  intro xs r hs hp
  unfold s162 at hs; split at hs <;> cases hs
  rename_i ks
  have h1 := of_decide_eq_true (hp _ (List.mem_cons_self ..))
  have e : (evFn T SP4 L162 1 Tryz.f162 [.vw 11 ks, .clo 114 []]).run =
    if (((ks.length : Int) == (ks.length : Int) && (0 : Int) == 0) && (decide (ks.length ≤ 1000000) && true)) = true then
      if ks.any badQ = true then some (.i .i64 ((ks.takeWhile fun k => !badQ k).length : Int)) else some (.i .i64 (-1)) else none := by kernel_rfl
  rw [e, if_pos (by simp [h1]), some_iteI]
  rfl
noncomputable abbrev SP5 : FuncId → CSpec := withS (withS SP4 111 s111) 162 s162
theorem SP5_ok : ∀ f, FnOk Tryz.prog f (SP5 f) := withS_ok (withS_ok SP4_ok ok111) ok162
def s60 : CSpec | [.vw 2 ks, .clo 61 [.rp (mkC a n (.vw 11 xs) ek ea et el) 0, .rp [.i .i64 i] 0]] => some ⟨[decide (i ≤ (xs.length : Int)), decide (ks.length ≤ 1000000)], .b (ks.any (badV xs i))⟩ | _ => none
theorem ok60 : FnOk Tryz.prog 60 s60 := okBy SP5_ok Tryz.func60 (by kernel_rfl) (by kernel_rfl) 1 <| by
  intro xs r hs
  unfold s60 at hs; split at hs <;> cases hs
  rename_i ks a n xs ek ea et el i
  rintro hp _
  have h0 := hp _ (List.mem_cons_self ..)
  have h1 := hp _ (List.mem_cons_of_mem _ (List.mem_cons_self ..))
  have e : (evFn T SP5 noL 1 Tryz.f60 [.vw 2 ks, .clo 61 [.rp (mkC a n (.vw 11 xs) ek ea et el) 0, .rp [.i .i64 i] 0]]).run =
    if decide (i ≤ (xs.length : Int)) = true then if decide (ks.length ≤ 1000000) = true then some (.b (decide (0 ≤ idxOf (badV xs i) ks))) else none else none := by kernel_rfl
  rw [e, if_pos h0, if_pos h1, idx_ge]
def s113 : CSpec | [.vw 11 ks, .clo 114 []] => some ⟨[decide (ks.length ≤ 1000000)], .b (ks.any badQ)⟩ | _ => none
theorem ok113 : FnOk Tryz.prog 113 s113 := okBy SP5_ok Tryz.func113 (by kernel_rfl) (by kernel_rfl) 1 <| by
  intro xs r hs
  unfold s113 at hs; split at hs <;> cases hs
  rename_i ks
  rintro hp _
  have h1 := hp _ (List.mem_cons_self ..)
  have e : (evFn T SP5 noL 1 Tryz.f113 [.vw 11 ks, .clo 114 []]).run = if decide (ks.length ≤ 1000000) = true then some (.b (decide (0 ≤ idxOf badQ ks))) else none := by kernel_rfl
  rw [e, if_pos h1, idx_ge]
noncomputable abbrev SP6 : FuncId → CSpec := withS (withS SP5 60 s60) 113 s113
theorem SP6_ok : ∀ f, FnOk Tryz.prog f (SP6 f) := withS_ok (withS_ok SP5_ok ok60) ok113
end Go.Proofs.YtcdnbdphakhilaaGreatDoor
