/- Lemmas: chapter 13's example comes out as it should; each function it runs is shown by the evaluator. No condition. -/
import Derived.Test.YtcdnbdphakhilaaDoorLib
set_option linter.unusedVariables false
set_option linter.unusedSimpArgs false
set_option maxRecDepth 100000
namespace Go.Proofs.YtcdnbdphakhilaaDoor
open Go.Proofs.YtcdnbdphakhilaaDoor.Ev Go.RowKit
/- What functions come to on closed arguments. -/
theorem nosum_ok {S : FuncId → CSpec} {N : Nat} {fn : Func} (L : Nat → Live) (h : ∀ k, (L k).sum = none) : FnLoops T S L N fn := FnLoops.no (by simp [noSum, h])
def rV (S : FuncId → CSpec) (L : Nat → Live) (N : Nat) (fn : Func) : CSpec := fun xs => match (evFn T S L N fn xs).run with
  | some r => some ⟨[], r⟩
  | none => none
def rM (S : FuncId → CSpec) (L : Nat → Live) (N : Nat) (fn : Func) : CSpec := fun xs => match (evFnM T S L N fn (xs.takeWhile fun a => !isFrag a) (xs.dropWhile fun a => !isFrag a)).run with
  | some (v, cs) => some ⟨[], .fin v cs⟩
  | none => none
theorem rV_ok {S : FuncId → CSpec} (hS : ∀ f, FnOk Tryd.prog f (S f)) {f : FuncId} {fn : Func} (L : Nat → Live) (N : Nat) (hL : ∀ k, (L k).sum = none) (hf : Tryd.prog.funcs[f]? = some fn) (hname : (fn.name == "runtime.NumGoroutine") = false) (hbody : fn.body.isNone = false) (hlt : f < offO := by decide) : FnOk Tryd.prog f (rV S L N fn) :=
  FnOk.of tyOk hS mixed hf hname hbody (fun xs r hs hp w R vs hvs => ⟨N, nosum_ok L hL, by
    unfold rV at hs
    split at hs
    · rename_i r' h; cases hs; exact h
    · cases hs⟩) hlt
theorem take_frag : ∀ {es fr : List AV}, es.all (fun a => !isFrag a) = true → fr.all isFrag = true → (es ++ fr).takeWhile (fun a => !isFrag a) = es ∧ (es ++ fr).dropWhile (fun a => !isFrag a) = fr
  | [], [], _, _ => ⟨rfl, rfl⟩
  | [], b :: fr, _, h => by
    simp only [List.all_cons, Bool.and_eq_true] at h
    simp [List.takeWhile, List.dropWhile, h.1]
  | a :: es, fr, h1, h2 => by
    simp only [List.all_cons, Bool.and_eq_true] at h1
    obtain ⟨e1, e2⟩ := take_frag h1.2 h2
    simp only [List.cons_append, List.takeWhile, List.dropWhile, h1.1, e1, e2, and_self]
theorem rM_ok {S : FuncId → CSpec} (hS : ∀ f, FnOk Tryd.prog f (S f)) {f : FuncId} {fn : Func} (L : Nat → Live) (N : Nat) (hL : ∀ k, (L k).sum = none) (hf : Tryd.prog.funcs[f]? = some fn) (hname : (fn.name == "runtime.NumGoroutine") = false) (hbody : fn.body.isNone = false) : FnOk Tryd.prog (3000000 + f) (mSpec (rM S L N fn)) :=
  okByM hS hf hname hbody N (nosum_ok L hL) (by
    rintro es fr l r rfl hs h1 h2 hp
    unfold rM at hs
    rw [(take_frag h1 h2).1, (take_frag h1 h2).2] at hs
    split at hs
    · rename_i v cs h; cases hs; exact h
    · cases hs)
def kM (ids : List Nat) : List Key := ids.flatMap fun i => (List.range 20).map fun j => (i, j)
def lv (n : Nat) (ids : List Nat) : Nat → Live := fun _ => ⟨List.range n, kM ids, ids, none⟩
theorem lv_ok (n : Nat) (ids : List Nat) : ∀ k, (lv n ids k).sum = none := fun _ => rfl
theorem noL_sum : ∀ k, (noL k).sum = none := fun _ => rfl
noncomputable abbrev SI0 : FuncId → CSpec := withS (withS (withS (withS noS 3000009 (mSpec s9)) 38 s38) 57 s57) 55 s55
theorem SI0_ok : ∀ f, FnOk Tryd.prog f (SI0 f) := withS_ok (withS_ok (withS_ok (withS_ok noS_ok ok9) ok38) ok57) ok55
noncomputable abbrev SI1 : FuncId → CSpec := withS (withS (withS (withS (withS (withS (withS (withS (withS (withS (withS (withS (withS (withS (withS (withS (SI0) 23 (nmS (rV SI0 noL 1 Tryd.f23))) 46 (nmS (rV SI0 noL 1 Tryd.f46))) 41 (nmS (rV SI0 noL 1 Tryd.f41))) 35 (nmS (rV SI0 noL 1 Tryd.f35))) 36 (nmS (rV SI0 noL 1 Tryd.f36))) 39 (nmS (rV SI0 noL 1 Tryd.f39))) 29 (nmS (rV SI0 noL 1 Tryd.f29))) 30 (nmS (rV SI0 noL 1 Tryd.f30))) 33 (nmS (rV SI0 noL 1 Tryd.f33))) 47 (nmS (rV SI0 noL 1 Tryd.f47))) 43 (nmS (rV SI0 (lv 26 [2, 4, 5]) 6 Tryd.f43))) 3000004 (mSpec (nmS (rM SI0 noL 1 Tryd.f4)))) 3000005 (mSpec (nmS (rM SI0 noL 1 Tryd.f5)))) 3000006 (mSpec (nmS (rM SI0 noL 1 Tryd.f6)))) 3000007 (mSpec (nmS (rM SI0 noL 1 Tryd.f7)))) 3000008 (mSpec (nmS (rM SI0 noL 1 Tryd.f8)))
theorem SI1_ok : ∀ f, FnOk Tryd.prog f (SI1 f) := withS_ok (withS_ok (withS_ok (withS_ok (withS_ok (withS_ok (withS_ok (withS_ok (withS_ok (withS_ok (withS_ok (withS_ok (withS_ok (withS_ok (withS_ok (withS_ok (SI0_ok) (nmS_ok (rV_ok SI0_ok noL 1 noL_sum Tryd.func23 (by kernel_rfl) (by kernel_rfl)))) (nmS_ok (rV_ok SI0_ok noL 1 noL_sum Tryd.func46 (by kernel_rfl) (by kernel_rfl)))) (nmS_ok (rV_ok SI0_ok noL 1 noL_sum Tryd.func41 (by kernel_rfl) (by kernel_rfl)))) (nmS_ok (rV_ok SI0_ok noL 1 noL_sum Tryd.func35 (by kernel_rfl) (by kernel_rfl)))) (nmS_ok (rV_ok SI0_ok noL 1 noL_sum Tryd.func36 (by kernel_rfl) (by kernel_rfl)))) (nmS_ok (rV_ok SI0_ok noL 1 noL_sum Tryd.func39 (by kernel_rfl) (by kernel_rfl)))) (nmS_ok (rV_ok SI0_ok noL 1 noL_sum Tryd.func29 (by kernel_rfl) (by kernel_rfl)))) (nmS_ok (rV_ok SI0_ok noL 1 noL_sum Tryd.func30 (by kernel_rfl) (by kernel_rfl)))) (nmS_ok (rV_ok SI0_ok noL 1 noL_sum Tryd.func33 (by kernel_rfl) (by kernel_rfl)))) (nmS_ok (rV_ok SI0_ok noL 1 noL_sum Tryd.func47 (by kernel_rfl) (by kernel_rfl)))) (nmS_ok (rV_ok SI0_ok (lv 26 [2, 4, 5]) 6 (lv_ok _ _) Tryd.func43 (by kernel_rfl) (by kernel_rfl)))) (nmM_ok (rM_ok SI0_ok noL 1 noL_sum Tryd.func4 (by kernel_rfl) (by kernel_rfl)))) (nmM_ok (rM_ok SI0_ok noL 1 noL_sum Tryd.func5 (by kernel_rfl) (by kernel_rfl)))) (nmM_ok (rM_ok SI0_ok noL 1 noL_sum Tryd.func6 (by kernel_rfl) (by kernel_rfl)))) (nmM_ok (rM_ok SI0_ok noL 1 noL_sum Tryd.func7 (by kernel_rfl) (by kernel_rfl)))) (nmM_ok (rM_ok SI0_ok noL 1 noL_sum Tryd.func8 (by kernel_rfl) (by kernel_rfl)))
noncomputable abbrev SI2 : FuncId → CSpec := withS (withS (withS (withS (SI1) 37 (nmS (rV SI1 noL 1 Tryd.f37))) 48 (nmS (rV SI1 noL 1 Tryd.f48))) 40 (nmS (rV SI1 L40 5 Tryd.f40))) 45 (nmS (rV SI1 noL 1 Tryd.f45))
theorem SI2_ok : ∀ f, FnOk Tryd.prog f (SI2 f) := withS_ok (withS_ok (withS_ok (withS_ok (SI1_ok) (nmS_ok (rV_ok SI1_ok noL 1 noL_sum Tryd.func37 (by kernel_rfl) (by kernel_rfl)))) (nmS_ok (rV_ok SI1_ok noL 1 noL_sum Tryd.func48 (by kernel_rfl) (by kernel_rfl)))) (nmS_ok (rV_ok SI1_ok L40 5 (fun _ => rfl) Tryd.func40 (by kernel_rfl) (by kernel_rfl)))) (nmS_ok (rV_ok SI1_ok noL 1 noL_sum Tryd.func45 (by kernel_rfl) (by kernel_rfl)))
noncomputable abbrev SI3 : FuncId → CSpec := withS (withS (withS (withS (withS (SI2) 25 (nmS (rV SI2 noL 1 Tryd.f25))) 28 (nmS (rV SI2 noL 1 Tryd.f28))) 21 (nmS (rV SI2 noL 1 Tryd.f21))) 58 (nmS (rV SI2 (lv 19 []) 6 Tryd.f58))) 3000011 (mSpec (nmS (rM SI2 (lv 33 [big, big + 1]) 6 Tryd.f11)))
theorem SI3_ok : ∀ f, FnOk Tryd.prog f (SI3 f) := withS_ok (withS_ok (withS_ok (withS_ok (withS_ok (SI2_ok) (nmS_ok (rV_ok SI2_ok noL 1 noL_sum Tryd.func25 (by kernel_rfl) (by kernel_rfl)))) (nmS_ok (rV_ok SI2_ok noL 1 noL_sum Tryd.func28 (by kernel_rfl) (by kernel_rfl)))) (nmS_ok (rV_ok SI2_ok noL 1 noL_sum Tryd.func21 (by kernel_rfl) (by kernel_rfl)))) (nmS_ok (rV_ok SI2_ok (lv 19 []) 6 (lv_ok _ _) Tryd.func58 (by kernel_rfl) (by kernel_rfl)))) (nmM_ok (rM_ok SI2_ok (lv 33 [big, big + 1]) 6 (lv_ok _ _) Tryd.func11 (by kernel_rfl) (by kernel_rfl)))
noncomputable abbrev SI4 : FuncId → CSpec := withS (withS (withS (withS (SI3) 44 (nmS (rV SI3 noL 1 Tryd.f44))) 24 (nmS (rV SI3 noL 1 Tryd.f24))) 27 (nmS (rV SI3 noL 1 Tryd.f27))) 3000034 (mSpec (nmS (rM SI3 noL 1 Tryd.f34)))
theorem SI4_ok : ∀ f, FnOk Tryd.prog f (SI4 f) := withS_ok (withS_ok (withS_ok (withS_ok (SI3_ok) (nmS_ok (rV_ok SI3_ok noL 1 noL_sum Tryd.func44 (by kernel_rfl) (by kernel_rfl)))) (nmS_ok (rV_ok SI3_ok noL 1 noL_sum Tryd.func24 (by kernel_rfl) (by kernel_rfl)))) (nmS_ok (rV_ok SI3_ok noL 1 noL_sum Tryd.func27 (by kernel_rfl) (by kernel_rfl)))) (nmM_ok (rM_ok SI3_ok noL 1 noL_sum Tryd.func34 (by kernel_rfl) (by kernel_rfl)))
noncomputable abbrev SI5 : FuncId → CSpec := withS (withS (SI4) 42 (nmS (rV SI4 (lv 19 []) 6 Tryd.f42))) 26 (nmS (rV SI4 noL 1 Tryd.f26))
theorem SI5_ok : ∀ f, FnOk Tryd.prog f (SI5 f) := withS_ok (withS_ok (SI4_ok) (nmS_ok (rV_ok SI4_ok (lv 19 []) 6 (lv_ok _ _) Tryd.func42 (by kernel_rfl) (by kernel_rfl)))) (nmS_ok (rV_ok SI4_ok noL 1 noL_sum Tryd.func26 (by kernel_rfl) (by kernel_rfl)))
noncomputable abbrev SI6 : FuncId → CSpec := withS (withS (withS (withS (SI5) 22 (nmS (rV SI5 noL 1 Tryd.f22))) 3000018 (mSpec (nmS (rM SI5 noL 1 Tryd.f18)))) 3000019 (mSpec (nmS (rM SI5 noL 1 Tryd.f19)))) 20 (nmS (rV SI5 (lv 85 [2]) 6 Tryd.f20))
theorem SI6_ok : ∀ f, FnOk Tryd.prog f (SI6 f) := withS_ok (withS_ok (withS_ok (withS_ok (SI5_ok) (nmS_ok (rV_ok SI5_ok noL 1 noL_sum Tryd.func22 (by kernel_rfl) (by kernel_rfl)))) (nmM_ok (rM_ok SI5_ok noL 1 noL_sum Tryd.func18 (by kernel_rfl) (by kernel_rfl)))) (nmM_ok (rM_ok SI5_ok noL 1 noL_sum Tryd.func19 (by kernel_rfl) (by kernel_rfl)))) (nmS_ok (rV_ok SI5_ok (lv 85 [2]) 6 (lv_ok _ _) Tryd.func20 (by kernel_rfl) (by kernel_rfl)))
noncomputable abbrev SI7 : FuncId → CSpec := withS (SI6) 17 (nmS (rV SI6 (lv 33 [1, 2]) 6 Tryd.f17))
theorem SI7_ok : ∀ f, FnOk Tryd.prog f (SI7 f) := withS_ok (SI6_ok) (nmS_ok (rV_ok SI6_ok (lv 33 [1, 2]) 6 (lv_ok _ _) Tryd.func17 (by kernel_rfl) (by kernel_rfl)))
noncomputable abbrev SI8 : FuncId → CSpec := withS (withS (SI7) 3000016 (mSpec (nmS (rM SI7 (lv 25 [1, 2, 3]) 6 Tryd.f16)))) 3000015 (mSpec (nmS (rM SI7 (lv 75 [4, 27, ridOf subN 27 10, big]) 6 Tryd.f15)))
theorem SI8_ok : ∀ f, FnOk Tryd.prog f (SI8 f) := withS_ok (withS_ok (SI7_ok) (nmM_ok (rM_ok SI7_ok (lv 25 [1, 2, 3]) 6 (lv_ok _ _) Tryd.func16 (by kernel_rfl) (by kernel_rfl)))) (nmM_ok (rM_ok SI7_ok (lv 75 [4, 27, ridOf subN 27 10, big]) 6 (lv_ok _ _) Tryd.func15 (by kernel_rfl) (by kernel_rfl)))
end Go.Proofs.YtcdnbdphakhilaaDoor
set_option maxRecDepth 100000
namespace Go.Proofs.YtcdnbdphakhilaaDoor
open Go.Proofs.YtcdnbdphakhilaaDoor.Ev Go.RowKit
/- Awake. -/
theorem awake_run : (evFn T SI8 noL 1 Tryd.f14 []).run = some (.b true) := by kernel_rfl
def s14 : CSpec | [] => some ⟨[], .b true⟩ | _ => none
theorem ok14 : FnOk Tryd.prog 14 s14 := okBy SI8_ok Tryd.func14 (by kernel_rfl) (by kernel_rfl) 1 <| by
  intro xs r hs
  unfold s14 at hs; split at hs <;> cases hs
  intro hp _
  exact awake_run
end Go.Proofs.YtcdnbdphakhilaaDoor
