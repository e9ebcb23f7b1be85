/- Lemmas: chapter 13's example comes out as it should; each function it runs is shown by the evaluator. No condition. -/
import Derived.Test.YtcdnbdphakhilaaGreatDoorLib
set_option linter.unusedVariables false
set_option linter.unusedSimpArgs false
set_option maxRecDepth 100000
namespace Go.Proofs.YtcdnbdphakhilaaGreatDoor
open Go.Proofs.YtcdnbdphakhilaaGreatDoor.Ev Go.RowKit
/- What functions come to on closed arguments. -/
theorem nosum_ok {S : FuncId → CSpec} {N : Nat} {fn : Func} (L : Nat → Live) (h : ∀ k, (L k).sum = none) : FnLoops T S L N fn := FnLoops.no (by simp [noSum, h])
def rV (S : FuncId → CSpec) (L : Nat → Live) (N : Nat) (fn : Func) : CSpec := fun xs => match (evFn T S L N fn xs).run with
  | some r => some ⟨[], r⟩
  | none => none
def rM (S : FuncId → CSpec) (L : Nat → Live) (N : Nat) (fn : Func) : CSpec := fun xs => match (evFnM T S L N fn (xs.takeWhile fun a => !isFrag a) (xs.dropWhile fun a => !isFrag a)).run with
  | some (v, cs) => some ⟨[], .fin v cs⟩
  | none => none
theorem rV_ok {S : FuncId → CSpec} (hS : ∀ f, FnOk Tryz.prog f (S f)) {f : FuncId} {fn : Func} (L : Nat → Live) (N : Nat) (hL : ∀ k, (L k).sum = none) (hf : Tryz.prog.funcs[f]? = some fn) (hname : (fn.name == "runtime.NumGoroutine") = false) (hbody : fn.body.isNone = false) (hlt : f < offO := by decide) : FnOk Tryz.prog f (rV S L N fn) :=
  FnOk.of tyOk hS mixed hf hname hbody (fun xs r hs hp w R vs hvs => ⟨N, nosum_ok L hL, by
    unfold rV at hs
    split at hs
    · rename_i r' h; cases hs; exact h
    · cases hs⟩) hlt
theorem take_frag : ∀ {es fr : List AV}, es.all (fun a => !isFrag a) = true → fr.all isFrag = true → (es ++ fr).takeWhile (fun a => !isFrag a) = es ∧ (es ++ fr).dropWhile (fun a => !isFrag a) = fr
  | [], [], _, _ => ⟨rfl, rfl⟩
  | [], b :: fr, _, h => by
    simp only [List.all_cons, Bool.and_eq_true] at h
    simp [List.takeWhile, List.dropWhile, h.1]
  | a :: es, fr, h1, h2 => by
    simp only [List.all_cons, Bool.and_eq_true] at h1
    obtain ⟨e1, e2⟩ := take_frag h1.2 h2
    simp only [List.cons_append, List.takeWhile, List.dropWhile, h1.1, e1, e2, and_self]
theorem rM_ok {S : FuncId → CSpec} (hS : ∀ f, FnOk Tryz.prog f (S f)) {f : FuncId} {fn : Func} (L : Nat → Live) (N : Nat) (hL : ∀ k, (L k).sum = none) (hf : Tryz.prog.funcs[f]? = some fn) (hname : (fn.name == "runtime.NumGoroutine") = false) (hbody : fn.body.isNone = false) : FnOk Tryz.prog (3000000 + f) (mSpec (rM S L N fn)) :=
  okByM hS hf hname hbody N (nosum_ok L hL) (by
    rintro es fr l r rfl hs h1 h2 hp
    unfold rM at hs
    rw [(take_frag h1 h2).1, (take_frag h1 h2).2] at hs
    split at hs
    · rename_i v cs h; cases hs; exact h
    · cases hs)
def kM (ids : List Nat) : List Key := ids.flatMap fun i => (List.range 20).map fun j => (i, j)
def lv (n : Nat) (ids : List Nat) : Nat → Live := fun _ => ⟨List.range n, kM ids, ids, none⟩
theorem lv_ok (n : Nat) (ids : List Nat) : ∀ k, (lv n ids k).sum = none := fun _ => rfl
theorem noL_sum : ∀ k, (noL k).sum = none := fun _ => rfl
noncomputable abbrev SI0 : FuncId → CSpec := withS (withS (withS (withS noS 3000104 (mSpec s9)) 107 s38) 161 s57) 159 s55
theorem SI0_ok : ∀ f, FnOk Tryz.prog f (SI0 f) := withS_ok (withS_ok (withS_ok (withS_ok noS_ok ok9) ok38) ok57) ok55
noncomputable abbrev SI1 : FuncId → CSpec := withS (withS (withS (withS (withS (withS (withS (withS (withS (withS (withS (withS (withS (withS (SI0) 19 (nmS (rV SI0 noL 1 Tryz.f19))) 23 (nmS (rV SI0 noL 1 Tryz.f23))) 110 (nmS (rV SI0 noL 1 Tryz.f110))) 105 (nmS (rV SI0 noL 1 Tryz.f105))) 106 (nmS (rV SI0 noL 1 Tryz.f106))) 108 (nmS (rV SI0 noL 1 Tryz.f108))) 124 (nmS (rV SI0 noL 1 Tryz.f124))) 125 (nmS (rV SI0 noL 1 Tryz.f125))) 128 (nmS (rV SI0 noL 1 Tryz.f128))) 46 (nmS (rV SI0 noL 1 Tryz.f46))) 112 (nmS (rV SI0 (lv 26 [2, 4, 5]) 6 Tryz.f112))) 3000054 (mSpec (nmS (rM SI0 noL 1 Tryz.f54)))) 3000055 (mSpec (nmS (rM SI0 noL 1 Tryz.f55)))) 3000056 (mSpec (nmS (rM SI0 noL 1 Tryz.f56)))
theorem SI1_ok : ∀ f, FnOk Tryz.prog f (SI1 f) := withS_ok (withS_ok (withS_ok (withS_ok (withS_ok (withS_ok (withS_ok (withS_ok (withS_ok (withS_ok (withS_ok (withS_ok (withS_ok (withS_ok (SI0_ok) (nmS_ok (rV_ok SI0_ok noL 1 noL_sum Tryz.func19 (by kernel_rfl) (by kernel_rfl)))) (nmS_ok (rV_ok SI0_ok noL 1 noL_sum Tryz.func23 (by kernel_rfl) (by kernel_rfl)))) (nmS_ok (rV_ok SI0_ok noL 1 noL_sum Tryz.func110 (by kernel_rfl) (by kernel_rfl)))) (nmS_ok (rV_ok SI0_ok noL 1 noL_sum Tryz.func105 (by kernel_rfl) (by kernel_rfl)))) (nmS_ok (rV_ok SI0_ok noL 1 noL_sum Tryz.func106 (by kernel_rfl) (by kernel_rfl)))) (nmS_ok (rV_ok SI0_ok noL 1 noL_sum Tryz.func108 (by kernel_rfl) (by kernel_rfl)))) (nmS_ok (rV_ok SI0_ok noL 1 noL_sum Tryz.func124 (by kernel_rfl) (by kernel_rfl)))) (nmS_ok (rV_ok SI0_ok noL 1 noL_sum Tryz.func125 (by kernel_rfl) (by kernel_rfl)))) (nmS_ok (rV_ok SI0_ok noL 1 noL_sum Tryz.func128 (by kernel_rfl) (by kernel_rfl)))) (nmS_ok (rV_ok SI0_ok noL 1 noL_sum Tryz.func46 (by kernel_rfl) (by kernel_rfl)))) (nmS_ok (rV_ok SI0_ok (lv 26 [2, 4, 5]) 6 (lv_ok _ _) Tryz.func112 (by kernel_rfl) (by kernel_rfl)))) (nmM_ok (rM_ok SI0_ok noL 1 noL_sum Tryz.func54 (by kernel_rfl) (by kernel_rfl)))) (nmM_ok (rM_ok SI0_ok noL 1 noL_sum Tryz.func55 (by kernel_rfl) (by kernel_rfl)))) (nmM_ok (rM_ok SI0_ok noL 1 noL_sum Tryz.func56 (by kernel_rfl) (by kernel_rfl)))
noncomputable abbrev SI2 : FuncId → CSpec := withS (withS (withS (withS (SI1) 21 (nmS (rV SI1 noL 1 Tryz.f21))) 47 (nmS (rV SI1 noL 1 Tryz.f47))) 109 (nmS (rV SI1 L40 5 Tryz.f109))) 114 (nmS (rV SI1 noL 1 Tryz.f114))
theorem SI2_ok : ∀ f, FnOk Tryz.prog f (SI2 f) := withS_ok (withS_ok (withS_ok (withS_ok (SI1_ok) (nmS_ok (rV_ok SI1_ok noL 1 noL_sum Tryz.func21 (by kernel_rfl) (by kernel_rfl)))) (nmS_ok (rV_ok SI1_ok noL 1 noL_sum Tryz.func47 (by kernel_rfl) (by kernel_rfl)))) (nmS_ok (rV_ok SI1_ok L40 5 (fun _ => rfl) Tryz.func109 (by kernel_rfl) (by kernel_rfl)))) (nmS_ok (rV_ok SI1_ok noL 1 noL_sum Tryz.func114 (by kernel_rfl) (by kernel_rfl)))
noncomputable abbrev SI3 : FuncId → CSpec := withS (withS (withS (withS (withS (SI2) 62 (nmS (rV SI2 noL 1 Tryz.f62))) 10 (nmS (rV SI2 noL 1 Tryz.f10))) 59 (nmS (rV SI2 noL 1 Tryz.f59))) 162 (nmS (rV SI2 (lv 19 []) 6 Tryz.f162))) 3000057 (mSpec (nmS (rM SI2 (lv 33 [big, big + 1]) 6 Tryz.f57)))
theorem SI3_ok : ∀ f, FnOk Tryz.prog f (SI3 f) := withS_ok (withS_ok (withS_ok (withS_ok (withS_ok (SI2_ok) (nmS_ok (rV_ok SI2_ok noL 1 noL_sum Tryz.func62 (by kernel_rfl) (by kernel_rfl)))) (nmS_ok (rV_ok SI2_ok noL 1 noL_sum Tryz.func10 (by kernel_rfl) (by kernel_rfl)))) (nmS_ok (rV_ok SI2_ok noL 1 noL_sum Tryz.func59 (by kernel_rfl) (by kernel_rfl)))) (nmS_ok (rV_ok SI2_ok (lv 19 []) 6 (lv_ok _ _) Tryz.func162 (by kernel_rfl) (by kernel_rfl)))) (nmM_ok (rM_ok SI2_ok (lv 33 [big, big + 1]) 6 (lv_ok _ _) Tryz.func57 (by kernel_rfl) (by kernel_rfl)))
noncomputable abbrev SI4 : FuncId → CSpec := withS (withS (withS (withS (SI3) 113 (nmS (rV SI3 noL 1 Tryz.f113))) 61 (nmS (rV SI3 noL 1 Tryz.f61))) 64 (nmS (rV SI3 noL 1 Tryz.f64))) 3000129 (mSpec (nmS (rM SI3 noL 1 Tryz.f129)))
theorem SI4_ok : ∀ f, FnOk Tryz.prog f (SI4 f) := withS_ok (withS_ok (withS_ok (withS_ok (SI3_ok) (nmS_ok (rV_ok SI3_ok noL 1 noL_sum Tryz.func113 (by kernel_rfl) (by kernel_rfl)))) (nmS_ok (rV_ok SI3_ok noL 1 noL_sum Tryz.func61 (by kernel_rfl) (by kernel_rfl)))) (nmS_ok (rV_ok SI3_ok noL 1 noL_sum Tryz.func64 (by kernel_rfl) (by kernel_rfl)))) (nmM_ok (rM_ok SI3_ok noL 1 noL_sum Tryz.func129 (by kernel_rfl) (by kernel_rfl)))
noncomputable abbrev SI5 : FuncId → CSpec := withS (withS (SI4) 111 (nmS (rV SI4 (lv 19 []) 6 Tryz.f111))) 63 (nmS (rV SI4 noL 1 Tryz.f63))
theorem SI5_ok : ∀ f, FnOk Tryz.prog f (SI5 f) := withS_ok (withS_ok (SI4_ok) (nmS_ok (rV_ok SI4_ok (lv 19 []) 6 (lv_ok _ _) Tryz.func111 (by kernel_rfl) (by kernel_rfl)))) (nmS_ok (rV_ok SI4_ok noL 1 noL_sum Tryz.func63 (by kernel_rfl) (by kernel_rfl)))
noncomputable abbrev SI6 : FuncId → CSpec := withS (withS (withS (withS (SI5) 60 (nmS (rV SI5 noL 1 Tryz.f60))) 3000072 (mSpec (nmS (rM SI5 noL 1 Tryz.f72)))) 3000073 (mSpec (nmS (rM SI5 noL 1 Tryz.f73)))) 58 (nmS (rV SI5 (lv 85 [2]) 6 Tryz.f58))
theorem SI6_ok : ∀ f, FnOk Tryz.prog f (SI6 f) := withS_ok (withS_ok (withS_ok (withS_ok (SI5_ok) (nmS_ok (rV_ok SI5_ok noL 1 noL_sum Tryz.func60 (by kernel_rfl) (by kernel_rfl)))) (nmM_ok (rM_ok SI5_ok noL 1 noL_sum Tryz.func72 (by kernel_rfl) (by kernel_rfl)))) (nmM_ok (rM_ok SI5_ok noL 1 noL_sum Tryz.func73 (by kernel_rfl) (by kernel_rfl)))) (nmS_ok (rV_ok SI5_ok (lv 85 [2]) 6 (lv_ok _ _) Tryz.func58 (by kernel_rfl) (by kernel_rfl)))
noncomputable abbrev SI7 : FuncId → CSpec := withS (SI6) 16 (nmS (rV SI6 (lv 33 [1, 2]) 6 Tryz.f16))
theorem SI7_ok : ∀ f, FnOk Tryz.prog f (SI7 f) := withS_ok (SI6_ok) (nmS_ok (rV_ok SI6_ok (lv 33 [1, 2]) 6 (lv_ok _ _) Tryz.func16 (by kernel_rfl) (by kernel_rfl)))
noncomputable abbrev SI8 : FuncId → CSpec := withS (withS (SI7) 3000015 (mSpec (nmS (rM SI7 (lv 25 [1, 2, 3]) 6 Tryz.f15)))) 3000026 (mSpec (nmS (rM SI7 (lv 75 [4, 27, ridOf subN 27 10, big]) 6 Tryz.f26)))
theorem SI8_ok : ∀ f, FnOk Tryz.prog f (SI8 f) := withS_ok (withS_ok (SI7_ok) (nmM_ok (rM_ok SI7_ok (lv 25 [1, 2, 3]) 6 (lv_ok _ _) Tryz.func15 (by kernel_rfl) (by kernel_rfl)))) (nmM_ok (rM_ok SI7_ok (lv 75 [4, 27, ridOf subN 27 10, big]) 6 (lv_ok _ _) Tryz.func26 (by kernel_rfl) (by kernel_rfl)))
end Go.Proofs.YtcdnbdphakhilaaGreatDoor
set_option maxRecDepth 100000
namespace Go.Proofs.YtcdnbdphakhilaaGreatDoor
open Go.Proofs.YtcdnbdphakhilaaGreatDoor.Ev Go.RowKit
/- Awake. -/
theorem awake_run : (evFn T SI8 noL 1 Tryz.f12 []).run = some (.b true) := by kernel_rfl
def s14 : CSpec | [] => some ⟨[], .b true⟩ | _ => none
theorem ok14 : FnOk Tryz.prog 12 s14 := okBy SI8_ok Tryz.func12 (by kernel_rfl) (by kernel_rfl) 1 <| by
  intro xs r hs
  unfold s14 at hs; split at hs <;> cases hs
  intro hp _
  exact awake_run
end Go.Proofs.YtcdnbdphakhilaaGreatDoor
