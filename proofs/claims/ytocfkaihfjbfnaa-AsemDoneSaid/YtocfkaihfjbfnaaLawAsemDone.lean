/- The statement AsemDoneSaid: for every input the law returns true and leaves its arguments as they were. No condition. -/
import Derived.Test.YtocfkaihfjbfnaaRows
import Derived.Test.YtocfkaihfjbfnaaSame
import Derived.WalkKit
import Derived.ProofKit
import Derived.OpenShut
import Derived.ShutString
import Derived.ChangeOld
import Derived.Below
import Derived.SizedLaws
import Derived.Carry
namespace Go.Proofs.Ytocfkaihfjbfnaa.asemDone
open Go.ChangeShapes Go.WideShapes Go.ChangeAt Go.RowKit
open Go.ChangeMaps (open_string shut_string)
open Go.Proofs.Ytocfkaihfjbfnaa.Ev
set_option linter.unusedVariables false
theorem own : ownKnob Try.prog.godebug = none := by kernel_rfl
theorem laidOut : laidOutB Try.prog = true := by kernel_rfl
set_option maxRecDepth 100000 in
theorem shape27 : ShOk Try.prog 27 (.st [.ar 31 (.w 64), .b, .b, .b, .b, .w 64, .st [.i .i64, .b, .b, .b, .w 64, .w 64, .i .i64]]) 43 := (.st Try.underlying27 (.cons (.ar Try.underlying23 (.w (k := .u64) rfl Try.underlying22) (by rfl) (by kernel_rfl) (by kernel_rfl) (by decide)) (by rfl) (by kernel_rfl) (.cons (.b Try.underlying4) (by rfl) (by kernel_rfl) (.cons (.b Try.underlying4) (by rfl) (by kernel_rfl) (.cons (.b Try.underlying4) (by rfl) (by kernel_rfl) (.cons (.b Try.underlying4) (by rfl) (by kernel_rfl) (.cons (.w (k := .u64) rfl Try.underlying22) (by rfl) (by kernel_rfl) (.cons (.st Try.underlying25 (.cons (.i (k := .i64) rfl Try.underlying3) (by rfl) (by kernel_rfl) (.cons (.b Try.underlying4) (by rfl) (by kernel_rfl) (.cons (.b Try.underlying4) (by rfl) (by kernel_rfl) (.cons (.b Try.underlying4) (by rfl) (by kernel_rfl) (.cons (.w (k := .u64) rfl Try.underlying22) (by rfl) (by kernel_rfl) (.cons (.w (k := .u64) rfl Try.underlying22) (by rfl) (by kernel_rfl) (.cons (.i (k := .i64) rfl Try.underlying3) (by rfl) (by kernel_rfl) .nil))))))) (by kernel_rfl)) (by rfl) (by kernel_rfl) .nil))))))) (by kernel_rfl))
set_option maxRecDepth 100000 in
theorem shape29 : ShOk Try.prog 29 (.st [.i .i64, .i .i64, .i .i64, .i .i64, .i .i64, .i .i64, .w 64, .i .i64, .i .i64, .i .i64, .i .i64]) 11 := (.st Try.underlying29 (.cons (.i (k := .i64) rfl Try.underlying3) (by rfl) (by kernel_rfl) (.cons (.i (k := .i64) rfl Try.underlying3) (by rfl) (by kernel_rfl) (.cons (.i (k := .i64) rfl Try.underlying3) (by rfl) (by kernel_rfl) (.cons (.i (k := .i64) rfl Try.underlying3) (by rfl) (by kernel_rfl) (.cons (.i (k := .i64) rfl Try.underlying3) (by rfl) (by kernel_rfl) (.cons (.i (k := .i64) rfl Try.underlying3) (by rfl) (by kernel_rfl) (.cons (.w (k := .u64) rfl Try.underlying22) (by rfl) (by kernel_rfl) (.cons (.i (k := .i64) rfl Try.underlying2) (by rfl) (by kernel_rfl) (.cons (.i (k := .i64) rfl Try.underlying3) (by rfl) (by kernel_rfl) (.cons (.i (k := .i64) rfl Try.underlying3) (by rfl) (by kernel_rfl) (.cons (.i (k := .i64) rfl Try.underlying3) (by rfl) (by kernel_rfl) .nil))))))))))) (by kernel_rfl))
set_option maxRecDepth 100000 in
theorem shape22 : ShOk Try.prog 22 (.w 64) 1 := (.w (k := .u64) rfl Try.underlying22)
set_option maxRecDepth 100000 in
theorem shape4 : ShOk Try.prog 4 (.b) 1 := (.b Try.underlying4)
set_option maxRecDepth 100000 in
theorem lifted (os : Os) (started : os.Started) (H : Type) (enc : TypeId × Value → H) :
    ReturnsInHanded {} Try.checked os 3 .any (Rows.asemDoneSpec.pre6 enc Try.prog Try.f3 Rows.asemDoneRow.domain false) (Rows.asemDoneSpec.post enc Try.prog Try.f3 false true false false) := by
  refine returnsInHanded_of_change_sized (C := Try.checked) own started (by kernel_rfl) Try.func3
    (ChangeSpec.witness6 (enc := enc) (C := Try.checked) false ⟨#[], #[.agg #[.int .u64 0, .int .u64 0, .int .u64 0, .int .u64 0, .int .u64 0, .int .u64 0, .int .u64 0, .int .u64 0, .int .u64 0, .int .u64 0, .int .u64 0, .int .u64 0, .int .u64 0, .int .u64 0, .int .u64 0, .int .u64 0, .int .u64 0, .int .u64 0, .int .u64 0, .int .u64 0, .int .u64 0, .int .u64 0, .int .u64 0, .int .u64 0, .int .u64 0, .int .u64 0, .int .u64 0, .int .u64 0, .int .u64 0, .int .u64 0, .int .u64 0, .bool false, .bool false, .bool false, .bool false, .int .u64 0, .int .i64 0, .bool false, .bool false, .bool false, .int .u64 0, .int .u64 0, .int .i64 0], .agg #[.int .i64 0, .int .i64 0, .int .i64 0, .int .i64 0, .int .i64 0, .int .i64 0, .int .u64 0, .int .i64 0, .int .i64 0, .int .i64 0, .int .i64 0], .int .u64 0, .bool false], []⟩ 8 (by kernel_rfl) (by kernel_rfl) (by kernel_rfl) (by kernel_rfl)) ?_
  intro W base args ds gs before hval0 hW hcnd hsz0 _
  have hval : ∀ (j : Nat) t v, Try.f3.params[j]? = some t → args[j]? = some v → Value.okWide Try.prog W .any base t v := hval0
  have hW' := hW
  obtain ⟨p, q, hA0, hV, rfl, hfz, hnd⟩ := hW
  have hA : DataW.TrodAll enc Try.prog W 0 (fun _ => true) true Try.f3.params.toList args.toList ds p := hA0
  rw [Try.params3] at hA hval
  obtain ⟨v0, vs0, d0, ds0, p0, q0, hargs, rfl, rfl, h0, r0⟩ := trodAll_cons hA
  obtain ⟨v1, vs1, d1, ds1, p1, q1, rfl, rfl, rfl, h1, r1⟩ := trodAll_cons r0
  obtain ⟨v2, vs2, d2, ds2, p2, q2, rfl, rfl, rfl, h2, r2⟩ := trodAll_cons r1
  obtain ⟨v3, vs3, d3, ds3, p3, q3, rfl, rfl, rfl, h3, r3⟩ := trodAll_cons r2
  obtain ⟨rfl, rfl, rfl⟩ := trodAll_nil r3
  obtain rfl : args = #[v0, v1, v2, v3] := by cases args; simp_all
  obtain ⟨rfl, rfl⟩ := trodVars_none hV
  have lt0 : ∀ x ∈ p0, x.block < W.heap.size := by obtain ⟨m, hm⟩ := h0; exact DataW.trod_lt m _ _ _ hm
  obtain ⟨x0, c0⟩ := open_VR shape27 (hval 0 27 v0 rfl rfl) h0 (baseC W fun b => b < W.heap.size) rfl (fun _ h => h)
  have lt1 : ∀ x ∈ p1, x.block < W.heap.size := by obtain ⟨m, hm⟩ := h1; exact DataW.trod_lt m _ _ _ hm
  obtain ⟨x1, c1⟩ := open_VR shape29 (hval 1 29 v1 rfl rfl) h1 (baseC W fun b => b < W.heap.size) rfl (fun _ h => h)
  have lt2 : ∀ x ∈ p2, x.block < W.heap.size := by obtain ⟨m, hm⟩ := h2; exact DataW.trod_lt m _ _ _ hm
  obtain ⟨x2, c2⟩ := open_VR shape22 (hval 2 22 v2 rfl rfl) h2 (baseC W fun b => b < W.heap.size) rfl (fun _ h => h)
  have lt3 : ∀ x ∈ p3, x.block < W.heap.size := by obtain ⟨m, hm⟩ := h3; exact DataW.trod_lt m _ _ _ hm
  obtain ⟨x3, c3⟩ := open_VR shape4 (hval 3 4 v3 rfl rfl) h3 (baseC W fun b => b < W.heap.size) rfl (fun _ h => h)
  clear hA0 hval0 hsz0
  have done : Calls Try.prog 3 #[v0, v1, v2, v3] W fun e W' => e = .returned (.bool true) ∧ Below W.heap.size W W' := law_calls SD_ok Try.func3 noL_ok (lawAsemDoneM x0 x1 x2 x3) (fun _ h => h) (.cons c0 (.cons c1 (.cons c2 (.cons c3 .nil))))
  refine done.mono fun e W' ⟨he, bel⟩ => ?_
  subst he
  exact ⟨_, rfl, _, _, _, [], _, [], hW', trodAll_mk1 (shut_bool Try.underlying4 _), (trodAll_cons_mk (Below.trod laidOut (by kernel_rfl) (of_decide_eq_true (by kernel_rfl)) h0 bel lt0) (trodAll_cons_mk (Below.trod laidOut (by kernel_rfl) (of_decide_eq_true (by kernel_rfl)) h1 bel lt1) (trodAll_cons_mk (Below.trod laidOut (by kernel_rfl) (of_decide_eq_true (by kernel_rfl)) h2 bel lt2) (trodAll_cons_mk (Below.trod laidOut (by kernel_rfl) (of_decide_eq_true (by kernel_rfl)) h3 bel lt3) trodAll_mk0)))), rfl, bel.frame _, fun h => by cases h⟩
theorem over : Rows.asemDoneRow.holds Try.pinned (OpenSpec.ofChange Rows.asemDoneSpec) :=
  OpenClaim.holds_of_wide 3 Try.f3 rfl rfl rfl rfl rfl rfl rfl ⟨rfl, rfl, rfl, rfl, rfl⟩ rfl rfl rfl rfl rfl (by kernel_rfl) Try.func3 (by kernel_rfl)
    (of_decide_eq_true (by kernel_rfl)) (by unfold Func.isWrapper; first | (rw [if_pos (by decide +kernel)]; kernel_rfl) | (rw [if_neg (by decide +kernel)]; exact ⟨rfl, rfl⟩))
    (fun os started H enc _ => lifted os started H enc)
theorem proved : Rows.AsemDoneSaid := over
#print axioms proved
end Go.Proofs.Ytocfkaihfjbfnaa.asemDone
namespace Go.Proofs.Ytocfkaihfjbfnaa
/-- The row, under a short name, for the claim. -/
theorem asemDone_holds : Rows.AsemDoneSaid := asemDone.proved
end Go.Proofs.Ytocfkaihfjbfnaa
