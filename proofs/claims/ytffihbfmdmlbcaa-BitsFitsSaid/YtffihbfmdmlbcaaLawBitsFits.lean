/- The statement BitsFitsSaid: for every input the law returns true and leaves its arguments as they were. No condition. -/
import Derived.Test.YtffihbfmdmlbcaaRows
import Derived.Test.YtffihbfmdmlbcaaFits
import Derived.WalkKit
import Derived.ProofKit
import Derived.OpenShut
import Derived.ShutString
import Derived.ChangeOld
import Derived.Below
import Derived.SizedLaws
import Derived.Carry
namespace Go.Proofs.Ytffihbfmdmlbcaa.bitsFits
open Go.ChangeShapes Go.WideShapes Go.ChangeAt Go.RowKit
open Go.ChangeMaps (open_string shut_string)
open Go.Proofs.Ytffihbfmdmlbcaa.Ev
set_option linter.unusedVariables false
theorem own : ownKnob Try.prog.godebug = none := by kernel_rfl
theorem laidOut : laidOutB Try.prog = true := by kernel_rfl
set_option maxRecDepth 100000 in
theorem shape2 : ShOk Try.prog 2 (.i .i64) 1 := (.i (k := .i64) rfl Try.underlying2)
set_option maxRecDepth 100000 in
theorem shape3 : ShOk Try.prog 3 (.i .i64) 1 := (.i (k := .i64) rfl Try.underlying3)
set_option maxRecDepth 100000 in
theorem shape49 : ShOk Try.prog 49 (.row 0) 1 := (.row Try.underlying49 (by rfl) (.w (k := .u64) rfl Try.underlying22) (by rfl) (by kernel_rfl) (by decide))
set_option maxRecDepth 100000 in
theorem lifted (os : Os) (started : os.Started) (H : Type) (enc : TypeId × Value → H) :
    ReturnsInHanded {} Try.checked os 13 .any (Rows.bitsFitsSpec.pre6 enc Try.prog Try.f13 Rows.bitsFitsRow.domain false) (Rows.bitsFitsSpec.post enc Try.prog Try.f13 false true false false) := by
  refine returnsInHanded_of_change_sized (C := Try.checked) own started (by kernel_rfl) Try.func13
    (ChangeSpec.witness6 (enc := enc) (C := Try.checked) false ⟨#[], #[.int .i64 0, .int .i64 0, .slice none 0 0], []⟩ 8 (by kernel_rfl) (by kernel_rfl) (by kernel_rfl) (by kernel_rfl)) ?_
  intro W base args ds gs before hval0 hW hcnd hsz0 _
  have hval : ∀ (j : Nat) t v, Try.f13.params[j]? = some t → args[j]? = some v → Value.okWide Try.prog W .any base t v := hval0
  have hW' := hW
  obtain ⟨p, q, hA0, hV, rfl, hfz, hnd⟩ := hW
  have hA : DataW.TrodAll enc Try.prog W 0 (fun _ => true) true Try.f13.params.toList args.toList ds p := hA0
  rw [Try.params13] at hA hval
  obtain ⟨v0, vs0, d0, ds0, p0, q0, hargs, rfl, rfl, h0, r0⟩ := trodAll_cons hA
  obtain ⟨v1, vs1, d1, ds1, p1, q1, rfl, rfl, rfl, h1, r1⟩ := trodAll_cons r0
  obtain ⟨v2, vs2, d2, ds2, p2, q2, rfl, rfl, rfl, h2, r2⟩ := trodAll_cons r1
  obtain ⟨rfl, rfl, rfl⟩ := trodAll_nil r2
  obtain rfl : args = #[v0, v1, v2] := by cases args; simp_all
  obtain ⟨rfl, rfl⟩ := trodVars_none hV
  have lt0 : ∀ x ∈ p0, x.block < W.heap.size := by obtain ⟨m, hm⟩ := h0; exact DataW.trod_lt m _ _ _ hm
  obtain ⟨x0, c0⟩ := open_VR shape2 (hval 0 2 v0 rfl rfl) h0 (baseC W fun b => b < W.heap.size) rfl (fun _ h => h)
  have lt1 : ∀ x ∈ p1, x.block < W.heap.size := by obtain ⟨m, hm⟩ := h1; exact DataW.trod_lt m _ _ _ hm
  obtain ⟨x1, c1⟩ := open_VR shape3 (hval 1 3 v1 rfl rfl) h1 (baseC W fun b => b < W.heap.size) rfl (fun _ h => h)
  have lt2 : ∀ x ∈ p2, x.block < W.heap.size := by obtain ⟨m, hm⟩ := h2; exact DataW.trod_lt m _ _ _ hm
  obtain ⟨x2, c2⟩ := open_VR shape49 (hval 2 49 v2 rfl rfl) h2 (baseC W fun b => b < W.heap.size) rfl (fun _ h => h)
  clear hA0 hval0 hsz0
  have done : Calls Try.prog 13 #[v0, v1, v2] W fun e W' => e = .returned (.bool true) ∧ Below W.heap.size W W' := by obtain ⟨N, hL, h⟩ := law13 x0 x1 x2; exact law_calls SG3_ok Try.func13 hL h (fun _ h => h) (.cons c0 (.cons c1 (.cons c2 .nil)))
  refine done.mono fun e W' ⟨he, bel⟩ => ?_
  subst he
  exact ⟨_, rfl, _, _, _, [], _, [], hW', trodAll_mk1 (shut_bool Try.underlying4 _), (trodAll_cons_mk (Below.trod laidOut (by kernel_rfl) (of_decide_eq_true (by kernel_rfl)) h0 bel lt0) (trodAll_cons_mk (Below.trod laidOut (by kernel_rfl) (of_decide_eq_true (by kernel_rfl)) h1 bel lt1) (trodAll_cons_mk (Below.trod laidOut (by kernel_rfl) (of_decide_eq_true (by kernel_rfl)) h2 bel lt2) trodAll_mk0))), rfl, bel.frame _, fun h => by cases h⟩
theorem over : Rows.bitsFitsRow.holds Try.pinned (OpenSpec.ofChange Rows.bitsFitsSpec) :=
  OpenClaim.holds_of_wide 13 Try.f13 rfl rfl rfl rfl rfl rfl rfl ⟨rfl, rfl, rfl, rfl, rfl⟩ rfl rfl rfl rfl rfl (by kernel_rfl) Try.func13 (by kernel_rfl)
    (of_decide_eq_true (by kernel_rfl)) (by unfold Func.isWrapper; first | (rw [if_pos (by decide +kernel)]; kernel_rfl) | (rw [if_neg (by decide +kernel)]; exact ⟨rfl, rfl⟩))
    (fun os started H enc _ => lifted os started H enc)
theorem proved : Rows.BitsFitsSaid := over
#print axioms proved
end Go.Proofs.Ytffihbfmdmlbcaa.bitsFits
namespace Go.Proofs.Ytffihbfmdmlbcaa
/-- The row, under a short name, for the claim. -/
theorem bitsFits_holds : Rows.BitsFitsSaid := bitsFits.proved
end Go.Proofs.Ytffihbfmdmlbcaa
