/- The statement InstSameCardSaid: for every input the law returns true and leaves its arguments as they were; its row is tied to the text of the program. No condition but the card's own: the listed variables of the library hold what the text lays in them. -/
import Derived.Test.YtbdddnjncakooaaDoorTie
import Derived.Test.YtbdddnjncakooaaDoorCards
import Derived.Test.YtbdddnjncakooaaDoorSame
import Derived.WalkKit
import Derived.ProofKit
import Derived.OpenShut
import Derived.ShutString
import Derived.ChangeOld
import Derived.Below
import Derived.SizedLaws
import Derived.Carry
import Derived.SevenTiedAt
import Derived.LaidOnce
namespace Go.Proofs.YtbdddnjncakooaaDoor.instSame
open Go.ChangeShapes Go.WideShapes Go.ChangeAt Go.RowKit
open Go.ChangeMaps (open_string shut_string)
open Go.Proofs.YtbdddnjncakooaaDoor.Ev
set_option linter.unusedVariables false
set_option maxRecDepth 100000 in
theorem shape25 : ShOk Tryd.prog 25 (.st [.i .i64, .i .i64, .i .i64, .st [.i .i64, .i .i64, .i .i64, .i .i64, .i .i64, .i .i64], .st [.i .i64, .i .i64, .i .i64, .i .i64, .i .i64, .i .i64], .i .i64, .i .i64, .b, .b, .i .i64]) 20 := (.st Tryd.underlying25 (.cons (.i (k := .i64) rfl Tryd.underlying3) (by rfl) (by kernel_rfl) (.cons (.i (k := .i64) rfl Tryd.underlying3) (by rfl) (by kernel_rfl) (.cons (.i (k := .i64) rfl Tryd.underlying3) (by rfl) (by kernel_rfl) (.cons (.st Tryd.underlying23 (.cons (.i (k := .i64) rfl Tryd.underlying3) (by rfl) (by kernel_rfl) (.cons (.i (k := .i64) rfl Tryd.underlying3) (by rfl) (by kernel_rfl) (.cons (.i (k := .i64) rfl Tryd.underlying3) (by rfl) (by kernel_rfl) (.cons (.i (k := .i64) rfl Tryd.underlying3) (by rfl) (by kernel_rfl) (.cons (.i (k := .i64) rfl Tryd.underlying3) (by rfl) (by kernel_rfl) (.cons (.i (k := .i64) rfl Tryd.underlying2) (by rfl) (by kernel_rfl) .nil)))))) (by kernel_rfl)) (by rfl) (by kernel_rfl) (.cons (.st Tryd.underlying23 (.cons (.i (k := .i64) rfl Tryd.underlying3) (by rfl) (by kernel_rfl) (.cons (.i (k := .i64) rfl Tryd.underlying3) (by rfl) (by kernel_rfl) (.cons (.i (k := .i64) rfl Tryd.underlying3) (by rfl) (by kernel_rfl) (.cons (.i (k := .i64) rfl Tryd.underlying3) (by rfl) (by kernel_rfl) (.cons (.i (k := .i64) rfl Tryd.underlying3) (by rfl) (by kernel_rfl) (.cons (.i (k := .i64) rfl Tryd.underlying2) (by rfl) (by kernel_rfl) .nil)))))) (by kernel_rfl)) (by rfl) (by kernel_rfl) (.cons (.i (k := .i64) rfl Tryd.underlying2) (by rfl) (by kernel_rfl) (.cons (.i (k := .i64) rfl Tryd.underlying3) (by rfl) (by kernel_rfl) (.cons (.b Tryd.underlying4) (by rfl) (by kernel_rfl) (.cons (.b Tryd.underlying4) (by rfl) (by kernel_rfl) (.cons (.i (k := .i64) rfl Tryd.underlying3) (by rfl) (by kernel_rfl) .nil)))))))))) (by kernel_rfl))
set_option maxRecDepth 100000 in
theorem lifted (os : Os) (started : os.Started) (H : Type) (enc : TypeId × Value → H) :
    ReturnsInHanded {} Tryd.checked os 3 .any (fun w args => (Rows.instSameSpec.pre enc Tryd.prog Tryd.f3 [] false w args ∧ laidMetH Tryd.prog laid5 w) ∧ sizedMet enc Tryd.prog Tryd.f3 (OpenSpec.ofChange Rows.instSameSpec) false w args) (Rows.instSameSpec.post enc Tryd.prog Tryd.f3 false true false false) := by
  refine returns_laid (C := Tryd.checked) (X := fun w _ => laidMetH Tryd.prog laid5 w) (fun _ _ _ hh h => h.of_heap hh) ownK started (by kernel_rfl) Tryd.func3
    (ChangeSpec.witness_shaped (enc := enc) (C := Tryd.checked) (os := os) (X := fun w _ => laidMetH Tryd.prog laid5 w) false (World.laidAll Tryd.prog os laid5) #[.agg #[.int .i64 0, .int .i64 0, .int .i64 0, .int .i64 0, .int .i64 0, .int .i64 0, .int .i64 0, .int .i64 0, .int .i64 0, .int .i64 0, .int .i64 0, .int .i64 0, .int .i64 0, .int .i64 0, .int .i64 0, .int .i64 0, .int .i64 0, .bool false, .bool false, .int .i64 0], .agg #[.int .i64 0, .int .i64 0, .int .i64 0, .int .i64 0, .int .i64 0, .int .i64 0, .int .i64 0, .int .i64 0, .int .i64 0, .int .i64 0, .int .i64 0, .int .i64 0, .int .i64 0, .int .i64 0, .int .i64 0, .int .i64 0, .int .i64 0, .bool false, .bool false, .int .i64 0]] 8 (World.laidAll_os _ _ _) (laid_shaped os _) (by kernel_rfl) (by kernel_rfl) (by kernel_rfl) (laid_met os _)) ?_
  intro W base args ds gs before hval0 hW hL hsh
  have hG := vars_of_laid hL hsh
  have hval : ∀ (j : Nat) t v, Tryd.f3.params[j]? = some t → args[j]? = some v → Value.okWide Tryd.prog W .any base t v := hval0
  have hW' := hW
  obtain ⟨p, q, hA0, hV, rfl, hfz, hnd⟩ := hW
  have hA : DataW.TrodAll enc Tryd.prog W 0 (fun _ => true) true Tryd.f3.params.toList args.toList ds p := hA0
  rw [Tryd.params3] at hA hval
  obtain ⟨v0, vs0, d0, ds0, p0, q0, hargs, rfl, rfl, h0, r0⟩ := trodAll_cons hA
  obtain ⟨v1, vs1, d1, ds1, p1, q1, rfl, rfl, rfl, h1, r1⟩ := trodAll_cons r0
  obtain ⟨rfl, rfl, rfl⟩ := trodAll_nil r1
  obtain rfl : args = #[v0, v1] := by cases args; simp_all
  obtain ⟨rfl, rfl⟩ := trodVars_none hV
  have lt0 : ∀ x ∈ p0, x.block < W.heap.size := by obtain ⟨m, hm⟩ := h0; exact DataW.trod_lt m _ _ _ hm
  obtain ⟨x0, c0⟩ := open_VR shape25 (hval 0 25 v0 rfl rfl) h0 (baseC W fun b => b < W.heap.size) rfl (fun _ h => h)
  have lt1 : ∀ x ∈ p1, x.block < W.heap.size := by obtain ⟨m, hm⟩ := h1; exact DataW.trod_lt m _ _ _ hm
  obtain ⟨x1, c1⟩ := open_VR shape25 (hval 1 25 v1 rfl rfl) h1 (baseC W fun b => b < W.heap.size) rfl (fun _ h => h)
  clear hA0 hval0
  have done : Calls Tryd.prog 3 #[v0, v1] W fun e W' => e = .returned (.bool true) ∧ Below W.heap.size W W' := law_calls SE0_ok Tryd.func3 noL_ok (lawSameM x0 x1 c0 c1) (fun _ h => h) hG (.cons c0 (.cons c1 .nil))
  refine done.mono fun e W' ⟨he, bel⟩ => ?_
  subst he
  exact ⟨_, rfl, _, _, _, [], _, [], hW', trodAll_mk1 (shut_bool Tryd.underlying4 _), (trodAll_cons_mk (Below.trod laidOut (by kernel_rfl) (of_decide_eq_true (by kernel_rfl)) h0 bel lt0) (trodAll_cons_mk (Below.trod laidOut (by kernel_rfl) (of_decide_eq_true (by kernel_rfl)) h1 bel lt1) trodAll_mk0)), rfl, bel.frame _, fun h => by cases h⟩
theorem over : Rows.instSameRow.holds Tryd.pinned (OpenSpec.ofChange Rows.instSameSpec) :=
  OpenClaim.holds_of_wide 3 Tryd.f3 rfl rfl rfl rfl rfl rfl rfl ⟨rfl, rfl, rfl, rfl, rfl⟩ rfl rfl rfl rfl rfl (by kernel_rfl) Tryd.func3 (by kernel_rfl)
    (of_decide_eq_true (by kernel_rfl)) (by unfold Func.isWrapper; first | (rw [if_pos (by decide +kernel)]; kernel_rfl) | (rw [if_neg (by decide +kernel)]; exact ⟨rfl, rfl⟩))
    (fun os started H enc _ => lifted os started H enc)
/-- The card. -/
theorem proved : Rows.InstSameCardSaid :=
  Claim7.holds_tied_plain_at .later [] [.data, .data, .data, .data, .pinned] true (true, "a33c6a6cb8306bd99be6fe12940117d4c49bd8ba446983ce81b2dc382412c800") false over (fun _ h => by cases h) (by kernel_rfl) (fun _ h => by cases h) instSame_row_tie rfl ⟨rfl, rfl⟩ (by kernel_rfl) rfl
    (fun f fn hf hfn => by
      obtain rfl : f = 3 := Option.some.inj ((show Tryd.prog.funcNamed Rows.instSameRow.func = some 3 by kernel_rfl).symm.trans hf) |>.symm
      obtain rfl : fn = Tryd.f3 := (Option.some.inj (Tryd.func3.symm.trans hfn)).symm
      exact ⟨by kernel_rfl, fun j t ht => by
        rw [Tryd.params3] at ht
        have hm : t ∈ [25, 25] := by simpa using Array.mem_of_getElem? ht
        have hall : ([25, 25].all fun u => !Tryd.prog.wantsStandIn u) = true := by kernel_rfl
        exact (show Tryd.prog.wantsStandIn t = false by simpa using List.all_eq_true.1 hall t hm)⟩)
    (by kernel_rfl)
#print axioms proved
end Go.Proofs.YtbdddnjncakooaaDoor.instSame
namespace Go.Proofs.YtbdddnjncakooaaDoor
/-- The card, under a short name, for the claim. -/
theorem instSame_holds : Rows.InstSameCardSaid := instSame.proved
end Go.Proofs.YtbdddnjncakooaaDoor
