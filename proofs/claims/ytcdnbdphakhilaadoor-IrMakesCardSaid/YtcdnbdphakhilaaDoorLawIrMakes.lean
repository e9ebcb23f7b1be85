/- The statement IrMakesCardSaid: for every input the law returns true and leaves its arguments as they were; its row is tied to the text of the program. No condition but the card's own: the listed variables of the library hold what the text lays in them. -/
import Derived.Test.YtcdnbdphakhilaaDoorTie
import Derived.Test.YtcdnbdphakhilaaDoorCards
import Derived.Test.YtcdnbdphakhilaaDoorLaw
import Derived.WalkKit
import Derived.ProofKit
import Derived.OpenShut
import Derived.ShutString
import Derived.ChangeOld
import Derived.Below
import Derived.SizedLaws
import Derived.Carry
import Derived.SevenTiedAt
import Derived.LaidOnce
namespace Go.Proofs.YtcdnbdphakhilaaDoor.irMakes
open Go.ChangeShapes Go.WideShapes Go.ChangeAt Go.RowKit
open Go.ChangeMaps (open_string shut_string)
open Go.Proofs.YtcdnbdphakhilaaDoor.Ev
set_option linter.unusedVariables false
set_option maxRecDepth 100000 in
theorem shape22 : ShOk Tryd.prog 22 (.row 11) 1 := (.row Tryd.underlying22 (by rfl) (.st Tryd.underlying36 (.cons (.i (k := .i64) rfl Tryd.underlying3) (by rfl) (by kernel_rfl) (.cons (.i (k := .i64) rfl Tryd.underlying3) (by rfl) (by kernel_rfl) (.cons (.i (k := .i64) rfl Tryd.underlying3) (by rfl) (by kernel_rfl) (.cons (.i (k := .i64) rfl Tryd.underlying3) (by rfl) (by kernel_rfl) (.cons (.i (k := .i64) rfl Tryd.underlying3) (by rfl) (by kernel_rfl) (.cons (.i (k := .i64) rfl Tryd.underlying3) (by rfl) (by kernel_rfl) (.cons (.w (k := .u64) rfl Tryd.underlying24) (by rfl) (by kernel_rfl) (.cons (.b Tryd.underlying4) (by rfl) (by kernel_rfl) (.cons (.i (k := .i64) rfl Tryd.underlying3) (by rfl) (by kernel_rfl) .nil))))))))) (by kernel_rfl)) (by rfl) (by kernel_rfl) (by decide))
set_option maxRecDepth 100000 in
theorem shape3 : ShOk Tryd.prog 3 (.i .i64) 1 := (.i (k := .i64) rfl Tryd.underlying3)
set_option maxRecDepth 100000 in
theorem lifted (os : Os) (started : os.Started) (H : Type) (enc : TypeId × Value → H) :
    ReturnsInHanded {} Tryd.checked os 3 .any (fun w args => (Rows.irMakesSpec.pre enc Tryd.prog Tryd.f3 [] false w args ∧ laidMetH Tryd.prog laid5 w) ∧ sizedMet enc Tryd.prog Tryd.f3 (OpenSpec.ofChange Rows.irMakesSpec) false w args) (Rows.irMakesSpec.post enc Tryd.prog Tryd.f3 false true false false) := by
  refine returns_laid (C := Tryd.checked) (X := fun w _ => laidMetH Tryd.prog laid5 w) (fun _ _ _ hh h => h.of_heap hh) ownK started (by kernel_rfl) Tryd.func3
    (ChangeSpec.witness_shaped (enc := enc) (C := Tryd.checked) (os := os) (X := fun w _ => laidMetH Tryd.prog laid5 w) false (World.laidAll Tryd.prog os laid5) #[.slice none 0 0, .int .i64 0] 8 (World.laidAll_os _ _ _) (laid_shaped os _) (by kernel_rfl) (by kernel_rfl) (by kernel_rfl) (laid_met os _)) ?_
  intro W base args ds gs before hval0 hW hL hsh
  have hG := vars_of_laid hL hsh
  have hval : ∀ (j : Nat) t v, Tryd.f3.params[j]? = some t → args[j]? = some v → Value.okWide Tryd.prog W .any base t v := hval0
  have hW' := hW
  obtain ⟨p, q, hA0, hV, rfl, hfz, hnd⟩ := hW
  have hA : DataW.TrodAll enc Tryd.prog W 0 (fun _ => true) true Tryd.f3.params.toList args.toList ds p := hA0
  rw [Tryd.params3] at hA hval
  obtain ⟨v0, vs0, d0, ds0, p0, q0, hargs, rfl, rfl, h0, r0⟩ := trodAll_cons hA
  obtain ⟨v1, vs1, d1, ds1, p1, q1, rfl, rfl, rfl, h1, r1⟩ := trodAll_cons r0
  obtain ⟨rfl, rfl, rfl⟩ := trodAll_nil r1
  obtain rfl : args = #[v0, v1] := by cases args; simp_all
  obtain ⟨rfl, rfl⟩ := trodVars_none hV
  have lt0 : ∀ x ∈ p0, x.block < W.heap.size := by obtain ⟨m, hm⟩ := h0; exact DataW.trod_lt m _ _ _ hm
  obtain ⟨x0, c0⟩ := open_VR shape22 (hval 0 22 v0 rfl rfl) h0 (baseC W fun b => b < W.heap.size) rfl (fun _ h => h)
  have lt1 : ∀ x ∈ p1, x.block < W.heap.size := by obtain ⟨m, hm⟩ := h1; exact DataW.trod_lt m _ _ _ hm
  obtain ⟨x1, c1⟩ := open_VR shape3 (hval 1 3 v1 rfl rfl) h1 (baseC W fun b => b < W.heap.size) rfl (fun _ h => h)
  clear hA0 hval0
  have done : Calls Tryd.prog 3 #[v0, v1] W fun e W' => e = .returned (.bool true) ∧ Below W.heap.size W W' := law_calls SK2_ok Tryd.func3 loops3 (law3 x1 x0) (fun _ h => h) hG (.cons c0 (.cons c1 .nil))
  refine done.mono fun e W' ⟨he, bel⟩ => ?_
  subst he
  exact ⟨_, rfl, _, _, _, [], _, [], hW', trodAll_mk1 (shut_bool Tryd.underlying4 _), (trodAll_cons_mk (Below.trod laidOut (by kernel_rfl) (of_decide_eq_true (by kernel_rfl)) h0 bel lt0) (trodAll_cons_mk (Below.trod laidOut (by kernel_rfl) (of_decide_eq_true (by kernel_rfl)) h1 bel lt1) trodAll_mk0)), rfl, bel.frame _, fun h => by cases h⟩
theorem over : Rows.irMakesRow.holds Tryd.pinned (OpenSpec.ofChange Rows.irMakesSpec) :=
  OpenClaim.holds_of_wide 3 Tryd.f3 rfl rfl rfl rfl rfl rfl rfl ⟨rfl, rfl, rfl, rfl, rfl⟩ rfl rfl rfl rfl rfl (by kernel_rfl) Tryd.func3 (by kernel_rfl)
    (of_decide_eq_true (by kernel_rfl)) (by unfold Func.isWrapper; first | (rw [if_pos (by decide +kernel)]; kernel_rfl) | (rw [if_neg (by decide +kernel)]; exact ⟨rfl, rfl⟩))
    (fun os started H enc _ => lifted os started H enc)
/-- The card. -/
theorem proved : Rows.IrMakesCardSaid :=
  Claim7.holds_tied_plain_at .later [] [.data, .data, .data, .data, .pinned] true (true, "f9d34cc89f063903f7e8f4471bdaddd5252ab38d943da4477a716dbef36e1616") false over (fun _ h => by cases h) (by kernel_rfl) (fun _ h => by cases h) irMakes_row_tie rfl ⟨rfl, rfl⟩ (by kernel_rfl) rfl
    (fun f fn hf hfn => by
      obtain rfl : f = 3 := Option.some.inj ((show Tryd.prog.funcNamed Rows.irMakesRow.func = some 3 by kernel_rfl).symm.trans hf) |>.symm
      obtain rfl : fn = Tryd.f3 := (Option.some.inj (Tryd.func3.symm.trans hfn)).symm
      exact ⟨by kernel_rfl, fun j t ht => by
        rw [Tryd.params3] at ht
        have hm : t ∈ [22, 3] := by simpa using Array.mem_of_getElem? ht
        have hall : ([22, 3].all fun u => !Tryd.prog.wantsStandIn u) = true := by kernel_rfl
        exact (show Tryd.prog.wantsStandIn t = false by simpa using List.all_eq_true.1 hall t hm)⟩)
    (by kernel_rfl)
#print axioms proved
end Go.Proofs.YtcdnbdphakhilaaDoor.irMakes
namespace Go.Proofs.YtcdnbdphakhilaaDoor
/-- The card, under a short name, for the claim. -/
theorem irMakes_holds : Rows.IrMakesCardSaid := irMakes.proved
end Go.Proofs.YtcdnbdphakhilaaDoor
