/- The statement IrMayCardSaid: for every input the law returns true and leaves its arguments as they were; its row is tied to the text of the program. No condition but the card's own: the listed variables of the library hold what the text lays in them. -/
import Derived.Test.YtcdnbdphakhilaaGreatDoorTie
import Derived.Test.YtcdnbdphakhilaaGreatDoorCards
import Derived.Test.YtcdnbdphakhilaaGreatDoorMayD
import Derived.WalkKit
import Derived.ProofKit
import Derived.OpenShut
import Derived.ShutString
import Derived.ChangeOld
import Derived.Below
import Derived.SizedLaws
import Derived.Carry
import Derived.SevenTiedAt
import Derived.LaidOnce
namespace Go.Proofs.YtcdnbdphakhilaaGreatDoor.irMay
open Go.ChangeShapes Go.WideShapes Go.ChangeAt Go.RowKit
open Go.ChangeMaps (open_string shut_string)
open Go.Proofs.YtcdnbdphakhilaaGreatDoor.Ev
set_option linter.unusedVariables false
set_option maxRecDepth 100000 in
theorem shape28 : ShOk Tryz.prog 28 (.st [.w 64, .w 64, .row 11, .i .i64, .i .i64, .w 64, .w 64]) 7 := (.st Tryz.underlying28 (.cons (.w (k := .u64) rfl Tryz.underlying22) (by rfl) (by kernel_rfl) (.cons (.w (k := .u64) rfl Tryz.underlying22) (by rfl) (by kernel_rfl) (.cons (.row Tryz.underlying26 (by rfl) (.st Tryz.underlying42 (.cons (.i (k := .i64) rfl Tryz.underlying3) (by rfl) (by kernel_rfl) (.cons (.i (k := .i64) rfl Tryz.underlying3) (by rfl) (by kernel_rfl) (.cons (.i (k := .i64) rfl Tryz.underlying3) (by rfl) (by kernel_rfl) (.cons (.i (k := .i64) rfl Tryz.underlying3) (by rfl) (by kernel_rfl) (.cons (.i (k := .i64) rfl Tryz.underlying3) (by rfl) (by kernel_rfl) (.cons (.i (k := .i64) rfl Tryz.underlying3) (by rfl) (by kernel_rfl) (.cons (.w (k := .u64) rfl Tryz.underlying22) (by rfl) (by kernel_rfl) (.cons (.b Tryz.underlying4) (by rfl) (by kernel_rfl) (.cons (.i (k := .i64) rfl Tryz.underlying3) (by rfl) (by kernel_rfl) .nil))))))))) (by kernel_rfl)) (by rfl) (by kernel_rfl) (by decide)) (by rfl) (by kernel_rfl) (.cons (.i (k := .i64) rfl Tryz.underlying3) (by rfl) (by kernel_rfl) (.cons (.i (k := .i64) rfl Tryz.underlying3) (by rfl) (by kernel_rfl) (.cons (.w (k := .u64) rfl Tryz.underlying22) (by rfl) (by kernel_rfl) (.cons (.w (k := .u64) rfl Tryz.underlying22) (by rfl) (by kernel_rfl) .nil))))))) (by kernel_rfl))
set_option maxRecDepth 100000 in
theorem lifted (os : Os) (started : os.Started) (H : Type) (enc : TypeId × Value → H) :
    ReturnsInHanded {} Tryz.checked os 4 .any (fun w args => (Rows.irMaySpec.pre enc Tryz.prog Tryz.f4 [] false w args ∧ laidMetH Tryz.prog laid5 w) ∧ sizedMet enc Tryz.prog Tryz.f4 (OpenSpec.ofChange Rows.irMaySpec) false w args) (Rows.irMaySpec.post enc Tryz.prog Tryz.f4 false true false false) := by
  refine returns_laid (C := Tryz.checked) (X := fun w _ => laidMetH Tryz.prog laid5 w) (fun _ _ _ hh h => h.of_heap hh) ownK started (by kernel_rfl) Tryz.func4
    (ChangeSpec.witness_shaped (enc := enc) (C := Tryz.checked) (os := os) (X := fun w _ => laidMetH Tryz.prog laid5 w) false (World.laidAll Tryz.prog os laid5) #[.agg #[.int .u64 0, .int .u64 0, .slice none 0 0, .int .i64 0, .int .i64 0, .int .u64 0, .int .u64 0]] 8 (World.laidAll_os _ _ _) (laid_shaped os _) (by kernel_rfl) (by kernel_rfl) (by kernel_rfl) (laid_met os _)) ?_
  intro W base args ds gs before hval0 hW hL hsh
  have hG := vars_of_laid hL hsh
  have hval : ∀ (j : Nat) t v, Tryz.f4.params[j]? = some t → args[j]? = some v → Value.okWide Tryz.prog W .any base t v := hval0
  have hW' := hW
  obtain ⟨p, q, hA0, hV, rfl, hfz, hnd⟩ := hW
  have hA : DataW.TrodAll enc Tryz.prog W 0 (fun _ => true) true Tryz.f4.params.toList args.toList ds p := hA0
  rw [Tryz.params4] at hA hval
  obtain ⟨v0, vs0, d0, ds0, p0, q0, hargs, rfl, rfl, h0, r0⟩ := trodAll_cons hA
  obtain ⟨rfl, rfl, rfl⟩ := trodAll_nil r0
  obtain rfl : args = #[v0] := by cases args; simp_all
  obtain ⟨rfl, rfl⟩ := trodVars_none hV
  have lt0 : ∀ x ∈ p0, x.block < W.heap.size := by obtain ⟨m, hm⟩ := h0; exact DataW.trod_lt m _ _ _ hm
  obtain ⟨x0, c0⟩ := open_VR shape28 (hval 0 28 v0 rfl rfl) h0 (baseC W fun b => b < W.heap.size) rfl (fun _ h => h)
  clear hA0 hval0
  have done : Calls Tryz.prog 4 #[v0] W fun e W' => e = .returned (.bool true) ∧ Below W.heap.size W W' := law_calls SL4_ok Tryz.func4 loops4 (lawMayM x0) (fun _ h => h) hG (.cons c0 .nil)
  refine done.mono fun e W' ⟨he, bel⟩ => ?_
  subst he
  exact ⟨_, rfl, _, _, _, [], _, [], hW', trodAll_mk1 (shut_bool Tryz.underlying4 _), (trodAll_cons_mk (Below.trod laidOut (by kernel_rfl) (of_decide_eq_true (by kernel_rfl)) h0 bel lt0) trodAll_mk0), rfl, bel.frame _, fun h => by cases h⟩
theorem over : Rows.irMayRow.holds Tryz.pinned (OpenSpec.ofChange Rows.irMaySpec) :=
  OpenClaim.holds_of_wide 4 Tryz.f4 rfl rfl rfl rfl rfl rfl rfl ⟨rfl, rfl, rfl, rfl, rfl⟩ rfl rfl rfl rfl rfl (by kernel_rfl) Tryz.func4 (by kernel_rfl)
    (of_decide_eq_true (by kernel_rfl)) (by unfold Func.isWrapper; first | (rw [if_pos (by decide +kernel)]; kernel_rfl) | (rw [if_neg (by decide +kernel)]; exact ⟨rfl, rfl⟩))
    (fun os started H enc _ => lifted os started H enc)
/-- The card. -/
theorem proved : Rows.IrMayCardSaid :=
  Claim7.holds_tied_plain_at .later [] [.data, .data, .data, .data, .pinned] true (true, "57298eda3b8054ed97aca11d4a80f356bce3e16a4cd755fad7eff0edadf6a154") false over (fun _ h => by cases h) (by kernel_rfl) (fun _ h => by cases h) irMay_row_tie rfl ⟨rfl, rfl⟩ (by kernel_rfl) rfl
    (fun f fn hf hfn => by
      obtain rfl : f = 4 := Option.some.inj ((show Tryz.prog.funcNamed Rows.irMayRow.func = some 4 by kernel_rfl).symm.trans hf) |>.symm
      obtain rfl : fn = Tryz.f4 := (Option.some.inj (Tryz.func4.symm.trans hfn)).symm
      exact ⟨by kernel_rfl, fun j t ht => by
        rw [Tryz.params4] at ht
        have hm : t ∈ [28] := by simpa using Array.mem_of_getElem? ht
        have hall : ([28].all fun u => !Tryz.prog.wantsStandIn u) = true := by kernel_rfl
        exact (show Tryz.prog.wantsStandIn t = false by simpa using List.all_eq_true.1 hall t hm)⟩)
    (by kernel_rfl)
#print axioms proved
end Go.Proofs.YtcdnbdphakhilaaGreatDoor.irMay
namespace Go.Proofs.YtcdnbdphakhilaaGreatDoor
/-- The card, under a short name, for the claim. -/
theorem irMay_holds : Rows.IrMayCardSaid := irMay.proved
end Go.Proofs.YtcdnbdphakhilaaGreatDoor
