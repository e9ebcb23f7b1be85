/- Lemmas: what a row's condition says of the library's variables; the plain laws. No condition. -/
import Derived.Test.YtbdddnjncakooaaDoorText
import Derived.Test.YtbdddnjncakooaaDoorOps
import Derived.Handed
import Derived.SizedLaws
import Derived.Lay
import Derived.LaidMore
import Derived.Lib.LaidTab
import Derived.Shelf.Vars
import Derived.Test.YtbdddnjncakooaaDoorRows
import Derived.Test.YtbdddnjncakooaaDoorEvB
set_option linter.unusedVariables false
set_option linter.unusedSimpArgs false
set_option maxRecDepth 100000
namespace Go.Proofs.YtbdddnjncakooaaDoor
open Go.Proofs.YtbdddnjncakooaaDoor.Ev Go.RowKit
/- Chapter 5's example; the law InstDoes. -/
theorem itoa_small {n : Int} {s : List UInt8} (h0 : 0 ≤ n) (h1 : n ≤ 99) (h : itoaS n = s) : Lib.itoa n = s := by
  rw [itoaS_eq ⟨by show (-9223372036854775808 : Int) ≤ n; omega, by show n ≤ (9223372036854775807 : Int); omega⟩, h]
theorem show_ex : showX 1 4 0 2 0 0 1 4 8 1 2 0 0 0 0 0 0 false false 0 = [97, 100, 100, 46, 52, 32, 91, 114, 48, 43, 114, 49, 42, 52, 43, 56, 93, 44, 32, 114, 50] := by
  have i0 : Lib.itoa 0 = [48] := itoa_small (by decide) (by decide) (by decide)
  have i1 : Lib.itoa 1 = [49] := itoa_small (by decide) (by decide) (by decide)
  have i2 : Lib.itoa 2 = [50] := itoa_small (by decide) (by decide) (by decide)
  have i4 : Lib.itoa 4 = [52] := itoa_small (by decide) (by decide) (by decide)
  have i8 : Lib.itoa 8 = [56] := itoa_small (by decide) (by decide) (by decide)
  have h : headT 1 4 0 0 = [97, 100, 100, 46, 52] := by
    unfold headT
    rw [i4]
    rfl
  have o1 : opT 2 0 0 1 4 8 0 = [91, 114, 48, 43, 114, 49, 42, 52, 43, 56, 93] := by
    show memT 0 1 4 8 = _
    unfold memT partsM regT
    rw [i0, i1, i4, i8]
    rfl
  have o2 : opT 1 2 0 0 0 0 0 = [114, 50] := by
    show regT 2 = _
    unfold regT
    rw [i2]
  unfold showX opsT
  rw [h, o1, o2]
  rfl
theorem may_ex : mayA 1 4 0 2 0 0 1 4 8 1 2 0 0 0 0 0 0 false false 0 = true := by decide +kernel
def s9 : CSpec | [] => some ⟨[], .b true⟩ | _ => none
theorem ok9 : FnOk Tryd.prog 9 s9 := okBy SD5_ok Tryd.func9 (by kernel_rfl) (by kernel_rfl) 1 <| by
  intro xs r hs
  unfold s9 at hs; split at hs <;> cases hs
  intro hp _
  have e : ∀ m s, m = mayA 1 4 0 2 0 0 1 4 8 1 2 0 0 0 0 0 0 false false 0 → s = showX 1 4 0 2 0 0 1 4 8 1 2 0 0 0 0 0 0 false false 0 → (evFn T SD5 noL 1 Tryd.f9 []).run =
    some (.b (if (if (if (if (if (if (if m = true then (if m = true then s else [63]) == [97, 100, 100, 46, 52, 32, 91, 114, 48, 43, 114, 49, 42, 52, 43, 56, 93, 44, 32, 114, 50] else false) = true then memB 2 1 else false) = true then selI 2 1 4 0 == 4 else false) = true then ldB 1 2 1 else false) = true then stB 1 2 else false) = true then fSe 1 else false) = true then !fUs 1 else false)) := by
    rintro m s rfl rfl
    kernel_rfl
  show _ = some (AV.b true)
  rw [e _ _ may_ex.symm show_ex.symm]
  congr 2
noncomputable abbrev SE0 : FuncId → CSpec := withS SD5 9 s9
theorem SE0_ok : ∀ f, FnOk Tryd.prog f (SE0 f) := withS_ok SD5_ok ok9
def wantK (ak bk a b : Int) : Int := if (ak == 2) = true then a else if (bk == 2) = true then b else 0
theorem sel_is (ak bk a b : Int) : selI ak bk a b = wantK ak bk a b := by
  unfold selI wantK
  rw [beq_swap 2 ak, beq_swap 2 bk]
theorem mem_is (ak bk : Int) : memB ak bk = (wantK ak bk ak bk == 2) := by
  rw [memB_is]
  unfold wantK
  by_cases h1 : ak = 2
  · simp [h1]
  · by_cases h2 : bk = 2
    · simp [h1, h2]
    · simp [h1, h2]
theorem lawDoes (op w v ak ar ab ai ac ad bk br bb bi bc bd im cc : Int) (lk rp : Bool) (ln : Int) (a : W64) : (evFn T SE0 noL 1 Tryd.f4 [.agg (cI op w v ak ar ab ai ac ad bk br bb bi bc bd im cc lk rp ln), .u 64 a]).run = some (.b true) := by
  have e : ∀ m k x1 x2 x3 x4 x5 x6, m = mayR op w v ak ar ab ai ac ad bk br bb bi bc bd im cc lk rp ln → k = memB ak bk → x1 = selI ak bk ak bk → x2 = selI ak bk ar br → x3 = selI ak bk ab bb → x4 = selI ak bk ai bi → x5 = selI ak bk ac bc → x6 = selI ak bk ad bd → (evFn T SE0 noL 1 Tryd.f4 [.agg (cI op w v ak ar ab ai ac ad bk br bb bi bc bd im cc lk rp ln), .u 64 a]).run = if (!m) = true then some (.b true) else
    if (if (!(k == (wantK ak bk ak bk == 2))) = true then true else !((x1 == wantK ak bk ak bk) && ((x2 == wantK ak bk ar br) && ((x3 == wantK ak bk ab bb) && ((x4 == wantK ak bk ai bi) && ((x5 == wantK ak bk ac bc) && ((x6 == wantK ak bk ad bd) && true))))))) = true then some (.b false) else
    some (.b (if (if (if (if (if (if (if (if (ldB op ak bk == ldB op ak bk) = true then stB op ak == stB op ak else false) = true then fUs op == fUs op else false) = true then fSe op == fSe op else false) = true then enB op rp == enB op rp else false) = true then
      (if tgB op ak = true then a + BitVec.ofInt 64 ln + BitVec.ofInt 64 im else 0#64) == (if tgB op ak = true then a + BitVec.ofInt 64 ln + BitVec.ofInt 64 im else 0#64) else false) = true then tgB op ak == tgB op ak else false) = true then a + BitVec.ofInt 64 ln == a + BitVec.ofInt 64 ln else false) = true then true else false)) := by
    rintro m k x1 x2 x3 x4 x5 x6 rfl rfl rfl rfl rfl rfl rfl rfl
    kernel_rfl
  rw [e _ _ _ _ _ _ _ _ rfl (mem_is _ _).symm (sel_is _ _ _ _).symm (sel_is _ _ _ _).symm (sel_is _ _ _ _).symm (sel_is _ _ _ _).symm (sel_is _ _ _ _).symm (sel_is _ _ _ _).symm]
  cases mayR op w v ak ar ab ai ac ad bk br bb bi bc bd im cc lk rp ln with
  | false => rfl
  | true => simp only [beq_self_eq_true, Bool.not_true, Bool.and_self, Bool.false_eq_true, if_false, if_true]
end Go.Proofs.YtbdddnjncakooaaDoor
set_option maxRecDepth 100000
namespace Go.Proofs.YtbdddnjncakooaaDoor
open Go.Proofs.YtbdddnjncakooaaDoor.Ev Go.RowKit
/- From a row's condition to what is known of the variables. -/
/-- A change's row, whose condition on the world and the world's shape are handed on. -/
theorem returns_laid {H : Type} {enc : TypeId × Value → H} {a : Assume} {C : Checked} {os : Os} {f : FuncId} {fn : Func} {s : ChangeSpec} {conds : List PathCond} {apart fresh handsOn again : Bool} {X : World → Array Value → Prop}
    (hX : ∀ (w w' : World) (args : Array Value), w.heap = w'.heap → X w args → X w' args)
    (own : ownKnob C.prog.godebug = none) (started : os.Started) (noInit : C.prog.inits.idxOf? f = none) (hfn : C.prog.funcs[f]? = some fn)
    (witness : ∃ (w : World) (tape : Tape) (i : Input), w.os = os ∧ (w.forCall tape i).Shaped C.prog ∧ i.vars = [] ∧ Input.okWide C.prog (w.forCall tape i) .any w.heap.size f i ∧
      ((s.pre enc C.prog fn conds apart (w.forCall tape i).memory i.args ∧ X (w.forCall tape i).memory i.args) ∧ sizedMet enc C.prog fn (OpenSpec.ofChange s) apart (w.forCall tape i).memory i.args) ∧ a.holds C.prog (lone (Frame.enter C.prog f i.args .normal) [] (w.forCall tape i)))
    (contract : ∀ (W : World) (base : Nat) (args : Array Value) (ds gs : List (DataW H)) (before : List MemPlace),
      (∀ (j : Nat) t v, fn.params[j]? = some t → args[j]? = some v → Value.okWide C.prog W .any base t v) →
      DataW.Whole enc C.prog fn.params.toList s.vars apart W args.toList ds gs before →
      X W args → W.ShapedOpen C.prog →
      Calls C.prog f args W fun e W' => ∃ v, e = .returned v ∧ s.post enc C.prog fn apart fresh handsOn again W args v W') :
    ReturnsInHanded a C os f .any (fun w args => (s.pre enc C.prog fn conds apart w args ∧ X w args) ∧ sizedMet enc C.prog fn (OpenSpec.ofChange s) apart w args) (s.post enc C.prog fn apart fresh handsOn again) := by
  refine returnsInHanded_of_calls own started noInit witness ?_
  intro w tape i _ hsh _ hok hpre hholds
  obtain ⟨_, _, _, fn', hfn', _, _, _, _, hval⟩ := hok
  have e : fn' = fn := Option.some.inj (hfn'.symm.trans hfn)
  subst e
  obtain ⟨⟨⟨ds, gs, before, hw, hc⟩, hx⟩, hz⟩ := hpre
  have hw' := DataW.Whole.of_heap (w' := w.forCall tape i) (by rfl) hw
  refine (contract (w.forCall tape i) w.heap.size i.args ds gs before hval hw' (hX _ _ _ (by rfl) hx) hsh).mono fun e W' ⟨v, he, hp⟩ => ?_
  subst he
  exact ChangeSpec.post_blind hp

theorem ownK : ownKnob Tryd.prog.godebug = none := by kernel_rfl
theorem laidOut : laidOutB Tryd.prog = true := by kernel_rfl
abbrev laid5 : List (String × DataW Unit) := [("math/bits.deBruijn32tab", Rows.laid_math_bits_deBruijn32tab), ("math/bits.deBruijn64tab", Rows.laid_math_bits_deBruijn64tab), ("internal/strconv.uint64pow10", Rows.laid_internal_strconv_uint64pow10), ("unicode/utf8.acceptRanges", Rows.laid_unicode_utf8_acceptRanges), ("unicode/utf8.first", Rows.laid_unicode_utf8_first)]
theorem laid_met (os : Os) (args : Array Value) : laidMetH Tryd.prog laid5 ((World.laidAll Tryd.prog os laid5).forCall (fun _ _ => 0) ⟨#[], args, []⟩).memory := by
  rw [MakeChecks.laidMetH_plain _ _ _ (by kernel_rfl)]
  exact laidMet_laidAll _ (by kernel_rfl) (by kernel_rfl)
theorem laid_shaped (os : Os) (args : Array Value) : ((World.laidAll Tryd.prog os laid5).forCall (fun _ _ => 0) ⟨#[], args, []⟩).Shaped Tryd.prog := World.shaped_of_ZipB (by kernel_rfl) (by kernel_rfl)
theorem gPow : Tryd.prog.globalNamed "internal/strconv.uint64pow10" = some 0 := by kernel_rfl
theorem vars_of_laid {W : World} (h : laidMetH Tryd.prog laid5 W) (hs : W.ShapedOpen Tryd.prog) : Vars W (fun b => b < W.heap.size) := by
  rw [MakeChecks.laidMetH_plain _ _ _ (by kernel_rfl)] at h
  obtain ⟨ps, ⟨g0, t0, cs0, f0, p0, q0, hg0, ht0, hv0, hd0, ⟨g1, t1, cs1, f1, p1, q1, hg1, ht1, hv1, hd1, ⟨g2, t2, cs2, f2, p2, q2, hg2, ht2, hv2, hd2, _, _⟩, _⟩, _⟩, _⟩ := h
  obtain rfl := Option.some.inj (gPow.symm.trans hg2)
  obtain ⟨m, hm⟩ := cell_of_shapedOpen_int (P := Tryd.prog) (g := 1) (t := 3) (zero := #[.int .i64 0]) hs (of_decide_eq_true (by kernel_rfl)) (by kernel_rfl) rfl (by kernel_rfl) (by kernel_rfl) Tryd.underlying3
  have hlt : 1 < W.heap.size := by
    unfold World.cell? at hm
    cases e : W.heap[1]? with
    | none => rw [e] at hm; cases hm
    | some o => exact (Array.getElem?_eq_some_iff.1 e).1
  refine ⟨⟨hlt, m, hm⟩, by show 0 < _; omega, ?_⟩
  have key : cs2 = (Lib.pow10Tab.map fun z => Value.int .u64 z).toArray := by
    obtain rfl := Option.some.inj ((show (Tryd.prog.globals[0]?).map (·.type) = some 97 by kernel_rfl).symm.trans ht2)
    have h2 : DataW.trod (fun _ => ()) Tryd.prog W 0 (fun _ => true) false f2 97 cs2.toList = some (Lib.tabData .u64 Lib.pow10Tab, p2) := hd2
    have := Lib.cells_of_tab (show Tryd.prog.underlying 97 = some (.array 20 38) by kernel_rfl) Tryd.underlying38 (by kernel_rfl) (by kernel_rfl) h2
    rw [← this]
  unfold World.var? at hv2
  rw [gPow] at hv2
  simp only [Option.bind_some] at hv2
  split at hv2
  · rename_i c a b e
    cases hv2
    exact ⟨a, b, by rw [e, key]⟩
  · cases hv2
end Go.Proofs.YtbdddnjncakooaaDoor
set_option maxRecDepth 100000
namespace Go.Proofs.YtbdddnjncakooaaDoor
open Go.Proofs.YtbdddnjncakooaaDoor.Ev Go.RowKit
/- InstDoes, as a row hands its arguments over. -/
abbrev shO : Sh := .st [.i .i64, .i .i64, .i .i64, .i .i64, .i .i64, .i .i64]
abbrev shI : List Sh := [.i .i64, .i .i64, .i .i64, shO, shO, .i .i64, .i .i64, .b, .b, .i .i64]
theorem lawDoesM (i : Sh.Val (.st shI)) (a : W64) : (evFn T SE0 noL 1 Tryd.f4 [.agg (Sh.cellsL shI i), .u 64 a]).run = some (.b true) := by
  obtain ⟨op, w, v, ⟨ak, ar, ab, ai, ac, ad, _⟩, ⟨bk, br, bb, bi, bc, bd, _⟩, im, cc, lk, rp, ln, _⟩ := i
  exact lawDoes op w v ak ar ab ai ac ad bk br bb bi bc bd im cc lk rp ln a
end Go.Proofs.YtbdddnjncakooaaDoor
