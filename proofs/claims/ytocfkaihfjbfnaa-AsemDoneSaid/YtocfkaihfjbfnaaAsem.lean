/- Lemmas: instructions, valid ones, and what those without flags do, each function shown by the evaluator. No condition. -/
import Derived.Test.YtocfkaihfjbfnaaEvC
import Derived.Test.YtocfkaihfjbfnaaRegs
import Derived.Test.YtocfkaihfjbfnaaLogim
set_option linter.unusedVariables false
set_option linter.unusedSimpArgs false
namespace Go.Proofs.Ytocfkaihfjbfnaa.Ev
/- What a tree comes to, told cell by cell: specifications that are the evaluation itself. -/
def Tr.good {α : Type} (p : α → Bool) : Tr α → Bool
  | .fail => false
  | .leaf a => p a
  | .ite c t e => bif c then t.good p else e.good p
  | .need c t => bif c then t.good p else false
def Tr.got {α β : Type} (d : β) (un : α → β) : Tr α → β
  | .fail => d
  | .leaf a => un a
  | .ite c t e => bif c then t.got d un else e.got d un
  | .need _ t => t.got d un
theorem Tr.good_run {α : Type} {p : α → Bool} : ∀ {t : Tr α}, t.good p = true → ∃ a, t.run = some a ∧ p a = true
  | .fail, h => by simp [Tr.good] at h
  | .leaf a, h => ⟨a, rfl, h⟩
  | .ite c t e, h => by
    cases c with
    | true => obtain ⟨a, h1, h2⟩ := Tr.good_run (t := t) h; exact ⟨a, by simpa [Tr.run] using h1, h2⟩
    | false => obtain ⟨a, h1, h2⟩ := Tr.good_run (t := e) h; exact ⟨a, by simpa [Tr.run] using h1, h2⟩
  | .need c t, h => by
    cases c with
    | true => obtain ⟨a, h1, h2⟩ := Tr.good_run (t := t) h; exact ⟨a, by simpa [Tr.run] using h1, h2⟩
    | false => simp [Tr.good] at h
theorem Tr.got_run {α β : Type} {d : β} {un : α → β} {a : α} : ∀ {t : Tr α}, t.run = some a → t.got d un = un a
  | .fail, h => by simp [Tr.run] at h
  | .leaf b, h => by simp only [Tr.run, Option.some.injEq] at h; subst h; rfl
  | .ite c t e, h => by
    cases c with
    | true => exact Tr.got_run (t := t) (by simpa [Tr.run] using h)
    | false => exact Tr.got_run (t := e) (by simpa [Tr.run] using h)
  | .need c t, h => by
    cases c with
    | true => exact Tr.got_run (t := t) (by simpa [Tr.run] using h)
    | false => simp [Tr.run] at h

/-- Kinds of cells: an int, a word, a half word, a truth, an array of words. -/
inductive Kd where
  | i | w | h | b | s
  | x (n : Nat)
def unI : AV → Int
  | .i .i64 n => n
  | _ => 0
def unB : AV → Bool
  | .b x => x
  | _ => false
def unH : AV → BitVec 32
  | .u 32 x => x
  | _ => 0#32
def unS : AV → List UInt8
  | .str x => x
  | _ => []
def unX : AV → Nat → BitVec 64
  | .ar _ X => fun j => unU64 (X j)
  | _ => fun _ => 0#64
def Kd.fit : Kd → AV → Bool
  | .i, .i .i64 _ => true
  | .w, .u 64 _ => true
  | .h, .u 32 _ => true
  | .b, .b _ => true
  | .s, .str _ => true
  | .x n, .ar m X => match m == n with
    | true => allU X n
    | false => false
  | _, _ => false
def Kd.ext {α : Type} : Kd → (α → AV) → Tr α → AV
  | .i, un, t => .i .i64 (t.got 0 fun a => unI (un a))
  | .w, un, t => .u 64 (t.got 0#64 fun a => unU64 (un a))
  | .h, un, t => .u 32 (t.got 0#32 fun a => unH (un a))
  | .b, un, t => .b (t.got false fun a => unB (un a))
  | .s, un, t => .str (t.got [] fun a => unS (un a))
  | .x n, un, t => .ar n fun j => .u 64 (t.got 0#64 fun a => unX (un a) j)

theorem Kd.fit_can {k : Kd} {v : AV} (h : k.fit v = true) {α : Type} {t : Tr α} {un : α → AV} {a : α} (hr : t.run = some a) (hv : un a = v) : k.ext un t = canA v := by
  unfold Kd.fit at h
  split at h
  · simp only [Kd.ext, Tr.got_run hr, hv]; rfl
  · simp only [Kd.ext, Tr.got_run hr, hv]; rfl
  · simp only [Kd.ext, Tr.got_run hr, hv]; rfl
  · simp only [Kd.ext, Tr.got_run hr, hv]; rfl
  · simp only [Kd.ext, Tr.got_run hr, hv]; rfl
  · rename_i n m X
    split at h
    · rename_i hm
      have hm : m = n := by simpa using hm
      subst hm
      simp only [Kd.ext, Tr.got_run hr, hv, canA, h]
      rfl
    · cases h
  · cases h

def fits : List Kd → List AV → Bool
  | [], [] => true
  | k :: ks, a :: l => match k.fit a with
    | true => fits ks l
    | false => false
  | _, _ => false
def headA : List AV → AV
  | a :: _ => a
  | [] => .poison
def exts {α : Type} : List Kd → (α → List AV) → Tr α → List AV
  | [], _, _ => []
  | k :: ks, g, t => k.ext (fun a => headA (g a)) t :: exts ks (fun a => (g a).tail) t
theorem exts_run {α : Type} {t : Tr α} {a : α} (hr : t.run = some a) : ∀ {ks : List Kd} {g : α → List AV}, fits ks (g a) = true → exts ks g t = (g a).map canA
  | [], g, h => by
    cases hg : g a with
    | nil => rfl
    | cons x l => rw [hg] at h; cases h
  | k :: ks, g, h => by
    cases hg : g a with
    | nil => rw [hg] at h; cases h
    | cons x l =>
      rw [hg] at h
      unfold fits at h
      split at h
      · rename_i hk
        have := exts_run hr (ks := ks) (g := fun a => (g a).tail) (by simpa [hg] using h)
        unfold exts
        rw [this, Kd.fit_can hk hr (by simp [hg, headA])]
        simp [hg]
      · cases h

/-- Kinds of results. -/
inductive RK where
  | unit
  | one (k : Kd)
  | agg (ks : List Kd)
  | tup (ks : List Kd)
def Kd.scal : Kd → Bool
  | .x _ => false
  | _ => true
def scals : List Kd → Bool
  | [] => true
  | k :: ks => match k.scal with
    | true => scals ks
    | false => false
theorem scal_can {k : Kd} {a : AV} (h : k.scal = true) (hf : k.fit a = true) : canA a = a := by
  unfold Kd.fit at hf
  split at hf
  · rfl
  · rfl
  · rfl
  · rfl
  · rfl
  · cases h
  · cases hf
theorem scals_can : ∀ {ks : List Kd} {l : List AV}, scals ks = true → fits ks l = true → l.map canA = l
  | [], [], _, _ => rfl
  | [], _ :: _, _, h => by cases h
  | _ :: _, [], _, h => by cases h
  | k :: ks, a :: l, h, hf => by
    unfold scals at h
    unfold fits at hf
    split at h
    · rename_i hk
      split at hf
      · rename_i hka
        rw [List.map_cons, scal_can hk hka, scals_can h hf]
      · cases hf
    · cases h
def RK.fit : RK → AV → Bool
  | .unit, .tup [] => true
  | .one k, a => match k.scal with
    | true => k.fit a
    | false => false
  | .agg ks, .agg l => fits ks l
  | .tup ks, .tup l => match scals ks with
    | true => fits ks l
    | false => false
  | _, _ => false
def unL : AV → List AV
  | .agg l => l
  | .tup l => l
  | _ => []
def RK.ext {α : Type} : RK → (α → AV) → Tr α → AV
  | .unit, _, _ => .tup []
  | .one k, un, t => k.ext un t
  | .agg ks, un, t => .agg (exts ks (fun a => unL (un a)) t)
  | .tup ks, un, t => .tup (exts ks (fun a => unL (un a)) t)
theorem canV_scal {k : Kd} {a : AV} (h : k.scal = true) (hf : k.fit a = true) : canV a = a := by
  unfold Kd.fit at hf
  split at hf
  · rfl
  · rfl
  · rfl
  · rfl
  · rfl
  · cases h
  · cases hf
theorem RK.fit_can {rk : RK} {α : Type} {t : Tr α} {un : α → AV} {a : α} (hr : t.run = some a) (h : rk.fit (un a) = true) : rk.ext un t = canV (un a) := by
  cases rk with
  | unit =>
    have : un a = .tup [] := by
      generalize un a = v at h
      unfold RK.fit at h
      split at h <;> first | rfl | contradiction | (cases h)
    rw [this]; rfl
  | one k =>
    unfold RK.fit at h
    simp only at h
    split at h
    · rename_i hk
      rw [canV_scal hk h]
      show k.ext un t = _
      rw [Kd.fit_can h hr rfl, scal_can hk h]
    · cases h
  | agg ks =>
    cases ha : un a <;> rw [ha] at h <;> simp only [RK.fit] at h <;> first | cases h | skip
    rename_i l
    show AV.agg (exts ks (fun a => unL (un a)) t) = _
    rw [exts_run hr (by simpa [ha, unL] using h)]
    simp [ha, unL, canV]
  | tup ks =>
    cases ha : un a <;> rw [ha] at h <;> simp only [RK.fit] at h <;> first | cases h | skip
    rename_i l
    split at h
    · rename_i hs
      show AV.tup (exts ks (fun a => unL (un a)) t) = _
      rw [exts_run hr (by simpa [ha, unL] using h)]
      simp only [ha, unL, canV, scals_can hs h]
    · cases h

def fitss : List (List Kd) → List (List AV) → Bool
  | [], [] => true
  | ks :: kss, l :: ls => match fits ks l with
    | true => fitss kss ls
    | false => false
  | _, _ => false
def headL : List (List AV) → List AV
  | a :: _ => a
  | [] => []
def extss {α : Type} : List (List Kd) → (α → List (List AV)) → Tr α → List (List AV)
  | [], _, _ => []
  | ks :: kss, g, t => exts ks (fun a => headL (g a)) t :: extss kss (fun a => (g a).tail) t
theorem extss_run {α : Type} {t : Tr α} {a : α} (hr : t.run = some a) : ∀ {kss : List (List Kd)} {g : α → List (List AV)}, fitss kss (g a) = true → extss kss g t = (g a).map fun l => l.map canA
  | [], g, h => by
    cases hg : g a with
    | nil => rfl
    | cons x l => rw [hg] at h; cases h
  | k :: ks, g, h => by
    cases hg : g a with
    | nil => rw [hg] at h; cases h
    | cons x l =>
      rw [hg] at h
      unfold fitss at h
      split at h
      · rename_i hk
        have := extss_run hr (kss := ks) (g := fun a => (g a).tail) (by simpa [hg] using h)
        unfold extss
        rw [this, exts_run hr (by simpa [hg, headL] using hk)]
        simp [hg, headL]
      · cases h

theorem canA_OutR {w : World} {R : Nat → Prop} : ∀ {os : List (Nat × List AV)} {cs : List (List AV)}, OutR w R os cs → OutR w R os (cs.map fun l => l.map canA)
  | _, _, .nil => .nil
  | _, _, .cons h hl => .cons (can_ObjR h) (canA_OutR hl)

section
variable {P : Program} {T : TypeId → Option TyI} {S : FuncId → CSpec}
/-- What a function comes to, told by its evaluation. -/
def exV (T : TypeId → Option TyI) (S : FuncId → CSpec) (L : Nat → Live) (N : Nat) (fn : Func) (rk : RK) : CSpec := fun xs =>
  some ⟨[(evFn T S L N fn (xs.map canV)).good rk.fit], rk.ext (fun a => a) (evFn T S L N fn (xs.map canV))⟩
def exO (T : TypeId → Option TyI) (S : FuncId → CSpec) (L : Nat → Live) (N : Nat) (fn : Func) (rk : RK) (kss : List (List Kd)) : CSpec := fun xs =>
  some ⟨[(evFnO T S L N fn (xs.map canV)).good fun r => match rk.fit r.1 with | true => fitss kss r.2 | false => false],
    .fin (rk.ext (fun r => r.1) (evFnO T S L N fn (xs.map canV))) (extss kss (fun r => r.2) (evFnO T S L N fn (xs.map canV)))⟩

theorem FnOk.exV (hT : TyOk P T) (hS : ∀ f, FnOk P f (S f)) (hm : P.follows .mixedOrders = true) {L : Nat → Live} {N : Nat} {f : FuncId} {fn : Func} (hf : P.funcs[f]? = some fn) (hname : (fn.name == "runtime.NumGoroutine") = false) (hbody : fn.body.isNone = false) (hL : FnLoops T S L N fn) (rk : RK) (hlt : f < offO := by decide) :
    FnOk P f (Go.Proofs.Ytocfkaihfjbfnaa.Ev.exV T S L N fn rk) := by
  refine ⟨fun _ => ?_, fun h' => absurd hlt (Nat.not_lt.2 h')⟩
  intro xs r hs hp w R vs hR hvs
  unfold Go.Proofs.Ytocfkaihfjbfnaa.Ev.exV at hs
  simp only [Option.some.injEq] at hs; subst hs
  obtain ⟨a, hr, hfit⟩ := Tr.good_run (hp _ (List.mem_cons_self ..))
  right
  refine ⟨?_, (calls_ev hT hS hm hf hL hr hR (can_TR hvs)).mono ?_⟩
  · have hn : ¬ fn.name = "runtime.NumGoroutine" := by simpa using hname
    have hb : ¬ fn.body = Option.none := by intro e; rw [e] at hbody; simp at hbody
    simp [callFunc, hf, hn, hb]
  · rintro e w' ⟨v, rfl, R', hd⟩
    refine ⟨v, rfl, R', hd.more, hd.new, hd.lt, hd.fr, ?_⟩
    show VR _ (rk.ext (fun a => a) _) v
    rw [RK.fit_can (un := fun a => a) hr hfit]
    exact can_VR hd.res

theorem FnOk.exO (hT : TyOk P T) (hS : ∀ f, FnOk P f (S f)) (hm : P.follows .mixedOrders = true) {L : Nat → Live} {N : Nat} {f : FuncId} {fn : Func} (hf : P.funcs[f]? = some fn) (hname : (fn.name == "runtime.NumGoroutine") = false) (hbody : fn.body.isNone = false) (hL : FnLoops T S L N fn) (rk : RK) (kss : List (List Kd)) (hlt : f < offO := by decide) :
    FnOk P (1000000 + f) (Go.Proofs.Ytocfkaihfjbfnaa.Ev.exO T S L N fn rk kss) := by
  refine ⟨fun h' => absurd h' (Nat.not_lt.2 (Nat.le_add_right _ _)), fun _ => ⟨fun _ => ?_, fun h' => absurd h' (Nat.not_le.2 (Nat.add_lt_add_left hlt 1000000))⟩⟩
  rw [show 1000000 + f - offO = f from Nat.add_sub_cancel_left ..]
  intro xs r hs hp w R vs os hR har hn
  unfold Go.Proofs.Ytocfkaihfjbfnaa.Ev.exO at hs
  simp only [Option.some.injEq] at hs; subst hs
  obtain ⟨⟨a, cs⟩, hr, hfit⟩ := Tr.good_run (hp _ (List.mem_cons_self ..))
  right
  have hmap : (os.map fun x => (x.1, x.2.map canA)).map (·.1) = os.map (·.1) := by rw [List.map_map]; rfl
  refine ⟨?_, (callsO_ev hT hS hm hf hL hr hR (can_AR har) (by rw [hmap]; exact hn)).mono ?_⟩
  · have hn : ¬ fn.name = "runtime.NumGoroutine" := by simpa using hname
    have hb : ¬ fn.body = Option.none := by intro e; rw [e] at hbody; simp at hbody
    simp [callFunc, hf, hn, hb]
  · rintro e w' ⟨v, rfl, R', hd⟩
    have hfr := hd.fr
    rw [hmap] at hfr
    split at hfit
    · rename_i hrk
      refine ⟨v, rfl, R', hd.more, hd.new, hd.lt, hfr, ?_, ?_, hd.size⟩
      · show VR _ (rk.ext (fun r : AV × List (List AV) => r.1) _) v
        rw [RK.fit_can (un := fun r : AV × List (List AV) => r.1) hr hrk]
        exact can_VR hd.res
      · show OutR _ _ os (extss kss (fun r : AV × List (List AV) => r.2) _)
        rw [extss_run (g := fun r : AV × List (List AV) => r.2) hr hfit]
        exact canA_OutR (can_OutR hd.outs)
    · cases hfit
end
end Go.Proofs.Ytocfkaihfjbfnaa.Ev
set_option maxRecDepth 100000
namespace Go.Proofs.Ytocfkaihfjbfnaa
open Go.Proofs.Ytocfkaihfjbfnaa.Ev Go.RowKit
/- Small questions about an instruction. -/
def inB (a x b : Int) : Bool := decide (a ≤ x) && decide (x ≤ b)
theorem and_if (a b : Bool) : (if a = true then b else false) = (a && b) := by cases a <;> rfl
def sr38 : CSpec
  | [.agg (cI op w d n m a imm off cond r s), .i .i64 x, .i .i64 y] => some ⟨[], .b (inB x op y)⟩
  | _ => none
theorem okr38 : FnOk Try.prog 38 sr38 := okBy noS_ok Try.func38 (by kernel_rfl) (by kernel_rfl) 1 <| by
  intro xs r hs
  unfold sr38 at hs; split at hs <;> cases hs
  rename_i op w d n m a imm off cond r s x y
  rintro hp _
  have e : (evFn T noS noL 1 Try.f38 [.agg (cI op w d n m a imm off cond r s), .i .i64 x, .i .i64 y]).run = some (.b (if decide (x ≤ op) = true then decide (op ≤ y) else false)) := by kernel_rfl
  rw [e, and_if]; rfl
def sr68 : CSpec | [.i .i64 x] => some ⟨[], .b (inB 0 x 31)⟩ | _ => none
theorem okr68 : FnOk Try.prog 68 sr68 := okBy noS_ok Try.func68 (by kernel_rfl) (by kernel_rfl) 1 <| by
  intro xs r hs
  unfold sr68 at hs; split at hs <;> cases hs
  rename_i x
  rintro hp _
  have e : (evFn T noS noL 1 Try.f68 [.i .i64 x]).run = some (.b (if decide (0 ≤ x) = true then decide (x ≤ 31) else false)) := by kernel_rfl
  rw [e, and_if]; rfl
def sr69 : CSpec | [.i .i64 x] => some ⟨[], .b (decide (0 ≤ x) && decide (x < 31))⟩ | _ => none
theorem okr69 : FnOk Try.prog 69 sr69 := okBy noS_ok Try.func69 (by kernel_rfl) (by kernel_rfl) 1 <| by
  intro xs r hs
  unfold sr69 at hs; split at hs <;> cases hs
  rename_i x
  rintro hp _
  have e : (evFn T noS noL 1 Try.f69 [.i .i64 x]).run = some (.b (if decide (0 ≤ x) = true then decide (x < 31) else false)) := by kernel_rfl
  rw [e, and_if]
noncomputable abbrev SN0 : FuncId → CSpec := withS noS 38 sr38
theorem SN0_ok : ∀ f, FnOk Try.prog f (SN0 f) := withS_ok noS_ok okr38
def sr41 : CSpec
  | [.agg (cI op w d n m a imm off cond r s)] => some ⟨[], .b (inB 33 op 38)⟩
  | _ => none
theorem okr41 : FnOk Try.prog 41 sr41 := okBy SN0_ok Try.func41 (by kernel_rfl) (by kernel_rfl) 1 <| by
  intro xs r hs
  unfold sr41 at hs; split at hs <;> cases hs
  rintro hp _
  kernel_rfl
def sr67 : CSpec
  | [.agg (cI op w d n m a imm off cond r s)] => some ⟨[], .b (inB 40 op 43)⟩
  | _ => none
theorem okr67 : FnOk Try.prog 67 sr67 := okBy SN0_ok Try.func67 (by kernel_rfl) (by kernel_rfl) 1 <| by
  intro xs r hs
  unfold sr67 at hs; split at hs <;> cases hs
  rintro hp _
  kernel_rfl
noncomputable abbrev SN1 : FuncId → CSpec := withS (withS (withS (withS SN0 68 sr68) 69 sr69) 41 sr41) 67 sr67
theorem SN1_ok : ∀ f, FnOk Try.prog f (SN1 f) := withS_ok (withS_ok (withS_ok (withS_ok SN0_ok okr68) okr69) okr41) okr67
/- Shape: the fields that an instruction has, the others cleared. -/
def shD (op d : Int) : Int := if (if (!inB 39 op 41) = true then !inB 44 op 47 else false) = true then d else 0
def shN (op n : Int) : Int := if (if (if (!inB 16 op 18) = true then !inB 39 op 43 else false) = true then !inB 45 op 47 else false) = true then n else 0
def shM (op m : Int) : Int := if (if (if (if inB 5 op 12 = true then true else inB 19 op 28) = true then true else inB 31 op 32) = true then true else op == 38) = true then m else 0
def shA (op a : Int) : Int := if inB 19 op 20 = true then a else 0
def shI (op : Int) (imm : W64) : W64 := if (if (if (if (if inB 1 op 4 = true then true else inB 13 op 18) = true then true else inB 33 op 34) = true then true else op == 39) = true then true else inB 45 op 46) = true then imm else 0#64
def shO (op off : Int) : Int := if inB 40 op 43 = true then off else 0
def shC (op cond : Int) : Int := if (if inB 31 op 32 = true then true else op == 41) = true then cond else 0
def shR (op r : Int) : Int := if inB 29 op 30 = true then r else 0
def shS (op s : Int) : Int := if (if (if inB 5 op 12 = true then true else inB 16 op 18) = true then true else inB 29 op 30) = true then s else 0
def sr39 : CSpec
  | [.agg (cI op w d n m a imm off cond r s)] => some ⟨[], .agg (cI op w (shD op d) (shN op n) (shM op m) (shA op a) (shI op imm) (shO op off) (shC op cond) (shR op r) (shS op s))⟩
  | _ => none
theorem okr39 : FnOk Try.prog 39 sr39 := okBy SN1_ok Try.func39 (by kernel_rfl) (by kernel_rfl) 1 <| by
  intro xs r hs
  unfold sr39 at hs; split at hs <;> cases hs
  rintro hp _
  kernel_rfl
/- Registers: each in its bounds, and none where none may be. -/
def regsB (op d n m a : Int) : Bool :=
  if (if (if (if (!inB 0 d 31) = true then true else !inB 0 n 31) = true then true else !inB 0 m 31) = true then true else !inB 0 a 31) = true then false
  else if inB 1 op 2 = true then (if (decide (0 ≤ d) && decide (d < 31)) = true then decide (0 ≤ n) && decide (n < 31) else false)
  else if inB 3 op 4 = true then (decide (0 ≤ n) && decide (n < 31))
  else if inB 13 op 15 = true then (decide (0 ≤ d) && decide (d < 31))
  else if (op == 38) = true then (if (if (decide (0 ≤ n) && decide (n < 31)) = true then m != d else false) = true then m != n else false)
  else if inB 33 op 38 = true then (decide (0 ≤ n) && decide (n < 31)) else true
def sr42 : CSpec
  | [.agg (cI op w d n m a imm off cond r s)] => some ⟨[], .b (regsB op d n m a)⟩
  | _ => none
theorem some_ite {c : Bool} {x y : Bool} : (if c = true then some (AV.b x) else some (.b y)) = some (.b (if c = true then x else y)) := by cases c <;> rfl
theorem okr42 : FnOk Try.prog 42 sr42 := okBy SN1_ok Try.func42 (by kernel_rfl) (by kernel_rfl) 1 <| by
  intro xs r hs
  unfold sr42 at hs; split at hs <;> cases hs
  rename_i op w d n m a imm off cond r s
  rintro hp _
  have e : (evFn T SN1 noL 1 Try.f42 [.agg (cI op w d n m a imm off cond r s)]).run = (if (if (if (if (!inB 0 d 31) = true then true else !inB 0 n 31) = true then true else !inB 0 m 31) = true then true else !inB 0 a 31) = true then some (.b false)
    else if inB 1 op 2 = true then some (.b (if (decide (0 ≤ d) && decide (d < 31)) = true then decide (0 ≤ n) && decide (n < 31) else false))
    else if inB 3 op 4 = true then some (.b (decide (0 ≤ n) && decide (n < 31)))
    else if inB 13 op 15 = true then some (.b (decide (0 ≤ d) && decide (d < 31)))
    else if (op == 38) = true then some (.b (if (if (decide (0 ≤ n) && decide (n < 31)) = true then m != d else false) = true then m != n else false))
    else if inB 33 op 38 = true then some (.b (decide (0 ≤ n) && decide (n < 31))) else some (.b true)) := by kernel_rfl
  rw [e]
  simp only [some_ite]
  rfl
end Go.Proofs.Ytocfkaihfjbfnaa
set_option maxRecDepth 100000
namespace Go.Proofs.Ytocfkaihfjbfnaa
open Go.Proofs.Ytocfkaihfjbfnaa.Ev Go.RowKit
/- Numbers: each in its bounds. -/
def numsB (op w : Int) (imm : W64) (off s : Int) : Bool :=
  if inB 1 op 4 = true then decide (imm.toNat < (BitVec.ofInt 64 4096).toNat)
  else if inB 13 op 15 = true then enc2 imm
  else if inB 16 op 18 = true then (if (if decide (imm.toNat < (BitVec.ofInt 64 65536).toNat) = true then decide (0 ≤ s) else false) = true then decide (s ≤ 3) else false)
  else if inB 33 op 34 = true then (if (imm % BitVec.ofInt 64 w == BitVec.ofInt 64 0) = true then decide ((imm / BitVec.ofInt 64 w).toNat < (BitVec.ofInt 64 4096).toNat) else false)
  else if (op == 39) = true then (if decide ((BitVec.ofInt 64 9).toNat ≤ imm.toNat) = true then decide (imm.toNat ≤ (BitVec.ofInt 64 11).toNat) else false)
  else if inB 45 op 46 = true then decide (imm.toNat < (BitVec.ofInt 64 65536).toNat)
  else if (op == 40) = true then (if (off.tmod 4 == 0) = true then fits off 28 else false)
  else if inB 40 op 43 = true then (if (off.tmod 4 == 0) = true then fits off 21 else false) else true
noncomputable abbrev SN2 : FuncId → CSpec := withS (withS (withS (withS (withS (withS SH1 70 s34) 38 sr38) 68 sr68) 69 sr69) 41 sr41) 67 sr67
theorem SN2_ok : ∀ f, FnOk Try.prog f (SN2 f) := withS_ok (withS_ok (withS_ok (withS_ok (withS_ok (withS_ok SH1_ok ok34) okr38) okr68) okr69) okr41) okr67
def w0 (op w : Int) : Bool := if inB 33 op 34 = true then !(BitVec.ofInt 64 w == 0#64) else true
def sr43 : CSpec
  | [.agg (cI op w d n m a imm off cond r s)] => some ⟨[w0 op w], .b (numsB op w imm off s)⟩
  | _ => none
theorem okr43 : FnOk Try.prog 43 sr43 := okBy SN2_ok Try.func43 (by kernel_rfl) (by kernel_rfl) 1 <| by
  intro xs r hs
  unfold sr43 at hs; split at hs <;> cases hs
  rename_i op w d n m a imm off cond r s
  rintro hp _
  have h := hp _ (List.mem_cons_self ..)
  have e : (evFn T SN2 noL 1 Try.f43 [.agg (cI op w d n m a imm off cond r s)]).run =
    if (if inB 1 op 4 = true then true else if inB 13 op 15 = true then true else if inB 16 op 18 = true then true else if inB 33 op 34 = true then (if (imm % BitVec.ofInt 64 w == BitVec.ofInt 64 0) = true then !(BitVec.ofInt 64 w == 0#64) else true) else true) = true then
    if (if inB 1 op 4 = true then true else if inB 13 op 15 = true then true else if inB 16 op 18 = true then true else if inB 33 op 34 = true then !(BitVec.ofInt 64 w == 0#64) else true) = true then
    if (if inB 1 op 4 = true then true else if inB 13 op 15 = true then true else if inB 16 op 18 = true then true else if inB 33 op 34 = true then true else if (op == 39) = true then true else if inB 45 op 46 = true then true else if (op == 40) = true then !((4 : Int) == 0) else true) = true then
    if (if inB 1 op 4 = true then true else if inB 13 op 15 = true then true else if inB 16 op 18 = true then true else if inB 33 op 34 = true then true else if (op == 39) = true then true else if inB 45 op 46 = true then true else if (op == 40) = true then true else if inB 40 op 43 = true then !((4 : Int) == 0) else true) = true then
    (if inB 1 op 4 = true then some (.b (decide (imm.toNat < (BitVec.ofInt 64 4096).toNat)))
  else if inB 13 op 15 = true then some (.b (enc2 imm))
  else if inB 16 op 18 = true then some (.b (if (if decide (imm.toNat < (BitVec.ofInt 64 65536).toNat) = true then decide (0 ≤ s) else false) = true then decide (s ≤ 3) else false))
  else if inB 33 op 34 = true then some (.b (if (imm % BitVec.ofInt 64 w == BitVec.ofInt 64 0) = true then decide ((imm / BitVec.ofInt 64 w).toNat < (BitVec.ofInt 64 4096).toNat) else false))
  else if (op == 39) = true then some (.b (if decide ((BitVec.ofInt 64 9).toNat ≤ imm.toNat) = true then decide (imm.toNat ≤ (BitVec.ofInt 64 11).toNat) else false))
  else if inB 45 op 46 = true then some (.b (decide (imm.toNat < (BitVec.ofInt 64 65536).toNat)))
  else if (op == 40) = true then some (.b (if (off.tmod 4 == 0) = true then fits off 28 else false))
  else if inB 40 op 43 = true then some (.b (if (off.tmod 4 == 0) = true then fits off 21 else false)) else some (.b true)) else none else none else none else none := by kernel_rfl
  have n1 : (if inB 1 op 4 = true then true else if inB 13 op 15 = true then true else if inB 16 op 18 = true then true else if inB 33 op 34 = true then (if (imm % BitVec.ofInt 64 w == BitVec.ofInt 64 0) = true then !(BitVec.ofInt 64 w == 0#64) else true) else true) = true := by
    unfold w0 at h
    revert h
    generalize (!(BitVec.ofInt 64 w == 0#64)) = z
    generalize (imm % BitVec.ofInt 64 w == BitVec.ofInt 64 0) = y
    cases inB 1 op 4 <;> cases inB 13 op 15 <;> cases inB 16 op 18 <;> cases inB 33 op 34 <;> cases z <;> cases y <;> simp
  have n2 : (if inB 1 op 4 = true then true else if inB 13 op 15 = true then true else if inB 16 op 18 = true then true else if inB 33 op 34 = true then !(BitVec.ofInt 64 w == 0#64) else true) = true := by
    unfold w0 at h
    revert h
    generalize (!(BitVec.ofInt 64 w == 0#64)) = z
    cases inB 1 op 4 <;> cases inB 13 op 15 <;> cases inB 16 op 18 <;> cases inB 33 op 34 <;> cases z <;> simp
  have h4 : (!((4 : Int) == 0)) = true := by decide
  rw [e, if_pos n1, if_pos n2]
  simp only [h4, ite_self, if_true, some_ite]
  rfl
noncomputable abbrev SN3 : FuncId → CSpec := withS (withS (withS SN2 39 sr39) 42 sr42) 43 sr43
theorem SN3_ok : ∀ f, FnOk Try.prog f (SN3 f) := withS_ok (withS_ok (withS_ok SN2_ok okr39) okr42) okr43
end Go.Proofs.Ytocfkaihfjbfnaa
set_option maxRecDepth 100000
namespace Go.Proofs.Ytocfkaihfjbfnaa
open Go.Proofs.Ytocfkaihfjbfnaa.Ev Go.RowKit
/- May: whether a word encodes the instruction. -/
def sameSh (op w d n m a : Int) (imm : W64) (off cond r s : Int) : Bool :=
  op == op && (w == w && (d == shD op d && (n == shN op n && (m == shM op m && (a == shA op a && (imm == shI op imm && (off == shO op off && (cond == shC op cond && (r == shR op r && (s == shS op s && true))))))))))
def badA (op w d n m a : Int) (imm : W64) (off cond r s : Int) : Bool :=
  if (if (if (!inB 1 op 47) = true then true else !(sameSh op w d n m a imm off cond r s)) = true then true else !isW w) = true then true else if (!inB 33 op 38) = true then w != 8 else false
def restA (op w d n m a : Int) (imm : W64) (off cond r s : Int) : Bool :=
  if (if (if (if (if (if (if regsB op d n m a = true then numsB op w imm off s else false) = true then decide (0 ≤ s) else false) = true then decide (s ≤ 63) else false) = true then decide (0 ≤ r) else false) = true then decide (r ≤ 63) else false) = true then decide (0 ≤ cond) else false) = true then decide (cond ≤ 15) else false
def mayA (op w d n m a : Int) (imm : W64) (off cond r s : Int) : Bool := if badA op w d n m a imm off cond r s = true then false else restA op w d n m a imm off cond r s
def sr26 : CSpec
  | [.agg (cI op w d n m a imm off cond r s)] => some ⟨[], .b (mayA op w d n m a imm off cond r s)⟩
  | _ => none
theorem okr26 : FnOk Try.prog 26 sr26 := okBy SN3_ok Try.func26 (by kernel_rfl) (by kernel_rfl) 1 <| by
  intro xs r hs
  unfold sr26 at hs; split at hs <;> cases hs
  rename_i op w d n m a imm off cond r s
  rintro hp _
  have e : (evFn T SN3 noL 1 Try.f26 [.agg (cI op w d n m a imm off cond r s)]).run =
    if badA op w d n m a imm off cond r s = true then some (.b false) else if (if regsB op d n m a = true then w0 op w else true) = true then some (.b (restA op w d n m a imm off cond r s)) else none := by kernel_rfl
  rw [e]
  show _ = some (AV.b (mayA op w d n m a imm off cond r s))
  unfold mayA
  cases hb : badA op w d n m a imm off cond r s with
  | true => rfl
  | false =>
    have hw : isW w = true := by
      unfold badA at hb
      cases h : isW w with
      | true => rfl
      | false => rw [h] at hb; simp at hb
    have h0 : w0 op w = true := by
      unfold w0
      rcases isW_cases hw with rfl | rfl | rfl | rfl <;> cases inB 33 op 34 <;> rfl
    rw [h0, ite_self]
    rfl
noncomputable abbrev SN4 : FuncId → CSpec := withS SN3 26 sr26
theorem SN4_ok : ∀ f, FnOk Try.prog f (SN4 f) := withS_ok SN3_ok okr26
end Go.Proofs.Ytocfkaihfjbfnaa
set_option maxRecDepth 100000
namespace Go.Proofs.Ytocfkaihfjbfnaa
open Go.Proofs.Ytocfkaihfjbfnaa.Ev Go.RowKit
abbrev kCpu : List Kd := [.x 31, .b, .b, .b, .b, .w, .b, .b, .b, .b, .b, .w, .w, .i]
noncomputable abbrev SN5 : FuncId → CSpec := withS (withS (withS (withS SN4 18 sr18) 22 sr22) 1000022 sr22O) 20 sr20
theorem SN5_ok : ∀ f, FnOk Try.prog f (SN5 f) := withS_ok (withS_ok (withS_ok (withS_ok SN4_ok okr18) okr22) okr22O) okr20
noncomputable abbrev SN6 : FuncId → CSpec := withS (withS (withS SN5 54 (exV T SN5 noL 1 Try.f54 (.one .w))) 55 (exV T SN5 noL 1 Try.f55 (.one .w))) 52 (exV T SN5 noL 1 Try.f52 (.one .w))
theorem SN6_ok : ∀ f, FnOk Try.prog f (SN6 f) := withS_ok (withS_ok (withS_ok SN5_ok (FnOk.exV tyOk SN5_ok mixed Try.func54 (by kernel_rfl) (by kernel_rfl) noL_ok _)) (FnOk.exV tyOk SN5_ok mixed Try.func55 (by kernel_rfl) (by kernel_rfl) noL_ok _)) (FnOk.exV tyOk SN5_ok mixed Try.func52 (by kernel_rfl) (by kernel_rfl) noL_ok _)
end Go.Proofs.Ytocfkaihfjbfnaa
set_option maxRecDepth 100000
namespace Go.Proofs.Ytocfkaihfjbfnaa
open Go.Proofs.Ytocfkaihfjbfnaa.Ev Go.RowKit
/- Values: shifts, words, fields. -/
theorem some_iteW {c : Bool} {x y : W64} : (if c = true then some (AV.u 64 x) else some (.u 64 y)) = some (.u 64 (if c = true then x else y)) := by cases c <;> rfl
theorem getX_words (X : Nat → AV) (i : Int) : getX (words X) i = getX X i := rfl
def wordsA (op s : Int) (imm x d : W64) : W64 :=
  if (op == 13) = true then x &&& imm else if (op == 14) = true then x ||| imm else if (op == 15) = true then x ^^^ imm
  else if (op == 16) = true then imm <<< (IntKind.i64.wrap (16 * s)).toNat else if (op == 17) = true then ~~~(imm <<< (IntKind.i64.wrap (16 * s)).toNat)
  else d &&& ~~~(BitVec.ofInt 64 65535 <<< (IntKind.i64.wrap (16 * s)).toNat) ||| imm <<< (IntKind.i64.wrap (16 * s)).toNat
def sr52 : CSpec
  | [.rp (cP X n z c v pc ld st ex aq rl ta vv w) 0, .agg (cI op' w' d' n' m' a' imm' off' cond' r' s')] => (match allU X 31 with
    | true => some ⟨[decide (0 ≤ IntKind.i64.wrap (16 * s'))], .u 64 (wordsA op' s' imm' (getX X n') (getX X d'))⟩
    | false => none)
  | _ => none
theorem okr52 : FnOk Try.prog 52 sr52 := okC SN5_ok Try.func52 (by kernel_rfl) (by kernel_rfl) 1 <| by
  intro xs r hs
  unfold sr52 at hs; split at hs <;> try cases hs
  rename_i X n z c v pc ld st ex aq rl ta vv w op' w' d' n' m' a' imm' off' cond' r' s'
  split at hs <;> cases hs
  rename_i hU
  rintro hp _
  have h := hp _ (List.mem_cons_self ..)
  show (evFn T SN5 noL 1 Try.f52 [.rp ((cP X n z c v pc ld st ex aq rl ta vv w).map canA) 0, .agg (cI op' w' d' n' m' a' imm' off' cond' r' s')]).run = some (.u 64 (wordsA op' s' imm' (getX X n') (getX X d')))
  rw [can_cP hU]
  have e : (evFn T SN5 noL 1 Try.f52 [.rp (cP (words X) n z c v pc ld st ex aq rl ta vv w) 0, .agg (cI op' w' d' n' m' a' imm' off' cond' r' s')]).run =
    if decide (0 ≤ IntKind.i64.wrap (16 * s')) = true then
    (if (op' == 13) = true then some (.u 64 (getX X n' &&& imm')) else if (op' == 14) = true then some (.u 64 (getX X n' ||| imm')) else if (op' == 15) = true then some (.u 64 (getX X n' ^^^ imm'))
      else if (op' == 16) = true then some (.u 64 (imm' <<< (IntKind.i64.wrap (16 * s')).toNat)) else if (op' == 17) = true then some (.u 64 (~~~(imm' <<< (IntKind.i64.wrap (16 * s')).toNat)))
      else if decide (0 ≤ IntKind.i64.wrap (16 * s')) = true then some (.u 64 (getX X d' &&& ~~~(BitVec.ofInt 64 65535 <<< (IntKind.i64.wrap (16 * s')).toNat) ||| imm' <<< (IntKind.i64.wrap (16 * s')).toNat)) else none) else none := by kernel_rfl
  rw [e, h]
  simp only [if_true, some_iteW]
  rfl
def shiftsA (op : Int) (x y : W64) : W64 :=
  if (op == 25) = true then x <<< (y &&& BitVec.ofInt 64 63).toNat else if (op == 26) = true then x >>> (y &&& BitVec.ofInt 64 63).toNat
  else if (op == 27) = true then BitVec.ofInt 64 (IntKind.i64.wrap (x.toNat : Int) / 2 ^ (y &&& BitVec.ofInt 64 63).toNat)
  else turn x (IntKind.i64.wrap (-IntKind.i64.wrap ((y &&& BitVec.ofInt 64 63).toNat : Int))) 8
def sr54 : CSpec
  | [.rp (cP X n z c v pc ld st ex aq rl ta vv w) 0, .agg (cI op' w' d' n' m' a' imm' off' cond' r' s')] => (match allU X 31 with
    | true => some ⟨[], .u 64 (shiftsA op' (getX X n') (getX X m'))⟩
    | false => none)
  | _ => none
theorem okr54 : FnOk Try.prog 54 sr54 := okC SN5_ok Try.func54 (by kernel_rfl) (by kernel_rfl) 1 <| by
  intro xs r hs
  unfold sr54 at hs; split at hs <;> try cases hs
  rename_i X n z c v pc ld st ex aq rl ta vv w op' w' d' n' m' a' imm' off' cond' r' s'
  split at hs <;> cases hs
  rename_i hU
  rintro hp _
  show (evFn T SN5 noL 1 Try.f54 [.rp ((cP X n z c v pc ld st ex aq rl ta vv w).map canA) 0, .agg (cI op' w' d' n' m' a' imm' off' cond' r' s')]).run = some (.u 64 (shiftsA op' (getX X n') (getX X m')))
  rw [can_cP hU]
  have e : (evFn T SN5 noL 1 Try.f54 [.rp (cP (words X) n z c v pc ld st ex aq rl ta vv w) 0, .agg (cI op' w' d' n' m' a' imm' off' cond' r' s')]).run =
    (if (op' == 25) = true then some (.u 64 (getX X n' <<< (getX X m' &&& BitVec.ofInt 64 63).toNat)) else if (op' == 26) = true then some (.u 64 (getX X n' >>> (getX X m' &&& BitVec.ofInt 64 63).toNat))
      else if (op' == 27) = true then some (.u 64 (BitVec.ofInt 64 (IntKind.i64.wrap ((getX X n').toNat : Int) / 2 ^ (getX X m' &&& BitVec.ofInt 64 63).toNat)))
      else some (.u 64 (turn (getX X n') (IntKind.i64.wrap (-IntKind.i64.wrap ((getX X m' &&& BitVec.ofInt 64 63).toNat : Int))) 8))) := by kernel_rfl
  rw [e]
  simp only [some_iteW]
  rfl
def fldX (r s : Int) (x : W64) : W64 := if decide (r ≤ s) = true then x >>> r.toNat else x
def fldN (r s : Int) : Int := if decide (r ≤ s) = true then IntKind.i64.wrap (IntKind.i64.wrap (s - r) + 1) else IntKind.i64.wrap (s + 1)
def fldK (r s : Int) : Int := IntKind.i64.wrap (64 - fldN r s)
def fldL (r s : Int) : Int := if decide (r ≤ s) = true then 0 else (BitVec.ofInt 64 (IntKind.i64.wrap (64 - r)) &&& BitVec.ofInt 64 63).toInt
def fieldA (op r s : Int) (x : W64) : W64 :=
  if (op == 29) = true then fldX r s x <<< (fldK r s).toNat >>> (fldK r s).toNat <<< (fldL r s).toNat
  else BitVec.ofInt 64 (IntKind.i64.wrap ((fldX r s x <<< (fldK r s).toNat).toNat : Int) / 2 ^ (fldK r s).toNat) <<< (fldL r s).toNat
def sr55 : CSpec
  | [.rp (cP X n z c v pc ld st ex aq rl ta vv w) 0, .agg (cI op' w' d' n' m' a' imm' off' cond' r' s')] => (match allU X 31 with
    | true => some ⟨[if decide (r' ≤ s') = true then decide (0 ≤ r') else true, decide (0 ≤ fldL r' s'), decide (0 ≤ fldK r' s')], .u 64 (fieldA op' r' s' (getX X n'))⟩
    | false => none)
  | _ => none
theorem okr55 : FnOk Try.prog 55 sr55 := okC SN5_ok Try.func55 (by kernel_rfl) (by kernel_rfl) 1 <| by
  intro xs r hs
  unfold sr55 at hs; split at hs <;> try cases hs
  rename_i X n z c v pc ld st ex aq rl ta vv w op' w' d' n' m' a' imm' off' cond' r' s'
  split at hs <;> cases hs
  rename_i hU
  rintro hp _
  have h1 := hp _ (List.mem_cons_self ..)
  have h2 := hp _ (List.mem_cons_of_mem _ (List.mem_cons_self ..))
  have h3 := hp _ (List.mem_cons_of_mem _ (List.mem_cons_of_mem _ (List.mem_cons_self ..)))
  show (evFn T SN5 noL 1 Try.f55 [.rp ((cP X n z c v pc ld st ex aq rl ta vv w).map canA) 0, .agg (cI op' w' d' n' m' a' imm' off' cond' r' s')]).run = some (.u 64 (fieldA op' r' s' (getX X n')))
  rw [can_cP hU]
  have e : (evFn T SN5 noL 1 Try.f55 [.rp (cP (words X) n z c v pc ld st ex aq rl ta vv w) 0, .agg (cI op' w' d' n' m' a' imm' off' cond' r' s')]).run =
    if (if decide (r' ≤ s') = true then decide (0 ≤ r') else true) = true then
    if (if (op' == 29) = true then decide (0 ≤ fldL r' s') else true) = true then
    if (if (op' == 29) = true then decide (0 ≤ fldK r' s') else true) = true then
    if (if (op' == 29) = true then decide (0 ≤ fldK r' s') else true) = true then
    (if (op' == 29) = true then some (.u 64 (fldX r' s' (getX X n') <<< (fldK r' s').toNat >>> (fldK r' s').toNat <<< (fldL r' s').toNat))
    else if decide (0 ≤ fldL r' s') = true then if decide (0 ≤ fldK r' s') = true then if decide (0 ≤ fldK r' s') = true then
      some (.u 64 (BitVec.ofInt 64 (IntKind.i64.wrap ((fldX r' s' (getX X n') <<< (fldK r' s').toNat).toNat : Int) / 2 ^ (fldK r' s').toNat) <<< (fldL r' s').toNat)) else none else none else none) else none else none else none else none := by kernel_rfl
  rw [e, h1, h2, h3]
  simp only [if_true, ite_self, some_iteW]
  rfl
noncomputable abbrev SN7 : FuncId → CSpec := withS (withS (withS SN5 52 sr52) 54 sr54) 55 sr55
theorem SN7_ok : ∀ f, FnOk Try.prog f (SN7 f) := withS_ok (withS_ok (withS_ok SN5_ok okr52) okr54) okr55
end Go.Proofs.Ytocfkaihfjbfnaa
set_option maxRecDepth 100000
namespace Go.Proofs.Ytocfkaihfjbfnaa
open Go.Proofs.Ytocfkaihfjbfnaa.Ev Go.RowKit
/- What an instruction without flags gives: words, shifts, fields, choices. -/
def pre1 (op s : Int) : Bool := if decide (op ≤ 12) = true then true else if decide (op ≤ 18) = true then decide (0 ≤ IntKind.i64.wrap (16 * s)) else true
def pre2 (op : Int) (p : Bool) : Bool := if decide (op ≤ 12) = true then true else if decide (op ≤ 18) = true then true else if decide (op ≤ 24) = true then true else if decide (op ≤ 28) = true then true else if decide (op ≤ 30) = true then p else true
def valueA (op : Int) (s r : Int) (imm x y d : W64) (h : Bool) : W64 :=
  if decide (op ≤ 18) = true then wordsA op s imm x d else if decide (op ≤ 28) = true then shiftsA op x y else if decide (op ≤ 30) = true then fieldA op r s x
  else if h = true then x else if (op == 31) = true then y else y + BitVec.ofInt 64 1
def flagless (op : Int) : Bool := (decide (13 ≤ op) && decide (op ≤ 18)) || decide (25 ≤ op)
def sr31 : CSpec
  | [.rp (cP X n z c v pc ld st ex aq rl ta vv w) 0, .agg (cI op' w' d' n' m' a' imm' off' cond' r' s')] => (match allU X 31, flagless op' with
    | true, true => some ⟨[pre1 op' s', pre2 op' (if decide (r' ≤ s') = true then decide (0 ≤ r') else true), pre2 op' (decide (0 ≤ fldL r' s')), pre2 op' (decide (0 ≤ fldK r' s'))], .u 64 (valueA op' s' r' imm' (getX X n') (getX X m') (getX X d') (holds n z c v cond'))⟩
    | _, _ => none)
  | _ => none
theorem okr31 : FnOk Try.prog 31 sr31 := okC SN7_ok Try.func31 (by kernel_rfl) (by kernel_rfl) 1 <| by
  intro xs r hs
  unfold sr31 at hs; split at hs <;> try cases hs
  rename_i X n z c v pc ld st ex aq rl ta vv w op' w' d' n' m' a' imm' off' cond' r' s'
  split at hs <;> cases hs
  rename_i hU hfl
  rintro hp _
  have h1 := hp _ (List.mem_cons_self ..)
  have h2 := hp _ (List.mem_cons_of_mem _ (List.mem_cons_self ..))
  have h3 := hp _ (List.mem_cons_of_mem _ (List.mem_cons_of_mem _ (List.mem_cons_self ..)))
  have h4 := hp _ (List.mem_cons_of_mem _ (List.mem_cons_of_mem _ (List.mem_cons_of_mem _ (List.mem_cons_self ..))))
  show (evFn T SN7 noL 1 Try.f31 [.rp ((cP X n z c v pc ld st ex aq rl ta vv w).map canA) 0, .agg (cI op' w' d' n' m' a' imm' off' cond' r' s')]).run = some (.u 64 (valueA op' s' r' imm' (getX X n') (getX X m') (getX X d') (holds n z c v cond')))
  rw [can_cP hU]
  have e : (evFn T SN7 noL 1 Try.f31 [.rp (cP (words X) n z c v pc ld st ex aq rl ta vv w) 0, .agg (cI op' w' d' n' m' a' imm' off' cond' r' s')]).run =
    if pre1 op' s' = true then if pre2 op' (if decide (r' ≤ s') = true then decide (0 ≤ r') else true) = true then if pre2 op' (decide (0 ≤ fldL r' s')) = true then if pre2 op' (decide (0 ≤ fldK r' s')) = true then
    (if decide (op' ≤ 12) = true then none else if decide (op' ≤ 18) = true then some (.u 64 (wordsA op' s' imm' (getX X n') (getX X d'))) else if decide (op' ≤ 24) = true then none
      else if decide (op' ≤ 28) = true then some (.u 64 (shiftsA op' (getX X n') (getX X m'))) else if decide (op' ≤ 30) = true then some (.u 64 (fieldA op' r' s' (getX X n')))
      else if holds n z c v cond' = true then some (.u 64 (getX X n')) else if (op' == 31) = true then some (.u 64 (getX X m')) else some (.u 64 (getX X m' + BitVec.ofInt 64 1))) else none else none else none else none := by kernel_rfl
  rw [e, if_pos h1, if_pos h2, if_pos h3, if_pos h4]
  simp only [some_iteW]
  unfold flagless at hfl
  simp only [Bool.or_eq_true, Bool.and_eq_true, decide_eq_true_eq] at hfl
  have h12 : ¬ op' ≤ 12 := by omega
  simp only [h12, decide_false, Bool.false_eq_true, if_false]
  unfold valueA
  by_cases h18 : op' ≤ 18
  · simp [h18]
  · have h24 : ¬ op' ≤ 24 := by omega
    simp only [h18, h24, decide_false, Bool.false_eq_true, if_false, some_iteW]
noncomputable abbrev SN8 : FuncId → CSpec := withS SN7 31 sr31
theorem SN8_ok : ∀ f, FnOk Try.prog f (SN8 f) := withS_ok SN7_ok okr31
end Go.Proofs.Ytocfkaihfjbfnaa
set_option maxRecDepth 100000
namespace Go.Proofs.Ytocfkaihfjbfnaa
open Go.Proofs.Ytocfkaihfjbfnaa.Ev Go.RowKit
/- Done, for valid instructions without flags. -/
def sr13B : CSpec
  | [.obj (cP X n z c v pc ld st ex aq rl ta vv w), .agg (cI op' w' d' n' m' a' imm' off' cond' r' s'), .u 64 x, .b y] => (match allU X 31, flagless op' && decide (op' ≤ 32) with
    | true, true => some ⟨[mayA op' w' d' n' m' a' imm' off' cond' r' s', pre1 op' s', pre2 op' (if decide (r' ≤ s') = true then decide (0 ≤ r') else true), pre2 op' (decide (0 ≤ fldL r' s')), pre2 op' (decide (0 ≤ fldK r' s'))],
        .fin (.i .i64 0) [cP (setX X d' (valueA op' s' r' imm' (getX X n') (getX X m') (getX X d') (holds n z c v cond'))) n z c v (pc + BitVec.ofInt 64 4) ld st ex aq rl ta vv w]⟩
    | _, _ => none)
  | _ => none
theorem okr13B : FnOk Try.prog 1000013 sr13B := okOC (f := 13) SN8_ok Try.func13 (by kernel_rfl) (by kernel_rfl) 1 <| by
  intro xs r hs
  unfold sr13B at hs; split at hs <;> try cases hs
  rename_i X n z c v pc ld st ex aq rl ta vv w op' w' d' n' m' a' imm' off' cond' r' s' x y
  split at hs <;> cases hs
  rename_i hU hfl
  rintro hp
  simp only [Bool.and_eq_true, decide_eq_true_eq] at hfl
  obtain ⟨hfl, h32⟩ := hfl
  have h0 := hp _ (List.mem_cons_self ..)
  have h1 := hp _ (List.mem_cons_of_mem _ (List.mem_cons_self ..))
  have h2 := hp _ (List.mem_cons_of_mem _ (List.mem_cons_of_mem _ (List.mem_cons_self ..)))
  have h3 := hp _ (List.mem_cons_of_mem _ (List.mem_cons_of_mem _ (List.mem_cons_of_mem _ (List.mem_cons_self ..))))
  have h4 := hp _ (List.mem_cons_of_mem _ (List.mem_cons_of_mem _ (List.mem_cons_of_mem _ (List.mem_cons_of_mem _ (List.mem_cons_self ..)))))
  show (evFnO T SN8 noL 1 Try.f13 [.obj ((cP X n z c v pc ld st ex aq rl ta vv w).map canA), .agg (cI op' w' d' n' m' a' imm' off' cond' r' s'), .u 64 x, .b y]).run = _
  rw [can_cP hU]
  -- the flagless test is closed by cases on the op's truth
  have hop : (13 ≤ op' ∧ op' ≤ 18) ∨ 25 ≤ op' := by
    unfold flagless at hfl
    simpa using hfl
  have key : op' = 13 ∨ op' = 14 ∨ op' = 15 ∨ op' = 16 ∨ op' = 17 ∨ op' = 18 ∨ op' = 25 ∨ op' = 26 ∨ op' = 27 ∨ op' = 28 ∨ op' = 29 ∨ op' = 30 ∨ op' = 31 ∨ op' = 32 := by omega
  have main : ∀ k : Int, k = 13 ∨ k = 14 ∨ k = 15 ∨ k = 16 ∨ k = 17 ∨ k = 18 ∨ k = 25 ∨ k = 26 ∨ k = 27 ∨ k = 28 ∨ k = 29 ∨ k = 30 ∨ k = 31 ∨ k = 32 →
    (evFnO T SN8 noL 1 Try.f13 [.obj (cP (words X) n z c v pc ld st ex aq rl ta vv w), .agg (cI k w' d' n' m' a' imm' off' cond' r' s'), .u 64 x, .b y]).run =
    if (!mayA k w' d' n' m' a' imm' off' cond' r' s') = true then some (.i .i64 4, [cP (words X) n z c v pc ld st ex aq rl ta vv w])
    else if pre1 k s' = true then if pre2 k (if decide (r' ≤ s') = true then decide (0 ≤ r') else true) = true then if pre2 k (decide (0 ≤ fldL r' s')) = true then if pre2 k (decide (0 ≤ fldK r' s')) = true then
      some (.i .i64 0, [cP (setX X d' (valueA k s' r' imm' (getX X n') (getX X m') (getX X d') (holds n z c v cond'))) n z c v (pc + BitVec.ofInt 64 4) ld st ex aq rl ta vv w]) else none else none else none else none := by
    rintro k (rfl | rfl | rfl | rfl | rfl | rfl | rfl | rfl | rfl | rfl | rfl | rfl | rfl | rfl)
    all_goals kernel_rfl
  rw [main op' key, h0, if_pos h1, if_pos h2, if_pos h3, if_pos h4]
  rfl
noncomputable abbrev SN9 : FuncId → CSpec := withS (withS SN8 1000013 sr13B) 16 sr16
theorem SN9_ok : ∀ f, FnOk Try.prog f (SN9 f) := withS_ok (withS_ok SN8_ok okr13B) okr16
end Go.Proofs.Ytocfkaihfjbfnaa
set_option maxRecDepth 100000
namespace Go.Proofs.Ytocfkaihfjbfnaa
open Go.Proofs.Ytocfkaihfjbfnaa.Ev Go.RowKit
def L5 : Nat → Live := fun _ => ⟨[0,2,3,9,10,74,75,76], [(28,0),(28,31),(28,32),(28,33),(28,34),(28,35),(28,36),(28,37),(28,38),(28,39),(28,40),(28,41),(28,42),(28,43)], [28], none⟩
def m63 (a : Int) : Int := (BitVec.ofInt 64 a &&& BitVec.ofInt 64 63).toInt
def lenB (b c : Int) : Int := if decide (c.tmod (IntKind.i64.wrap (64 - m63 b)) < 0) = true then IntKind.i64.wrap (-c.tmod (IntKind.i64.wrap (64 - m63 b))) else c.tmod (IntKind.i64.wrap (64 - m63 b))
def endB (b c : Int) : Int := IntKind.i64.wrap (m63 b + lenB b c)
def M0 (v : W64) (a : Int) : Nat → AV := fun j => .u 64 (if decide (j = 3) = true then BitVec.ofInt 64 (IntKind.i64.wrap (64 - m63 a)) else if decide (j = 2) = true then BitVec.ofInt 64 (m63 a) else if decide (j = 1) = true then v else 0#64)
def stepM (M : Nat → AV) (op d n m : Int) (imm : W64) (r s : Int) : Nat → AV := setX M d (valueA op s r imm (getX M n) (getX M m) (getX M d) (holds false false false false 0))
def M2 (v : W64) (a : Int) : Nat → AV := stepM (stepM (M0 v a) 28 4 1 2 0#64 0 0) 28 4 4 3 0#64 0 0
def M4 (v : W64) (a b c : Int) : Nat → AV := stepM (stepM (M2 v a) 29 5 1 0 0#64 (m63 b) (endB b c)) 30 6 1 0 0#64 (m63 b) (endB b c)
def M6 (v : W64) (a b c : Int) : Nat → AV := stepM (stepM (M4 v a b c) 16 7 0 0 (v &&& BitVec.ofInt 64 65535) 0 0) 18 7 0 0 (v >>> 16 &&& BitVec.ofInt 64 65535) 0 1
def M8 (v : W64) (a b c : Int) : Nat → AV := stepM (stepM (M6 v a b c) 18 7 0 0 (v >>> 32 &&& BitVec.ofInt 64 65535) 0 2) 18 7 0 0 (v >>> 48) 0 3
def sh13 (v : W64) (b : Int) : W64 := v >>> (BitVec.ofInt 64 (m63 b)).toNat
def sh14 (b c : Int) : Nat := (BitVec.ofInt 64 (IntKind.i64.wrap (63 - lenB b c))).toNat
def G4 (v : W64) (a b c : Int) : Bool := unU64 (M8 v a b c 4) == v
def G5 (v : W64) (a b c : Int) : Bool := if G4 v a b c = true then unU64 (M8 v a b c 5) == sh13 v b <<< sh14 b c >>> sh14 b c else false
def G6 (v : W64) (a b c : Int) : Bool := if G5 v a b c = true then unU64 (M8 v a b c 6) == BitVec.ofInt 64 (IntKind.i64.wrap ((sh13 v b <<< sh14 b c).toNat : Int) / 2 ^ sh14 b c) else false
def G7 (v : W64) (a b c : Int) : Bool := if G6 v a b c = true then unU64 (M8 v a b c 7) == v else false
def okF (op : Int) (b c : Int) : Bool := mayA op 8 (if op == 29 then 5 else 6) 1 0 0 0#64 0 0 (m63 b) (endB b c)
theorem run5 (v : W64) (a b c : Int) : (evFn T SN9 L5 10 Try.f5 [.u 64 v, .i .i64 a, .i .i64 b, .i .i64 c]).run =
    if (!(IntKind.i64.wrap (64 - m63 b) == 0)) = true then
    if mayA 29 8 5 1 0 0 0#64 0 0 (m63 b) (endB b c) = true then if (if decide (m63 b ≤ endB b c) = true then decide (0 ≤ m63 b) else true) = true then if decide (0 ≤ fldL (m63 b) (endB b c)) = true then if decide (0 ≤ fldK (m63 b) (endB b c)) = true then
    if mayA 30 8 6 1 0 0 0#64 0 0 (m63 b) (endB b c) = true then if (if decide (m63 b ≤ endB b c) = true then decide (0 ≤ m63 b) else true) = true then if decide (0 ≤ fldL (m63 b) (endB b c)) = true then if decide (0 ≤ fldK (m63 b) (endB b c)) = true then
    if mayA 16 8 7 0 0 0 (v &&& BitVec.ofInt 64 65535) 0 0 0 0 = true then if mayA 18 8 7 0 0 0 (v >>> 16 &&& BitVec.ofInt 64 65535) 0 0 0 1 = true then if mayA 18 8 7 0 0 0 (v >>> 32 &&& BitVec.ofInt 64 65535) 0 0 0 2 = true then if mayA 18 8 7 0 0 0 (v >>> 48) 0 0 0 3 = true then
    if (if G6 v a b c = true then decide ((0 : Int) ≤ 7) else true) = true then if (if G6 v a b c = true then decide ((7 : Int) < 31) else true) = true then
    if (if G5 v a b c = true then decide ((0 : Int) ≤ 6) else true) = true then if (if G5 v a b c = true then decide ((6 : Int) < 31) else true) = true then
    if (if G4 v a b c = true then decide ((0 : Int) ≤ 5) else true) = true then if (if G4 v a b c = true then decide ((5 : Int) < 31) else true) = true then
    some (.b (if G7 v a b c = true then true else false)) else none else none else none else none else none else none else none else none else none else none else none else none else none else none else none else none else none else none else none := by kernel_rfl
end Go.Proofs.Ytocfkaihfjbfnaa
set_option maxRecDepth 100000
namespace Go.Proofs.Ytocfkaihfjbfnaa
open Go.Proofs.Ytocfkaihfjbfnaa.Ev Go.RowKit
theorem m63_bounds (a : Int) : 0 ≤ m63 a ∧ m63 a ≤ 63 := by
  unfold m63
  have h : (BitVec.ofInt 64 a &&& BitVec.ofInt 64 63).toNat ≤ 63 := by rw [BitVec.toNat_and]; exact Nat.and_le_right
  rw [BitVec.toInt_eq_toNat_of_lt (by omega)]
  omega
theorem wrapS {x : Int} (h1 : -9223372036854775808 ≤ x) (h2 : x ≤ 9223372036854775807) : IntKind.i64.wrap x = x := wrap_small x h1 h2
theorem lenB_bounds (b c : Int) : 0 ≤ lenB b c ∧ lenB b c ≤ 63 - m63 b := by
  obtain ⟨h1, h2⟩ := m63_bounds b
  unfold lenB
  rw [wrapS (x := 64 - m63 b) (by omega) (by omega)]
  have hp : 0 < 64 - m63 b := by omega
  have h3 := Int.tmod_lt_of_pos c hp
  have h4 : -(64 - m63 b) < c.tmod (64 - m63 b) := by
    have := Int.lt_tmod_of_pos c hp
    omega
  rw [wrapS (x := -c.tmod (64 - m63 b)) (by omega) (by omega)]
  by_cases h : c.tmod (64 - m63 b) < 0
  · simp [h]; omega
  · simp [h]; omega
theorem endB_eq (b c : Int) : endB b c = m63 b + lenB b c := by
  obtain ⟨h1, h2⟩ := m63_bounds b
  obtain ⟨h3, h4⟩ := lenB_bounds b c
  exact wrapS (by omega) (by omega)
/- valid: fields -/
theorem may_field (op d : Int) (r s : Int) (hop : op = 29 ∧ d = 5 ∨ op = 30 ∧ d = 6) (hr : 0 ≤ r ∧ r ≤ 63) (hs : 0 ≤ s ∧ s ≤ 63) : mayA op 8 d 1 0 0 0#64 0 0 r s = true := by
  have h1 : decide (0 ≤ s) = true := by simpa using hs.1
  have h2 : decide (s ≤ 63) = true := by simpa using hs.2
  have h3 : decide (0 ≤ r) = true := by simpa using hr.1
  have h4 : decide (r ≤ 63) = true := by simpa using hr.2
  rcases hop with ⟨rfl, rfl⟩ | ⟨rfl, rfl⟩ <;>
    simp [mayA, badA, restA, sameSh, inB, shD, shN, shM, shA, shI, shO, shC, shR, shS, isW, regsB, numsB, h1, h2, h3, h4, hs, hr]
end Go.Proofs.Ytocfkaihfjbfnaa
set_option maxRecDepth 100000
namespace Go.Proofs.Ytocfkaihfjbfnaa
open Go.Proofs.Ytocfkaihfjbfnaa.Ev Go.RowKit
theorem reg5 (v : W64) (a b c : Int) : unU64 (M8 v a b c 5) = fieldA 29 (m63 b) (endB b c) v := by kernel_rfl
theorem reg6 (v : W64) (a b c : Int) : unU64 (M8 v a b c 6) = fieldA 30 (m63 b) (endB b c) v := by kernel_rfl
def rorK (x : W64) (k : W64) : W64 := turn x (IntKind.i64.wrap (-IntKind.i64.wrap ((k &&& BitVec.ofInt 64 63).toNat : Int))) 8
theorem reg4 (v : W64) (a b c : Int) : unU64 (M8 v a b c 4) = rorK (rorK v (BitVec.ofInt 64 (m63 a))) (BitVec.ofInt 64 (IntKind.i64.wrap (64 - m63 a))) := by kernel_rfl
def mk (d imm : W64) (k : Nat) : W64 := d &&& ~~~(BitVec.ofInt 64 65535 <<< k) ||| imm <<< k
theorem reg7 (v : W64) (a b c : Int) : unU64 (M8 v a b c 7) = mk (mk (mk ((v &&& BitVec.ofInt 64 65535) <<< 0) (v >>> 16 &&& BitVec.ofInt 64 65535) 16) (v >>> 32 &&& BitVec.ofInt 64 65535) 32) (v >>> 48) 48 := by kernel_rfl
theorem mk_all (v : W64) : mk (mk (mk ((v &&& BitVec.ofInt 64 65535) <<< 0) (v >>> 16 &&& BitVec.ofInt 64 65535) 16) (v >>> 32 &&& BitVec.ofInt 64 65535) 32) (v >>> 48) 48 = v := by
  apply BitVec.eq_of_getLsbD_eq
  intro i hi
  have hall : ∀ j : Fin 64, (BitVec.ofInt 64 65535 : W64).getLsbD j.val = decide (j.val < 16) := by decide +kernel
  have m : ∀ j, j < 64 → (BitVec.ofInt 64 65535 : W64).getLsbD j = decide (j < 16) := fun j hj => hall ⟨j, hj⟩
  simp only [mk, BitVec.getLsbD_or, BitVec.getLsbD_and, BitVec.getLsbD_not, BitVec.getLsbD_shiftLeft, BitVec.getLsbD_ushiftRight, hi, decide_true, Bool.true_and]
  rw [Nat.sub_zero, m i hi, m (i - 16) (by omega), m (i - 32) (by omega), m (i - 48) (by omega)]
  rcases Nat.lt_or_ge i 16 with h | h
  · simp [h, show i < 32 by omega, show i < 48 by omega]
  · rcases Nat.lt_or_ge i 32 with h2 | h2
    · simp [show ¬ i < 16 by omega, h2, show i < 48 by omega, show i - 16 < 16 by omega, show 16 + (i - 16) = i by omega]
    · rcases Nat.lt_or_ge i 48 with h3 | h3
      · simp [show ¬ i < 16 by omega, show ¬ i < 32 by omega, h3, show i - 32 < 16 by omega, show ¬ i - 16 < 16 by omega, show 32 + (i - 32) = i by omega]
      · simp [show ¬ i < 16 by omega, show ¬ i < 32 by omega, show ¬ i < 48 by omega, show i - 48 < 16 by omega, show 48 + (i - 48) = i by omega]
end Go.Proofs.Ytocfkaihfjbfnaa
set_option maxRecDepth 100000
namespace Go.Proofs.Ytocfkaihfjbfnaa
open Go.Proofs.Ytocfkaihfjbfnaa.Ev Go.RowKit
theorem and63 (k : Nat) (h : k ≤ 64) : (BitVec.ofNat 64 k &&& BitVec.ofInt 64 63).toNat = k % 64 := by
  have hall : ∀ j : Fin 65, (BitVec.ofNat 64 j.val &&& BitVec.ofInt 64 63).toNat = j.val % 64 := by decide +kernel
  exact hall ⟨k, by omega⟩
theorem rorK_eq (x : W64) (k : Nat) (h : k ≤ 64) : rorK x (BitVec.ofInt 64 (k : Int)) = turnN x ((64 - k % 64) % 64) 64 := by
  unfold rorK turn
  have e : BitVec.ofInt 64 (k : Int) = BitVec.ofNat 64 k := BitVec.ofInt_natCast ..
  rw [e, and63 k h]
  have hn : nb 8 = 64 := rfl
  rw [hn, wrapS (x := ((k % 64 : Nat) : Int)) (by omega) (by omega), wrapS (x := -((k % 64 : Nat) : Int)) (by omega) (by omega)]
  congr 1
  omega
theorem ror_ror (v : W64) (a : Int) : rorK (rorK v (BitVec.ofInt 64 (m63 a))) (BitVec.ofInt 64 (IntKind.i64.wrap (64 - m63 a))) = v := by
  obtain ⟨h1, h2⟩ := m63_bounds a
  obtain ⟨k, hk⟩ : ∃ k : Nat, m63 a = k := ⟨(m63 a).toNat, by omega⟩
  rw [hk] at h1 h2 ⊢
  rw [wrapS (by omega) (by omega), show (64 : Int) - (k : Int) = ((64 - k : Nat) : Int) by omega, rorK_eq _ _ (by omega), rorK_eq _ _ (by omega)]
  rw [turn_turn v (by omega) (by omega) (by omega) (by omega)]
  apply BitVec.eq_of_getLsbD_eq
  intro i hi
  rw [low_get v (by omega)]
  simp [hi]
theorem fldL0 {r s : Int} (h : r ≤ s) : fldL r s = 0 := by simp [fldL, h]
theorem fldK_eq (b c : Int) : fldK (m63 b) (endB b c) = 63 - lenB b c := by
  obtain ⟨h1, h2⟩ := m63_bounds b
  obtain ⟨h3, h4⟩ := lenB_bounds b c
  have hle : m63 b ≤ endB b c := by rw [endB_eq]; omega
  unfold fldK fldN
  simp only [hle, decide_true, if_true]
  rw [endB_eq, wrapS (x := m63 b + lenB b c - m63 b) (by omega) (by omega), wrapS (x := m63 b + lenB b c - m63 b + 1) (by omega) (by omega), wrapS (by omega) (by omega)]
  omega
theorem sh14_eq (b c : Int) : sh14 b c = (63 - lenB b c).toNat := by
  obtain ⟨h1, h2⟩ := m63_bounds b
  obtain ⟨h3, h4⟩ := lenB_bounds b c
  unfold sh14
  rw [wrapS (by omega) (by omega), BitVec.toNat_ofInt]
  omega
theorem sh13_eq (v : W64) (b : Int) : sh13 v b = v >>> (m63 b).toNat := by
  obtain ⟨h1, h2⟩ := m63_bounds b
  unfold sh13
  rw [BitVec.toNat_ofInt]
  congr 1
  omega
theorem may_words (op : Int) (imm : W64) (s : Int) (hop : op = 16 ∨ op = 18) (hi : imm.toNat < 65536) (hs : 0 ≤ s ∧ s ≤ 3) : mayA op 8 7 0 0 0 imm 0 0 0 s = true := by
  have h1 : s ≤ 63 := by omega
  rcases hop with rfl | rfl <;>
    simp [mayA, badA, restA, sameSh, inB, shD, shN, shM, shA, shI, shO, shC, shR, shS, isW, regsB, numsB, hs, hi, h1]
end Go.Proofs.Ytocfkaihfjbfnaa
set_option maxRecDepth 100000
namespace Go.Proofs.Ytocfkaihfjbfnaa
open Go.Proofs.Ytocfkaihfjbfnaa.Ev Go.RowKit
theorem and16 (x : W64) : (x &&& BitVec.ofInt 64 65535).toNat < 65536 := by
  have : (x &&& BitVec.ofInt 64 65535).toNat ≤ 65535 := by rw [BitVec.toNat_and]; exact Nat.and_le_right
  omega
theorem g4 (v : W64) (a b c : Int) : G4 v a b c = true := by
  unfold G4; rw [reg4, ror_ror]; simp
theorem g5 (v : W64) (a b c : Int) : G5 v a b c = true := by
  obtain ⟨h3, h4⟩ := lenB_bounds b c
  have hle : m63 b ≤ endB b c := by rw [endB_eq]; omega
  unfold G5
  rw [g4, reg5, sh13_eq, sh14_eq]
  simp [fieldA, fldK_eq, fldL0 hle, fldX, hle]
theorem g6 (v : W64) (a b c : Int) : G6 v a b c = true := by
  obtain ⟨h3, h4⟩ := lenB_bounds b c
  have hle : m63 b ≤ endB b c := by rw [endB_eq]; omega
  unfold G6
  rw [g5, reg6, sh13_eq, sh14_eq]
  simp [fieldA, fldK_eq, fldL0 hle, fldX, hle]
theorem g7 (v : W64) (a b c : Int) : G7 v a b c = true := by
  unfold G7
  rw [g6, reg7, mk_all]; simp
theorem lawAsemBits (v : W64) (a b c : Int) : (evFn T SN9 L5 10 Try.f5 [.u 64 v, .i .i64 a, .i .i64 b, .i .i64 c]).run = some (.b true) := by
  obtain ⟨h1, h2⟩ := m63_bounds b
  obtain ⟨h3, h4⟩ := lenB_bounds b c
  have hle : m63 b ≤ endB b c := by rw [endB_eq]; omega
  have he : 0 ≤ endB b c ∧ endB b c ≤ 63 := by rw [endB_eq]; omega
  rw [run5]
  have c0 : (!(IntKind.i64.wrap (64 - m63 b) == 0)) = true := by
    rw [wrapS (by omega) (by omega)]
    simp; omega
  have c1 : (if decide (m63 b ≤ endB b c) = true then decide (0 ≤ m63 b) else true) = true := by simp [hle, h1]
  have c2 : decide (0 ≤ fldL (m63 b) (endB b c)) = true := by simp [fldL0 hle]
  have c3 : decide (0 ≤ fldK (m63 b) (endB b c)) = true := by rw [fldK_eq]; simp; omega
  have hs : (v >>> 48).toNat < 65536 := by
    rw [BitVec.toNat_ushiftRight, Nat.shiftRight_eq_div_pow]
    have := v.isLt
    omega
  rw [if_pos c0, if_pos (may_field 29 5 _ _ (.inl ⟨rfl, rfl⟩) ⟨h1, h2⟩ he), if_pos c1, if_pos c2, if_pos c3, if_pos (may_field 30 6 _ _ (.inr ⟨rfl, rfl⟩) ⟨h1, h2⟩ he), if_pos c1, if_pos c2, if_pos c3,
    if_pos (may_words 16 _ 0 (.inl rfl) (and16 _) (by omega)), if_pos (may_words 18 _ 1 (.inr rfl) (and16 _) (by omega)), if_pos (may_words 18 _ 2 (.inr rfl) (and16 _) (by omega)), if_pos (may_words 18 _ 3 (.inr rfl) hs (by omega)), g4, g5, g6, g7]
  simp
theorem loops5 : FnLoops T SN9 L5 10 Try.f5 := FnLoops.no (by kernel_rfl)
end Go.Proofs.Ytocfkaihfjbfnaa
