/- Lemmas: the machine's registers and flags, and the functions that read and set them, each shown by the evaluator. No condition. -/
import Derived.Test.YtocfkaihfjbfnaaBits
import Derived.Test.YtocfkaihfjbfnaaEvC
set_option linter.unusedVariables false
set_option linter.unusedSimpArgs false
set_option maxRecDepth 100000
namespace Go.Proofs.Ytocfkaihfjbfnaa
open Go.Proofs.Ytocfkaihfjbfnaa.Ev Go.RowKit
/- The machine's cells: the reference's, the program's. -/
@[match_pattern] abbrev cR (X : Nat → AV) (n z c v : Bool) (pc : BitVec 64) (k : Int) (ex aq rl : Bool) (ta vv : BitVec 64) (w : Int) : List AV := [.ar 31 X, .b n, .b z, .b c, .b v, .u 64 pc, .i .i64 k, .b ex, .b aq, .b rl, .u 64 ta, .u 64 vv, .i .i64 w]
@[match_pattern] abbrev cP (X : Nat → AV) (n z c v : Bool) (pc : BitVec 64) (ld st ex aq rl : Bool) (ta vv : BitVec 64) (w : Int) : List AV := [.ar 31 X, .b n, .b z, .b c, .b v, .u 64 pc, .b ld, .b st, .b ex, .b aq, .b rl, .u 64 ta, .u 64 vv, .i .i64 w]
theorem can_cR {X : Nat → AV} {n z c v : Bool} {pc : BitVec 64} {k : Int} {ex aq rl : Bool} {ta vv : BitVec 64} {w : Int} (h : allU X 31 = true) : (cR X n z c v pc k ex aq rl ta vv w).map canA = cR (words X) n z c v pc k ex aq rl ta vv w := by
  simp only [List.map, canA, h]
theorem can_cP {X : Nat → AV} {n z c v : Bool} {pc : BitVec 64} {ld st ex aq rl : Bool} {ta vv : BitVec 64} {w : Int} (h : allU X 31 = true) : (cP X n z c v pc ld st ex aq rl ta vv w).map canA = cP (words X) n z c v pc ld st ex aq rl ta vv w := by
  simp only [List.map, canA, h]
theorem okC {S : FuncId → CSpec} (hS : ∀ f, FnOk Try.prog f (S f)) {f : FuncId} {fn : Func} (hf : Try.prog.funcs[f]? = some fn) (hname : (fn.name == "runtime.NumGoroutine") = false) (hbody : fn.body.isNone = false) {s : CSpec} (N : Nat)
    (h : ∀ xs r, s xs = some r → (∀ c ∈ r.pre, c = true) → (∃ w R vs, TR (baseC w R) xs vs) → (evFn T S noL N fn (xs.map canV)).run = some r.res) (hlt : f < offO := by decide) : FnOk Try.prog f s :=
  FnOk.ofC tyOk hS mixed hf hname hbody (fun xs r hs hp w R vs hvs => ⟨N, noL_ok, h xs r hs hp ⟨w, R, vs, hvs⟩⟩) hlt
theorem okPC {S : FuncId → CSpec} (hS : ∀ f, FnOk Try.prog f (S f)) {f : FuncId} {fn : Func} (hf : Try.prog.funcs[f]? = some fn) (hname : (fn.name == "runtime.NumGoroutine") = false) (hbody : fn.body.isNone = false) {s : CSpec} (N : Nat)
    (h : ∀ xs r, s xs = some r → (∀ c ∈ r.pre, c = true) → (∃ w R vs, TR (baseC w R) xs vs) → (evFnP T S noL N fn (xs.map canV)).run = some r.res) : FnOk Try.prog (2000000 + f) s :=
  FnOk.ofPC tyOk hS mixed hf hname hbody (fun xs r hs hp w R vs hvs => ⟨N, noL_ok, h xs r hs hp ⟨w, R, vs, hvs⟩⟩)
theorem okOC {S : FuncId → CSpec} (hS : ∀ f, FnOk Try.prog f (S f)) {f : FuncId} {fn : Func} (hf : Try.prog.funcs[f]? = some fn) (hname : (fn.name == "runtime.NumGoroutine") = false) (hbody : fn.body.isNone = false) {s : CSpec} (N : Nat)
    (h : ∀ xs r, s xs = some r → (∀ c ∈ r.pre, c = true) → (evFnO T S noL N fn (xs.map canV)).run = some (r.val, r.outs)) (hlt : f < offO := by decide) : FnOk Try.prog (1000000 + f) s :=
  FnOk.ofOC tyOk hS mixed hf hname hbody (fun xs r hs hp w R vs os hvs => ⟨N, noL_ok, h xs r hs hp⟩) hlt

/- Fit: marks other than a read's become none. -/
def sr7 : CSpec
  | [.agg (cR X n z c v pc k ex aq rl ta vv w)] => (match allU X 31 with
    | true => some ⟨[], .agg (cR (words X) n z c v pc (bif k == 1 then 1 else 0) (bif k == 1 then ex else false) (bif k == 1 then aq else false) (bif k == 1 then rl else false) (bif k == 1 then ta else 0#64) (bif k == 1 then vv else 0#64) (bif k == 1 then w else 0))⟩
    | false => none)
  | _ => none
theorem okr7 : FnOk Try.prog 7 sr7 := okC noS_ok Try.func7 (by kernel_rfl) (by kernel_rfl) 1 <| by
  intro xs r hs
  unfold sr7 at hs; split at hs <;> try cases hs
  rename_i X n z c v pc k ex aq rl ta vv w
  split at hs <;> cases hs
  rename_i hU
  intro hp _
  show (evFn T noS noL 1 Try.f7 [.agg ((cR X n z c v pc k ex aq rl ta vv w).map canA)]).run = _
  rw [can_cR hU]
  have e : (evFn T noS noL 1 Try.f7 [.agg (cR (words X) n z c v pc k ex aq rl ta vv w)]).run = some (.agg (cR (words X) n z c v pc (if (k != 1) = true then 0 else k) (if (k != 1) = true then false else ex) (if (k != 1) = true then false else aq) (if (k != 1) = true then false else rl) (if (k != 1) = true then 0#64 else ta) (if (k != 1) = true then 0#64 else vv) (if (k != 1) = true then 0 else w))) := by kernel_rfl
  rw [e]
  cases h : k == 1 with
  | true =>
    have : k = 1 := by simpa using h
    subst this; rfl
  | false => simp only [bne, h]; rfl
def sr25 : CSpec | [.agg [.i .i64 k, .b ex, .b aq, .b rl, .u 64 ta, .u 64 vv, .i .i64 w]] => some ⟨[], .agg [.b (k == 1), .b (k == 2), .b ex, .b aq, .b rl, .u 64 ta, .u 64 vv, .i .i64 w]⟩ | _ => none
theorem okr25 : FnOk Try.prog 25 sr25 := okBy noS_ok Try.func25 (by kernel_rfl) (by kernel_rfl) 1 <| by
  intro xs r hs
  unfold sr25 at hs; split at hs <;> cases hs
  intro hp _
  kernel_rfl
def sr9 : CSpec | [.agg [.b ld, .b st, .b ex, .b aq, .b rl, .u 64 ta, .u 64 vv, .i .i64 w]] => some ⟨[], .agg [.i .i64 (bif st then 2 else bif ld then 1 else 0), .b ex, .b aq, .b rl, .u 64 ta, .u 64 vv, .i .i64 w]⟩ | _ => none
theorem okr9 : FnOk Try.prog 9 sr9 := okBy noS_ok Try.func9 (by kernel_rfl) (by kernel_rfl) 1 <| by
  intro xs r hs
  unfold sr9 at hs; split at hs <;> cases hs
  rename_i ld st ex aq rl ta vv w
  intro hp _
  have e : (evFn T noS noL 1 Try.f9 [.agg [.b ld, .b st, .b ex, .b aq, .b rl, .u 64 ta, .u 64 vv, .i .i64 w]]).run = some (.agg [.i .i64 (if st = true then 2 else if ld = true then 1 else 0), .b ex, .b aq, .b rl, .u 64 ta, .u 64 vv, .i .i64 w]) := by kernel_rfl
  rw [e]
  cases st <;> cases ld <;> rfl
/- Get, Set -/
def getX (X : Nat → AV) (i : Int) : W64 := bif decide (0 ≤ i) && decide (i < 31) then unU64 (X i.toNat) else 0#64
def setX (X : Nat → AV) (i : Int) (x : W64) : Nat → AV := fun j => .u 64 (bif decide (0 ≤ i) && decide (i < 31) then bif decide (j = i.toNat) then x else unU64 (X j) else unU64 (X j))
def sr18 : CSpec
  | [.rp (cP X n z c v pc ld st ex aq rl ta vv w) 0, .i .i64 i] => (match allU X 31 with
    | true => some ⟨[], .u 64 (getX X i)⟩
    | false => none)
  | [.nilp, .i .i64 i] => some ⟨[], .u 64 0#64⟩
  | _ => none
theorem okr18 : FnOk Try.prog 18 sr18 := okC noS_ok Try.func18 (by kernel_rfl) (by kernel_rfl) 1 <| by
  intro xs r hs
  unfold sr18 at hs; split at hs <;> try cases hs
  · rename_i X n z c v pc ld st ex aq rl ta vv w i
    split at hs <;> cases hs
    rename_i hU
    intro hp _
    show (evFn T noS noL 1 Try.f18 [.rp ((cP X n z c v pc ld st ex aq rl ta vv w).map canA) 0, .i .i64 i]).run = _
    rw [can_cP hU]
    have e : (evFn T noS noL 1 Try.f18 [.rp (cP (words X) n z c v pc ld st ex aq rl ta vv w) 0, .i .i64 i]).run = if (if (if false = true then true else decide (i < 0)) = true then true else decide (31 ≤ i)) = true then some (.u 64 (BitVec.ofInt 64 0)) else if decide (0 ≤ i) = true then if decide (i < 31) = true then some (.u 64 (unU64 (X i.toNat))) else none else none := by kernel_rfl
    rw [e]
    by_cases h1 : i < 0
    · have : ¬ 0 ≤ i := by omega
      simp [getX, h1, this]
    · by_cases h2 : 31 ≤ i
      · have : ¬ i < 31 := by omega
        simp [getX, h1, h2, this]
      · have h3 : 0 ≤ i := by omega
        have h4 : i < 31 := by omega
        simp [getX, h1, h2, h3, h4]
  · rename_i i
    intro hp _
    have e : (evFn T noS noL 1 Try.f18 [.nilp, .i .i64 i]).run = if (if (if true = true then true else decide (i < 0)) = true then true else decide (31 ≤ i)) = true then some (.u 64 (BitVec.ofInt 64 0)) else none := by kernel_rfl
    refine Eq.trans e ?_
    simp
def sr22 : CSpec
  | [.nilp, .i .i64 i, .u 64 x] => some ⟨[], .tup []⟩
  | _ => none
theorem okr22 : FnOk Try.prog 22 sr22 := okBy noS_ok Try.func22 (by kernel_rfl) (by kernel_rfl) 1 <| by
  intro xs r hs
  unfold sr22 at hs; split at hs <;> cases hs
  rename_i i x
  intro hp _
  have e : (evFn T noS noL 1 Try.f22 [.nilp, .i .i64 i, .u 64 x]).run = if (if (if (!true) = true then decide (0 ≤ i) else false) = true then decide (i < 31) else false) = true then none else some (.tup []) := by kernel_rfl
  rw [e]
  simp
def sr22O : CSpec
  | [.obj (cP X n z c v pc ld st ex aq rl ta vv w), .i .i64 i, .u 64 x] => (match allU X 31 with
    | true => some ⟨[], .fin (.tup []) [cP (setX X i x) n z c v pc ld st ex aq rl ta vv w]⟩
    | false => none)
  | _ => none
theorem okr22O : FnOk Try.prog 1000022 sr22O := okOC (f := 22) noS_ok Try.func22 (by kernel_rfl) (by kernel_rfl) 1 <| by
  intro xs r hs
  unfold sr22O at hs; split at hs <;> try cases hs
  rename_i X n z c v pc ld st ex aq rl ta vv w i x
  split at hs <;> cases hs
  rename_i hU
  intro hp
  show (evFnO T noS noL 1 Try.f22 [.obj ((cP X n z c v pc ld st ex aq rl ta vv w).map canA), .i .i64 i, .u 64 x]).run = _
  rw [can_cP hU]
  have e : (evFnO T noS noL 1 Try.f22 [.obj (cP (words X) n z c v pc ld st ex aq rl ta vv w), .i .i64 i, .u 64 x]).run =
    if (if (if (if (!false) = true then decide (0 ≤ i) else false) = true then decide (i < 31) else false) = true then decide (0 ≤ i) else true) = true then
      if (if (if (if (!false) = true then decide (0 ≤ i) else false) = true then decide (i < 31) else false) = true then decide (i < 31) else true) = true then
        some (.tup [], [cP (fun j => .u 64 (if (if (if (!false) = true then decide (0 ≤ i) else false) = true then decide (i < 31) else false) = true then if decide (j = i.toNat) = true then x else unU64 (X j) else unU64 (X j))) n z c v pc ld st ex aq rl ta vv w]) else none else none := by kernel_rfl
  rw [e]
  have hset : setX X i x = fun j => .u 64 (if (if (if (!false) = true then decide (0 ≤ i) else false) = true then decide (i < 31) else false) = true then if decide (j = i.toNat) = true then x else unU64 (X j) else unU64 (X j)) := by
    funext j
    unfold setX
    by_cases h1 : 0 ≤ i <;> by_cases h2 : i < 31 <;> by_cases h3 : j = i.toNat <;> simp [h1, h2, h3]
  show _ = some (AV.tup [], [cP (setX X i x) n z c v pc ld st ex aq rl ta vv w])
  rw [hset]
  by_cases h1 : 0 ≤ i <;> by_cases h2 : i < 31 <;> simp [h1, h2]
def sr19 : CSpec
  | [.agg (cR X n z c v pc k ex aq rl ta vv w), .i .i64 i] => (match allU X 31 with
    | true => some ⟨[], .u 64 (getX X i)⟩
    | false => none)
  | _ => none
theorem okr19 : FnOk Try.prog 19 sr19 := okC noS_ok Try.func19 (by kernel_rfl) (by kernel_rfl) 1 <| by
  intro xs r hs
  unfold sr19 at hs; split at hs <;> try cases hs
  rename_i X n z c v pc k ex aq rl ta vv w i
  split at hs <;> cases hs
  rename_i hU
  intro hp _
  show (evFn T noS noL 1 Try.f19 [.agg ((cR X n z c v pc k ex aq rl ta vv w).map canA), .i .i64 i]).run = _
  rw [can_cR hU]
  have e : (evFn T noS noL 1 Try.f19 [.agg (cR (words X) n z c v pc k ex aq rl ta vv w), .i .i64 i]).run = if (if decide (i < 0) = true then true else decide (30 < i)) = true then some (.u 64 (BitVec.ofInt 64 0)) else if decide (0 ≤ i) = true then if decide (i < 31) = true then some (.u 64 (unU64 (X i.toNat))) else none else none := by kernel_rfl
  rw [e]
  by_cases h1 : i < 0
  · have : ¬ 0 ≤ i := by omega
    simp [getX, h1, this]
  · by_cases h2 : 31 ≤ i
    · have : ¬ i < 31 := by omega
      have h3 : 30 < i := by omega
      simp [getX, h1, h2, h3, this]
    · have h3 : 0 ≤ i := by omega
      have h4 : i < 31 := by omega
      have h5 : ¬ 30 < i := by omega
      simp [getX, h1, h2, h3, h4, h5]
def sr23 : CSpec
  | [.agg (cR X n z c v pc k ex aq rl ta vv w), .i .i64 i, .u 64 x] => (match allU X 31 with
    | true => some ⟨[], .agg (cR (setX X i x) n z c v pc k ex aq rl ta vv w)⟩
    | false => none)
  | _ => none
theorem okr23 : FnOk Try.prog 23 sr23 := okC noS_ok Try.func23 (by kernel_rfl) (by kernel_rfl) 1 <| by
  intro xs r hs
  unfold sr23 at hs; split at hs <;> try cases hs
  rename_i X n z c v pc k ex aq rl ta vv w i x
  split at hs <;> cases hs
  rename_i hU
  intro hp _
  show (evFn T noS noL 1 Try.f23 [.agg ((cR X n z c v pc k ex aq rl ta vv w).map canA), .i .i64 i, .u 64 x]).run = _
  rw [can_cR hU]
  have e : (evFn T noS noL 1 Try.f23 [.agg (cR (words X) n z c v pc k ex aq rl ta vv w), .i .i64 i, .u 64 x]).run =
    if (if (if decide (0 ≤ i) = true then decide (i ≤ 30) else false) = true then decide (0 ≤ i) else true) = true then
      if (if (if decide (0 ≤ i) = true then decide (i ≤ 30) else false) = true then decide (i < 31) else true) = true then
        some (.agg (cR (fun j => .u 64 (if (if decide (0 ≤ i) = true then decide (i ≤ 30) else false) = true then if decide (j = i.toNat) = true then x else unU64 (X j) else unU64 (X j))) n z c v pc k ex aq rl ta vv w)) else none else none := by kernel_rfl
  rw [e]
  have h30 : decide (i ≤ 30) = decide (i < 31) := by
    by_cases h : i < 31
    · have : i ≤ 30 := by omega
      simp [h, this]
    · have : ¬ i ≤ 30 := by omega
      simp [h, this]
  rw [h30]
  have hset : setX X i x = fun j => .u 64 (if (if decide (0 ≤ i) = true then decide (i < 31) else false) = true then if decide (j = i.toNat) = true then x else unU64 (X j) else unU64 (X j)) := by
    funext j
    unfold setX
    by_cases h1 : 0 ≤ i <;> by_cases h2 : i < 31 <;> by_cases h3 : j = i.toNat <;> simp [h1, h2, h3]
  show _ = some (AV.agg (cR (setX X i x) n z c v pc k ex aq rl ta vv w))
  rw [hset]
  by_cases h1 : 0 ≤ i <;> by_cases h2 : i < 31 <;> simp [h1, h2]
end Go.Proofs.Ytocfkaihfjbfnaa
set_option maxRecDepth 100000
namespace Go.Proofs.Ytocfkaihfjbfnaa
open Go.Proofs.Ytocfkaihfjbfnaa.Ev Go.RowKit
/- What functions come to on closed arguments. -/
def rV (S : FuncId → CSpec) (fn : Func) : CSpec := fun xs => match (evFn T S noL 1 fn xs).run with
  | some r => some ⟨[], r⟩
  | none => none
def rO (S : FuncId → CSpec) (fn : Func) : CSpec := fun xs => match (evFnO T S noL 1 fn xs).run with
  | some (v, cs) => some ⟨[], .fin v cs⟩
  | none => none
theorem rV_ok {S : FuncId → CSpec} (hS : ∀ f, FnOk Try.prog f (S f)) {f : FuncId} {fn : Func} (hf : Try.prog.funcs[f]? = some fn) (hname : (fn.name == "runtime.NumGoroutine") = false) (hbody : fn.body.isNone = false) (hlt : f < offO := by decide) : FnOk Try.prog f (rV S fn) :=
  okBy hS hf hname hbody 1 (by
    intro xs r hs _ _
    unfold rV at hs
    split at hs
    · rename_i r' h; cases hs; exact h
    · cases hs) hlt
theorem rO_ok {S : FuncId → CSpec} (hS : ∀ f, FnOk Try.prog f (S f)) {f : FuncId} {fn : Func} (hf : Try.prog.funcs[f]? = some fn) (hname : (fn.name == "runtime.NumGoroutine") = false) (hbody : fn.body.isNone = false) (hlt : f < offO := by decide) : FnOk Try.prog (1000000 + f) (rO S fn) :=
  FnOk.ofO tyOk hS mixed hf hname hbody (fun xs r hs hp w R vs os har => ⟨1, noL_ok, by
    unfold rO at hs
    split at hs
    · rename_i v cs h; cases hs; exact h
    · cases hs⟩) hlt

noncomputable abbrev SG0 : FuncId → CSpec := withS (withS (withS (withS (withS SB 18 sr18) 22 sr22) 1000022 sr22O) 9 sr9) 25 sr25
theorem SG0_ok : ∀ f, FnOk Try.prog f (SG0 f) := withS_ok (withS_ok (withS_ok (withS_ok (withS_ok SB_ok okr18) okr22) okr22O) okr9) okr25
noncomputable abbrev SG1 : FuncId → CSpec := withS (withS (withS (withS (withS (SG0) 38 (rV SG0 Try.f38)) 68 (rV SG0 Try.f68)) 69 (rV SG0 Try.f69)) 71 (rV SG0 Try.f71)) 20 (rV SG0 Try.f20)
theorem SG1_ok : ∀ f, FnOk Try.prog f (SG1 f) := withS_ok (withS_ok (withS_ok (withS_ok (withS_ok (SG0_ok) (rV_ok SG0_ok Try.func38 (by kernel_rfl) (by kernel_rfl))) (rV_ok SG0_ok Try.func68 (by kernel_rfl) (by kernel_rfl))) (rV_ok SG0_ok Try.func69 (by kernel_rfl) (by kernel_rfl))) (rV_ok SG0_ok Try.func71 (by kernel_rfl) (by kernel_rfl))) (rV_ok SG0_ok Try.func20 (by kernel_rfl) (by kernel_rfl))
noncomputable abbrev SG2 : FuncId → CSpec := withS (withS (SG1) 41 (rV SG1 Try.f41)) 67 (rV SG1 Try.f67)
theorem SG2_ok : ∀ f, FnOk Try.prog f (SG2 f) := withS_ok (withS_ok (SG1_ok) (rV_ok SG1_ok Try.func41 (by kernel_rfl) (by kernel_rfl))) (rV_ok SG1_ok Try.func67 (by kernel_rfl) (by kernel_rfl))
noncomputable abbrev SG3 : FuncId → CSpec := withS (withS (withS (withS (SG2) 42 (rV SG2 Try.f42)) 39 (rV SG2 Try.f39)) 77 (rV SG2 Try.f77)) (1000000 + 77) (rO SG2 Try.f77)
theorem SG3_ok : ∀ f, FnOk Try.prog f (SG3 f) := withS_ok (withS_ok (withS_ok (withS_ok (SG2_ok) (rV_ok SG2_ok Try.func42 (by kernel_rfl) (by kernel_rfl))) (rV_ok SG2_ok Try.func39 (by kernel_rfl) (by kernel_rfl))) (rV_ok SG2_ok Try.func77 (by kernel_rfl) (by kernel_rfl))) (rO_ok SG2_ok Try.func77 (by kernel_rfl) (by kernel_rfl))
noncomputable abbrev SG4 : FuncId → CSpec := withS (SG3) 43 (rV SG3 Try.f43)
theorem SG4_ok : ∀ f, FnOk Try.prog f (SG4 f) := withS_ok (SG3_ok) (rV_ok SG3_ok Try.func43 (by kernel_rfl) (by kernel_rfl))
noncomputable abbrev SG5 : FuncId → CSpec := withS (withS (withS (SG4) 26 (rV SG4 Try.f26)) (1000000 + 75) (rO SG4 Try.f75)) (1000000 + 76) (rO SG4 Try.f76)
theorem SG5_ok : ∀ f, FnOk Try.prog f (SG5 f) := withS_ok (withS_ok (withS_ok (SG4_ok) (rV_ok SG4_ok Try.func26 (by kernel_rfl) (by kernel_rfl))) (rO_ok SG4_ok Try.func75 (by kernel_rfl) (by kernel_rfl))) (rO_ok SG4_ok Try.func76 (by kernel_rfl) (by kernel_rfl))
noncomputable abbrev SG6 : FuncId → CSpec := withS (withS (SG5) (1000000 + 51) (rO SG5 Try.f51)) 55 (rV SG5 Try.f55)
theorem SG6_ok : ∀ f, FnOk Try.prog f (SG6 f) := withS_ok (withS_ok (SG5_ok) (rO_ok SG5_ok Try.func51 (by kernel_rfl) (by kernel_rfl))) (rV_ok SG5_ok Try.func55 (by kernel_rfl) (by kernel_rfl))
noncomputable abbrev SG7 : FuncId → CSpec := withS (withS (SG6) 31 (rV SG6 Try.f31)) (1000000 + 31) (rO SG6 Try.f31)
theorem SG7_ok : ∀ f, FnOk Try.prog f (SG7 f) := withS_ok (withS_ok (SG6_ok) (rV_ok SG6_ok Try.func31 (by kernel_rfl) (by kernel_rfl))) (rO_ok SG6_ok Try.func31 (by kernel_rfl) (by kernel_rfl))
noncomputable abbrev SG8 : FuncId → CSpec := withS (SG7) (1000000 + 13) (rO SG7 Try.f13)
theorem SG8_ok : ∀ f, FnOk Try.prog f (SG8 f) := withS_ok (SG7_ok) (rO_ok SG7_ok Try.func13 (by kernel_rfl) (by kernel_rfl))
theorem sg_may : (evFn T SG4 noL 1 Try.f26 [.agg [.i .i64 8, .i .i64 8, .i .i64 2, .i .i64 1, .i .i64 1, .i .i64 0, .u 64 0#64, .i .i64 0, .i .i64 0, .i .i64 0, .i .i64 0]]).run = some (.b true) := by kernel_rfl
theorem sg_may2 : (evFn T SG4 noL 1 Try.f26 [.agg [.i .i64 29, .i .i64 8, .i .i64 4, .i .i64 3, .i .i64 0, .i .i64 0, .u 64 0#64, .i .i64 0, .i .i64 0, .i .i64 0, .i .i64 7]]).run = some (.b true) := by kernel_rfl
theorem sg_awake : (evFn T SG8 noL 1 Try.f16 []).run = some (.b true) := by kernel_rfl
end Go.Proofs.Ytocfkaihfjbfnaa
set_option maxRecDepth 100000
namespace Go.Proofs.Ytocfkaihfjbfnaa
open Go.Proofs.Ytocfkaihfjbfnaa.Ev Go.RowKit
/- Holds: what a condition says of the flags. -/
def cond0 (n z c v : Bool) (i : Int) : Bool :=
  if i == 0 || i == 1 then z else if i == 2 || i == 3 then c else if i == 4 || i == 5 then n else if i == 6 || i == 7 then v
  else if i == 8 || i == 9 then c && !z else if i == 10 || i == 11 then n == v else (n == v) && !z
def odd16 (i : Int) : Bool := i == 1 || i == 3 || i == 5 || i == 7 || i == 9 || i == 11 || i == 13
def holds (n z c v : Bool) (i : Int) : Bool :=
  bif decide (i < 0) || decide (15 < i) then false else bif decide (13 < i) then true else cond0 n z c v i != odd16 i
theorem and1_or (x : W64) : x &&& 1#64 = 0#64 ∨ x &&& 1#64 = 1#64 := by
  have h : (x &&& 1#64).toNat ≤ 1 := by rw [BitVec.toNat_and]; exact Nat.and_le_right
  rcases Nat.lt_or_ge (x &&& 1#64).toNat 1 with h1 | h1
  · left; apply BitVec.eq_of_toNat_eq; simp only [BitVec.toNat_ofNat]; omega
  · right; apply BitVec.eq_of_toNat_eq; simp only [BitVec.toNat_ofNat]; omega
theorem split1 (x : W64) : (x &&& ~~~1#64) ||| (x &&& 1#64) = x := by
  apply BitVec.eq_of_getLsbD_eq
  intro i hi
  simp only [BitVec.getLsbD_or, BitVec.getLsbD_and, BitVec.getLsbD_not, hi, decide_true, Bool.true_and]
  cases x.getLsbD i <;> cases (1#64).getLsbD i <;> rfl
theorem val64 {i : Int} (hi : IntKind.i64.has i) : (BitVec.ofInt 64 i).toInt = i := by
  have h1 := hi.1
  have h2 := hi.2
  simp only [IntKind.min, IntKind.max, IntKind.signed, IntKind.bits, if_true] at h1 h2
  rw [BitVec.toInt_ofInt, Int.bmod_eq_of_le] <;> omega
def even (i : Int) : Int := (BitVec.ofInt 64 i &&& ~~~BitVec.ofInt 64 1).toInt
/- outside the sixteen: no test holds -/
theorem even_of {i : Int} (hi : IntKind.i64.has i) (ho : i < 0 ∨ 15 < i) {k : Nat} (hk : k < 15) (h2 : k % 2 = 0) : (even i == (k : Int)) = false := by
  cases h : even i == (k : Int) with
  | false => rfl
  | true =>
    exfalso
    have hkv : (BitVec.ofNat 64 k).toInt = (k : Int) := by
      rw [BitVec.toInt_ofNat', Int.bmod_eq_of_le] <;> omega
    have h' : BitVec.ofInt 64 i &&& ~~~1#64 = BitVec.ofNat 64 k := by
      apply BitVec.eq_of_toInt_eq
      rw [hkv]
      exact beq_iff_eq.1 h
    have hs := split1 (BitVec.ofInt 64 i)
    rw [h'] at hs
    have hv := val64 hi
    rcases and1_or (BitVec.ofInt 64 i) with h0 | h0
    · rw [h0, BitVec.or_zero] at hs
      rw [← hs, hkv] at hv
      omega
    · rw [h0] at hs
      have hor : BitVec.ofNat 64 k ||| 1#64 = BitVec.ofNat 64 (k + 1) := by
        have : k = 0 ∨ k = 2 ∨ k = 4 ∨ k = 6 ∨ k = 8 ∨ k = 10 ∨ k = 12 ∨ k = 14 := by omega
        rcases this with rfl | rfl | rfl | rfl | rfl | rfl | rfl | rfl <;> rfl
      have hkv' : (BitVec.ofNat 64 (k + 1)).toInt = (k : Int) + 1 := by
        rw [BitVec.toInt_ofNat', Int.bmod_eq_of_le] <;> omega
      rw [hor] at hs
      rw [← hs, hkv'] at hv
      omega
theorem sixteen {i : Int} (h : ¬ (i < 0 ∨ 15 < i)) : i = 0 ∨ i = 1 ∨ i = 2 ∨ i = 3 ∨ i = 4 ∨ i = 5 ∨ i = 6 ∨ i = 7 ∨ i = 8 ∨ i = 9 ∨ i = 10 ∨ i = 11 ∨ i = 12 ∨ i = 13 ∨ i = 14 ∨ i = 15 := by omega
def sr20 : CSpec
  | [.agg [.b n, .b z, .b c, .b v], .i .i64 i] => some ⟨[], .b (holds n z c v i)⟩
  | _ => none
theorem okr20 : FnOk Try.prog 20 sr20 := okBy noS_ok Try.func20 (by kernel_rfl) (by kernel_rfl) 1 <| by
  intro xs r hs
  unfold sr20 at hs; split at hs <;> cases hs
  rename_i n z c v i
  rintro hp ⟨w, R, vs, hvs⟩
  have hi : IntKind.i64.has i := by
    cases hvs with | cons _ hl => cases hl with | cons h _ => cases h with | i _ h => exact h
  show (evFn T noS noL 1 Try.f20 [.agg [.b n, .b z, .b c, .b v], .i .i64 i]).run = some (.b (holds n z c v i))
  by_cases ho : i < 0 ∨ 15 < i
  · have e : ∃ A : Nat → AV, (evFn T noS noL 1 Try.f20 [.agg [.b n, .b z, .b c, .b v], .i .i64 i]).run =
        if (even i == ((0 : Nat) : Int)) = true then some (A 0) else if (even i == ((2 : Nat) : Int)) = true then some (A 1) else if (even i == ((4 : Nat) : Int)) = true then some (A 2) else if (even i == ((6 : Nat) : Int)) = true then some (A 3)
        else if (even i == ((8 : Nat) : Int)) = true then some (A 4) else if (even i == ((10 : Nat) : Int)) = true then some (A 5) else if (even i == ((12 : Nat) : Int)) = true then some (A 6) else if (even i == ((14 : Nat) : Int)) = true then some (A 7) else some (.b false) := by
      refine ⟨fun j => match j with
        | 0 => .b !(z == ((BitVec.ofInt 64 i &&& BitVec.ofInt 64 1).toInt == 1))
        | 1 => .b !(c == ((BitVec.ofInt 64 i &&& BitVec.ofInt 64 1).toInt == 1))
        | 2 => .b !(n == ((BitVec.ofInt 64 i &&& BitVec.ofInt 64 1).toInt == 1))
        | 3 => .b !(v == ((BitVec.ofInt 64 i &&& BitVec.ofInt 64 1).toInt == 1))
        | 4 => .b !((if c = true then !z else false) == ((BitVec.ofInt 64 i &&& BitVec.ofInt 64 1).toInt == 1))
        | 5 => .b !((n == v) == ((BitVec.ofInt 64 i &&& BitVec.ofInt 64 1).toInt == 1))
        | 6 => .b !((if (n == v) = true then !z else false) == ((BitVec.ofInt 64 i &&& BitVec.ofInt 64 1).toInt == 1))
        | _ => .b true, ?_⟩
      kernel_rfl
    obtain ⟨A, e⟩ := e
    rw [e]
    simp only [even_of hi ho (k := 0) (by omega) (by omega), even_of hi ho (k := 2) (by omega) (by omega), even_of hi ho (k := 4) (by omega) (by omega), even_of hi ho (k := 6) (by omega) (by omega), even_of hi ho (k := 8) (by omega) (by omega), even_of hi ho (k := 10) (by omega) (by omega), even_of hi ho (k := 12) (by omega) (by omega), even_of hi ho (k := 14) (by omega) (by omega)]
    have : (decide (i < 0) || decide (15 < i)) = true := by simpa using ho
    simp only [holds, this, cond_true]
    rfl
  · rcases sixteen ho with rfl | rfl | rfl | rfl | rfl | rfl | rfl | rfl | rfl | rfl | rfl | rfl | rfl | rfl | rfl | rfl
    all_goals (cases n <;> cases z <;> cases c <;> cases v <;> kernel_rfl)
def sr21 : CSpec
  | [.agg (cR X n z c v pc k ex aq rl ta vv w), .i .i64 i] => some ⟨[], .b (holds n z c v i)⟩
  | _ => none
theorem okr21 : FnOk Try.prog 21 sr21 := okBy noS_ok Try.func21 (by kernel_rfl) (by kernel_rfl) 1 <| by
  intro xs r hs
  unfold sr21 at hs; split at hs <;> cases hs
  rename_i X n z c v pc k ex aq rl ta vv w i
  rintro hp _
  show (evFn T noS noL 1 Try.f21 [.agg (cR X n z c v pc k ex aq rl ta vv w), .i .i64 i]).run = some (.b (holds n z c v i))
  by_cases ho : i < 0 ∨ 15 < i
  · have e : ∃ t, (evFn T noS noL 1 Try.f21 [.agg (cR X n z c v pc k ex aq rl ta vv w), .i .i64 i]).run = if (if decide (i < 0) = true then true else decide (15 < i)) = true then some (.b false) else t :=
      ⟨match evFn T noS noL 1 Try.f21 [.agg (cR X n z c v pc k ex aq rl ta vv w), .i .i64 i] with
        | .ite _ _ b => b.run
        | _ => none, by kernel_rfl⟩
    obtain ⟨t, e⟩ := e
    rw [e]
    have : (decide (i < 0) || decide (15 < i)) = true := by simpa using ho
    have h2 : (if decide (i < 0) = true then true else decide (15 < i)) = true := by
      rcases ho with h | h <;> simp [h]
    rw [if_pos h2]
    simp only [holds, this, cond_true]
  · rcases sixteen ho with rfl | rfl | rfl | rfl | rfl | rfl | rfl | rfl | rfl | rfl | rfl | rfl | rfl | rfl | rfl | rfl
    all_goals (cases n <;> cases z <;> cases c <;> cases v <;> kernel_rfl)
end Go.Proofs.Ytocfkaihfjbfnaa
set_option maxRecDepth 100000
namespace Go.Proofs.Ytocfkaihfjbfnaa
open Go.Proofs.Ytocfkaihfjbfnaa.Ev Go.RowKit
/- Ours, Plain: between the two machines. -/
def SRa : FuncId → CSpec := withS (withS noS 25 sr25) 9 sr9
theorem SRa_ok : ∀ f, FnOk Try.prog f (SRa f) := withS_ok (withS_ok noS_ok okr25) okr9
def sr8P : CSpec
  | [.agg (cR X n z c v pc k ex aq rl ta vv w)] => (match allU X 31 with
    | true => some ⟨[], .obj (cP (words X) n z c v pc (k == 1) (k == 2) ex aq rl ta vv w)⟩
    | false => none)
  | _ => none
theorem okr8P : FnOk Try.prog 2000008 sr8P := okPC (f := 8) SRa_ok Try.func8 (by kernel_rfl) (by kernel_rfl) 1 <| by
  intro xs r hs
  unfold sr8P at hs; split at hs <;> try cases hs
  rename_i X n z c v pc k ex aq rl ta vv w
  split at hs <;> cases hs
  rename_i hU
  rintro hp _
  show (evFnP T SRa noL 1 Try.f8 [.agg ((cR X n z c v pc k ex aq rl ta vv w).map canA)]).run = some (.obj (cP (words X) n z c v pc (k == 1) (k == 2) ex aq rl ta vv w))
  rw [can_cR hU]
  kernel_rfl
def kindOf (ld st : Bool) : Int := bif st then 2 else bif ld then 1 else 0
def sr15 : CSpec
  | [.rp (cP X n z c v pc ld st ex aq rl ta vv w) 0] => (match allU X 31 with
    | true => some ⟨[], .agg (cR (words X) n z c v pc (kindOf ld st) ex aq rl ta vv w)⟩
    | false => none)
  | _ => none
theorem okr15 : FnOk Try.prog 15 sr15 := okC SRa_ok Try.func15 (by kernel_rfl) (by kernel_rfl) 1 <| by
  intro xs r hs
  unfold sr15 at hs; split at hs <;> try cases hs
  rename_i X n z c v pc ld st ex aq rl ta vv w
  split at hs <;> cases hs
  rename_i hU
  rintro hp _
  show (evFn T SRa noL 1 Try.f15 [.rp ((cP X n z c v pc ld st ex aq rl ta vv w).map canA) 0]).run = some (.agg (cR (words X) n z c v pc (kindOf ld st) ex aq rl ta vv w))
  rw [can_cP hU]
  kernel_rfl
/- On no machine nothing is done. -/
def srNo : CSpec := fun _ => some ⟨[false], .b false⟩
theorem okrNo {f : Nat} (hlt : f < offO := by decide) : FnOk Try.prog f srNo := by
  refine ⟨fun _ => ?_, fun h' => absurd hlt (Nat.not_lt.2 h')⟩
  intro xs r hs hp
  unfold srNo at hs; cases hs
  exact absurd (hp false (List.mem_cons_self ..)) (by decide)
@[match_pattern] abbrev cI (op w d n m a : Int) (imm : W64) (off cond r s : Int) : List AV := [.i .i64 op, .i .i64 w, .i .i64 d, .i .i64 n, .i .i64 m, .i .i64 a, .u 64 imm, .i .i64 off, .i .i64 cond, .i .i64 r, .i .i64 s]
def SRb : FuncId → CSpec := withS noS 26 srNo
theorem SRb_ok : ∀ f, FnOk Try.prog f (SRb f) := withS_ok noS_ok okrNo
def need0 : List AV := [.b false, .b false, .b false, .b false, .b false, .u 64 0#64, .u 64 0#64, .i .i64 0]
def sr10 : CSpec
  | [.nilp, .agg (cI op w d n m a imm off cond r s)] => some ⟨[], .agg need0⟩
  | _ => none
theorem okr10 : FnOk Try.prog 10 sr10 := okBy SRb_ok Try.func10 (by kernel_rfl) (by kernel_rfl) 1 <| by
  intro xs r hs
  unfold sr10 at hs; split at hs <;> cases hs
  rintro hp _
  kernel_rfl
def sr13 : CSpec
  | [.nilp, .agg (cI op w d n m a imm off cond r s), .u 64 x, .b y] => some ⟨[], .i .i64 4⟩
  | _ => none
theorem okr13 : FnOk Try.prog 13 sr13 := okBy SRb_ok Try.func13 (by kernel_rfl) (by kernel_rfl) 1 <| by
  intro xs r hs
  unfold sr13 at hs; split at hs <;> cases hs
  rintro hp _
  kernel_rfl
def sr24 : CSpec
  | [.nilp, .i .i64 z, .agg (cI op w d n m a imm off cond r s), .nilp, .b y] => some ⟨[], .i .i64 4⟩
  | _ => none
theorem okr24 : FnOk Try.prog 24 sr24 := okBy SRb_ok Try.func24 (by kernel_rfl) (by kernel_rfl) 1 <| by
  intro xs r hs
  unfold sr24 at hs; split at hs <;> cases hs
  rintro hp _
  kernel_rfl
def sr16 : CSpec
  | [] => some ⟨[], .b true⟩
  | _ => none
theorem okr16 : FnOk Try.prog 16 sr16 := okBy SG8_ok Try.func16 (by kernel_rfl) (by kernel_rfl) 1 <| by
  intro xs r hs
  unfold sr16 at hs; split at hs <;> cases hs
  rintro hp _
  exact sg_awake
def SR0 : FuncId → CSpec := withS (withS (withS (withS (withS (withS (withS noS 7 sr7) 2000008 sr8P) 18 sr18) 19 sr19) 20 sr20) 21 sr21) 22 sr22
theorem SR0_ok : ∀ f, FnOk Try.prog f (SR0 f) := withS_ok (withS_ok (withS_ok (withS_ok (withS_ok (withS_ok (withS_ok noS_ok okr7) okr8P) okr18) okr19) okr20) okr21) okr22
noncomputable def SR1 : FuncId → CSpec := withS (withS (withS (withS (withS (withS (withS SR0 1000022 sr22O) 15 sr15) 23 sr23) 10 sr10) 13 sr13) 24 sr24) 16 sr16
theorem SR1_ok : ∀ f, FnOk Try.prog f (SR1 f) := withS_ok (withS_ok (withS_ok (withS_ok (withS_ok (withS_ok (withS_ok SR0_ok okr22O) okr15) okr23) okr10) okr13) okr24) okr16
end Go.Proofs.Ytocfkaihfjbfnaa
set_option maxRecDepth 100000
namespace Go.Proofs.Ytocfkaihfjbfnaa
open Go.Proofs.Ytocfkaihfjbfnaa.Ev Go.RowKit
def allEq (f g : Nat → W64) : Nat → Bool
  | 0 => true
  | n + 1 => allEq f g n && f n == g n
theorem allEq_self (f : Nat → W64) : ∀ n, allEq f f n = true
  | 0 => rfl
  | n + 1 => by simp [allEq, allEq_self f n]
theorem lawAsemRegs (X : Nat → W64) (n z c v : Bool) (pc : W64) (k : Int) (ex aq rl : Bool) (ta vv : W64) (w i : Int) (x : W64) (cnd : Int) :
    (evFn T SR1 noL 1 Try.f6 [.agg (cR (fun j => .u 64 (X j)) n z c v pc k ex aq rl ta vv w), .i .i64 i, .u 64 x, .i .i64 cnd]).run = some (.b true) := by
  have e : (evFn T SR1 noL 1 Try.f6 [.agg (cR (fun j => .u 64 (X j)) n z c v pc k ex aq rl ta vv w), .i .i64 i, .u 64 x, .i .i64 cnd]).run =
    if (if (getX (fun j => .u 64 (X j)) i != getX (fun j => .u 64 (X j)) i) = true then true else !(holds n z c v cnd == holds n z c v cnd)) = true then some (.b false) else
    some (.b (if (if (if (if (if (allEq (fun j => unU64 (setX (fun j => .u 64 (X j)) i x j)) (fun j => unU64 (setX (fun j => .u 64 (X j)) i x j)) 31 && (n == n && (z == z && (c == c && (v == v && (pc == pc &&
      (kindOf ((bif k == 1 then (1 : Int) else 0) == 1) ((bif k == 1 then (1 : Int) else 0) == 2) == (bif k == 1 then 1 else 0) && ((bif k == 1 then ex else false) == (bif k == 1 then ex else false) && ((bif k == 1 then aq else false) == (bif k == 1 then aq else false) && ((bif k == 1 then rl else false) == (bif k == 1 then rl else false) &&
      ((bif k == 1 then ta else 0#64) == (bif k == 1 then ta else 0#64) && ((bif k == 1 then vv else 0#64) == (bif k == 1 then vv else 0#64) && ((bif k == 1 then w else 0) == (bif k == 1 then w else 0) && true))))))))))))) = true then (0#64 : W64) == BitVec.ofInt 64 0 else false) = true then true else false) = true then ((4 : Int) == 4) else false) = true then ((4 : Int) == 4) else false) = true then true else false)) := by kernel_rfl
  rw [e, allEq_self]
  cases k == 1 <;> simp [kindOf]
/-- What the reference's machine is told by. -/
abbrev RC := (Nat → W64) × Bool × Bool × Bool × Bool × W64 × (Int × Bool × Bool × Bool × W64 × W64 × Int × Unit) × Unit
abbrev RC.cells (m : RC) : List AV := match m with
  | (X, n, z, c, v, pc, (k, ex, aq, rl, ta, vv, w, _), _) => cR (fun j => .u 64 (X j)) n z c v pc k ex aq rl ta vv w
theorem lawAsemRegsM (m : RC) (i : Int) (x : W64) (cnd : Int) : (evFn T SR1 noL 1 Try.f6 [.agg m.cells, .i .i64 i, .u 64 x, .i .i64 cnd]).run = some (.b true) := by
  obtain ⟨X, n, z, c, v, pc, ⟨k, ex, aq, rl, ta, vv, w, _⟩, _⟩ := m
  exact lawAsemRegs X n z c v pc k ex aq rl ta vv w i x cnd
end Go.Proofs.Ytocfkaihfjbfnaa
