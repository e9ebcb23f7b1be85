/- Lemmas: the table of A64's rows and the questions which fields a row has, each shown by the evaluator. No condition. -/
import Derived.Test.YtocfkaihfjbfnaaAsem
set_option linter.unusedVariables false
set_option linter.unusedSimpArgs false
set_option maxRecDepth 100000
namespace Go.Proofs.Ytocfkaihfjbfnaa
open Go.Proofs.Ytocfkaihfjbfnaa.Ev Go.RowKit
/- The table of rows: names, words, fields. -/
def namesL : List (List UInt8) := [[], [97, 100, 100, 105], [115, 117, 98, 105], [97, 100, 100, 115, 105], [115, 117, 98, 115, 105], [97, 100, 100], [115, 117, 98], [97, 100, 100, 115], [115, 117, 98, 115], [97, 110, 100], [111, 114, 114], [101, 111, 114], [97, 110, 100, 115], [97, 110, 100, 105], [111, 114, 114, 105], [101, 111, 114, 105], [109, 111, 118, 122], [109, 111, 118, 110], [109, 111, 118, 107], [109, 97, 100, 100], [109, 115, 117, 98], [117, 109, 117, 108, 104], [115, 109, 117, 108, 104], [117, 100, 105, 118], [115, 100, 105, 118], [108, 115, 108, 118], [108, 115, 114, 118], [97, 115, 114, 118], [114, 111, 114, 118], [117, 98, 102, 109], [115, 98, 102, 109], [99, 115, 101, 108], [99, 115, 105, 110, 99], [108, 100, 114], [115, 116, 114], [108, 100, 97, 112, 114], [115, 116, 108, 114], [108, 100, 97, 120, 114], [115, 116, 108, 120, 114], [100, 109, 98], [98], [98, 99, 99], [99, 98, 122], [99, 98, 110, 122], [98, 114], [115, 118, 99], [98, 114, 107], [110, 111, 112]]
def basesL : List Nat := [0, 2432696320, 3506438144, 2969567232, 4043309056, 2332033024, 3405774848, 2868903936, 3942645760, 2315255808, 2852126720, 3388997632, 3925868544, 2449473536, 2986344448, 3523215360, 3531603968, 2457862144, 4068474880, 2600468480, 2600501248, 2613083136, 2604694528, 2596276224, 2596277248, 2596282368, 2596283392, 2596284416, 2596285440, 3544186880, 2470445056, 2592079872, 2592080896, 960495616, 956301312, 952090624, 144702464, 140508160, 134282240, 3573756095, 335544320, 1409286144, 3019898880, 3036676096, 3592355840, 3556769793, 3558866944, 3573751839]
def fieldsL : List (List UInt8) := [[], [101, 98, 105], [101, 98, 105], [100, 98, 105], [100, 98, 105], [100, 110, 109, 115], [100, 110, 109, 115], [100, 110, 109, 115], [100, 110, 109, 115], [100, 110, 109, 115], [100, 110, 109, 115], [100, 110, 109, 115], [100, 110, 109, 115], [101, 110, 108], [101, 110, 108], [101, 110, 108], [100, 119, 104], [100, 119, 104], [100, 119, 104], [100, 110, 109, 97], [100, 110, 109, 97], [100, 110, 109], [100, 110, 109], [100, 110, 109], [100, 110, 109], [100, 110, 109], [100, 110, 109], [100, 110, 109], [100, 110, 109], [100, 110, 115, 114], [100, 110, 115, 114], [100, 110, 109, 99], [100, 110, 109, 99], [100, 98, 117, 122], [100, 98, 117, 122], [100, 98, 122], [100, 98, 122], [100, 98, 122], [100, 98, 116, 122], [102], [106], [107, 103], [100, 103], [100, 103], [110], [119], [119], []]
def range47 (k : Int) : Prop := k = 1 ∨ k = 2 ∨ k = 3 ∨ k = 4 ∨ k = 5 ∨ k = 6 ∨ k = 7 ∨ k = 8 ∨ k = 9 ∨ k = 10 ∨ k = 11 ∨ k = 12 ∨ k = 13 ∨ k = 14 ∨ k = 15 ∨ k = 16 ∨ k = 17 ∨ k = 18 ∨ k = 19 ∨ k = 20 ∨ k = 21 ∨ k = 22 ∨ k = 23 ∨ k = 24 ∨ k = 25 ∨ k = 26 ∨ k = 27 ∨ k = 28 ∨ k = 29 ∨ k = 30 ∨ k = 31 ∨ k = 32 ∨ k = 33 ∨ k = 34 ∨ k = 35 ∨ k = 36 ∨ k = 37 ∨ k = 38 ∨ k = 39 ∨ k = 40 ∨ k = 41 ∨ k = 42 ∨ k = 43 ∨ k = 44 ∨ k = 45 ∨ k = 46 ∨ k = 47
theorem range47_of {k : Int} (h : 1 ≤ k ∧ k ≤ 47) : range47 k := by unfold range47; omega
def nameOf (op : Int) : List UInt8 := namesL.getD op.toNat []
def baseOf (op : Int) : W64 := BitVec.ofNat 64 (basesL.getD op.toNat 0)
def fieldsOf (op : Int) : List UInt8 := fieldsL.getD op.toNat []
def rowC (op : Int) : List AV := [.str (nameOf op), .u 64 (baseOf op), .str (fieldsOf op)]
def sr48 : CSpec
  | [.i .i64 op] => (match inB 25 op 47 with
    | true => some ⟨[], .agg (rowC op)⟩
    | false => none)
  | _ => none
theorem okr48 : FnOk Try.prog 48 sr48 := okBy noS_ok Try.func48 (by kernel_rfl) (by kernel_rfl) 1 <| by
  intro xs r hs
  unfold sr48 at hs; split at hs <;> try cases hs
  rename_i op
  split at hs <;> cases hs
  rename_i h
  intro hp _
  show (evFn T noS noL 1 Try.f48 [.i .i64 op]).run = some (.agg (rowC op))
  have h : 25 ≤ op ∧ op ≤ 47 := by simpa [inB] using h
  have main : ∀ k : Int, (k = 25 ∨ k = 26 ∨ k = 27 ∨ k = 28 ∨ k = 29 ∨ k = 30 ∨ k = 31 ∨ k = 32 ∨ k = 33 ∨ k = 34 ∨ k = 35 ∨ k = 36 ∨ k = 37 ∨ k = 38 ∨ k = 39 ∨ k = 40 ∨ k = 41 ∨ k = 42 ∨ k = 43 ∨ k = 44 ∨ k = 45 ∨ k = 46 ∨ k = 47) → (evFn T noS noL 1 Try.f48 [.i .i64 k]).run = some (.agg (rowC k)) := by
    intro k h
    rcases h with rfl | rfl | rfl | rfl | rfl | rfl | rfl | rfl | rfl | rfl | rfl | rfl | rfl | rfl | rfl | rfl | rfl | rfl | rfl | rfl | rfl | rfl | rfl
    all_goals kernel_rfl
  have h : op = 25 ∨ op = 26 ∨ op = 27 ∨ op = 28 ∨ op = 29 ∨ op = 30 ∨ op = 31 ∨ op = 32 ∨ op = 33 ∨ op = 34 ∨ op = 35 ∨ op = 36 ∨ op = 37 ∨ op = 38 ∨ op = 39 ∨ op = 40 ∨ op = 41 ∨ op = 42 ∨ op = 43 ∨ op = 44 ∨ op = 45 ∨ op = 46 ∨ op = 47 := by omega
  exact main op h
noncomputable abbrev SQ0 : FuncId → CSpec := withS SN4 48 sr48
theorem SQ0_ok : ∀ f, FnOk Try.prog f (SQ0 f) := withS_ok SN4_ok okr48
def sr29 : CSpec
  | [.i .i64 op] => (match inB 1 op 47 with
    | true => some ⟨[], .agg (rowC op)⟩
    | false => none)
  | _ => none
theorem okr29 : FnOk Try.prog 29 sr29 := okBy SQ0_ok Try.func29 (by kernel_rfl) (by kernel_rfl) 1 <| by
  intro xs r hs
  unfold sr29 at hs; split at hs <;> try cases hs
  rename_i op
  split at hs <;> cases hs
  rename_i h
  intro hp _
  show (evFn T SQ0 noL 1 Try.f29 [.i .i64 op]).run = some (.agg (rowC op))
  have h : 1 ≤ op ∧ op ≤ 47 := by simpa [inB] using h
  have main : ∀ k : Int, range47 k → (evFn T SQ0 noL 1 Try.f29 [.i .i64 k]).run = some (.agg (rowC k)) := by
    intro k h
    rcases h with rfl | rfl | rfl | rfl | rfl | rfl | rfl | rfl | rfl | rfl | rfl | rfl | rfl | rfl | rfl | rfl | rfl | rfl | rfl | rfl | rfl | rfl | rfl | rfl | rfl | rfl | rfl | rfl | rfl | rfl | rfl | rfl | rfl | rfl | rfl | rfl | rfl | rfl | rfl | rfl | rfl | rfl | rfl | rfl | rfl | rfl | rfl
    all_goals kernel_rfl
  exact main op (range47_of h)
noncomputable abbrev SQ1 : FuncId → CSpec := withS SQ0 29 sr29
theorem SQ1_ok : ∀ f, FnOk Try.prog f (SQ1 f) := withS_ok SQ0_ok okr29
end Go.Proofs.Ytocfkaihfjbfnaa
set_option maxRecDepth 100000
namespace Go.Proofs.Ytocfkaihfjbfnaa
open Go.Proofs.Ytocfkaihfjbfnaa.Ev Go.RowKit
/- Has: fields of a row. -/
def LH : Nat → Live := fun _ => ⟨[1, 4, 5, 6, 7], [], [], none⟩
def chainB : List Bool → Option AV
  | [] => some (.b false)
  | b :: l => if b = true then some (.b true) else chainB l
def pairsC (f s : List UInt8) : List Bool := f.flatMap fun x => s.map fun y => x.toBitVec == y.toBitVec
theorem chainB_any : ∀ l : List Bool, chainB l = some (.b (l.any id))
  | [] => rfl
  | true :: l => rfl
  | false :: l => by simp [chainB, chainB_any l]
def hasA (op : Int) (s : List UInt8) : Bool := inB 1 op 47 && (pairsC (fieldsOf op) s).any id
end Go.Proofs.Ytocfkaihfjbfnaa
set_option maxRecDepth 100000
namespace Go.Proofs.Ytocfkaihfjbfnaa
open Go.Proofs.Ytocfkaihfjbfnaa.Ev Go.RowKit
theorem has1 (c1 : UInt8) (k : Int) (hk : range47 k) : (evFn T SQ1 LH 8 Try.f17 [.i .i64 k, .str [c1]]).run = chainB (pairsC (fieldsOf k) [c1]) := by
  rcases hk with rfl | rfl | rfl | rfl | rfl | rfl | rfl | rfl | rfl | rfl | rfl | rfl | rfl | rfl | rfl | rfl | rfl | rfl | rfl | rfl | rfl | rfl | rfl | rfl | rfl | rfl | rfl | rfl | rfl | rfl | rfl | rfl | rfl | rfl | rfl | rfl | rfl | rfl | rfl | rfl | rfl | rfl | rfl | rfl | rfl | rfl | rfl
  all_goals kernel_rfl
end Go.Proofs.Ytocfkaihfjbfnaa
set_option maxRecDepth 100000
namespace Go.Proofs.Ytocfkaihfjbfnaa
open Go.Proofs.Ytocfkaihfjbfnaa.Ev Go.RowKit
theorem has2 (c1 c2 : UInt8) (k : Int) (hk : range47 k) : (evFn T SQ1 LH 8 Try.f17 [.i .i64 k, .str [c1, c2]]).run = chainB (pairsC (fieldsOf k) [c1, c2]) := by
  rcases hk with rfl | rfl | rfl | rfl | rfl | rfl | rfl | rfl | rfl | rfl | rfl | rfl | rfl | rfl | rfl | rfl | rfl | rfl | rfl | rfl | rfl | rfl | rfl | rfl | rfl | rfl | rfl | rfl | rfl | rfl | rfl | rfl | rfl | rfl | rfl | rfl | rfl | rfl | rfl | rfl | rfl | rfl | rfl | rfl | rfl | rfl | rfl
  all_goals kernel_rfl
end Go.Proofs.Ytocfkaihfjbfnaa
set_option maxRecDepth 100000
namespace Go.Proofs.Ytocfkaihfjbfnaa
open Go.Proofs.Ytocfkaihfjbfnaa.Ev Go.RowKit
theorem has3_0 (k : Int) (hk : k = 1 ∨ k = 2 ∨ k = 3 ∨ k = 4) : (evFn T SQ1 LH 8 Try.f17 [.i .i64 k, .str [105, 108, 119, 117, 102]]).run = some (.b ((pairsC (fieldsOf k) [105, 108, 119, 117, 102]).any id)) := by
  rcases hk with rfl | rfl | rfl | rfl
  all_goals kernel_rfl
theorem has3_1 (k : Int) (hk : k = 5 ∨ k = 6 ∨ k = 7 ∨ k = 8) : (evFn T SQ1 LH 8 Try.f17 [.i .i64 k, .str [105, 108, 119, 117, 102]]).run = some (.b ((pairsC (fieldsOf k) [105, 108, 119, 117, 102]).any id)) := by
  rcases hk with rfl | rfl | rfl | rfl
  all_goals kernel_rfl
theorem has3_2 (k : Int) (hk : k = 9 ∨ k = 10 ∨ k = 11 ∨ k = 12) : (evFn T SQ1 LH 8 Try.f17 [.i .i64 k, .str [105, 108, 119, 117, 102]]).run = some (.b ((pairsC (fieldsOf k) [105, 108, 119, 117, 102]).any id)) := by
  rcases hk with rfl | rfl | rfl | rfl
  all_goals kernel_rfl
theorem has3_3 (k : Int) (hk : k = 13 ∨ k = 14 ∨ k = 15 ∨ k = 16) : (evFn T SQ1 LH 8 Try.f17 [.i .i64 k, .str [105, 108, 119, 117, 102]]).run = some (.b ((pairsC (fieldsOf k) [105, 108, 119, 117, 102]).any id)) := by
  rcases hk with rfl | rfl | rfl | rfl
  all_goals kernel_rfl
theorem has3_4 (k : Int) (hk : k = 17 ∨ k = 18 ∨ k = 19 ∨ k = 20) : (evFn T SQ1 LH 8 Try.f17 [.i .i64 k, .str [105, 108, 119, 117, 102]]).run = some (.b ((pairsC (fieldsOf k) [105, 108, 119, 117, 102]).any id)) := by
  rcases hk with rfl | rfl | rfl | rfl
  all_goals kernel_rfl
theorem has3_5 (k : Int) (hk : k = 21 ∨ k = 22 ∨ k = 23 ∨ k = 24) : (evFn T SQ1 LH 8 Try.f17 [.i .i64 k, .str [105, 108, 119, 117, 102]]).run = some (.b ((pairsC (fieldsOf k) [105, 108, 119, 117, 102]).any id)) := by
  rcases hk with rfl | rfl | rfl | rfl
  all_goals kernel_rfl
theorem has3_6 (k : Int) (hk : k = 25 ∨ k = 26 ∨ k = 27 ∨ k = 28) : (evFn T SQ1 LH 8 Try.f17 [.i .i64 k, .str [105, 108, 119, 117, 102]]).run = some (.b ((pairsC (fieldsOf k) [105, 108, 119, 117, 102]).any id)) := by
  rcases hk with rfl | rfl | rfl | rfl
  all_goals kernel_rfl
theorem has3_7 (k : Int) (hk : k = 29 ∨ k = 30 ∨ k = 31 ∨ k = 32) : (evFn T SQ1 LH 8 Try.f17 [.i .i64 k, .str [105, 108, 119, 117, 102]]).run = some (.b ((pairsC (fieldsOf k) [105, 108, 119, 117, 102]).any id)) := by
  rcases hk with rfl | rfl | rfl | rfl
  all_goals kernel_rfl
theorem has3_8 (k : Int) (hk : k = 33 ∨ k = 34 ∨ k = 35) : (evFn T SQ1 LH 8 Try.f17 [.i .i64 k, .str [105, 108, 119, 117, 102]]).run = some (.b ((pairsC (fieldsOf k) [105, 108, 119, 117, 102]).any id)) := by
  rcases hk with rfl | rfl | rfl
  all_goals kernel_rfl
theorem has3_9 (k : Int) (hk : k = 36 ∨ k = 37 ∨ k = 38) : (evFn T SQ1 LH 8 Try.f17 [.i .i64 k, .str [105, 108, 119, 117, 102]]).run = some (.b ((pairsC (fieldsOf k) [105, 108, 119, 117, 102]).any id)) := by
  rcases hk with rfl | rfl | rfl
  all_goals kernel_rfl
theorem has3_10 (k : Int) (hk : k = 39 ∨ k = 40 ∨ k = 41 ∨ k = 42 ∨ k = 43 ∨ k = 44 ∨ k = 45 ∨ k = 46 ∨ k = 47) : (evFn T SQ1 LH 8 Try.f17 [.i .i64 k, .str [105, 108, 119, 117, 102]]).run = some (.b ((pairsC (fieldsOf k) [105, 108, 119, 117, 102]).any id)) := by
  rcases hk with rfl | rfl | rfl | rfl | rfl | rfl | rfl | rfl | rfl
  all_goals kernel_rfl
theorem has3 (k : Int) (hk : range47 k) : (evFn T SQ1 LH 8 Try.f17 [.i .i64 k, .str [105, 108, 119, 117, 102]]).run = some (.b ((pairsC (fieldsOf k) [105, 108, 119, 117, 102]).any id)) := by
  have h : 1 ≤ k ∧ k ≤ 47 := by unfold range47 at hk; omega
  by_cases h0 : k ≤ 4
  · exact has3_0 k (by omega)
  by_cases h1 : k ≤ 8
  · exact has3_1 k (by omega)
  by_cases h2 : k ≤ 12
  · exact has3_2 k (by omega)
  by_cases h3 : k ≤ 16
  · exact has3_3 k (by omega)
  by_cases h4 : k ≤ 20
  · exact has3_4 k (by omega)
  by_cases h5 : k ≤ 24
  · exact has3_5 k (by omega)
  by_cases h6 : k ≤ 28
  · exact has3_6 k (by omega)
  by_cases h7 : k ≤ 32
  · exact has3_7 k (by omega)
  by_cases h8 : k ≤ 35
  · exact has3_8 k (by omega)
  by_cases h9 : k ≤ 38
  · exact has3_9 k (by omega)
  exact has3_10 k (by omega)
end Go.Proofs.Ytocfkaihfjbfnaa
set_option maxRecDepth 100000
namespace Go.Proofs.Ytocfkaihfjbfnaa
open Go.Proofs.Ytocfkaihfjbfnaa.Ev Go.RowKit
theorem hasOut (op : Int) (s : List UInt8) (h : inB 1 op 47 = false) : (evFn T SQ1 LH 8 Try.f17 [.i .i64 op, .str s]).run = some (.b false) := by
  have e : ∃ t, (evFn T SQ1 LH 8 Try.f17 [.i .i64 op, .str s]).run = if (if decide (op < 1) = true then true else decide (47 < op)) = true then some (.b false) else t :=
    ⟨match evFn T SQ1 LH 8 Try.f17 [.i .i64 op, .str s] with
      | .ite _ _ b => b.run
      | _ => none, by kernel_rfl⟩
  obtain ⟨t, e⟩ := e
  rw [e, if_pos]
  have h : ¬ (1 ≤ op ∧ op ≤ 47) := by simpa [inB] using h
  by_cases h1 : op < 1
  · simp [h1]
  · have : 47 < op := by omega
    simp [this]
def sr17 : CSpec
  | [.i .i64 op, .str [c1]] => some ⟨[], .b (hasA op [c1])⟩
  | [.i .i64 op, .str [c1, c2]] => some ⟨[], .b (hasA op [c1, c2])⟩
  | [.i .i64 op, .str [105, 108, 119, 117, 102]] => some ⟨[], .b (hasA op [105, 108, 119, 117, 102])⟩
  | _ => none
theorem hasRun (op : Int) (s : List UInt8) (h : ∀ k, range47 k → (evFn T SQ1 LH 8 Try.f17 [.i .i64 k, .str s]).run = chainB (pairsC (fieldsOf k) s)) : (evFn T SQ1 LH 8 Try.f17 [.i .i64 op, .str s]).run = some (.b (hasA op s)) := by
  unfold hasA
  cases hb : inB 1 op 47 with
  | false => rw [hasOut op s hb]; rfl
  | true =>
    have hr : 1 ≤ op ∧ op ≤ 47 := by simpa [inB] using hb
    rw [h op (range47_of hr), chainB_any]
    rfl
theorem loops17 : FnLoops T SQ1 LH 8 Try.f17 := FnLoops.no (by kernel_rfl)
theorem okr17 : FnOk Try.prog 17 sr17 := FnOk.of tyOk SQ1_ok mixed Try.func17 (by kernel_rfl) (by kernel_rfl) <| by
  intro xs r hs hp w R vs hvs
  refine ⟨8, loops17, ?_⟩
  unfold sr17 at hs
  split at hs <;> cases hs
  · exact hasRun _ _ (has1 _)
  · exact hasRun _ _ (has2 _ _)
  · exact hasRun _ _ (fun k hk => (has3 k hk).trans (chainB_any _).symm)
noncomputable abbrev SQ2 : FuncId → CSpec := withS SQ1 17 sr17
theorem SQ2_ok : ∀ f, FnOk Try.prog f (SQ2 f) := withS_ok SQ1_ok okr17
end Go.Proofs.Ytocfkaihfjbfnaa
