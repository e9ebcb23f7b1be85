/- Lemmas: which registers an instruction keeps, by the evaluator, and the plain law. No condition. -/
import Derived.Test.YtocfkaihfjbfnaaDone
import Derived.Test.YtocfkaihfjbfnaaHas
import Derived.Test.YtocfkaihfjbfnaaRegs
set_option linter.unusedVariables false
set_option linter.unusedSimpArgs false
set_option maxRecDepth 100000
namespace Go.Proofs.Ytocfkaihfjbfnaa
open Go.Proofs.Ytocfkaihfjbfnaa.Ev Go.RowKit
def sr11 : CSpec
  | [.agg (cI op w d n m a imm off cond r s)] => some ⟨[], .agg (cI op w d n m a imm off cond r s)⟩
  | _ => none
theorem okr11 : FnOk Try.prog 11 sr11 := okBy noS_ok Try.func11 (by kernel_rfl) (by kernel_rfl) 1 <| by
  intro xs r hs
  unfold sr11 at hs; split at hs <;> cases hs
  intro hp _
  kernel_rfl
noncomputable abbrev SK : FuncId → CSpec := withS (withS (withS (withS (withS (withS SP7 17 sr17) 11 sr11) 16 sr16) 15 sr15) 2000008 sr8P) 7 sr7
theorem SK_ok : ∀ f, FnOk Try.prog f (SK f) := withS_ok (withS_ok (withS_ok (withS_ok (withS_ok (withS_ok SP7_ok okr17) okr11) okr16) okr15) okr8P) okr7
def LK : Nat → Live := fun _ => ⟨[3,4,6,8,9], [(3,0),(3,31),(3,32),(3,33),(3,34),(3,35),(3,36),(3,37),(3,38),(3,39),(3,40),(3,41),(3,42),(4,0),(4,1),(4,2),(4,3),(4,4),(4,5),(4,6),(4,7),(4,8),(4,9),(4,10),(8,0),(8,31),(8,32),(8,33),(8,34),(8,35),(8,36),(8,37),(8,38),(8,39),(8,40),(8,41),(8,42)], [3,4,8], none⟩
def ownK (op d m : Int) (j : Int) : Bool :=
  if (if (if hasA op [100, 101] = true then d == j else false) = true then !(if (if (if decide (34 ≤ op) = true then decide (op ≤ 38) else false) = true then op != 35 else false) = true then op != 37 else false) else false) = true then true else if (op == 38) = true then m == j else false
def roundK (own : Int → Bool) (ne : Nat → Bool) (fin : Option AV) : Nat → Nat → Option AV
  | 0, _ => fin
  | n + 1, k => if (if (!own k) = true then decide ((0 : Int) ≤ k) else true) = true then if (if (!own k) = true then decide ((k : Int) < 31) else true) = true then if (if (!own k) = true then decide ((0 : Int) ≤ k) else true) = true then if (if (!own k) = true then decide ((k : Int) < 31) else true) = true then
      if (if (!own k) = true then ne k else false) = true then some (.b false) else roundK own ne fin n (k + 1) else none else none else none else none
def tellsK (op : Int) : Bool := if (if (if (if (op == 3) = true then true else op == 4) = true then true else op == 7) = true then true else op == 8) = true then true else op == 12
def finK (op : Int) (f1 f2 f3 f4 mk : Bool) : Bool :=
  if (if (if tellsK op = true then true else if (if (if f1 = true then f2 else false) = true then f3 else false) = true then f4 else false) = true then (if (if (op == 37) = true then true else op == 38) = true then true else mk) else false) = true then true else false
theorem run4 (X : Nat → W64) (n z c v : Bool) (pc : W64) (k : Int) (ex aq rl : Bool) (ta vv : W64) (w : Int) (op' w' d' n' m' a' : Int) (imm' : W64) (off' cond' r' s' : Int) (x : W64) :
    (evFn T SK LK 33 Try.f4 [.agg (cR (fun j => .u 64 (X j)) n z c v pc k ex aq rl ta vv w), .agg (cI op' w' d' n' m' a' imm' off' cond' r' s'), .u 64 x]).run =
    roundK (ownK op' d' m') (fun j => unU64 (selX (mayA op' w' d' n' m' a' imm' off' cond' r' s') (dX op' w' d' n' m' a' imm' r' s' x true (holds n z c v cond') (fun j => .u 64 (X j))) (fun j => .u 64 (X j)) j) != X j)
      (some (.b (finK op'
        (sb (mayA op' w' d' n' m' a' imm' off' cond' r' s') (dF op' (flN op' (getX (fun j => .u 64 (X j)) n') (sumsB op' s' imm' (getX (fun j => .u 64 (X j)) m')) n) n) n == n)
        (sb (mayA op' w' d' n' m' a' imm' off' cond' r' s') (dF op' (flZ op' (getX (fun j => .u 64 (X j)) n') (sumsB op' s' imm' (getX (fun j => .u 64 (X j)) m')) z) z) z == z)
        (sb (mayA op' w' d' n' m' a' imm' off' cond' r' s') (dF op' (flC op' (getX (fun j => .u 64 (X j)) n') (sumsB op' s' imm' (getX (fun j => .u 64 (X j)) m')) c) c) c == c)
        (sb (mayA op' w' d' n' m' a' imm' off' cond' r' s') (dF op' (flV op' (getX (fun j => .u 64 (X j)) n') (sumsB op' s' imm' (getX (fun j => .u 64 (X j)) m')) v) v) v == v)
        (kindOf (sb (mayA op' w' d' n' m' a' imm' off' cond' r' s') (markB op' true false ((bif k == 1 then (1 : Int) else 0) == 1)) ((bif k == 1 then (1 : Int) else 0) == 1)) (sb (mayA op' w' d' n' m' a' imm' off' cond' r' s') (markB op' false false ((bif k == 1 then (1 : Int) else 0) == 2)) ((bif k == 1 then (1 : Int) else 0) == 2)) == (bif k == 1 then 1 else 0) &&
          (sb (mayA op' w' d' n' m' a' imm' off' cond' r' s') (markB op' true false (bif k == 1 then ex else false)) (bif k == 1 then ex else false) == (bif k == 1 then ex else false) &&
          (sb (mayA op' w' d' n' m' a' imm' off' cond' r' s') (markB op' true false (bif k == 1 then aq else false)) (bif k == 1 then aq else false) == (bif k == 1 then aq else false) &&
          (sb (mayA op' w' d' n' m' a' imm' off' cond' r' s') (markB op' false false (bif k == 1 then rl else false)) (bif k == 1 then rl else false) == (bif k == 1 then rl else false) &&
          (sw (mayA op' w' d' n' m' a' imm' off' cond' r' s') (markW op' (getX (fun j => .u 64 (X j)) n' + imm') (bif k == 1 then ta else 0#64)) (bif k == 1 then ta else 0#64) == (bif k == 1 then ta else 0#64) &&
          (sw (mayA op' w' d' n' m' a' imm' off' cond' r' s') (markW op' 0#64 (bif k == 1 then vv else 0#64)) (bif k == 1 then vv else 0#64) == (bif k == 1 then vv else 0#64) &&
          (si (mayA op' w' d' n' m' a' imm' off' cond' r' s') (markI op' w' (bif k == 1 then w else 0)) (bif k == 1 then w else 0) == (bif k == 1 then w else 0) && true))))))))))
      31 0 := by kernel_rfl
end Go.Proofs.Ytocfkaihfjbfnaa
set_option maxRecDepth 100000
namespace Go.Proofs.Ytocfkaihfjbfnaa
open Go.Proofs.Ytocfkaihfjbfnaa.Ev Go.RowKit
theorem roundK_fin {own : Int → Bool} {ne : Nat → Bool} {fin : Option AV} : ∀ (n k : Nat), k + n ≤ 31 → (∀ j : Nat, j < 31 → own j = true ∨ ne j = false) → roundK own ne fin n k = fin
  | 0, k, _, _ => rfl
  | n + 1, k, hk, h => by
    have h1 : decide ((0 : Int) ≤ (k : Int)) = true := by simp
    have h2 : decide ((k : Int) < 31) = true := by simp; omega
    have h3 : ¬ (if (!own k) = true then ne k else false) = true := by
      rcases h k (by omega) with e | e
      · rw [e]; simp
      · rw [e]; simp
    unfold roundK
    rw [h1, h2]
    simp only [ite_self, if_true]
    rw [if_neg h3]
    exact roundK_fin n (k + 1) (by omega) h
theorem setX_other (X : Nat → W64) (d : Int) (v : W64) (j : Nat) (h : ¬ d = (j : Int)) : unU64 (setX (fun i => .u 64 (X i)) d v j) = X j := by
  show (bif decide (0 ≤ d) && decide (d < 31) then bif decide (j = d.toNat) then v else X j else X j) = X j
  by_cases h0 : 0 ≤ d
  · have : ¬ j = d.toNat := by omega
    simp [this]
  · simp [h0]
theorem has_de {op : Int} (h : 1 ≤ op ∧ op ≤ 37) : hasA op [100, 101] = true := by
  have main : ∀ k : Fin 38, 1 ≤ k.val → hasA (k.val : Int) [100, 101] = true := by decide +kernel
  have := main ⟨op.toNat, by omega⟩ (by show 1 ≤ op.toNat; omega)
  have e : ((op.toNat : Nat) : Int) = op := by omega
  simp only [e] at this
  exact this
theorem ownK_38 {d m j : Int} (h : m = j) : ownK 38 d m j = true := by
  subst h
  unfold ownK
  simp
theorem ownK_d {op d m j : Int} (h1 : 1 ≤ op ∧ op ≤ 37) (h2 : op ≠ 34) (h3 : op ≠ 36) (h : d = j) : ownK op d m j = true := by
  subst h
  unfold ownK
  rw [has_de h1]
  by_cases h34 : 34 ≤ op
  · have : op = 35 ∨ op = 37 := by omega
    rcases this with rfl | rfl <;> simp
  · simp [h34]
theorem law4a (X : Nat → W64) (op w d n m a : Int) (imm : W64) (off cond r s : Int) (x : W64) (h : Bool) (M : Bool) (hM : M = true → 1 ≤ op ∧ op ≤ 47) (j : Nat) :
    ownK op d m j = true ∨ (unU64 (selX M (dX op w d n m a imm r s x true h (fun j => .u 64 (X j))) (fun j => .u 64 (X j)) j) != X j) = false := by
  cases M with
  | false => right; show (X j != X j) = false; simp
  | true =>
    obtain ⟨h1, h2⟩ := hM rfl
    show _ ∨ ((if decide (op ≤ 32) = true then unU64 (setX (fun i => .u 64 (X i)) d (dV op s r imm (getX (fun i => .u 64 (X i)) n) (getX (fun i => .u 64 (X i)) m) (getX (fun i => .u 64 (X i)) d) (getX (fun i => .u 64 (X i)) a) h) j) else if decide (op ≤ 38) = true then unU64 (accX op w d m x true (fun i => .u 64 (X i)) j) else X j) != X j) = false
    generalize dV op s r imm (getX (fun i => .u 64 (X i)) n) (getX (fun i => .u 64 (X i)) m) (getX (fun i => .u 64 (X i)) d) (getX (fun i => .u 64 (X i)) a) h = v
    by_cases h32 : op ≤ 32
    · by_cases hd : d = (j : Int)
      · left; exact ownK_d (by omega) (by omega) (by omega) hd
      · right
        simp only [h32, decide_true, if_true, setX_other X d v j hd]
        simp
    · by_cases h38 : op ≤ 38
      · simp only [h32, h38, decide_true, decide_false, if_true, Bool.false_eq_true, if_false]
        show _ ∨ ((if isLd op = true then unU64 (setX (fun i => .u 64 (X i)) d (zx x w) j) else if (op == 38) = true then unU64 (setX (setX (fun i => .u 64 (X i)) m (BitVec.ofInt 64 1)) m (BitVec.ofInt 64 0) j) else X j) != X j) = false
        cases hl : isLd op with
        | true =>
          have hop : op = 33 ∨ op = 35 ∨ op = 37 := by
            simp only [isLd, Bool.or_eq_true, beq_iff_eq] at hl; omega
          by_cases hd : d = (j : Int)
          · left; exact ownK_d (by omega) (by omega) (by omega) hd
          · right
            simp only [if_true, setX_other X d (zx x w) j hd]
            simp
        | false =>
          by_cases h8 : op = 38
          · subst h8
            by_cases hm : m = (j : Int)
            · left; exact ownK_38 hm
            · right
              have e := setX_other (fun i => unU64 (setX (fun i => .u 64 (X i)) m (BitVec.ofInt 64 1) i)) m (BitVec.ofInt 64 0) j hm
              have e2 : unU64 (setX (setX (fun i => .u 64 (X i)) m (BitVec.ofInt 64 1)) m (BitVec.ofInt 64 0) j) = X j := by
                refine Eq.trans ?_ (Eq.trans e (setX_other X m _ j hm))
                rfl
              simp only [Bool.false_eq_true, if_false, beq_self_eq_true, if_true, e2]
              simp
          · right
            have : (op == 38) = false := by simpa using h8
            simp [this]
      · right
        simp [h32, h38]
theorem tells_eq (op : Int) : tellsK op = tells op := by
  unfold tellsK tells
  cases op == 3 <;> cases op == 4 <;> cases op == 7 <;> cases op == 8 <;> rfl
theorem sb_same {M p : Bool} : sb M p p = p := by cases M <;> rfl
theorem sw_same {M : Bool} {p : W64} : sw M p p = p := by cases M <;> rfl
theorem si_same {M : Bool} {p : Int} : si M p p = p := by cases M <;> rfl
theorem dF_same {op : Int} {p : Bool} : dF op p p = p := by unfold dF; simp
theorem flN_same {op : Int} (h : tells op = false) {x b : W64} {n : Bool} : flN op x b n = n := by unfold flN; rw [h]; rfl
theorem flZ_same {op : Int} (h : tells op = false) {x b : W64} {n : Bool} : flZ op x b n = n := by unfold flZ; rw [h]; rfl
theorem flC_same {op : Int} (h : tells op = false) {x b : W64} {n : Bool} : flC op x b n = n := by unfold flC; rw [h]; rfl
theorem flV_same {op : Int} (h : tells op = false) {x b : W64} {n : Bool} : flV op x b n = n := by unfold flV; rw [h]; rfl
theorem finK_true {op : Int} {f1 f2 f3 f4 mk : Bool} (h : tells op = false → f1 = true ∧ f2 = true ∧ f3 = true ∧ f4 = true) (hm : op ≠ 37 → op ≠ 38 → mk = true) : finK op f1 f2 f3 f4 mk = true := by
  unfold finK
  rw [tells_eq]
  have e : (if (if (op == 37) = true then true else op == 38) = true then true else mk) = true := by
    by_cases h7 : op = 37
    · simp [h7]
    · by_cases h8 : op = 38
      · simp [h8]
      · rw [hm h7 h8]; simp
  rw [e]
  cases ht : tells op with
  | true => simp
  | false =>
    obtain ⟨rfl, rfl, rfl, rfl⟩ := h ht
    simp
theorem markB_same {op : Int} (h7 : op ≠ 37) (h8 : op ≠ 38) {p q o : Bool} : markB op p q o = o := by unfold markB; simp [h7, h8]
theorem markW_same {op : Int} (h7 : op ≠ 37) (h8 : op ≠ 38) {p o : W64} : markW op p o = o := by unfold markW; simp [h7, h8]
theorem markI_same {op : Int} (h7 : op ≠ 37) (h8 : op ≠ 38) {p o : Int} : markI op p o = o := by unfold markI; simp [h7, h8]
theorem lawAsemKeeps (X : Nat → W64) (n z c v : Bool) (pc : W64) (k : Int) (ex aq rl : Bool) (ta vv : W64) (w : Int) (op' w' d' n' m' a' : Int) (imm' : W64) (off' cond' r' s' : Int) (x : W64) :
    (evFn T SK LK 33 Try.f4 [.agg (cR (fun j => .u 64 (X j)) n z c v pc k ex aq rl ta vv w), .agg (cI op' w' d' n' m' a' imm' off' cond' r' s'), .u 64 x]).run = some (.b true) := by
  rw [run4, roundK_fin 31 0 (by omega) (fun j _ => law4a X op' w' d' n' m' a' imm' off' cond' r' s' x _ _ (fun h => may_range h) j)]
  congr 2
  apply finK_true
  · intro ht
    simp only [flN_same ht, flZ_same ht, flC_same ht, flV_same ht, dF_same, sb_same]
    simp
  · intro h7 h8
    simp only [markB_same h7 h8, markW_same h7 h8, markI_same h7 h8, sb_same, sw_same, si_same]
    cases k == 1 <;> simp [kindOf]
theorem loops4 : FnLoops T SK LK 33 Try.f4 := FnLoops.no (by kernel_rfl)
/-- What the reference's instruction is told by. -/
abbrev IC := Int × Int × Int × Int × Int × Int × W64 × Int × Int × Int × Int × Unit
abbrev IC.cells (i : IC) : List AV := match i with
  | (op, w, d, n, m, a, imm, off, cond, r, s, _) => cI op w d n m a imm off cond r s
theorem lawAsemKeepsM (m : RC) (i : IC) (x : W64) : (evFn T SK LK 33 Try.f4 [.agg m.cells, .agg i.cells, .u 64 x]).run = some (.b true) := by
  obtain ⟨X, n, z, c, v, pc, ⟨k, ex, aq, rl, ta, vv, w, _⟩, _⟩ := m
  obtain ⟨op, iw, d, i, j, a, imm, off, cond, r, s, _⟩ := i
  exact lawAsemKeeps X n z c v pc k ex aq rl ta vv w op iw d i j a imm off cond r s x
end Go.Proofs.Ytocfkaihfjbfnaa
