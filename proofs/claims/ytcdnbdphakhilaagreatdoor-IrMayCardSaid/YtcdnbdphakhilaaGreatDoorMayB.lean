/- Lemmas: which code there may be, by the program and by the reference. No condition. -/
import Derived.Test.YtcdnbdphakhilaaGreatDoorMayA
set_option linter.unusedVariables false
set_option linter.unusedSimpArgs false
set_option maxRecDepth 100000
namespace Go.Proofs.YtcdnbdphakhilaaGreatDoor
open Go.Proofs.YtcdnbdphakhilaaGreatDoor.Ev Go.RowKit
/- Where steps of a kind stand; pairs. -/
def kindN (k : Int) : List IOp → Int → List (Dat 2)
  | [], _ => []
  | o :: r, i => if (o.Kind == k) = true then i :: kindN k r (i + 1) else kindN k r (i + 1)
theorem kindN_len (k : Int) : ∀ (l : List IOp) (i : Int), (kindN k l i).length ≤ l.length
  | [], i => Nat.le_refl _
  | o :: r, i => by
    have := kindN_len k r (i + 1)
    unfold kindN; split <;> simp <;> omega
theorem kindN_app (k : Int) (x : IOp) : ∀ (l : List IOp) (i : Int), kindN k (l ++ [x]) i = kindN k l i ++ (if (x.Kind == k) = true then [i + (l.length : Int)] else [])
  | [], i => by
    simp only [List.nil_append, kindN]
    split <;> simp
  | o :: r, i => by
    have e := kindN_app k x r (i + 1)
    have e2 : i + 1 + (r.length : Int) = i + ((o :: r).length : Int) := by rw [List.length_cons]; omega
    rw [e2] at e
    simp only [List.cons_append, kindN, e]
    split <;> rfl
def st112 (k : Int) (xs : List IOp) (ks : List (Dat 2)) (j : Int) : St := ⟨[(1, .i .i64 k), (5, .gs 5 0), (9, .vw 11 xs), (10, .i .i64 (xs.length : Int)), (11, .i .i64 j)], [((5,0), .row 3 2 ks 0)], [(5,0)], 0⟩
def q112 : St → Tr (Ex × St)
  | ⟨[(1, .i .i64 k), (5, .gs g v), (9, .vw 11 xs), (10, .i .i64 m), (11, .i .i64 j)], [(k5, .row 3 2 ks w)], ids, _⟩ =>
    .need ((g == 5 && v == 0) && (w == 0 && (k5 == (5, 0) && ids == [(5, 0)]))) (.need ((m == (xs.length : Int) && j == 0) && (decide (xs.length ≤ 1000000) && ks.isEmpty)) (.leaf (.exit 0, st112 k xs (kindN k xs 0) (xs.length : Int))))
  | _ => .fail
def L112 : Nat → Live := fun _ => ⟨[1, 5, 9, 10, 11], [(5,0)], [5], some q112⟩
theorem step112 (k : Int) (xs : List IOp) (ks : List (Dat 2)) (j : Int) : (atHead (evCode T SP6 L112 26 1 (loopOf Tryz.f112 0)) (L112 (firstR (loopOf Tryz.f112 0))) (st112 k xs ks j)).run =
    if decide (j < (xs.length : Int)) = true then if decide (0 ≤ j) = true then if decide (j < (xs.length : Int)) = true then if ifB ((xs.getD j.toNat (dat0 11)).Kind == k) (decide (ks.length + [j].length ≤ 134217728)) = true then
      some (.normal, st112 k xs (if ((xs.getD j.toNat (dat0 11)).Kind == k) = true then ks ++ [j] else ks) (IntKind.i64.wrap (j + 1)))
      else none else none else none else some (.exit 0, st112 k xs ks j) := by kernel_rfl
theorem loop112 (N : Nat) : LoopOk T SP6 L112 26 N (loopOf Tryz.f112 0) := LoopOk.sub rfl <| by
  intro τ e st hcut hr
  unfold q112 at hr
  split at hr
  case h_2 => exact (Tr.of_fail hr).elim
  rename_i k g v xs m j k5 ks w ids cu
  obtain rfl : cu = 0 := hcut
  obtain ⟨hc, hr1⟩ := Tr.of_need hr
  obtain ⟨hd, hr2⟩ := Tr.of_need hr1
  clear hr hr1
  simp only [Bool.and_eq_true, beq_iff_eq] at hc
  obtain ⟨⟨rfl, rfl⟩, rfl, rfl, rfl⟩ := hc
  simp only [Bool.and_eq_true, beq_iff_eq, decide_eq_true_eq, List.isEmpty_iff] at hd
  obtain ⟨⟨rfl, rfl⟩, hlen, rfl⟩ := hd
  have hlen : xs.length ≤ 1000000 := hlen
  simp only [Tr.run, Option.some.injEq, Prod.mk.injEq] at hr2
  obtain ⟨rfl, rfl⟩ := hr2
  have sameN : ∀ τ, atHead (evCode T SP6 L112 26 N (loopOf Tryz.f112 0)) (L112 (firstR (loopOf Tryz.f112 0))) τ = atHead (evCode T SP6 L112 26 1 (loopOf Tryz.f112 0)) (L112 (firstR (loopOf Tryz.f112 0))) τ := fun τ => rfl
  obtain ⟨n', hn⟩ := iter_from (g := atHead (evCode T SP6 L112 26 N (loopOf Tryz.f112 0)) (L112 (firstR (loopOf Tryz.f112 0)))) (fun j => st112 k xs (kindN k (xs.take j) 0) (j : Int)) 0 xs.length (Nat.zero_le _)
    (fun j _ hj => by
      have hl := kindN_len k (xs.take j) 0
      rw [List.length_take] at hl
      rw [sameN, step112, if_pos (by simpa using hj), if_pos (by simp), if_pos (by simpa using hj), if_pos (by unfold ifB; split; (rw [decide_eq_true_eq, List.length_singleton]; omega); rfl), Int.toNat_natCast, getD_at hj, wrap_succ j (by omega), List.take_succ_eq_append_getElem hj, kindN_app, List.length_take, Nat.min_eq_left (by omega), Int.zero_add]
      cases (show IOp from xs[j]).Kind == k with
      | true => rfl
      | false => simp)
    (by rw [sameN, step112, if_neg (by simp), List.take_length]) (by simp)
  exact ⟨n', _, hn, fun _ _ h => h, rfl, rfl⟩
def s112 : CSpec | [.agg (mkC a n (.vw 11 xs) ek ea et el), .i .i64 k] => some ⟨[decide (xs.length ≤ 1000000)], .vw 2 (kindN k xs 0)⟩ | _ => none
theorem ok112 : FnOk Tryz.prog 112 s112 := okL SP6_ok Tryz.func112 (by kernel_rfl) (by kernel_rfl) L112 1 (FnLoops.one (by kernel_rfl) (loop112 1)) <| by
  intro xs r hs hp
  unfold s112 at hs; split at hs <;> cases hs
  rename_i a n xs ek ea et el k
  have h0 := of_decide_eq_true (hp _ (List.mem_cons_self ..))
  have e : (evFn T SP6 L112 1 Tryz.f112 [.agg (mkC a n (.vw 11 xs) ek ea et el), .i .i64 k]).run = if (((xs.length : Int) == (xs.length : Int) && (0 : Int) == 0) && (decide (xs.length ≤ 1000000) && true)) = true then some (.vw 2 (kindN k xs 0)) else none := by kernel_rfl
  rw [e, if_pos (by simp [h0])]
noncomputable abbrev SP7 : FuncId → CSpec := withS SP6 112 s112
theorem SP7_ok : ∀ f, FnOk Tryz.prog f (SP7 f) := withS_ok SP6_ok ok112
def cnds : List Bool → Option AV → Option AV
  | [], x => x
  | c :: l, x => if c = true then cnds l x else none
theorem cnds_of : ∀ {l : List Bool} {x : Option AV}, l.all id = true → cnds l x = x
  | [], x, _ => rfl
  | c :: l, x, h => by
    simp only [List.all_cons, Bool.and_eq_true, id] at h
    unfold cnds; rw [if_pos h.1]; exact cnds_of h.2
def at0 (l : List (Dat 2)) : Int := l.getD (0 : Int).toNat (dat0 2)
def atO (xs : List IOp) (i : Int) : IOp := xs.getD i.toNat (dat0 11)
def g1 (l s : List (Dat 2)) : Bool := orB ((l.length : Int) != 1) ((s.length : Int) != 1)
def g2 (l s : List (Dat 2)) : Bool := orB (g1 l s) (decide (at0 s < at0 l))
def g3 (xs : List IOp) (l s : List (Dat 2)) : Bool := orB (g2 l s) ((atO xs (at0 l)).A != (atO xs (at0 s)).A)
def g4 (xs : List IOp) (l s : List (Dat 2)) : Bool := orB (g3 xs l s) ((atO xs (at0 l)).W != (atO xs (at0 s)).W)
def midL (xs : List IOp) (l s : List (Dat 2)) : List (Dat 11) := (xs.drop (IntKind.i64.wrap (at0 l + 1)).toNat).take ((at0 s).toNat - (IntKind.i64.wrap (at0 l + 1)).toNat)
def pairsP (xs : List IOp) (l s : List (Dat 2)) : Bool := if andB ((l.length : Int) == 0) ((s.length : Int) == 0) = true then true else if g4 xs l s = true then false else !((midL xs l s).any badQ)
def inL (g : Bool) (x : Int) (n : Nat) : List Bool := [ifB (!g) (decide (0 ≤ x)), ifB (!g) (decide (x < (n : Int)))]
def s63 : CSpec | [.agg (mkC a n (.vw 11 xs) ek ea et el)] => some ⟨[decide (xs.length ≤ 1000000)], .b (pairsP xs (kindN 9 xs 0) (kindN 10 xs 0))⟩ | _ => none
theorem run63 (a n : BitVec 64) (xs : List IOp) (ek ea : Int) (et el : BitVec 64) : ∀ l s, l = kindN 9 xs 0 → s = kindN 10 xs 0 → (evFn T SP7 noL 1 Tryz.f63 [.agg (mkC a n (.vw 11 xs) ek ea et el)]).run =
    cnds [decide (xs.length ≤ 1000000), decide (xs.length ≤ 1000000)] (if andB ((l.length : Int) == 0) ((s.length : Int) == 0) = true then some (.b true) else
      cnds (inL (g3 xs l s) (at0 s) xs.length ++ inL (g3 xs l s) 0 s.length ++ inL (g3 xs l s) (at0 l) xs.length ++ inL (g3 xs l s) 0 l.length ++
        inL (g2 l s) (at0 s) xs.length ++ inL (g2 l s) 0 s.length ++ inL (g2 l s) (at0 l) xs.length ++ inL (g2 l s) 0 l.length ++ inL (g1 l s) 0 s.length ++ inL (g1 l s) 0 l.length)
      (if g4 xs l s = true then some (.b false) else
        cnds [decide ((midL xs l s).length ≤ 1000000), decide (0 ≤ IntKind.i64.wrap (at0 l + 1)), decide (IntKind.i64.wrap (at0 l + 1) ≤ at0 s), decide (at0 s ≤ (xs.length : Int)), decide ((0 : Int) ≤ 0), decide ((0 : Int) < (s.length : Int)), decide ((0 : Int) ≤ 0), decide ((0 : Int) < (l.length : Int))]
          (some (.b (!((midL xs l s).any badQ)))))) := by
  intro l s h1 h2; subst h1; subst h2; kernel_rfl
end Go.Proofs.YtcdnbdphakhilaaGreatDoor
set_option maxRecDepth 100000
namespace Go.Proofs.YtcdnbdphakhilaaGreatDoor
open Go.Proofs.YtcdnbdphakhilaaGreatDoor.Ev Go.RowKit
/- Pairs and ends. -/
theorem kindN_mem (k : Int) : ∀ (l : List IOp) (i v : Int), v ∈ kindN k l i → i ≤ v ∧ v < i + (l.length : Int) ∧ (atO l (v - i)).Kind = k
  | [], i, v, h => by cases h
  | o :: r, i, v, h => by
    have rest : v ∈ kindN k r (i + 1) → i ≤ v ∧ v < i + ((o :: r).length : Int) ∧ (atO (o :: r) (v - i)).Kind = k := by
      intro h
      obtain ⟨h1, h2, h3⟩ := kindN_mem k r (i + 1) v h
      refine ⟨by omega, by rw [List.length_cons]; omega, ?_⟩
      have e : (v - i).toNat = (v - (i + 1)).toNat + 1 := by omega
      unfold atO at h3 ⊢
      rw [e]; exact h3
    unfold kindN at h
    split at h
    · rename_i hk
      rcases List.mem_cons.1 h with rfl | h
      · refine ⟨by omega, by rw [List.length_cons]; omega, ?_⟩
        unfold atO
        rw [Int.sub_self]
        simpa using hk
      · exact rest h
    · exact rest h
theorem at0_mem {l : List (Dat 2)} (h : l.length = 1) : at0 l ∈ l := by
  match l, h with
  | [x], _ => exact List.mem_cons_self ..
theorem kind_at {k : Int} {xs : List IOp} (h : (kindN k xs 0).length = 1) : 0 ≤ at0 (kindN k xs 0) ∧ at0 (kindN k xs 0) < (xs.length : Int) ∧ (atO xs (at0 (kindN k xs 0))).Kind = k := by
  obtain ⟨h1, h2, h3⟩ := kindN_mem k xs 0 _ (at0_mem h)
  rw [Int.sub_zero] at h3
  exact ⟨h1, by omega, h3⟩
theorem inL_all {g : Bool} {x : Int} {n : Nat} (h : g = false → 0 ≤ x ∧ x < (n : Int)) : (inL g x n).all id = true := by
  unfold inL ifB
  cases g with
  | true => rfl
  | false =>
    obtain ⟨h1, h2⟩ := h rfl
    simp [h1, h2]
theorem orB_false {a b : Bool} (h : orB a b = false) : a = false ∧ b = false := by
  rw [orB_eq] at h; simpa using h
theorem g1_false {l s : List (Dat 2)} (h : g1 l s = false) : l.length = 1 ∧ s.length = 1 := by
  obtain ⟨h1, h2⟩ := orB_false h
  simp at h1 h2
  omega
theorem pair_facts {xs : List IOp} (h : g1 (kindN 9 xs 0) (kindN 10 xs 0) = false) : (0 ≤ at0 (kindN 9 xs 0) ∧ at0 (kindN 9 xs 0) < (xs.length : Int)) ∧ (0 ≤ at0 (kindN 10 xs 0) ∧ at0 (kindN 10 xs 0) < (xs.length : Int)) ∧ at0 (kindN 9 xs 0) ≠ at0 (kindN 10 xs 0) := by
  obtain ⟨h1, h2⟩ := g1_false h
  obtain ⟨a1, a2, a3⟩ := kind_at h1
  obtain ⟨b1, b2, b3⟩ := kind_at h2
  refine ⟨⟨a1, a2⟩, ⟨b1, b2⟩, fun e => ?_⟩
  rw [e, b3] at a3
  cases a3
theorem ok63 : FnOk Tryz.prog 63 s63 := okBy SP7_ok Tryz.func63 (by kernel_rfl) (by kernel_rfl) 1 <| by
  intro ys r hs
  unfold s63 at hs; split at hs <;> cases hs
  rename_i a n xs ek ea et el
  rintro hp _
  have h0 : decide (xs.length ≤ 1000000) = true := hp _ (List.mem_cons_self ..)
  have hx : xs.length ≤ 1000000 := of_decide_eq_true h0
  show (evFn T SP7 noL 1 Tryz.f63 [.agg (mkC a n (.vw 11 xs) ek ea et el)]).run = some (.b (pairsP xs (kindN 9 xs 0) (kindN 10 xs 0)))
  rw [run63 a n xs ek ea et el _ _ rfl rfl, cnds_of (by simp [h0])]
  unfold pairsP
  have f1 := @pair_facts xs
  have f0 := @g1_false (kindN 9 xs 0) (kindN 10 xs 0)
  generalize kindN 9 xs 0 = l at f1 f0 ⊢
  generalize kindN 10 xs 0 = s at f1 f0 ⊢
  cases he : andB ((l.length : Int) == 0) ((s.length : Int) == 0) with
  | true => rfl
  | false =>
    simp only [Bool.false_eq_true, if_false]
    have i2 : g2 l s = false → g1 l s = false := fun h => (orB_false h).1
    have i3 : g3 xs l s = false → g1 l s = false := fun h => i2 (orB_false h).1
    have i4 : g4 xs l s = false → g1 l s = false ∧ at0 l ≤ at0 s := fun h => by
      have h3 := (orB_false h).1
      have h2 := (orB_false h3).1
      refine ⟨i2 h2, ?_⟩
      have := (orB_false h2).2
      simp at this; omega
    have n1 : ∀ {g : Bool}, (g = false → g1 l s = false) → (inL g 0 l.length).all id = true ∧ (inL g 0 s.length).all id = true ∧ (inL g (at0 l) xs.length).all id = true ∧ (inL g (at0 s) xs.length).all id = true := by
      intro g hg
      refine ⟨inL_all fun h => ?_, inL_all fun h => ?_, inL_all fun h => (f1 (hg h)).1, inL_all fun h => (f1 (hg h)).2.1⟩
      · obtain ⟨k1, k2⟩ := f0 (hg h); omega
      · obtain ⟨k1, k2⟩ := f0 (hg h); omega
    obtain ⟨a1, a2, a3, a4⟩ := n1 i3
    obtain ⟨b1, b2, b3, b4⟩ := n1 i2
    obtain ⟨c1, c2, _, _⟩ := n1 (g := g1 l s) (fun h => h)
    rw [cnds_of (by simp only [List.all_append, a1, a2, a3, a4, b1, b2, b3, b4, c1, c2, Bool.and_self])]
    cases h4 : g4 xs l s with
    | true => rfl
    | false =>
      simp only [Bool.false_eq_true, if_false]
      obtain ⟨k1, k2⟩ := i4 h4
      obtain ⟨⟨x1, x2⟩, ⟨y1, y2⟩, hne⟩ := f1 k1
      obtain ⟨l1, s1⟩ := f0 k1
      have hw : IntKind.i64.wrap (at0 l + 1) = at0 l + 1 := wrap_small _ (by omega) (by omega)
      have hm : (midL xs l s).length ≤ 1000000 := by
        unfold midL
        rw [List.length_take, List.length_drop]
        omega
      refine cnds_of ?_
      rw [hw]
      simp only [List.all_cons, List.all_nil, id, Bool.and_true, Bool.and_eq_true, decide_eq_true_eq]
      exact ⟨hm, by omega, by omega, by omega, by omega, by omega, by omega, by omega⟩
def endsP (xs : List IOp) (ek ea : Int) (et el : BitVec 64) : Bool :=
  if (if (ek == 1) = true then ek == 1 else ek == 4) = true then andB (ea == 0) (el == BitVec.ofInt 64 0) else if (ek == 2) = true then valP xs ea (xs.length : Int)
  else if (ek == 3) = true then andB (andB (valP xs ea (xs.length : Int)) (et == BitVec.ofInt 64 0)) (el == BitVec.ofInt 64 0)
  else if (ek == 5) = true then andB (andB (andB (decide (1 ≤ ea)) (decide (ea ≤ 6))) (et == BitVec.ofInt 64 0)) (el == BitVec.ofInt 64 0) else false
def s64 : CSpec | [.agg (mkC a n (.vw 11 xs) ek ea et el)] => some ⟨[], .b (endsP xs ek ea et el)⟩ | _ => none
theorem ok64 : FnOk Tryz.prog 64 s64 := okBy SP7_ok Tryz.func64 (by kernel_rfl) (by kernel_rfl) 1 <| by
  intro ys r hs
  unfold s64 at hs; split at hs <;> cases hs
  rename_i a n xs ek ea et el
  rintro hp _
  show (evFn T SP7 noL 1 Tryz.f64 [.agg (mkC a n (.vw 11 xs) ek ea et el)]).run = some (.b (endsP xs ek ea et el))
  have e : (evFn T SP7 noL 1 Tryz.f64 [.agg (mkC a n (.vw 11 xs) ek ea et el)]).run =
    if (if (if (ek == 1) = true then ek == 1 else ek == 4) = true then true else ifB (ek == 2) (decide ((xs.length : Int) ≤ (xs.length : Int)))) = true then
    if (if (if (ek == 1) = true then ek == 1 else ek == 4) = true then true else if (ek == 2) = true then true else ifB (ek == 3) (decide ((xs.length : Int) ≤ (xs.length : Int)))) = true then
    if (if (ek == 1) = true then ek == 1 else ek == 4) = true then some (.b (andB (ea == 0) (el == BitVec.ofInt 64 0))) else if (ek == 2) = true then some (.b (valP xs ea (xs.length : Int)))
    else if (ek == 3) = true then some (.b (andB (andB (valP xs ea (xs.length : Int)) (et == BitVec.ofInt 64 0)) (el == BitVec.ofInt 64 0)))
    else if (ek == 5) = true then some (.b (andB (andB (andB (decide (1 ≤ ea)) (decide (ea ≤ 6))) (et == BitVec.ofInt 64 0)) (el == BitVec.ofInt 64 0))) else some (.b false)
    else none else none := by kernel_rfl
  have hd : decide ((xs.length : Int) ≤ (xs.length : Int)) = true := by simp
  rw [e, hd, ifB_true, ifB_true, if_pos (by simp only [ite_self]), if_pos (by simp only [ite_self])]
  unfold endsP
  simp only [some_iteB]
noncomputable abbrev SP8 : FuncId → CSpec := withS (withS SP7 63 s63) 64 s64
theorem SP8_ok : ∀ f, FnOk Tryz.prog f (SP8 f) := withS_ok (withS_ok SP7_ok ok63) ok64
end Go.Proofs.YtcdnbdphakhilaaGreatDoor
set_option maxRecDepth 100000
namespace Go.Proofs.YtcdnbdphakhilaaGreatDoor
open Go.Proofs.YtcdnbdphakhilaaGreatDoor.Ev Go.RowKit
/- May, by the program and by the reference. -/
def mrun {σ : Type} (step : Nat → σ → Option σ) : Nat → Nat → σ → Bool × Nat × σ
  | 0, j, s => (false, j, s)
  | n + 1, j, s => match step j s with
    | none => (true, j, s)
    | some s' => mrun step n (j + 1) s'
theorem machine {σ : Type} {g : St → Tr (Ex × St)} (τ : Nat → σ → St) (step : Nat → σ → Option σ) {e : Ex} (he : e ≠ .normal) (len : Nat)
    (h : ∀ j s, j < len → (g (τ j s)).run = match step j s with | some s' => some (.normal, τ (j + 1) s') | none => some (.ret, τ j s)) (hx : ∀ s, (g (τ len s)).run = some (e, τ len s)) :
    ∀ n j s, j + n = len → ∃ N, (iter g N (τ j s)).run = if (mrun step n j s).1 = true then some (.ret, τ (mrun step n j s).2.1 (mrun step n j s).2.2) else some (e, τ len (mrun step n j s).2.2)
  | 0, j, s, hl => by
    have : j = len := by omega
    subst this
    refine ⟨1, ?_⟩
    simp only [iter, mrun, Bool.false_eq_true, if_false]
    rw [Tr.run_of_bind (hx s)]
    cases e with
    | normal => exact absurd rfl he
    | _ => rfl
  | n + 1, j, s, hl => by
    have h1 := h j s (by omega)
    cases hs : step j s with
    | none =>
      rw [hs] at h1
      refine ⟨1, ?_⟩
      simp only [iter, mrun, hs, if_true]
      rw [Tr.run_of_bind h1]
      rfl
    | some s' =>
      rw [hs] at h1
      obtain ⟨N, hN⟩ := machine τ step he len h hx n (j + 1) s' (by omega)
      refine ⟨N + 1, ?_⟩
      simp only [mrun, hs]
      rw [← hN]
      simp only [iter]
      rw [Tr.run_of_bind h1]
theorem mrun_bound {σ : Type} (step : Nat → σ → Option σ) : ∀ n j s, (mrun step n j s).2.1 ≤ j + n
  | 0, j, s => Nat.le_refl _
  | n + 1, j, s => by
    unfold mrun
    split
    · simp
    · have := mrun_bound step n (j + 1) ‹_›
      omega
open Classical in
noncomputable def eqL (xs xs' : List IOp) : Bool := decide (xs = xs')
theorem eqL_iff {xs xs' : List IOp} : eqL xs xs' = true ↔ xs = xs' := by unfold eqL; simp
def usesQ (p : IOp) : List (Dat 2) := usesP p.Kind p.A p.B p.C
def mayQ (p : IOp) : Bool := mayP p.Kind p.F p.W p.A p.B p.C p.N p.Signed p.Ord
def badP (xs : List IOp) (j : Int) (p : IOp) : Bool := orB (!mayQ p) ((usesQ p).any (badV xs j))
def stepP (xs : List IOp) (j : Nat) (_ : Unit) : Option Unit := if badP xs (j : Int) (xs.getD j (dat0 11)) = true then none else some ()
def keys16 : List Key := [(1,0),(1,1),(1,2),(1,3),(1,4),(1,5),(1,6)]
def st16 (a n : BitVec 64) (xs : List IOp) (ek ea : Int) (et el : BitVec 64) (j : Int) : St :=
  ⟨[(1, .ptr 1 0), (2, .b false), (10, .vw 11 xs), (11, .i .i64 (xs.length : Int)), (12, .i .i64 j)], [((1,0), .u 64 a), ((1,1), .u 64 n), ((1,2), .vw 11 xs), ((1,3), .i .i64 ek), ((1,4), .i .i64 ea), ((1,5), .u 64 et), ((1,6), .u 64 el)], [(1,7)], 0⟩
noncomputable def q16 : St → Tr (Ex × St)
  | ⟨[(1, .ptr p1 o1), (2, .b b2), (10, .vw 11 ys), (11, .i .i64 m), (12, .i .i64 j)], [(k0, .u 64 a), (k1, .u 64 n), (k2, .vw 11 xs), (k3, .i .i64 ek), (k4, .i .i64 ea), (k5, .u 64 et), (k6, .u 64 el)], ids, _⟩ =>
    .need ((p1 == 1 && o1 == 0) && (!b2 && ([k0, k1, k2, k3, k4, k5, k6] == keys16 && ids == [(1,7)])))
      (.need ((m == (xs.length : Int) && j == 0) && (decide (xs.length ≤ 1000000) && eqL ys xs))
        (.ite (mrun (stepP xs) xs.length 0 ()).1 (.leaf (.ret, st16 a n xs ek ea et el ((mrun (stepP xs) xs.length 0 ()).2.1 : Int))) (.leaf (.exit 0, st16 a n xs ek ea et el (xs.length : Int)))))
  | _ => .fail
noncomputable def L16 : Nat → Live := fun _ => ⟨[1, 2, 10, 11, 12], keys16, [1], some q16⟩
theorem step16 (a n : BitVec 64) (xs : List IOp) (ek ea : Int) (et el : BitVec 64) (j : Int) : ∀ p, p = xs.getD j.toNat (dat0 11) → (atHead (evCode T SP8 L16 33 1 (loopOf Tryz.f16 0)) (L16 (firstR (loopOf Tryz.f16 0))) (st16 a n xs ek ea et el j)).run =
    if decide (j < (xs.length : Int)) = true then if decide (0 ≤ j) = true then if decide (j < (xs.length : Int)) = true then if ifB (!!mayQ p) (decide (j ≤ (xs.length : Int))) = true then if ifB (!!mayQ p) (decide ((usesQ p).length ≤ 1000000)) = true then
      if badP xs j p = true then some (.ret, st16 a n xs ek ea et el j) else some (.normal, st16 a n xs ek ea et el (IntKind.i64.wrap (j + 1)))
      else none else none else none else none else some (.exit 0, st16 a n xs ek ea et el j) := by intro p hp; subst hp; kernel_rfl
theorem usesQ_len (p : IOp) : (usesQ p).length ≤ 3 := by
  unfold usesQ usesP
  repeat' (first | (simp; done) | split)
theorem loop16 (N : Nat) : LoopOk T SP8 L16 33 N (loopOf Tryz.f16 0) := LoopOk.sub rfl <| by
  intro τ e st hcut hr
  unfold q16 at hr
  split at hr
  case h_2 => exact (Tr.of_fail hr).elim
  rename_i p1 o1 b2 ys m j k0 a k1 n k2 xs k3 ek k4 ea k5 et k6 el ids cu
  obtain rfl : cu = 0 := hcut
  obtain ⟨hc, hr1⟩ := Tr.of_need hr
  obtain ⟨hd, hr2⟩ := Tr.of_need hr1
  clear hr hr1
  simp only [Bool.and_eq_true, beq_iff_eq, Bool.not_eq_true'] at hc
  obtain ⟨⟨rfl, rfl⟩, rfl, hk, rfl⟩ := hc
  simp only [keys16, List.cons.injEq, and_true] at hk
  obtain ⟨rfl, rfl, rfl, rfl, rfl, rfl, rfl⟩ := hk
  rw [Bool.and_eq_true, Bool.and_eq_true, Bool.and_eq_true, eqL_iff] at hd
  obtain ⟨⟨h1, h2⟩, hlen, he⟩ := hd
  obtain rfl := eq_of_beq h1
  obtain rfl := eq_of_beq h2
  have he : ys = xs := he
  subst he
  have hlen : ys.length ≤ 1000000 := of_decide_eq_true hlen
  have sameN : ∀ τ, atHead (evCode T SP8 L16 33 N (loopOf Tryz.f16 0)) (L16 (firstR (loopOf Tryz.f16 0))) τ = atHead (evCode T SP8 L16 33 1 (loopOf Tryz.f16 0)) (L16 (firstR (loopOf Tryz.f16 0))) τ := fun τ => rfl
  obtain ⟨n', hn⟩ := machine (g := atHead (evCode T SP8 L16 33 N (loopOf Tryz.f16 0)) (L16 (firstR (loopOf Tryz.f16 0)))) (fun j (_ : Unit) => st16 a n ys ek ea et el (j : Int)) (stepP ys) (e := .exit 0) (by simp) ys.length
    (fun j s hj => by
      have hu := usesQ_len (ys.getD j (dat0 11))
      rw [sameN, step16 a n ys ek ea et el (j : Int) _ rfl, if_pos (by simpa using hj), if_pos (by simp), if_pos (by simpa using hj), Int.toNat_natCast, if_pos (by unfold ifB; split; (rw [decide_eq_true_eq]; omega); rfl), if_pos (by unfold ifB; split; (rw [decide_eq_true_eq]; omega); rfl), wrap_succ j (by omega)]
      unfold stepP
      cases badP ys (j : Int) (ys.getD j (dat0 11)) <;> rfl)
    (fun s => by rw [sameN, step16 a n ys ek ea et el _ _ rfl, if_neg (by simp)]) ys.length 0 () (by omega)
  rcases Tr.of_ite hr2 with ⟨hp, hr⟩ | ⟨hp, hr⟩
  · simp only [Tr.run, Option.some.injEq, Prod.mk.injEq] at hr
    obtain ⟨rfl, rfl⟩ := hr
    rw [hp] at hn
    exact ⟨n', _, hn, fun _ _ h => h, rfl, rfl⟩
  · simp only [Tr.run, Option.some.injEq, Prod.mk.injEq] at hr
    obtain ⟨rfl, rfl⟩ := hr
    rw [hp] at hn
    exact ⟨n', _, hn, fun _ _ h => h, rfl, rfl⟩
def MayP (xs : List IOp) (ek ea : Int) (et el : BitVec 64) : Bool :=
  if decide ((250 : Int) < (xs.length : Int)) = true then false else if (mrun (stepP xs) xs.length 0 ()).1 = true then false else andB (pairsP xs (kindN 9 xs 0) (kindN 10 xs 0)) (endsP xs ek ea et el)
def s16 : CSpec | [.agg (mkC a n (.vw 11 xs) ek ea et el)] => some ⟨[decide (xs.length ≤ 1000000)], .b (MayP xs ek ea et el)⟩ | _ => none
theorem ok16 : FnOk Tryz.prog 16 s16 := okL SP8_ok Tryz.func16 (by kernel_rfl) (by kernel_rfl) L16 1 (FnLoops.one (by kernel_rfl) (loop16 1)) <| by
  intro ys r hs hp
  unfold s16 at hs; split at hs <;> cases hs
  rename_i a n xs ek ea et el
  have h0 : decide (xs.length ≤ 1000000) = true := hp _ (List.mem_cons_self ..)
  show (evFn T SP8 L16 1 Tryz.f16 [.agg (mkC a n (.vw 11 xs) ek ea et el)]).run = some (.b (MayP xs ek ea et el))
  have e : (evFn T SP8 L16 1 Tryz.f16 [.agg (mkC a n (.vw 11 xs) ek ea et el)]).run =
    if decide ((250 : Int) < (xs.length : Int)) = true then some (.b false) else
    if (((xs.length : Int) == (xs.length : Int) && (0 : Int) == 0) && (decide (xs.length ≤ 1000000) && eqL xs xs)) = true then
      if (mrun (stepP xs) xs.length 0 ()).1 = true then some (.b false) else if decide (xs.length ≤ 1000000) = true then some (.b (andB (pairsP xs (kindN 9 xs 0) (kindN 10 xs 0)) (endsP xs ek ea et el))) else none
    else none := by kernel_rfl
  have hc : (((xs.length : Int) == (xs.length : Int) && (0 : Int) == 0) && (decide (xs.length ≤ 1000000) && eqL xs xs)) = true := by
    rw [h0, eqL_iff.2 (rfl : xs = xs)]; simp
  rw [e, hc, h0]
  unfold MayP
  simp only [some_iteB, if_true]
end Go.Proofs.YtcdnbdphakhilaaGreatDoor
set_option maxRecDepth 100000
namespace Go.Proofs.YtcdnbdphakhilaaGreatDoor
open Go.Proofs.YtcdnbdphakhilaaGreatDoor.Ev Go.RowKit
/- The reference's May. -/
noncomputable abbrev SR2 : FuncId → CSpec := withS (withS SR1 65 s65) 24 s24
theorem SR2_ok : ∀ f, FnOk Tryz.prog f (SR2 f) := withS_ok (withS_ok SR1_ok ok65) ok24
def isLx (p : IOp) : Bool := wordS p.Kind == [108, 120]
def isSx (p : IOp) : Bool := wordS p.Kind == [115, 120]
def unlike (st : Int) (x p : IOp) : Bool := orB (orB (st != 1) (x.A != p.A)) (x.W != p.W)
def stepR (xs : List IOp) (j : Nat) (s : Int × IOp) : Option (Int × IOp) :=
  if (!mayR xs (j : Int) (xs.getD j (dat0 11))) = true then none
  else if isLx (xs.getD j (dat0 11)) = true then (if (s.1 != 0) = true then none else some (1, xs.getD j (dat0 11)))
  else if isSx (xs.getD j (dat0 11)) = true then (if unlike s.1 s.2 (xs.getD j (dat0 11)) = true then none else some (2, s.2))
  else if andB (s.1 == 1) (!pureR (show IOp from xs.getD j (dat0 11)).Kind) = true then none else some s
def keys17 : List Key := [(1,0),(1,1),(1,2),(1,3),(1,4),(1,5),(1,6),(4,0),(4,1),(4,2),(4,3),(4,4),(4,5),(4,6),(4,7),(4,8)]
def st17 (a n : BitVec 64) (xs : List IOp) (ek ea : Int) (et el : BitVec 64) (st : Int) (x : IOp) (j : Int) : St :=
  ⟨[(1, .ptr 1 0), (2, .b false), (3, .i .i64 st), (4, .ptr 4 0), (13, .vw 11 xs), (14, .i .i64 (xs.length : Int)), (15, .i .i64 j)], [((1,0), .u 64 a), ((1,1), .u 64 n), ((1,2), .vw 11 xs), ((1,3), .i .i64 ek), ((1,4), .i .i64 ea), ((1,5), .u 64 et), ((1,6), .u 64 el),
   ((4,0), .i .i64 x.Kind), ((4,1), .i .i64 x.F), ((4,2), .i .i64 x.W), ((4,3), .i .i64 x.A), ((4,4), .i .i64 x.B), ((4,5), .i .i64 x.C), ((4,6), .u 64 x.N), ((4,7), .b x.Signed), ((4,8), .i .i64 x.Ord)], [(4,9),(1,7)], 0⟩
noncomputable def q17 : St → Tr (Ex × St)
  | ⟨[(1, .ptr p1 o1), (2, .b b2), (3, .i .i64 s), (4, .ptr p4 o4), (13, .vw 11 ys), (14, .i .i64 m), (15, .i .i64 j)], [(k0, .u 64 a), (k1, .u 64 n), (k2, .vw 11 xs), (k3, .i .i64 ek), (k4, .i .i64 ea), (k5, .u 64 et), (k6, .u 64 el),
      (h0, .i .i64 x0), (h1, .i .i64 x1), (h2, .i .i64 x2), (h3, .i .i64 x3), (h4, .i .i64 x4), (h5, .i .i64 x5), (h6, .u 64 x6), (h7, .b x7), (h8, .i .i64 x8)], ids, _⟩ =>
    .need ((p1 == 1 && o1 == 0) && ((p4 == 4 && o4 == 0) && (!b2 && ([k0, k1, k2, k3, k4, k5, k6, h0, h1, h2, h3, h4, h5, h6, h7, h8] == keys17 && ids == [(4,9),(1,7)]))))
      (.need ((m == (xs.length : Int) && j == 0) && (decide (xs.length ≤ 1000000) && eqL ys xs))
        (.ite (mrun (stepR xs) xs.length 0 (s, ⟨x0, x1, x2, x3, x4, x5, x6, x7, x8⟩)).1
          (.leaf (.ret, st17 a n xs ek ea et el (mrun (stepR xs) xs.length 0 (s, ⟨x0, x1, x2, x3, x4, x5, x6, x7, x8⟩)).2.2.1 (mrun (stepR xs) xs.length 0 (s, ⟨x0, x1, x2, x3, x4, x5, x6, x7, x8⟩)).2.2.2 ((mrun (stepR xs) xs.length 0 (s, ⟨x0, x1, x2, x3, x4, x5, x6, x7, x8⟩)).2.1 : Int)))
          (.leaf (.exit 0, st17 a n xs ek ea et el (mrun (stepR xs) xs.length 0 (s, ⟨x0, x1, x2, x3, x4, x5, x6, x7, x8⟩)).2.2.1 (mrun (stepR xs) xs.length 0 (s, ⟨x0, x1, x2, x3, x4, x5, x6, x7, x8⟩)).2.2.2 (xs.length : Int)))))
  | _ => .fail
noncomputable def L17 : Nat → Live := fun _ => ⟨[1, 2, 3, 4, 13, 14, 15], keys17, [1, 4], some q17⟩
theorem step17 (a n : BitVec 64) (xs : List IOp) (ek ea : Int) (et el : BitVec 64) (st : Int) (x : IOp) (j : Int) : ∀ p, p = xs.getD j.toNat (dat0 11) → (atHead (evCode T SR2 L17 126 1 (loopOf Tryz.f17 0)) (L17 (firstR (loopOf Tryz.f17 0))) (st17 a n xs ek ea et el st x j)).run =
    if decide (j < (xs.length : Int)) = true then if decide (0 ≤ j) = true then if decide (j < (xs.length : Int)) = true then if decide (0 ≤ j) = true then if decide (j < (xs.length : Int)) = true then
      if (!mayR xs j p) = true then some (.ret, st17 a n xs ek ea et el st x j)
      else if decide (0 ≤ p.Kind) = true then if decide (p.Kind < (wordsT.length : Int)) = true then
        if isLx p = true then (if (st != 0) = true then some (.ret, st17 a n xs ek ea et el st x j) else some (.normal, st17 a n xs ek ea et el 1 p (IntKind.i64.wrap (j + 1))))
        else if isSx p = true then (if unlike st x p = true then some (.ret, st17 a n xs ek ea et el st x j) else some (.normal, st17 a n xs ek ea et el 2 x (IntKind.i64.wrap (j + 1))))
        else if andB (st == 1) (!pureR p.Kind) = true then some (.ret, st17 a n xs ek ea et el st x j) else some (.normal, st17 a n xs ek ea et el st x (IntKind.i64.wrap (j + 1)))
      else none else none
      else none else none else none else none else some (.exit 0, st17 a n xs ek ea et el st x j) := by intro p hp; subst hp; kernel_rfl
theorem mayR_kind {xs : List IOp} {i : Int} {p : IOp} (h : mayR xs i p = true) : 1 ≤ p.Kind ∧ p.Kind ≤ 13 := by
  by_cases hk : p.Kind < 1 ∨ 13 < p.Kind
  · have e : rowS p.Kind = [] := rowS_out hk
    have hb : badR p = true := by
      unfold badR
      simp only [e, orB_eq, beq_self_eq_true, Bool.true_or]
    unfold mayR at h
    rw [hb] at h
    cases h
  · omega
theorem loop17 (N : Nat) : LoopOk T SR2 L17 126 N (loopOf Tryz.f17 0) := LoopOk.sub rfl <| by
  intro τ e st hcut hr
  unfold q17 at hr
  split at hr
  case h_2 => exact (Tr.of_fail hr).elim
  rename_i p1 o1 b2 s p4 o4 ys m j k0 a k1 n k2 xs k3 ek k4 ea k5 et k6 el h0 x0 h1 x1 h2 x2 h3 x3 h4 x4 h5 x5 h6 x6 h7 x7 h8 x8 ids cu
  obtain rfl : cu = 0 := hcut
  obtain ⟨hc, hr1⟩ := Tr.of_need hr
  obtain ⟨hd, hr2⟩ := Tr.of_need hr1
  clear hr hr1
  simp only [Bool.and_eq_true, beq_iff_eq, Bool.not_eq_true'] at hc
  obtain ⟨⟨rfl, rfl⟩, ⟨rfl, rfl⟩, rfl, hk, rfl⟩ := hc
  simp only [keys17, List.cons.injEq, and_true] at hk
  obtain ⟨rfl, rfl, rfl, rfl, rfl, rfl, rfl, rfl, rfl, rfl, rfl, rfl, rfl, rfl, rfl, rfl⟩ := hk
  rw [Bool.and_eq_true, Bool.and_eq_true, Bool.and_eq_true, eqL_iff] at hd
  obtain ⟨⟨h1, h2⟩, hlen, he⟩ := hd
  obtain rfl := eq_of_beq h1
  obtain rfl := eq_of_beq h2
  have he : ys = xs := he
  subst he
  have hlen : ys.length ≤ 1000000 := of_decide_eq_true hlen
  generalize hx : (⟨x0, x1, x2, x3, x4, x5, x6, x7, x8⟩ : IOp) = x at hr2
  have sameN : ∀ τ, atHead (evCode T SR2 L17 126 N (loopOf Tryz.f17 0)) (L17 (firstR (loopOf Tryz.f17 0))) τ = atHead (evCode T SR2 L17 126 1 (loopOf Tryz.f17 0)) (L17 (firstR (loopOf Tryz.f17 0))) τ := fun τ => rfl
  obtain ⟨n', hn⟩ := machine (g := atHead (evCode T SR2 L17 126 N (loopOf Tryz.f17 0)) (L17 (firstR (loopOf Tryz.f17 0)))) (fun j (s : Int × IOp) => st17 a n ys ek ea et el s.1 s.2 (j : Int)) (stepR ys) (e := .exit 0) (by simp) ys.length
    (fun j s hj => by
      have hw : (wordsT.length : Int) = 14 := rfl
      rw [sameN, step17 a n ys ek ea et el s.1 s.2 (j : Int) _ rfl, if_pos (by simpa using hj), if_pos (by simp), if_pos (by simpa using hj), if_pos (by simp), if_pos (by simpa using hj), Int.toNat_natCast, wrap_succ j (by omega)]
      unfold stepR
      generalize ys.getD j (dat0 11) = p
      cases hm : mayR ys (j : Int) p with
      | false => rfl
      | true =>
        obtain ⟨g1, g2⟩ := mayR_kind hm
        have c1 : decide (0 ≤ (show IOp from p).Kind) = true := decide_eq_true (show (0 : Int) ≤ IOp.Kind p by omega)
        have c2 : decide ((show IOp from p).Kind < (wordsT.length : Int)) = true := by rw [hw]; exact decide_eq_true (show IOp.Kind p < 14 by omega)
        simp only [Bool.not_true, Bool.false_eq_true, if_false]
        rw [if_pos c1, if_pos c2]
        cases isLx p with
        | true =>
          simp only [if_true]
          cases (s.1 != 0) <;> rfl
        | false =>
          simp only [Bool.false_eq_true, if_false]
          cases isSx p with
          | true =>
            simp only [if_true]
            cases unlike s.1 s.2 p <;> rfl
          | false =>
            simp only [Bool.false_eq_true, if_false]
            cases andB (s.1 == 1) (!pureR (show IOp from p).Kind) <;> rfl)
    (fun s => by rw [sameN, step17 a n ys ek ea et el _ _ _ _ rfl, if_neg (by simp)]) ys.length 0 (s, x) (by omega)
  have hst : st17 a n ys ek ea et el s x 0 = ⟨[(1, .ptr 1 0), (2, .b false), (3, .i .i64 s), (4, .ptr 4 0), (13, .vw 11 ys), (14, .i .i64 (ys.length : Int)), (15, .i .i64 0)], [((1,0), .u 64 a), ((1,1), .u 64 n), ((1,2), .vw 11 ys), ((1,3), .i .i64 ek), ((1,4), .i .i64 ea), ((1,5), .u 64 et), ((1,6), .u 64 el),
   ((4,0), .i .i64 x0), ((4,1), .i .i64 x1), ((4,2), .i .i64 x2), ((4,3), .i .i64 x3), ((4,4), .i .i64 x4), ((4,5), .i .i64 x5), ((4,6), .u 64 x6), ((4,7), .b x7), ((4,8), .i .i64 x8)], [(4,9),(1,7)], 0⟩ := by subst hx; rfl
  rcases Tr.of_ite hr2 with ⟨hp, hr⟩ | ⟨hp, hr⟩
  · simp only [Tr.run, Option.some.injEq, Prod.mk.injEq] at hr
    obtain ⟨rfl, rfl⟩ := hr
    rw [hp] at hn
    exact ⟨n', _, hst ▸ hn, fun _ _ h => h, rfl, rfl⟩
  · simp only [Tr.run, Option.some.injEq, Prod.mk.injEq] at hr
    obtain ⟨rfl, rfl⟩ := hr
    rw [hp] at hn
    exact ⟨n', _, hst ▸ hn, fun _ _ h => h, rfl, rfl⟩
def op0 : IOp := ⟨0, 0, 0, 0, 0, 0, 0#64, false, 0⟩
def endsR (xs : List IOp) (ek ea : Int) (et el : BitVec 64) : Bool :=
  if (if (ek == 1) = true then ek == 1 else ek == 4) = true then andB (ea == 0) (el == BitVec.ofInt 64 0) else if (ek == 2) = true then valR xs ea (xs.length : Int)
  else if (ek == 3) = true then andB (andB (valR xs ea (xs.length : Int)) (et == BitVec.ofInt 64 0)) (el == BitVec.ofInt 64 0)
  else if (ek == 5) = true then andB (andB (andB (decide (1 ≤ ea)) (decide (ea ≤ 6))) (et == BitVec.ofInt 64 0)) (el == BitVec.ofInt 64 0) else false
def MayR (xs : List IOp) (ek ea : Int) (et el : BitVec 64) : Bool :=
  if decide ((250 : Int) < (xs.length : Int)) = true then false else if (mrun (stepR xs) xs.length 0 (0, op0)).1 = true then false else if ((mrun (stepR xs) xs.length 0 (0, op0)).2.2.1 == 1) = true then false else endsR xs ek ea et el
def s17 : CSpec | [.agg (mkC a n (.vw 11 xs) ek ea et el)] => some ⟨[decide (xs.length ≤ 1000000)], .b (MayR xs ek ea et el)⟩ | _ => none
theorem ok17 : FnOk Tryz.prog 17 s17 := okL SR2_ok Tryz.func17 (by kernel_rfl) (by kernel_rfl) L17 1 (FnLoops.one (by kernel_rfl) (loop17 1)) <| by
  intro ys r hs hp
  unfold s17 at hs; split at hs <;> cases hs
  rename_i a n xs ek ea et el
  have h0 : decide (xs.length ≤ 1000000) = true := hp _ (List.mem_cons_self ..)
  show (evFn T SR2 L17 1 Tryz.f17 [.agg (mkC a n (.vw 11 xs) ek ea et el)]).run = some (.b (MayR xs ek ea et el))
  have e : (evFn T SR2 L17 1 Tryz.f17 [.agg (mkC a n (.vw 11 xs) ek ea et el)]).run =
    if decide ((250 : Int) < (xs.length : Int)) = true then some (.b false) else
    if (((xs.length : Int) == (xs.length : Int) && (0 : Int) == 0) && (decide (xs.length ≤ 1000000) && eqL xs xs)) = true then
      if (mrun (stepR xs) xs.length 0 (0, op0)).1 = true then some (.b false) else if ((mrun (stepR xs) xs.length 0 (0, op0)).2.2.1 == 1) = true then some (.b false) else
      if (if (if (ek == 1) = true then ek == 1 else ek == 4) = true then true else ifB (ek == 2) (decide ((xs.length : Int) ≤ (xs.length : Int)))) = true then
      if (if (if (ek == 1) = true then ek == 1 else ek == 4) = true then true else if (ek == 2) = true then true else ifB (ek == 3) (decide ((xs.length : Int) ≤ (xs.length : Int)))) = true then
      if (if (ek == 1) = true then ek == 1 else ek == 4) = true then some (.b (andB (ea == 0) (el == BitVec.ofInt 64 0))) else if (ek == 2) = true then some (.b (valR xs ea (xs.length : Int)))
      else if (ek == 3) = true then some (.b (andB (andB (valR xs ea (xs.length : Int)) (et == BitVec.ofInt 64 0)) (el == BitVec.ofInt 64 0)))
      else if (ek == 5) = true then some (.b (andB (andB (andB (decide (1 ≤ ea)) (decide (ea ≤ 6))) (et == BitVec.ofInt 64 0)) (el == BitVec.ofInt 64 0))) else some (.b false)
      else none else none
    else none := by kernel_rfl
  have hc : (((xs.length : Int) == (xs.length : Int) && (0 : Int) == 0) && (decide (xs.length ≤ 1000000) && eqL xs xs)) = true := by
    rw [h0, eqL_iff.2 (rfl : xs = xs)]; simp
  have hd : decide ((xs.length : Int) ≤ (xs.length : Int)) = true := by simp
  rw [e, hc, hd, ifB_true, ifB_true]
  unfold MayR endsR
  simp only [some_iteB, if_true, ite_self]
end Go.Proofs.YtcdnbdphakhilaaGreatDoor
