/- Lemmas: both readers agree; what a row's condition says of the library's variables; the plain laws. No condition. -/
import Derived.Test.YtocfkaihfjbfnaaDoorWords
import Derived.Test.YtocfkaihfjbfnaaDoorSameA
import Derived.Test.YtocfkaihfjbfnaaDoorSameB
import Derived.Test.YtocfkaihfjbfnaaDoorText
import Derived.Test.YtocfkaihfjbfnaaDoorBits
import Derived.Handed
import Derived.SizedLaws
import Derived.Lay
import Derived.LaidMore
import Derived.Lib.LaidTab
import Derived.Shelf.Vars
import Derived.Test.YtocfkaihfjbfnaaDoorRows
import Derived.Test.YtocfkaihfjbfnaaDoorEvB
set_option linter.unusedVariables false
set_option linter.unusedSimpArgs false
set_option maxRecDepth 100000
namespace Go.Proofs.YtocfkaihfjbfnaaDoor
open Go.Proofs.YtocfkaihfjbfnaaDoor.Ev Go.RowKit
/- The reference's Decode: its loop. -/
noncomputable abbrev SZ2 : FuncId → CSpec := withS SZ1 12 sr26
theorem SZ2_ok : ∀ f, FnOk Tryd.prog f (SZ2 f) := withS_ok SZ1_ok okr28
def mem22 (op w d n m a : Int) (imm : W64) (off cond r s : Int) : List (Key × AV) :=
  [((2, 0), .i .i64 op), ((2, 1), .i .i64 w), ((2, 2), .i .i64 d), ((2, 3), .i .i64 n), ((2, 4), .i .i64 m), ((2, 5), .i .i64 a), ((2, 6), .u 64 imm), ((2, 7), .i .i64 off), ((2, 8), .i .i64 cond), ((2, 9), .i .i64 r), ((2, 10), .i .i64 s)]
def st22 (x : W32) (b : Bool) (op : Int) (l : List (Key × AV)) : St := ⟨[(0, .u 32 x), (2, .ptr 2 0), (3, .b b), (4, .i .i64 op)], l, [(2, 11)], 0⟩
def fromD (x : W32) (op : Int) : Bool := okD x && decide (op ≤ onP x fun op _ _ _ _ _ _ _ _ _ _ => op)
def q22 : St → Tr (Ex × St)
  | ⟨[(0, .u 32 x), (2, .ptr 2 0), (3, .b false), (4, .i .i64 op)], [((2, 0), .i .i64 v0), ((2, 1), .i .i64 v1), ((2, 2), .i .i64 v2), ((2, 3), .i .i64 v3), ((2, 4), .i .i64 v4), ((2, 5), .i .i64 v5), ((2, 6), .u 64 v6), ((2, 7), .i .i64 v7), ((2, 8), .i .i64 v8), ((2, 9), .i .i64 v9), ((2, 10), .i .i64 v10)], [(2, 11)], _⟩ =>
    .need (op == 1) (.ite (okD x) (.leaf (.ret, st22 x true (onP x fun op _ _ _ _ _ _ _ _ _ _ => op) (onP x mem22)))
      (.leaf (.exit 0, st22 x false 48 (mem22 v0 v1 v2 v3 v4 v5 v6 v7 v8 v9 v10))))
  | _ => .fail
def L22 : Nat → Live := fun _ => ⟨[0, 2, 3, 4], [(2, 0), (2, 1), (2, 2), (2, 3), (2, 4), (2, 5), (2, 6), (2, 7), (2, 8), (2, 9), (2, 10)], [2], some q22⟩
end Go.Proofs.YtocfkaihfjbfnaaDoor
set_option maxRecDepth 100000
namespace Go.Proofs.YtocfkaihfjbfnaaDoor
open Go.Proofs.YtocfkaihfjbfnaaDoor.Ev Go.RowKit
/- Both readers agree. -/
theorem good_all {op w d n m a : Int} {imm : W64} {off cond r s : Int} (ho : IntKind.i64.has off) (h : mayA op w d n m a imm off cond r s = true) : Good op w d n m a imm off cond r s := by
  have hr := range47_of (may_range h)
  have hw := (may_w h).1
  rcases hr with rfl | rfl | rfl | rfl | rfl | rfl | rfl | rfl | rfl | rfl | rfl | rfl | rfl | rfl | rfl | rfl | rfl | rfl | rfl | rfl | rfl | rfl | rfl | rfl | rfl | rfl | rfl | rfl | rfl | rfl | rfl | rfl | rfl | rfl | rfl | rfl | rfl | rfl | rfl | rfl | rfl | rfl | rfl | rfl | rfl | rfl | rfl
  · exact good_1 ho h
  · exact good_2 ho h
  · exact good_3 ho h
  · exact good_4 ho h
  · exact good_5 ho h
  · exact good_6 ho h
  · exact good_7 ho h
  · exact good_8 ho h
  · exact good_9 ho h
  · exact good_10 ho h
  · exact good_11 ho h
  · exact good_12 ho h
  · exact good_13 ho h
  · exact good_14 ho h
  · exact good_15 ho h
  · exact good_16 ho h
  · exact good_17 ho h
  · exact good_18 ho h
  · exact good_19 ho h
  · exact good_20 ho h
  · exact good_21 ho h
  · exact good_22 ho h
  · exact good_23 ho h
  · exact good_24 ho h
  · exact good_25 ho h
  · exact good_26 ho h
  · exact good_27 ho h
  · exact good_28 ho h
  · exact good_29 ho h
  · exact good_30 ho h
  · exact good_31 ho h
  · exact good_32 ho h
  · rcases isW_cases hw with rfl | rfl | rfl | rfl
    · exact good_33_1 ho h
    · exact good_33_2 ho h
    · exact good_33_4 ho h
    · exact good_33_8 ho h
  · rcases isW_cases hw with rfl | rfl | rfl | rfl
    · exact good_34_1 ho h
    · exact good_34_2 ho h
    · exact good_34_4 ho h
    · exact good_34_8 ho h
  · rcases isW_cases hw with rfl | rfl | rfl | rfl
    · exact good_35_1 ho h
    · exact good_35_2 ho h
    · exact good_35_4 ho h
    · exact good_35_8 ho h
  · rcases isW_cases hw with rfl | rfl | rfl | rfl
    · exact good_36_1 ho h
    · exact good_36_2 ho h
    · exact good_36_4 ho h
    · exact good_36_8 ho h
  · rcases isW_cases hw with rfl | rfl | rfl | rfl
    · exact good_37_1 ho h
    · exact good_37_2 ho h
    · exact good_37_4 ho h
    · exact good_37_8 ho h
  · rcases isW_cases hw with rfl | rfl | rfl | rfl
    · exact good_38_1 ho h
    · exact good_38_2 ho h
    · exact good_38_4 ho h
    · exact good_38_8 ho h
  · exact good_39 ho h
  · exact good_40 ho h
  · exact good_41 ho h
  · exact good_42 ho h
  · exact good_43 ho h
  · exact good_44 ho h
  · exact good_45 ho h
  · exact good_46 ho h
  · exact good_47 ho h
theorem has_wrap_div (n : Int) (k : Nat) : IntKind.i64.has (IntKind.i64.wrap n / 2 ^ k) := by
  have h := wrap_has .i64 n
  have h1 := h.1; have h2 := h.2
  simp only [IntKind.min, IntKind.max, IntKind.signed, IntKind.bits] at h1 h2
  simp at h1 h2
  generalize IntKind.i64.wrap n = z at *
  have hp : (1 : Int) ≤ 2 ^ k := by have h : (0 : Int) < 2 ^ k := Int.pow_pos (by decide); omega
  generalize (2 : Int) ^ k = c at *
  have a1 : -9223372036854775808 ≤ z / c := by
    rw [Int.le_ediv_iff_mul_le (by omega)]
    have : (-9223372036854775808) * c ≤ (-9223372036854775808) * 1 := Int.mul_le_mul_of_nonpos_left (by omega) (by omega)
    omega
  have a2 : z / c ≤ 9223372036854775807 := by
    apply Int.le_of_lt_add_one
    rw [Int.ediv_lt_iff_lt_mul (by omega)]
    have : (9223372036854775807 + 1) * 1 ≤ (9223372036854775807 + 1) * c := Int.mul_le_mul_of_nonneg_left hp (by omega)
    omega
  exact ⟨by simpa [IntKind.min, IntKind.signed, IntKind.bits] using a1, by simpa [IntKind.max, IntKind.signed, IntKind.bits] using a2⟩
theorem has0 : IntKind.i64.has 0 := ⟨by decide, by decide⟩
theorem has_oF (x : W32) : IntKind.i64.has (kk x 0 0 0 (oF x)) := by
  have h1 : IntKind.i64.has (gof x 5 19) := has_wrap_div _ _
  have h2 : IntKind.i64.has (gof x 0 26) := has_wrap_div _ _
  unfold kk oF
  repeat' split
  all_goals first | with_reducible exact has0 | with_reducible exact h1 | with_reducible exact h2
theorem has_tO (op : Int) (x : W32) : IntKind.i64.has (if hasA op [103] = true then rof (gt x 5 19) 19 else if hasA op [106] = true then rof (gt x 0 26) 26 else 0) := by
  have h1 : IntKind.i64.has (rof (gt x 5 19) 19) := wrap_has .i64 _
  have h2 : IntKind.i64.has (rof (gt x 0 26) 26) := wrap_has .i64 _
  repeat' split
  all_goals first | with_reducible exact has0 | with_reducible exact h1 | with_reducible exact h2
def condT (op : Int) (x : W32) : Bool := if onT op x mayA = true then (onT op x encR).setWidth 32 == x else false
theorem cond_true {op : Int} {x : W32} (hc : condT op x = true) : okD x = true ∧ (∀ (α : Type) (f : Int → Int → Int → Int → Int → Int → W64 → Int → Int → Int → Int → α), onP x f = onT op x f) := by
  unfold condT at hc
  cases hm : onT op x mayA with
  | false => rw [hm] at hc; simp at hc
  | true =>
    rw [hm, if_pos rfl, beq_iff_eq] at hc
    have g : onT op x Good := good_all (has_tO op x) hm
    obtain ⟨g1, g2, g3, g4⟩ := g
    have e : onT op x encP = x := g1.symm.trans hc
    have e3 : ∀ (α : Type) (f : Int → Int → Int → Int → Int → Int → W64 → Int → Int → Int → Int → α), onP (onT op x encP) f = onT op x f := g3
    rw [e] at e3
    refine ⟨?_, e3⟩
    unfold okD
    rw [e3 _ mayA, e3 _ encP, hm, e]
    simp
theorem cond_of {x : W32} (h : okD x = true) : nearA (onP x fun op _ _ _ _ _ _ _ _ _ _ => op) x = true ∧ condT (onP x fun op _ _ _ _ _ _ _ _ _ _ => op) x = true ∧
    (∀ (α : Type) (f : Int → Int → Int → Int → Int → Int → W64 → Int → Int → Int → Int → α), onT (onP x fun op _ _ _ _ _ _ _ _ _ _ => op) x f = onP x f) := by
  unfold okD at h
  simp only [Bool.and_eq_true, beq_iff_eq] at h
  obtain ⟨hm, e⟩ := h
  have g : onP x Good := good_all (has_oF x) hm
  obtain ⟨g1, g2, g3, g4⟩ := g
  have g2' : nearA (onP x fun op _ _ _ _ _ _ _ _ _ _ => op) (onP x encP) = true := g2
  have g4' : ∀ (α : Type) (f : Int → Int → Int → Int → Int → Int → W64 → Int → Int → Int → Int → α), onT (onP x fun op _ _ _ _ _ _ _ _ _ _ => op) (onP x encP) f = onP x f := g4
  have g1' : (onP x encR).setWidth 32 = onP x encP := g1
  rw [e] at g2' g4' g1'
  refine ⟨g2', ?_, g4'⟩
  unfold condT
  rw [g4' _ mayA, g4' _ encR, hm, g1']
  simp
theorem pO_range {x : W32} (h : okD x = true) : 1 ≤ (onP x fun op _ _ _ _ _ _ _ _ _ _ => op) ∧ (onP x fun op _ _ _ _ _ _ _ _ _ _ => op) ≤ 47 := by
  unfold okD at h
  simp only [Bool.and_eq_true] at h
  exact may_range h.1
/- The loop. -/
set_option maxHeartbeats 1000000 in
theorem loop22 (N : Nat) : LoopOk T SZ2 L22 27 N (loopOf Tryd.f22 0) := LoopOk.sub rfl <| by
  intro τ e st hcut hr
  unfold q22 at hr
  split at hr
  case h_2 => exact (Tr.of_fail hr).elim
  rename_i x op v0 v1 v2 v3 v4 v5 v6 v7 v8 v9 v10 c
  obtain rfl : c = 0 := hcut
  obtain ⟨hop, hr⟩ := Tr.of_need hr
  obtain rfl : op = 1 := by simpa using hop
  have step : ∀ op : Int, (atHead (evCode T SZ2 L22 27 N (loopOf Tryd.f22 0)) (L22 (firstR (loopOf Tryd.f22 0))) (st22 x false op (mem22 v0 v1 v2 v3 v4 v5 v6 v7 v8 v9 v10))).run =
      if decide (op ≤ 47) = true then if inB 1 op 47 = true then if (!nearA op x) = true then some (.normal, st22 x false (IntKind.i64.wrap (op + 1)) (mem22 v0 v1 v2 v3 v4 v5 v6 v7 v8 v9 v10))
        else if (if onT op x mayA = true then inB 1 op 47 else true) = true then if (if onT op x mayA = true then isW (tW op x) else true) = true then
          if condT op x = true then some (.ret, st22 x true op (onT op x mem22)) else some (.normal, st22 x false (IntKind.i64.wrap (op + 1)) (mem22 v0 v1 v2 v3 v4 v5 v6 v7 v8 v9 v10))
        else none else none else none else some (.exit 0, st22 x false op (mem22 v0 v1 v2 v3 v4 v5 v6 v7 v8 v9 v10)) := by
    intro op
    kernel_rfl
  have hW : ∀ op : Int, (if onT op x mayA = true then isW (tW op x) else true) = true := by
    intro op
    cases hm : onT op x mayA with
    | false => rfl
    | true => exact (may_w hm).1
  have round : ∀ j : Nat, j < 47 → (nearA ((j : Int) + 1) x && condT ((j : Int) + 1) x) = false → (atHead (evCode T SZ2 L22 27 N (loopOf Tryd.f22 0)) (L22 (firstR (loopOf Tryd.f22 0))) (st22 x false ((j : Int) + 1) (mem22 v0 v1 v2 v3 v4 v5 v6 v7 v8 v9 v10))).run = some (.normal, st22 x false (((j + 1 : Nat) : Int) + 1) (mem22 v0 v1 v2 v3 v4 v5 v6 v7 v8 v9 v10)) := by
    intro j hj hc
    have hi : inB 1 ((j : Int) + 1) 47 = true := by simp [inB]; omega
    have hw : IntKind.i64.wrap ((j : Int) + 1 + 1) = ((j + 1 : Nat) : Int) + 1 := by rw [wrap_small _ (by omega) (by omega)]; omega
    rw [step, if_pos (by simp; omega), if_pos hi, hW, hi, ite_self, if_pos rfl, if_pos rfl, hw]
    cases hn : nearA ((j : Int) + 1) x with
    | false => rfl
    | true =>
      rw [hn] at hc
      rw [show condT ((j : Int) + 1) x = false by simpa using hc]
      rfl
  rcases Tr.of_ite hr with ⟨hp, hr⟩ | ⟨hp, hr⟩
  · cases Tr.of_leaf hr
    obtain ⟨h1, h2⟩ := pO_range hp
    obtain ⟨c1, c2, c3⟩ := cond_of hp
    obtain ⟨p, hpn⟩ : ∃ p : Nat, (onP x fun op _ _ _ _ _ _ _ _ _ _ => op) = (p : Int) + 1 := ⟨((onP x fun op _ _ _ _ _ _ _ _ _ _ => op) - 1).toNat, by omega⟩
    rw [hpn] at c1 c2 c3 h2
    rw [hpn]
    have hi : inB 1 ((p : Int) + 1) 47 = true := by simp [inB]; omega
    have hno : ∀ j : Nat, j < p → (nearA ((j : Int) + 1) x && condT ((j : Int) + 1) x) = false := by
      intro j hj
      cases hq : (nearA ((j : Int) + 1) x && condT ((j : Int) + 1) x) with
      | false => rfl
      | true =>
        simp only [Bool.and_eq_true] at hq
        have := (cond_true hq.2).2 _ (fun op _ _ _ _ _ _ _ _ _ _ => op)
        rw [hpn] at this
        have e : onT ((j : Int) + 1) x (fun op _ _ _ _ _ _ _ _ _ _ => op) = (j : Int) + 1 := rfl
        rw [e] at this
        omega
    refine ⟨p + 1, st22 x true ((p : Int) + 1) (onP x mem22), iter_for (fun j => st22 x false ((j : Int) + 1) (mem22 v0 v1 v2 v3 v4 v5 v6 v7 v8 v9 v10)) p (fun j hj => round j (by omega) (hno j hj)) (e := .ret) (by
      rw [step, if_pos (by simp; omega), if_pos hi, hW, hi, ite_self, if_pos rfl, if_pos rfl, c1, c2, c3]; simp only [Bool.not_true, Bool.false_eq_true, if_false, if_true]) (by simp), fun _ _ h => h, rfl, rfl⟩
  · cases Tr.of_leaf hr
    have hno : ∀ j : Nat, (nearA ((j : Int) + 1) x && condT ((j : Int) + 1) x) = false := by
      intro j
      cases hq : (nearA ((j : Int) + 1) x && condT ((j : Int) + 1) x) with
      | false => rfl
      | true =>
        simp only [Bool.and_eq_true] at hq
        have := (cond_true hq.2).1
        rw [hp] at this
        cases this
    exact ⟨47 + 1, st22 x false 48 (mem22 v0 v1 v2 v3 v4 v5 v6 v7 v8 v9 v10), iter_for (fun j => st22 x false ((j : Int) + 1) (mem22 v0 v1 v2 v3 v4 v5 v6 v7 v8 v9 v10)) 47 (fun j hj => round j hj (hno j)) (e := .exit 0) (by rw [step, if_neg (by decide)]; rfl) (by simp), fun _ _ h => h, rfl, rfl⟩
theorem okg22 : FnOk Tryd.prog 22 g21 := FnOk.of (L := L22) tyOk SZ2_ok mixed Tryd.func22 (by kernel_rfl) (by kernel_rfl) <| by
  intro xs r hs hp w R vs hvs
  refine ⟨1, FnLoops.one (by kernel_rfl) (loop22 1), ?_⟩
  unfold g21 at hs; split at hs <;> cases hs
  rename_i x
  clear hvs
  show (evFn T SZ2 L22 1 Tryd.f22 [.u 32 x]).run = some (AV.tup [.agg (onP x (decC (okD x))), .b (okD x)])
  have e : (evFn T SZ2 L22 1 Tryd.f22 [.u 32 x]).run = if ((1 : Int) == 1) = true then if okD x = true then some (.tup [.agg (onP x cI), .b true]) else some (.tup [.agg (cI 0 0 0 0 0 0 0#64 0 0 0 0), .b false]) else none := by kernel_rfl
  rw [e, if_pos (show ((1 : Int) == 1) = true from rfl)]
  cases okD x <;> rfl
end Go.Proofs.YtocfkaihfjbfnaaDoor
set_option maxRecDepth 100000
namespace Go.Proofs.YtocfkaihfjbfnaaDoor
open Go.Proofs.YtocfkaihfjbfnaaDoor.Ev Go.RowKit
/- AdecWords, AdecBack: the plain laws, but for 'awake'. -/
def g23 : CSpec | [.agg (cI op w d n m a imm off cond r s)] => some ⟨[], .agg (cI op w d n m a imm off cond r s)⟩ | _ => none
theorem okg23 : FnOk Tryd.prog 23 g23 := okBy noS_ok Tryd.func23 (by kernel_rfl) (by kernel_rfl) 1 <| by
  intro xs r hs
  unfold g23 at hs; split at hs <;> cases hs
  rename_i op w d n m a imm off cond r s
  intro hp _
  show (evFn T noS noL 1 Tryd.f23 [.agg (cI op w d n m a imm off cond r s)]).run = some (.agg (cI op w d n m a imm off cond r s))
  kernel_rfl
def g24 : CSpec | [] => some ⟨[], .b true⟩ | _ => none
noncomputable abbrev SV0 : FuncId → CSpec := withS (withS (withS (withS (withS SY4 22 g21) 23 g23) 24 g24) 12 sr26) 16 g16
theorem SV0_ok (h : FnOk Tryd.prog 24 g24) : ∀ f, FnOk Tryd.prog f (SV0 f) := withS_ok (withS_ok (withS_ok (withS_ok (withS_ok SY4_ok okg22) okg23) h) okr28) okg16
/-- The same, field by field. -/
def eqI (op w d n m a : Int) (imm : W64) (off cond r s : Int) (op' w' d' n' m' a' : Int) (imm' : W64) (off' cond' r' s' : Int) : Bool := op == op' && (w == w' && (d == d' && (n == n' && (m == m' && (a == a' && (imm == imm' && (off == off' && (cond == cond' && (r == r' && (s == s' && true))))))))))
def decE {α : Type} (b : Bool) (f : Int → Int → Int → Int → Int → Int → W64 → Int → Int → Int → Int → α) (op w d n m a : Int) (imm : W64) (off cond r s : Int) : α :=
  f (orI b op) (orI b w) (orI b d) (orI b n) (orI b m) (orI b a) (orW b imm) (orI b off) (orI b cond) (orI b r) (orI b s)
theorem eqI_self (op w d n m a : Int) (imm : W64) (off cond r s : Int) : eqI op w d n m a imm off cond r s op w d n m a imm off cond r s = true := by simp [eqI]
theorem decE_true {α : Type} (f : Int → Int → Int → Int → Int → Int → W64 → Int → Int → Int → Int → α) (x : W32) : onP x (decE true f) = onP x f := rfl
theorem lawWords (x : W32) : (evFn T SV0 noL 1 Tryd.f6 [.u 32 x]).run = some (.b true) := by
  have e : (evFn T SV0 noL 1 Tryd.f6 [.u 32 x]).run = if (if (!(okD x == okD x)) = true then true else !(onP x (decE (okD x) fun op w d n m a imm off cond r s => eqI op w d n m a imm off cond r s op w d n m a imm off cond r s))) = true then some (.b false)
      else some (.b (if (if (!okD x) = true then true else wordA (onP x (decE (okD x) mayA)) (onP x (decE (okD x) encP)) == x) = true then true else false)) := by kernel_rfl
  have h1 : (onP x (decE (okD x) fun op w d n m a imm off cond r s => eqI op w d n m a imm off cond r s op w d n m a imm off cond r s)) = true := eqI_self ..
  rw [e, h1]
  cases hq : okD x with
  | false => rfl
  | true =>
    have h2 := hq
    unfold okD at h2
    simp only [Bool.and_eq_true, beq_iff_eq] at h2
    rw [decE_true, decE_true, h2.1, h2.2]
    simp [wordA]
theorem lawBack (op w d n m a : Int) (imm : W64) (off cond r s : Int) (bit : Int) (ho : IntKind.i64.has off) : (evFn T SV0 noL 1 Tryd.f7 [.agg (cI op w d n m a imm off cond r s), .i .i64 bit]).run = some (.b true) := by
  have e : ∀ X V : W32, X = (encR op w d n m a imm off cond r s).setWidth 32 → V = X ^^^ (BitVec.ofInt 32 1 <<< (BitVec.ofInt 64 (BitVec.ofInt 64 bit &&& BitVec.ofInt 64 31).toInt).toNat) → (evFn T SV0 noL 1 Tryd.f7 [.agg (cI op w d n m a imm off cond r s), .i .i64 bit]).run =
      if (!mayA op w d n m a imm off cond r s) = true then some (.b true) else if inB 1 op 47 = true then if isW w = true then
        some (.b (if (if (if (if okD X = true then onP X (decE (okD X) fun op' w' d' n' m' a' imm' off' cond' r' s' => eqI op' w' d' n' m' a' imm' off' cond' r' s' op w d n m a imm off cond r s) else false) = true then okD V == okD V else false) = true then onP V (decE (okD V) fun op' w' d' n' m' a' imm' off' cond' r' s' => eqI op' w' d' n' m' a' imm' off' cond' r' s' op' w' d' n' m' a' imm' off' cond' r' s') else false) = true then true else false))
      else none else none := by
    rintro X V rfl rfl
    kernel_rfl
  cases hm : mayA op w d n m a imm off cond r s with
  | false => rw [e _ _ rfl rfl, hm]; rfl
  | true =>
    obtain ⟨g1, g2, g3, g4⟩ := good_all ho hm
    have hr := may_range hm
    have hi : inB 1 op 47 = true := by simp [inB]; omega
    have hk : okD (encP op w d n m a imm off cond r s) = true := by unfold okD; rw [g3, g3, hm]; simp
    rw [e (encP op w d n m a imm off cond r s) _ g1.symm rfl, hm, hi, (may_w hm).1, hk, decE_true, g3, eqI_self]
    have h1 : ∀ V : W32, (onP V (decE (okD V) fun op' w' d' n' m' a' imm' off' cond' r' s' => eqI op' w' d' n' m' a' imm' off' cond' r' s' op' w' d' n' m' a' imm' off' cond' r' s')) = true := fun V => eqI_self ..
    rw [h1]
    simp
end Go.Proofs.YtocfkaihfjbfnaaDoor
set_option maxRecDepth 100000
namespace Go.Proofs.YtocfkaihfjbfnaaDoor
open Go.Proofs.YtocfkaihfjbfnaaDoor.Ev Go.RowKit
/- 'awake' of the reader's chapter. -/
noncomputable abbrev SJ4 : FuncId → CSpec := withS (withS SJ3 13 (rWt SJ3 LWt 7 Tryd.f13)) 21 g21
theorem SJ4_ok : ∀ f, FnOk Tryd.prog f (SJ4 f) := withS_ok (withS_ok SJ3_ok (rWt_ok SJ3_ok Tryd.func13 (by kernel_rfl) (by kernel_rfl) (FnLoops.no (by kernel_rfl)))) okg21
theorem okg24 : FnOk Tryd.prog 24 g24 := okBy SJ4_ok Tryd.func24 (by kernel_rfl) (by kernel_rfl) 1 <| by
  intro xs r hs
  unfold g24 at hs; split at hs <;> cases hs
  intro hp _
  show (evFn T SJ4 noL 1 Tryd.f24 []).run = some (.b true)
  kernel_rfl
theorem SV_ok : ∀ f, FnOk Tryd.prog f (SV0 f) := SV0_ok okg24
end Go.Proofs.YtocfkaihfjbfnaaDoor
set_option maxRecDepth 100000
namespace Go.Proofs.YtocfkaihfjbfnaaDoor
open Go.Proofs.YtocfkaihfjbfnaaDoor.Ev Go.RowKit
/- From a row's condition to what is known of the variables. -/
/-- A change's row, whose condition on the world and the world's shape are handed on. -/
theorem returns_laid {H : Type} {enc : TypeId × Value → H} {a : Assume} {C : Checked} {os : Os} {f : FuncId} {fn : Func} {s : ChangeSpec} {conds : List PathCond} {apart fresh handsOn again : Bool} {X : World → Array Value → Prop}
    (hX : ∀ (w w' : World) (args : Array Value), w.heap = w'.heap → X w args → X w' args)
    (own : ownKnob C.prog.godebug = none) (started : os.Started) (noInit : C.prog.inits.idxOf? f = none) (hfn : C.prog.funcs[f]? = some fn)
    (witness : ∃ (w : World) (tape : Tape) (i : Input), w.os = os ∧ (w.forCall tape i).Shaped C.prog ∧ i.vars = [] ∧ Input.okWide C.prog (w.forCall tape i) .any w.heap.size f i ∧
      ((s.pre enc C.prog fn conds apart (w.forCall tape i).memory i.args ∧ X (w.forCall tape i).memory i.args) ∧ sizedMet enc C.prog fn (OpenSpec.ofChange s) apart (w.forCall tape i).memory i.args) ∧ a.holds C.prog (lone (Frame.enter C.prog f i.args .normal) [] (w.forCall tape i)))
    (contract : ∀ (W : World) (base : Nat) (args : Array Value) (ds gs : List (DataW H)) (before : List MemPlace),
      (∀ (j : Nat) t v, fn.params[j]? = some t → args[j]? = some v → Value.okWide C.prog W .any base t v) →
      DataW.Whole enc C.prog fn.params.toList s.vars apart W args.toList ds gs before →
      X W args → W.ShapedOpen C.prog →
      Calls C.prog f args W fun e W' => ∃ v, e = .returned v ∧ s.post enc C.prog fn apart fresh handsOn again W args v W') :
    ReturnsInHanded a C os f .any (fun w args => (s.pre enc C.prog fn conds apart w args ∧ X w args) ∧ sizedMet enc C.prog fn (OpenSpec.ofChange s) apart w args) (s.post enc C.prog fn apart fresh handsOn again) := by
  refine returnsInHanded_of_calls own started noInit witness ?_
  intro w tape i _ hsh _ hok hpre hholds
  obtain ⟨_, _, _, fn', hfn', _, _, _, _, hval⟩ := hok
  have e : fn' = fn := Option.some.inj (hfn'.symm.trans hfn)
  subst e
  obtain ⟨⟨⟨ds, gs, before, hw, hc⟩, hx⟩, hz⟩ := hpre
  have hw' := DataW.Whole.of_heap (w' := w.forCall tape i) (by rfl) hw
  refine (contract (w.forCall tape i) w.heap.size i.args ds gs before hval hw' (hX _ _ _ (by rfl) hx) hsh).mono fun e W' ⟨v, he, hp⟩ => ?_
  subst he
  exact ChangeSpec.post_blind hp

theorem ownK : ownKnob Tryd.prog.godebug = none := by kernel_rfl
theorem laidOut : laidOutB Tryd.prog = true := by kernel_rfl
abbrev laid5 : List (String × DataW Unit) := [("math/bits.deBruijn32tab", Rows.laid_math_bits_deBruijn32tab), ("math/bits.deBruijn64tab", Rows.laid_math_bits_deBruijn64tab), ("internal/strconv.uint64pow10", Rows.laid_internal_strconv_uint64pow10), ("unicode/utf8.acceptRanges", Rows.laid_unicode_utf8_acceptRanges), ("unicode/utf8.first", Rows.laid_unicode_utf8_first)]
theorem laid_met (os : Os) (args : Array Value) : laidMetH Tryd.prog laid5 ((World.laidAll Tryd.prog os laid5).forCall (fun _ _ => 0) ⟨#[], args, []⟩).memory := by
  rw [MakeChecks.laidMetH_plain _ _ _ (by kernel_rfl)]
  exact laidMet_laidAll _ (by kernel_rfl) (by kernel_rfl)
theorem laid_shaped (os : Os) (args : Array Value) : ((World.laidAll Tryd.prog os laid5).forCall (fun _ _ => 0) ⟨#[], args, []⟩).Shaped Tryd.prog := World.shaped_of_ZipB (by kernel_rfl) (by kernel_rfl)
theorem gPow : Tryd.prog.globalNamed "internal/strconv.uint64pow10" = some 0 := by kernel_rfl
theorem vars_of_laid {W : World} (h : laidMetH Tryd.prog laid5 W) (hs : W.ShapedOpen Tryd.prog) : Vars W (fun b => b < W.heap.size) := by
  rw [MakeChecks.laidMetH_plain _ _ _ (by kernel_rfl)] at h
  obtain ⟨ps, ⟨g0, t0, cs0, f0, p0, q0, hg0, ht0, hv0, hd0, ⟨g1, t1, cs1, f1, p1, q1, hg1, ht1, hv1, hd1, ⟨g2, t2, cs2, f2, p2, q2, hg2, ht2, hv2, hd2, _, _⟩, _⟩, _⟩, _⟩ := h
  obtain rfl := Option.some.inj (gPow.symm.trans hg2)
  obtain ⟨m, hm⟩ := cell_of_shapedOpen_int (P := Tryd.prog) (g := 1) (t := 3) (zero := #[.int .i64 0]) hs (of_decide_eq_true (by kernel_rfl)) (by kernel_rfl) rfl (by kernel_rfl) (by kernel_rfl) Tryd.underlying3
  have hlt : 1 < W.heap.size := by
    unfold World.cell? at hm
    cases e : W.heap[1]? with
    | none => rw [e] at hm; cases hm
    | some o => exact (Array.getElem?_eq_some_iff.1 e).1
  refine ⟨⟨hlt, m, hm⟩, by show 0 < _; omega, ?_⟩
  have key : cs2 = (Lib.pow10Tab.map fun z => Value.int .u64 z).toArray := by
    obtain rfl := Option.some.inj ((show (Tryd.prog.globals[0]?).map (·.type) = some 114 by kernel_rfl).symm.trans ht2)
    have h2 : DataW.trod (fun _ => ()) Tryd.prog W 0 (fun _ => true) false f2 114 cs2.toList = some (Lib.tabData .u64 Lib.pow10Tab, p2) := hd2
    have := Lib.cells_of_tab (show Tryd.prog.underlying 114 = some (.array 20 22) by kernel_rfl) Tryd.underlying22 (by kernel_rfl) (by kernel_rfl) h2
    rw [← this]
  unfold World.var? at hv2
  rw [gPow] at hv2
  simp only [Option.bind_some] at hv2
  split at hv2
  · rename_i c a b e
    cases hv2
    exact ⟨a, b, by rw [e, key]⟩
  · cases hv2
end Go.Proofs.YtocfkaihfjbfnaaDoor
set_option maxRecDepth 100000
namespace Go.Proofs.YtocfkaihfjbfnaaDoor
open Go.Proofs.YtocfkaihfjbfnaaDoor.Ev Go.RowKit
/- AdecBack, as a row hands its arguments over. -/
theorem has_off {C : Ctx} {op w d n m a : Int} {imm : W64} {off cond r s : Int} {v : Value} (h : VR C (.agg (cI op w d n m a imm off cond r s)) v) : IntKind.i64.has off := by
  cases h with
  | agg h =>
    cases h with | one _ _ _ h => cases h with | one _ _ _ h => cases h with | one _ _ _ h => cases h with | one _ _ _ h => cases h with | one _ _ _ h => cases h with | one _ _ _ h => cases h with | one _ _ _ h => cases h with | one _ _ h _ => cases h with | i _ h => exact h
abbrev IC := Sh.Val (.st [.i .i64, .i .i64, .i .i64, .i .i64, .i .i64, .i .i64, .w 64, .i .i64, .i .i64, .i .i64, .i .i64])
theorem lawBackM (i : IC) (bit : Int) {C : Ctx} {v : Value} (h : VR C (.agg (Sh.cellsL [.i .i64, .i .i64, .i .i64, .i .i64, .i .i64, .i .i64, .w 64, .i .i64, .i .i64, .i .i64, .i .i64] i)) v) :
    (evFn T SV0 noL 1 Tryd.f7 [.agg (Sh.cellsL [.i .i64, .i .i64, .i .i64, .i .i64, .i .i64, .i .i64, .w 64, .i .i64, .i .i64, .i .i64, .i .i64] i), .i .i64 bit]).run = some (.b true) := by
  obtain ⟨op, w, d, n, m, a, imm, off, cond, r, s, _⟩ := i
  exact lawBack op w d n m a imm off cond r s bit (has_off h)
end Go.Proofs.YtocfkaihfjbfnaaDoor
