/- Lemmas: the law of which code there may be: its loops and its run. No condition. -/
import Derived.Test.YtcdnbdphakhilaaGreatDoorText
import Derived.Test.YtcdnbdphakhilaaGreatDoorDoes
set_option linter.unusedVariables false
set_option linter.unusedSimpArgs false
set_option maxRecDepth 100000
namespace Go.Proofs.YtcdnbdphakhilaaGreatDoor
open Go.Proofs.YtcdnbdphakhilaaGreatDoor.Ev Go.RowKit
/- Show, Cut, Ours. -/
noncomputable abbrev SPA : FuncId → CSpec := withS SP9 58 s58
theorem SPA_ok : ∀ f, FnOk Tryz.prog f (SPA f) := withS_ok SP9_ok ok58
def lineP (xs : List IOp) (p : IOp) (i : Int) : Str := showP p.Kind p.F p.W p.A p.B p.C p.N p.Signed p.Ord i
def rowsP (xs : List IOp) (j : Nat) : List (Dat 5) := (List.range j).map fun i => lineP xs (xs.getD i (dat0 11)) (i : Int)
def inK (p : IOp) : Bool := decide (1 ≤ p.Kind) && decide (p.Kind ≤ 13)
def opOk (p : IOp) : Bool := inK p && fOk p.Kind p.F
def st15 (xs : List IOp) (ls : List (Dat 5)) (j : Int) : St := ⟨[(3, .gs 3 0), (10, .vw 11 xs), (11, .i .i64 (xs.length : Int)), (12, .i .i64 j)], [((3,0), .row 9 5 ls 0)], [(3,0)], 0⟩
def q15 : St → Tr (Ex × St)
  | ⟨[(3, .gs g v), (10, .vw 11 xs), (11, .i .i64 m), (12, .i .i64 j)], [(k3, .row 9 5 ls w)], ids, _⟩ =>
    .need ((g == 3 && v == 0) && (w == 0 && (k3 == (3, 0) && ids == [(3, 0)])))
      (.need ((m == (xs.length : Int) && j == 0) && (decide (xs.length ≤ 1000000) && (ls.isEmpty && xs.all opOk))) (.leaf (.exit 0, st15 xs (rowsP xs xs.length) (xs.length : Int))))
  | _ => .fail
def L15 : Nat → Live := fun _ => ⟨[3, 10, 11, 12], [(3,0)], [3], some q15⟩
theorem step15 (xs : List IOp) (ls : List (Dat 5)) (j : Int) : ∀ p, p = xs.getD j.toNat (dat0 11) → (atHead (evCode T SPA L15 25 1 (loopOf Tryz.f15 0)) (L15 (firstR (loopOf Tryz.f15 0))) (st15 xs ls j)).run =
    if decide (j < (xs.length : Int)) = true then if decide (0 ≤ j) = true then if decide (j < (xs.length : Int)) = true then if decide (ls.length + [lineP xs p j].length ≤ 134217728) = true then if inK p = true then if fOk p.Kind p.F = true then
      some (.normal, st15 xs (ls ++ [lineP xs p j]) (IntKind.i64.wrap (j + 1)))
      else none else none else none else none else none else some (.exit 0, st15 xs ls j) := by intro p hp; subst hp; kernel_rfl
theorem loop15 (N : Nat) : LoopOk T SPA L15 25 N (loopOf Tryz.f15 0) := LoopOk.sub rfl <| by
  intro τ e st hcut hr
  unfold q15 at hr
  split at hr
  case h_2 => exact (Tr.of_fail hr).elim
  rename_i g v xs m j k3 ls w ids cu
  obtain rfl : cu = 0 := hcut
  obtain ⟨hc, hr1⟩ := Tr.of_need hr
  obtain ⟨hd, hr2⟩ := Tr.of_need hr1
  clear hr hr1
  simp only [Bool.and_eq_true, beq_iff_eq] at hc
  obtain ⟨⟨rfl, rfl⟩, rfl, rfl, rfl⟩ := hc
  simp only [Bool.and_eq_true, beq_iff_eq, decide_eq_true_eq, List.isEmpty_iff] at hd
  obtain ⟨⟨rfl, rfl⟩, hlen, rfl, hall⟩ := hd
  have hlen : xs.length ≤ 1000000 := hlen
  simp only [Tr.run, Option.some.injEq, Prod.mk.injEq] at hr2
  obtain ⟨rfl, rfl⟩ := hr2
  have sameN : ∀ τ, atHead (evCode T SPA L15 25 N (loopOf Tryz.f15 0)) (L15 (firstR (loopOf Tryz.f15 0))) τ = atHead (evCode T SPA L15 25 1 (loopOf Tryz.f15 0)) (L15 (firstR (loopOf Tryz.f15 0))) τ := fun τ => rfl
  obtain ⟨n', hn⟩ := iter_from (g := atHead (evCode T SPA L15 25 N (loopOf Tryz.f15 0)) (L15 (firstR (loopOf Tryz.f15 0)))) (fun j => st15 xs (rowsP xs j) (j : Int)) 0 xs.length (Nat.zero_le _)
    (fun j _ hj => by
      have ho : opOk xs[j] = true := List.all_eq_true.1 hall _ (List.getElem_mem hj)
      unfold opOk at ho
      rw [Bool.and_eq_true] at ho
      have hl : (rowsP xs j).length = j := by unfold rowsP; simp
      have hg : xs.getD j (dat0 11) = xs[j] := getD_at (t := 11) hj
      have er : rowsP xs (j + 1) = rowsP xs j ++ [lineP xs xs[j] (j : Int)] := by
        unfold rowsP
        rw [List.range_succ, List.map_append, List.map_singleton, hg]
      rw [sameN, step15 xs _ (j : Int) xs[j] (by rw [Int.toNat_natCast, hg]), if_pos (by simpa using hj), if_pos (by simp), if_pos (by simpa using hj), if_pos (by rw [decide_eq_true_eq, hl, List.length_singleton]; omega), if_pos ho.1, if_pos ho.2, wrap_succ j (by omega), er])
    (by rw [sameN, step15 xs _ _ _ rfl, if_neg (by simp)]) (by simp)
  exact ⟨n', _, hn, fun _ _ h => h, rfl, rfl⟩
theorem May_all {xs : List IOp} {ek ea : Int} {et el : BitVec 64} (h : MayP xs ek ea et el = true) : ∀ i : Nat, i < xs.length → mayR xs (i : Int) (xs.getD i (dat0 11)) = true := by
  intro i hi
  cases hm : mayR xs (i : Int) (xs.getD i (dat0 11)) with
  | true => rfl
  | false =>
    have hb := (mrunP_eq xs xs.length 0).2 ⟨i, Nat.zero_le _, by omega, hm⟩
    unfold MayP at h
    rw [hb] at h
    simp at h
theorem opOk_of {xs : List IOp} {j : Int} {p : IOp} (h : mayR xs j p = true) : opOk p = true := by
  obtain ⟨⟨k1, k2⟩, hf, _⟩ := may_facts h
  unfold opOk inK fOk ifB
  rw [decide_eq_true k1, decide_eq_true k2]
  cases hk : p.Kind == 4 with
  | false => rfl
  | true =>
    obtain ⟨f1, f2⟩ := hf (by simpa using hk)
    rw [if_pos rfl, decide_eq_true f1, decide_eq_true f2]; rfl
theorem May_ok {xs : List IOp} {ek ea : Int} {et el : BitVec 64} (h : MayP xs ek ea et el = true) : xs.all opOk = true := by
  rw [List.all_eq_true]
  intro p hp
  obtain ⟨i, hi, rfl⟩ := List.mem_iff_getElem.1 hp
  have := May_all h i hi
  rw [show xs.getD i (dat0 11) = xs[i] from getD_at (t := 11) hi] at this
  exact opOk_of this
def ShowP (xs : List IOp) (ek ea : Int) (et el : BitVec 64) : List (Dat 5) := if MayP xs ek ea et el = true then rowsP xs xs.length else []
def s15 : CSpec | [.agg (mkC a n (.vw 11 xs) ek ea et el)] => some ⟨[decide (xs.length ≤ 1000000)], .vw 5 (ShowP xs ek ea et el)⟩ | _ => none
theorem ok15s : FnOk Tryz.prog 15 s15 := okL SPA_ok Tryz.func15 (by kernel_rfl) (by kernel_rfl) L15 1 (FnLoops.one (by kernel_rfl) (loop15 1)) <| by
  intro ys r hs hp
  unfold s15 at hs; split at hs <;> cases hs
  rename_i a n xs ek ea et el
  have h0 : decide (xs.length ≤ 1000000) = true := hp _ (List.mem_cons_self ..)
  show (evFn T SPA L15 1 Tryz.f15 [.agg (mkC a n (.vw 11 xs) ek ea et el)]).run = some (.vw 5 (ShowP xs ek ea et el))
  have e : (evFn T SPA L15 1 Tryz.f15 [.agg (mkC a n (.vw 11 xs) ek ea et el)]).run =
    if decide (xs.length ≤ 1000000) = true then if (!MayP xs ek ea et el) = true then some (.vw 5 []) else
    if (((xs.length : Int) == (xs.length : Int) && (0 : Int) == 0) && (decide (xs.length ≤ 1000000) && (true && xs.all opOk))) = true then some (.vw 5 (rowsP xs xs.length)) else none else none := by kernel_rfl
  rw [e, if_pos h0]
  unfold ShowP
  cases hm : MayP xs ek ea et el with
  | false => rfl
  | true =>
    rw [if_neg (by simp), if_pos (by rw [h0, May_ok hm]; simp)]
    rfl
def cutL (xs : List IOp) : List IOp := if decide ((260 : Int) < (xs.length : Int)) = true then (xs.drop ((0 : Nat) : Int).toNat).take ((260 : Int).toNat - ((0 : Nat) : Int).toNat) else xs
def s13 : CSpec | [.agg (mkC a n (.vw 11 xs) ek ea et el)] => some ⟨[], .agg (mkC a n (.vw 11 (cutL xs)) ek ea et el)⟩ | _ => none
theorem ok13 : FnOk Tryz.prog 13 s13 := okBy noS_ok Tryz.func13 (by kernel_rfl) (by kernel_rfl) 1 <| by
  intro ys r hs
  unfold s13 at hs; split at hs <;> cases hs
  rename_i a n xs ek ea et el
  rintro hp _
  have e : (evFn T noS noL 1 Tryz.f13 [.agg (mkC a n (.vw 11 xs) ek ea et el)]).run =
    if ifB (decide ((260 : Int) < (xs.length : Int))) (decide ((0 : Int) ≤ ((0 : Nat) : Int))) = true then if ifB (decide ((260 : Int) < (xs.length : Int))) (decide (((0 : Nat) : Int) ≤ 260)) = true then if ifB (decide ((260 : Int) < (xs.length : Int))) (decide ((260 : Int) ≤ (xs.length : Int))) = true then
      some (.agg (mkC a n (.vw 11 (cutL xs)) ek ea et el)) else none else none else none := by kernel_rfl
  rw [e, if_pos (ifB_of (by decide)), if_pos (ifB_of (by decide)), if_pos]
  unfold ifB
  split
  · rename_i h; rw [decide_eq_true_eq] at h ⊢; omega
  · rfl
theorem cutL_len (xs : List IOp) : (cutL xs).length ≤ 260 := by
  unfold cutL
  split
  · simp; omega
  · rename_i h; simp at h; omega
def s40 : CSpec | [.agg (opC k f w a b c n s o)] => some ⟨[], .agg (opC k f w a b c n s o)⟩ | _ => none
theorem ok40 : FnOk Tryz.prog 40 s40 := okBy noS_ok Tryz.func40 (by kernel_rfl) (by kernel_rfl) 1 <| by
  intro xs r hs
  unfold s40 at hs; split at hs <;> cases hs
  rename_i k f w a b c n s o
  intro hp _
  show (evFn T noS noL 1 Tryz.f40 [.agg (opC k f w a b c n s o)]).run = some (.agg (opC k f w a b c n s o))
  kernel_rfl
noncomputable abbrev SO : FuncId → CSpec := withS noS 40 s40
theorem SO_ok : ∀ f, FnOk Tryz.prog f (SO f) := withS_ok noS_ok ok40
abbrev r3 : Nat := 3145731
abbrev r2 : Nat := 3145730
def keys14 : List Key := [(2,0),(2,1),(2,2),(2,3),(2,4),(2,5),(2,6),(3,0),(3,1),(3,2),(3,3),(3,4),(3,5),(3,6),(r3,0),(r2,0)]
def st14 (a n : BitVec 64) (ek ea : Int) (et el : BitVec 64) (xs ys : List IOp) (j : Int) : St :=
  ⟨[(2, .ptr 2 0), (3, .ptr 3 0), (21, .vw 11 xs), (22, .i .i64 (xs.length : Int)), (23, .i .i64 j)],
   [((2,0), .u 64 0#64), ((2,1), .u 64 0#64), ((2,2), .gs r2 0), ((2,3), .i .i64 0), ((2,4), .i .i64 0), ((2,5), .u 64 0#64), ((2,6), .u 64 0#64),
    ((3,0), .u 64 a), ((3,1), .u 64 n), ((3,2), .gs r3 0), ((3,3), .i .i64 ek), ((3,4), .i .i64 ea), ((3,5), .u 64 et), ((3,6), .u 64 el), ((r3,0), .row 43 11 ys 0), ((r2,0), .row 43 11 [] 0)], [(3,7),(r3,0),(2,7),(r2,0)], 0⟩
def q14 : St → Tr (Ex × St)
  | ⟨[(2, .ptr p2 o2), (3, .ptr p3 o3), (21, .vw 11 xs), (22, .i .i64 n), (23, .i .i64 j)],
     [(k0, .u 64 z0), (k1, .u 64 z1), (k2, .gs g v), (k3, .i .i64 z3), (k4, .i .i64 z4), (k5, .u 64 z5), (k6, .u 64 z6),
      (h0, .u 64 a), (h1, .u 64 nx), (h2, .gs g' v'), (h3, .i .i64 ek), (h4, .i .i64 ea), (h5, .u 64 et), (h6, .u 64 el), (h7, .row 43 11 ys w), (h8, .row 43 11 zs w')], ids, _⟩ =>
    .need ((p2 == 2 && o2 == 0) && ((p3 == 3 && o3 == 0) && ((g == r2 && v == 0) && ((g' == r3 && v' == 0) && ((w == 0 && w' == 0) && ([k0, k1, k2, k3, k4, k5, k6, h0, h1, h2, h3, h4, h5, h6, h7, h8] == keys14 && ids == [(3,7),(r3,0),(2,7),(r2,0)]))))))
      (.need ((z0 == 0#64 && z1 == 0#64) && ((z3 == 0 && z4 == 0) && ((z5 == 0#64 && z6 == 0#64) && (ys.isEmpty && zs.isEmpty))))
      (.need ((n == (xs.length : Int) && j == 0) && decide (xs.length ≤ 134217728))
        (.leaf (.exit 0, st14 a nx ek ea et el xs xs (xs.length : Int)))))
  | _ => .fail
def L14 : Nat → Live := fun _ => ⟨[2,3,21,22,23], keys14, [2,3,r3,r2], some q14⟩
theorem step14 (a n : BitVec 64) (ek ea : Int) (et el : BitVec 64) (xs ys : List IOp) (j : Int) :
  (atHead (evCode T SO L14 36 1 (loopOf Tryz.f14 0)) (L14 (firstR (loopOf Tryz.f14 0))) (st14 a n ek ea et el xs ys j)).run =
    if decide (j < (xs.length : Int)) = true then if decide (0 ≤ j) = true then if decide (j < (xs.length : Int)) = true then if decide (ys.length + [xs.getD j.toNat (dat0 11)].length ≤ 134217728) = true then
      some (.normal, st14 a n ek ea et el xs (ys ++ [xs.getD j.toNat (dat0 11)]) (IntKind.i64.wrap (j + 1)))
      else none else none else none else some (.exit 0, st14 a n ek ea et el xs ys j) := by kernel_rfl
theorem loop14 (N : Nat) : LoopOk T SO L14 36 N (loopOf Tryz.f14 0) := LoopOk.sub rfl <| by
  intro τ e st hcut hr
  unfold q14 at hr
  split at hr
  case h_2 => exact (Tr.of_fail hr).elim
  rename_i p2 o2 p3 o3 xs n j k0 z0 k1 z1 k2 g v k3 z3 k4 z4 k5 z5 k6 z6 h0 a h1 nx h2 g' v' h3 ek h4 ea h5 et h6 el h7 ys w h8 zs w' ids c
  obtain rfl : c = 0 := hcut
  obtain ⟨hc, hr1⟩ := Tr.of_need hr
  obtain ⟨hz, hr2⟩ := Tr.of_need hr1
  obtain ⟨hd, hr3⟩ := Tr.of_need hr2
  clear hr hr1 hr2
  simp only [Bool.and_eq_true, beq_iff_eq] at hc
  obtain ⟨⟨rfl, rfl⟩, ⟨rfl, rfl⟩, ⟨rfl, rfl⟩, ⟨rfl, rfl⟩, ⟨rfl, rfl⟩, hk, rfl⟩ := hc
  simp only [keys14, List.cons.injEq, and_true] at hk
  obtain ⟨rfl, rfl, rfl, rfl, rfl, rfl, rfl, rfl, rfl, rfl, rfl, rfl, rfl, rfl, rfl, rfl⟩ := hk
  simp only [Bool.and_eq_true, beq_iff_eq, List.isEmpty_iff] at hz
  obtain ⟨⟨rfl, rfl⟩, ⟨rfl, rfl⟩, ⟨rfl, rfl⟩, rfl, rfl⟩ := hz
  simp only [Bool.and_eq_true, beq_iff_eq, decide_eq_true_eq] at hd
  obtain ⟨⟨rfl, rfl⟩, hlen⟩ := hd
  have hlen : xs.length ≤ 134217728 := hlen
  simp only [Tr.run, Option.some.injEq, Prod.mk.injEq] at hr3
  obtain ⟨rfl, rfl⟩ := hr3
  have sameN : ∀ τ, atHead (evCode T SO L14 36 N (loopOf Tryz.f14 0)) (L14 (firstR (loopOf Tryz.f14 0))) τ = atHead (evCode T SO L14 36 1 (loopOf Tryz.f14 0)) (L14 (firstR (loopOf Tryz.f14 0))) τ := fun τ => rfl
  obtain ⟨N', hn⟩ := iter_from (g := atHead (evCode T SO L14 36 N (loopOf Tryz.f14 0)) (L14 (firstR (loopOf Tryz.f14 0))))
    (fun j => st14 a nx ek ea et el xs (xs.take j) (j : Int)) 0 xs.length (Nat.zero_le _)
    (fun j _ hj => by
      rw [sameN, step14, if_pos (by simpa using hj), if_pos (by simp), if_pos (by simpa using hj), if_pos (by simp; omega), Int.toNat_natCast, getD_at hj, wrap_succ j (by omega), List.take_succ_eq_append_getElem hj])
    (by rw [sameN, step14, if_neg (by simp), List.take_length]) (by simp)
  exact ⟨N', _, hn, fun _ _ h => h, rfl, rfl⟩
def s14o : CSpec | [.agg (mkC a n (.vw 11 xs) ek ea et el)] => some ⟨[decide (xs.length ≤ 134217728)], .agg (mkC a n (.vw 11 xs) ek ea et el)⟩ | _ => none
theorem ok14o : FnOk Tryz.prog 14 s14o := okL SO_ok Tryz.func14 (by kernel_rfl) (by kernel_rfl) L14 1 (FnLoops.one (by kernel_rfl) (loop14 1)) <| by
  intro ys r hs hp
  unfold s14o at hs; split at hs <;> cases hs
  rename_i a n xs ek ea et el
  have hp0 := hp _ (List.mem_cons_self ..)
  have e : (evFn T SO L14 1 Tryz.f14 [.agg (mkC a n (.vw 11 xs) ek ea et el)]).run = if (((xs.length : Int) == (xs.length : Int) && (0 : Int) == 0) && decide (xs.length ≤ 134217728)) = true then some (.agg (mkC a n (.vw 11 xs) ek ea et el)) else none := by kernel_rfl
  rw [e, if_pos (by simpa using hp0)]
end Go.Proofs.YtcdnbdphakhilaaGreatDoor
set_option maxRecDepth 100000
namespace Go.Proofs.YtcdnbdphakhilaaGreatDoor
open Go.Proofs.YtcdnbdphakhilaaGreatDoor.Ev Go.RowKit
/- The law of May. -/
noncomputable abbrev SL4 : FuncId → CSpec := withS (withS (withS (withS (withS (withS (withS (withS (withS (withS (withS (withS (withS noS 13 s13) 14 s14o) 15 s15) 16 s16) 17 s17) 18 s18) 19 s19) 20 s20) 21 s21) 22 s22) 23 s23p) 24 s24) 12 s14
theorem SL4_ok : ∀ f, FnOk Tryz.prog f (SL4 f) := withS_ok (withS_ok (withS_ok (withS_ok (withS_ok (withS_ok (withS_ok (withS_ok (withS_ok (withS_ok (withS_ok (withS_ok (withS_ok noS_ok ok13) ok14o) ok15s) ok16) ok17) ok18) ok19) ok20) ok21) ok22) ok23p) ok24) ok14
def c1k : List Key := [(1,0),(1,1),(1,2),(1,3),(1,4),(1,5),(1,6)]
def c13k : List Key := [(1,0),(1,1),(1,2),(1,3),(1,4),(1,5),(1,6),(3,0),(3,1),(3,2),(3,3),(3,4),(3,5),(3,6)]
open Classical in
noncomputable def eqU (us ws : List (Dat 2)) : Bool := decide (us = ws)
theorem eqU_iff {us ws : List (Dat 2)} : eqU us ws = true ↔ us = ws := by unfold eqU; simp
def lineR (p : IOp) (i : Int) : Str := showR p.Kind p.F p.W p.A p.B p.C p.N p.Signed p.Ord i
def lineOk (xs : List IOp) (ls : List (Dat 5)) (j : Nat) : Bool := decide (j < xs.length) && ((inK (xs.getD j (dat0 11)) && fOkR (show IOp from xs.getD j (dat0 11)).Kind (show IOp from xs.getD j (dat0 11)).F) && (show Str from ls.getD j (dat0 5)) == lineR (xs.getD j (dat0 11)) (j : Int))
def stA (a n : BitVec 64) (xs : List IOp) (ek ea : Int) (et el a' n' : BitVec 64) (xs' : List IOp) (ek' ea' : Int) (et' el' : BitVec 64) (ls : List (Dat 5)) (j : Int) : St :=
  ⟨[(1, .ptr 1 0), (2, .b false), (3, .ptr 3 0), (4, .vw 5 ls), (45, .i .i64 (ls.length : Int)), (46, .i .i64 j)],
   [((1,0), .u 64 a), ((1,1), .u 64 n), ((1,2), .vw 11 xs), ((1,3), .i .i64 ek), ((1,4), .i .i64 ea), ((1,5), .u 64 et), ((1,6), .u 64 el), ((3,0), .u 64 a'), ((3,1), .u 64 n'), ((3,2), .vw 11 xs'), ((3,3), .i .i64 ek'), ((3,4), .i .i64 ea'), ((3,5), .u 64 et'), ((3,6), .u 64 el')], [(3,7),(1,7)], 0⟩
def qA : St → Tr (Ex × St)
  | ⟨[(1, .ptr p1 o1), (2, .b b2), (3, .ptr p3 o3), (4, .vw 5 ls), (45, .i .i64 m), (46, .i .i64 j)],
     [(k0, .u 64 a), (k1, .u 64 n), (k2, .vw 11 xs), (k3, .i .i64 ek), (k4, .i .i64 ea), (k5, .u 64 et), (k6, .u 64 el), (h0, .u 64 a'), (h1, .u 64 n'), (h2, .vw 11 xs'), (h3, .i .i64 ek'), (h4, .i .i64 ea'), (h5, .u 64 et'), (h6, .u 64 el')], ids, _⟩ =>
    .need ((p1 == 1 && o1 == 0) && ((p3 == 3 && o3 == 0) && (!b2 && ([k0, k1, k2, k3, k4, k5, k6, h0, h1, h2, h3, h4, h5, h6] == c13k && ids == [(3,7),(1,7)]))))
      (.need ((m == (ls.length : Int) && j == 0) && (decide (ls.length ≤ 1000000) && (List.range ls.length).all (lineOk xs ls)))
        (.leaf (.exit 0, stA a n xs ek ea et el a' n' xs' ek' ea' et' el' ls (ls.length : Int))))
  | _ => .fail
def stB (a n : BitVec 64) (xs : List IOp) (ek ea : Int) (et el : BitVec 64) (ys : List IOp) (j : Int) : St :=
  ⟨[(1, .ptr 1 0), (2, .b false), (63, .vw 11 ys), (64, .i .i64 (ys.length : Int)), (65, .i .i64 j)],
   [((1,0), .u 64 a), ((1,1), .u 64 n), ((1,2), .vw 11 xs), ((1,3), .i .i64 ek), ((1,4), .i .i64 ea), ((1,5), .u 64 et), ((1,6), .u 64 el)], [(1,7)], 0⟩
noncomputable def qB : St → Tr (Ex × St)
  | ⟨[(1, .ptr p1 o1), (2, .b b2), (63, .vw 11 ys), (64, .i .i64 m), (65, .i .i64 j)],
     [(k0, .u 64 a), (k1, .u 64 n), (k2, .vw 11 xs), (k3, .i .i64 ek), (k4, .i .i64 ea), (k5, .u 64 et), (k6, .u 64 el)], ids, _⟩ =>
    .need ((p1 == 1 && o1 == 0) && (!b2 && ([k0, k1, k2, k3, k4, k5, k6] == c1k && ids == [(1,7)])))
      (.need ((m == (ys.length : Int) && j == 0) && (decide (ys.length ≤ 1000000) && eqL ys xs))
        (.leaf (.exit 2, stB a n xs ek ea et el ys (ys.length : Int))))
  | _ => .fail
def stC (a n : BitVec 64) (xs : List IOp) (ek ea : Int) (et el : BitVec 64) (ys : List IOp) (i : Int) (us ws : List (Dat 2)) (j : Int) : St :=
  ⟨[(1, .ptr 1 0), (2, .b false), (8, .vw 2 us), (9, .vw 2 ws), (63, .vw 11 ys), (64, .i .i64 (ys.length : Int)), (65, .i .i64 i), (106, .i .i64 (us.length : Int)), (107, .i .i64 j)],
   [((1,0), .u 64 a), ((1,1), .u 64 n), ((1,2), .vw 11 xs), ((1,3), .i .i64 ek), ((1,4), .i .i64 ea), ((1,5), .u 64 et), ((1,6), .u 64 el)], [(1,7)], 0⟩
noncomputable def qC : St → Tr (Ex × St)
  | ⟨[(1, .ptr p1 o1), (2, .b b2), (8, .vw 2 us), (9, .vw 2 ws), (63, .vw 11 ys), (64, .i .i64 m0), (65, .i .i64 i), (106, .i .i64 m), (107, .i .i64 j)],
     [(k0, .u 64 a), (k1, .u 64 n), (k2, .vw 11 xs), (k3, .i .i64 ek), (k4, .i .i64 ea), (k5, .u 64 et), (k6, .u 64 el)], ids, _⟩ =>
    .need ((p1 == 1 && o1 == 0) && (!b2 && ([k0, k1, k2, k3, k4, k5, k6] == c1k && ids == [(1,7)])))
      (.need ((m0 == (ys.length : Int) && (m == (us.length : Int) && j == 0)) && (decide (us.length ≤ 1000000) && eqU us ws))
        (.leaf (.exit 4, stC a n xs ek ea et el ys i us ws (us.length : Int))))
  | _ => .fail
noncomputable def L4 : Nat → Live := fun k => match k == 7 with
  | true => ⟨[1, 2, 3, 4, 45, 46], c13k, [1, 3], some qA⟩
  | false => match k == 13 with
    | true => ⟨[1, 2, 63, 64, 65], c1k, [1], some qB⟩
    | false => ⟨[1, 2, 8, 9, 63, 64, 65, 106, 107], c1k, [1], some qC⟩
theorem stepA (a n : BitVec 64) (xs : List IOp) (ek ea : Int) (et el a' n' : BitVec 64) (xs' : List IOp) (ek' ea' : Int) (et' el' : BitVec 64) (ls : List (Dat 5)) (j : Int) : ∀ p, p = xs.getD j.toNat (dat0 11) → (atHead (evCode T SL4 L4 122 1 (loopOf Tryz.f4 0)) (L4 (firstR (loopOf Tryz.f4 0))) (stA a n xs ek ea et el a' n' xs' ek' ea' et' el' ls j)).run =
    if decide (j < (ls.length : Int)) = true then if inK p = true then if fOkR p.Kind p.F = true then if decide (0 ≤ j) = true then if decide (j < (xs.length : Int)) = true then if decide (0 ≤ j) = true then if decide (j < (ls.length : Int)) = true then
      if (!((show Str from ls.getD j.toNat (dat0 5)) == lineR p j)) = true then some (.ret, stA a n xs ek ea et el a' n' xs' ek' ea' et' el' ls j) else some (.normal, stA a n xs ek ea et el a' n' xs' ek' ea' et' el' ls (IntKind.i64.wrap (j + 1)))
      else none else none else none else none else none else none else some (.exit 0, stA a n xs ek ea et el a' n' xs' ek' ea' et' el' ls j) := by intro p hp; subst hp; kernel_rfl
theorem loopA (N : Nat) : LoopOk T SL4 L4 122 N (loopOf Tryz.f4 0) := LoopOk.sub rfl <| by
  intro τ e st hcut hr
  unfold qA at hr
  split at hr
  case h_2 => exact (Tr.of_fail hr).elim
  rename_i p1 o1 b2 p3 o3 ls m j k0 a k1 n k2 xs k3 ek k4 ea k5 et k6 el h0 a' h1 n' h2 xs' h3 ek' h4 ea' h5 et' h6 el' ids cu
  obtain rfl : cu = 0 := hcut
  obtain ⟨hc, hr1⟩ := Tr.of_need hr
  obtain ⟨hd, hr2⟩ := Tr.of_need hr1
  clear hr hr1
  simp only [Bool.and_eq_true, beq_iff_eq, Bool.not_eq_true'] at hc
  obtain ⟨⟨rfl, rfl⟩, ⟨rfl, rfl⟩, rfl, hk, rfl⟩ := hc
  simp only [c13k, List.cons.injEq, and_true] at hk
  obtain ⟨rfl, rfl, rfl, rfl, rfl, rfl, rfl, rfl, rfl, rfl, rfl, rfl, rfl, rfl⟩ := hk
  rw [Bool.and_eq_true, Bool.and_eq_true, Bool.and_eq_true] at hd
  obtain ⟨⟨g1, g2⟩, hlen, hall⟩ := hd
  obtain rfl := eq_of_beq g1
  obtain rfl := eq_of_beq g2
  have hlen : ls.length ≤ 1000000 := of_decide_eq_true hlen
  simp only [Tr.run, Option.some.injEq, Prod.mk.injEq] at hr2
  obtain ⟨rfl, rfl⟩ := hr2
  have sameN : ∀ τ, atHead (evCode T SL4 L4 122 N (loopOf Tryz.f4 0)) (L4 (firstR (loopOf Tryz.f4 0))) τ = atHead (evCode T SL4 L4 122 1 (loopOf Tryz.f4 0)) (L4 (firstR (loopOf Tryz.f4 0))) τ := fun τ => rfl
  obtain ⟨N', hn⟩ := iter_from (g := atHead (evCode T SL4 L4 122 N (loopOf Tryz.f4 0)) (L4 (firstR (loopOf Tryz.f4 0)))) (fun j => stA a n xs ek ea et el a' n' xs' ek' ea' et' el' ls (j : Int)) 0 ls.length (Nat.zero_le _)
    (fun j _ hj => by
      have ho := List.all_eq_true.1 hall j (List.mem_range.2 hj)
      unfold lineOk at ho
      rw [Bool.and_eq_true, Bool.and_eq_true, Bool.and_eq_true, decide_eq_true_eq] at ho
      obtain ⟨o1, ⟨o2, o3⟩, o4⟩ := ho
      rw [sameN, stepA a n xs ek ea et el a' n' xs' ek' ea' et' el' ls (j : Int) _ rfl, if_pos (by simpa using hj), Int.toNat_natCast, if_pos o2, if_pos o3, if_pos (by simp), if_pos (by simpa using o1), if_pos (by simp), if_pos (by simpa using hj), if_neg (by rw [o4]; simp), wrap_succ j (by omega)])
    (by rw [sameN, stepA a n xs ek ea et el a' n' xs' ek' ea' et' el' ls _ _ rfl, if_neg (by simp)]) (by simp)
  exact ⟨N', _, hn, fun _ _ h => h, rfl, rfl⟩
theorem stepC (a n : BitVec 64) (xs : List IOp) (ek ea : Int) (et el : BitVec 64) (ys : List IOp) (i : Int) (us ws : List (Dat 2)) (j : Int) : (atHead (evCode T SL4 L4 122 1 (loopOf Tryz.f4 2)) (L4 (firstR (loopOf Tryz.f4 2))) (stC a n xs ek ea et el ys i us ws j)).run =
    if decide (j < (us.length : Int)) = true then if decide (0 ≤ j) = true then if decide (j < (ws.length : Int)) = true then if decide (0 ≤ j) = true then if decide (j < (us.length : Int)) = true then
      if ((show Int from us.getD j.toNat (dat0 2)) != (show Int from ws.getD j.toNat (dat0 2))) = true then some (.ret, stC a n xs ek ea et el ys i us ws j) else some (.normal, stC a n xs ek ea et el ys i us ws (IntKind.i64.wrap (j + 1)))
      else none else none else none else none else some (.exit 4, stC a n xs ek ea et el ys i us ws j) := by kernel_rfl
theorem loopC (N : Nat) : LoopOk T SL4 L4 122 N (loopOf Tryz.f4 2) := LoopOk.sub rfl <| by
  intro τ e st hcut hr
  unfold qC at hr
  split at hr
  case h_2 => exact (Tr.of_fail hr).elim
  rename_i p1 o1 b2 us ws ys m0 i m j k0 a k1 n k2 xs k3 ek k4 ea k5 et k6 el ids cu
  obtain rfl : cu = 0 := hcut
  obtain ⟨hc, hr1⟩ := Tr.of_need hr
  obtain ⟨hd, hr2⟩ := Tr.of_need hr1
  clear hr hr1
  simp only [Bool.and_eq_true, beq_iff_eq, Bool.not_eq_true'] at hc
  obtain ⟨⟨rfl, rfl⟩, rfl, hk, rfl⟩ := hc
  simp only [c1k, List.cons.injEq, and_true] at hk
  obtain ⟨rfl, rfl, rfl, rfl, rfl, rfl, rfl⟩ := hk
  rw [Bool.and_eq_true, Bool.and_eq_true, Bool.and_eq_true, Bool.and_eq_true, eqU_iff] at hd
  obtain ⟨⟨g0, g1, g2⟩, hlen, he⟩ := hd
  obtain rfl := eq_of_beq g0
  obtain rfl := eq_of_beq g1
  obtain rfl := eq_of_beq g2
  have he : us = ws := he
  subst he
  have hlen : us.length ≤ 1000000 := of_decide_eq_true hlen
  simp only [Tr.run, Option.some.injEq, Prod.mk.injEq] at hr2
  obtain ⟨rfl, rfl⟩ := hr2
  have sameN : ∀ τ, atHead (evCode T SL4 L4 122 N (loopOf Tryz.f4 2)) (L4 (firstR (loopOf Tryz.f4 2))) τ = atHead (evCode T SL4 L4 122 1 (loopOf Tryz.f4 2)) (L4 (firstR (loopOf Tryz.f4 2))) τ := fun τ => rfl
  obtain ⟨N', hn⟩ := iter_from (g := atHead (evCode T SL4 L4 122 N (loopOf Tryz.f4 2)) (L4 (firstR (loopOf Tryz.f4 2)))) (fun j => stC a n xs ek ea et el ys i us us (j : Int)) 0 us.length (Nat.zero_le _)
    (fun j _ hj => by rw [sameN, stepC, if_pos (by simpa using hj), if_pos (by simp), if_pos (by simpa using hj), if_pos (by simp), if_pos (by simpa using hj), if_neg (by simp), wrap_succ j (by omega)])
    (by rw [sameN, stepC, if_neg (by simp)]) (by simp)
  exact ⟨N', _, hn, fun _ _ h => h, rfl, rfl⟩
theorem stepB (a n : BitVec 64) (xs : List IOp) (ek ea : Int) (et el : BitVec 64) (ys : List IOp) (j : Int) : ∀ p q, p = ys.getD j.toNat (dat0 11) → q = xs.getD j.toNat (dat0 11) → (atHead (evCode T SL4 L4 122 1 (loopOf Tryz.f4 1)) (L4 (firstR (loopOf Tryz.f4 1))) (stB a n xs ek ea et el ys j)).run =
    if decide (j < (ys.length : Int)) = true then if decide (0 ≤ j) = true then if decide (j < (ys.length : Int)) = true then if decide (0 ≤ j) = true then if decide (j < (xs.length : Int)) = true then
      if ifB (!!(makesP p.Kind == makesR q.Kind)) (decide (0 ≤ j)) = true then if ifB (!!(makesP p.Kind == makesR q.Kind)) (decide (j < (xs.length : Int))) = true then if decide (0 ≤ j) = true then if decide (j < (xs.length : Int)) = true then
      if (if (if (!(makesP p.Kind == makesR q.Kind)) = true then true else !(pureP p.Kind == pureR q.Kind)) = true then true else ((usesP p.Kind p.A p.B p.C).length : Int) != ((usesR q.Kind q.A q.B q.C).length : Int)) = true then some (.ret, stB a n xs ek ea et el ys j)
      else if (((ys.length : Int) == (ys.length : Int) && (((usesP p.Kind p.A p.B p.C).length : Int) == ((usesP p.Kind p.A p.B p.C).length : Int) && (0 : Int) == 0)) && (decide ((usesP p.Kind p.A p.B p.C).length ≤ 1000000) && eqU (usesP p.Kind p.A p.B p.C) (usesR q.Kind q.A q.B q.C))) = true then
        some (.normal, stB a n xs ek ea et el ys (IntKind.i64.wrap (j + 1)))
      else none
      else none else none else none else none else none else none else none else none else some (.exit 2, stB a n xs ek ea et el ys j) := by intro p q hp hq; subst hp; subst hq; kernel_rfl
theorem loopB (N : Nat) : LoopOk T SL4 L4 122 N (loopOf Tryz.f4 1) := LoopOk.sub rfl <| by
  intro τ e st hcut hr
  unfold qB at hr
  split at hr
  case h_2 => exact (Tr.of_fail hr).elim
  rename_i p1 o1 b2 ys m j k0 a k1 n k2 xs k3 ek k4 ea k5 et k6 el ids cu
  obtain rfl : cu = 0 := hcut
  obtain ⟨hc, hr1⟩ := Tr.of_need hr
  obtain ⟨hd, hr2⟩ := Tr.of_need hr1
  clear hr hr1
  simp only [Bool.and_eq_true, beq_iff_eq, Bool.not_eq_true'] at hc
  obtain ⟨⟨rfl, rfl⟩, rfl, hk, rfl⟩ := hc
  simp only [c1k, List.cons.injEq, and_true] at hk
  obtain ⟨rfl, rfl, rfl, rfl, rfl, rfl, rfl⟩ := hk
  rw [Bool.and_eq_true, Bool.and_eq_true, Bool.and_eq_true, eqL_iff] at hd
  obtain ⟨⟨g1, g2⟩, hlen, he⟩ := hd
  obtain rfl := eq_of_beq g1
  obtain rfl := eq_of_beq g2
  have he : ys = xs := he
  subst he
  have hlen : ys.length ≤ 1000000 := of_decide_eq_true hlen
  simp only [Tr.run, Option.some.injEq, Prod.mk.injEq] at hr2
  obtain ⟨rfl, rfl⟩ := hr2
  have sameN : ∀ τ, atHead (evCode T SL4 L4 122 N (loopOf Tryz.f4 1)) (L4 (firstR (loopOf Tryz.f4 1))) τ = atHead (evCode T SL4 L4 122 1 (loopOf Tryz.f4 1)) (L4 (firstR (loopOf Tryz.f4 1))) τ := fun τ => rfl
  obtain ⟨N', hn⟩ := iter_from (g := atHead (evCode T SL4 L4 122 N (loopOf Tryz.f4 1)) (L4 (firstR (loopOf Tryz.f4 1)))) (fun j => stB a n ys ek ea et el ys (j : Int)) 0 ys.length (Nat.zero_le _)
    (fun j _ hj => by
      have hj2 : decide ((j : Int) < (ys.length : Int)) = true := by simpa using hj
      have h0 : decide ((0 : Int) ≤ (j : Int)) = true := by simp
      rw [sameN, stepB a n ys ek ea et el ys (j : Int) _ _ rfl rfl, hj2, h0, ifB_true, Int.toNat_natCast]
      simp only [if_true]
      have key : ∀ p : IOp, (usesR p.Kind p.A p.B p.C).length ≤ 3 := fun p => by
        have hu := usesQ_len p
        unfold usesQ at hu
        rw [usesP_eq] at hu
        exact hu
      generalize hP : (show IOp from ys.getD j (dat0 11)) = p
      rw [show (ys.getD j (dat0 11)) = p from hP, makesP_eq, pureP_eq, usesP_eq]
      have hu := key p
      rw [if_neg (by simp), if_pos (by rw [eqU_iff.2 (rfl : usesR p.Kind p.A p.B p.C = _)]; simp; omega), wrap_succ j (by omega)])
    (by rw [sameN, stepB a n ys ek ea et el ys _ _ _ rfl rfl, if_neg (by simp)]) (by simp)
  exact ⟨N', _, hn, fun _ _ h => h, rfl, rfl⟩
theorem loops4 : FnLoops T SL4 L4 1 Tryz.f4 := FnLoops.of 3 (by kernel_rfl) (fun j hj => match j, hj with
  | 0, _ => loopA 1
  | 1, _ => loopB 1
  | 2, _ => loopC 1)
theorem run4 (a n : BitVec 64) (ek ea : Int) (et el : BitVec 64) (ys : List IOp) : ∀ xs mp mr ls, xs = cutL ys → mp = MayP xs ek ea et el → mr = MayR xs ek ea et el → ls = ShowP xs ek ea et el → (evFn T SL4 L4 1 Tryz.f4 [.agg (mkC a n (.vw 11 ys) ek ea et el)]).run =
    cnds [decide (xs.length ≤ 134217728), decide (xs.length ≤ 1000000), ifB (!(if (!(mp == mr)) = true then true else if decide ((0 : Int) < (ls.length : Int)) = true then !mr else false)) (decide (xs.length ≤ 1000000)),
      ifB (decide ((0 : Int) < (ls.length : Int))) (ifB (!!(mp == mr)) (decide (xs.length ≤ 1000000))), decide (xs.length ≤ 1000000), decide (xs.length ≤ 1000000)]
    (if (if (if (!(mp == mr)) = true then true else if decide ((0 : Int) < (ls.length : Int)) = true then !mr else false) = true then true else if mr = true then ((ls.length : Int) != (xs.length : Int)) else false) = true then some (.b false)
    else cnds [((ls.length : Int) == (ls.length : Int) && (0 : Int) == 0) && (decide (ls.length ≤ 1000000) && (List.range ls.length).all (lineOk xs ls)), ((xs.length : Int) == (xs.length : Int) && (0 : Int) == 0) && (decide (xs.length ≤ 1000000) && eqL xs xs)] (some (.b true))) := by
  intro xs mp mr ls h1 h2 h3 h4; subst h1; subst h2; subst h3; subst h4; kernel_rfl
theorem fOkR_of {xs : List IOp} {j : Int} {p : IOp} (h : mayR xs j p = true) : inK p = true ∧ fOkR p.Kind p.F = true := by
  obtain ⟨⟨k1, k2⟩, hf, _⟩ := may_facts h
  refine ⟨by unfold inK; rw [decide_eq_true k1, decide_eq_true k2]; rfl, ?_⟩
  unfold fOkR ifB
  by_cases h4 : p.Kind = 4
  · obtain ⟨f1, f2⟩ := hf h4
    split
    · rw [Bool.and_eq_true, decide_eq_true_eq, decide_eq_true_eq]; omega
    · rfl
  · have : (wordS p.Kind == [97, 108, 117]) = false := by
      rcases kind_cases p.Kind with h | h | h | h | h | h | h | h | h | h | h | h | h | h
      · omega
      all_goals (first | (exact absurd h h4) | (rw [h]; rfl))
    rw [this]; rfl
theorem lawMay (a n : BitVec 64) (ek ea : Int) (et el : BitVec 64) (ys : List IOp) : (evFn T SL4 L4 1 Tryz.f4 [.agg (mkC a n (.vw 11 ys) ek ea et el)]).run = some (.b true) := by
  rw [run4 a n ek ea et el ys _ _ _ _ rfl rfl rfl rfl]
  have hx := cutL_len ys
  generalize cutL ys = xs at hx
  have hm := May_eq xs ek ea et el
  have d1 : decide (xs.length ≤ 134217728) = true := decide_eq_true (by omega)
  have d2 : decide (xs.length ≤ 1000000) = true := decide_eq_true (by omega)
  have hb : (!(MayP xs ek ea et el == MayR xs ek ea et el)) = false := by rw [hm]; simp
  rw [cnds_of (by rw [d1, d2, ifB_true, ifB_true, ifB_true]; rfl)]
  have hall := @May_all xs ek ea et el
  rw [hb]
  unfold ShowP
  rw [hm] at hall ⊢
  cases hmr : MayR xs ek ea et el with
  | false =>
    simp only [Bool.false_eq_true, if_false]
    rw [if_neg (by simp)]
    refine cnds_of ?_
    simp only [List.all_cons, List.all_nil, id, d2, eqL_iff.2 (rfl : xs = xs)]
    simp
  | true =>
    have hl : (rowsP xs xs.length).length = xs.length := by unfold rowsP; simp
    simp only [if_true, Bool.not_true, Bool.false_eq_true, if_false, ite_self, hl]
    rw [if_neg (by simp)]
    refine cnds_of ?_
    have hlines : (List.range xs.length).all (lineOk xs (rowsP xs xs.length)) = true := by
      rw [List.all_eq_true]
      intro j hj
      have hj : j < xs.length := List.mem_range.1 hj
      have hmj := hall hmr j hj
      obtain ⟨o1, o2⟩ := fOkR_of hmj
      have hline : (rowsP xs xs.length).getD j (dat0 5) = lineP xs (xs.getD j (dat0 11)) (j : Int) := by
        rw [List.getD_eq_getElem?_getD]
        unfold rowsP
        rw [List.getElem?_map, List.getElem?_range hj]; rfl
      have hs : lineP xs (xs.getD j (dat0 11)) (j : Int) = lineR (xs.getD j (dat0 11)) (j : Int) := show_eq hmj _
      unfold lineOk
      rw [hline, hs, decide_eq_true hj, o1]
      show (true && ((true && fOkR _ _) && _)) = true
      rw [o2]
      simp
    simp only [List.all_cons, List.all_nil, id, d2, hlines, eqL_iff.2 (rfl : xs = xs)]
    simp
end Go.Proofs.YtcdnbdphakhilaaGreatDoor
set_option maxRecDepth 100000
namespace Go.Proofs.YtcdnbdphakhilaaGreatDoor
open Go.Proofs.YtcdnbdphakhilaaGreatDoor.Ev Go.RowKit
abbrev shC : List Sh := [.w 64, .w 64, .row 11, .i .i64, .i .i64, .w 64, .w 64]
theorem lawMayM (x : Sh.Val (.st shC)) : (evFn T SL4 L4 1 Tryz.f4 [.agg (Sh.cellsL shC x)]).run = some (.b true) := by
  obtain ⟨a, n, xs, ek, ea, et, el, _⟩ := x
  exact lawMay a n ek ea et el xs
end Go.Proofs.YtcdnbdphakhilaaGreatDoor
