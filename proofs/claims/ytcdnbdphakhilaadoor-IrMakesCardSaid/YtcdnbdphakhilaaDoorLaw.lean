/- Lemmas: the law's loops and its run; what a row's condition says of the library's variables. No condition. -/
import Derived.Test.YtcdnbdphakhilaaDoorMakes
import Derived.Handed
import Derived.SizedLaws
import Derived.Lay
import Derived.LaidMore
import Derived.Lib.LaidTab
import Derived.Shelf.Vars
import Derived.Test.YtcdnbdphakhilaaDoorRows
set_option linter.unusedVariables false
set_option linter.unusedSimpArgs false
set_option maxRecDepth 100000
namespace Go.Proofs.YtcdnbdphakhilaaDoor
open Go.Proofs.YtcdnbdphakhilaaDoor.Ev Go.RowKit
/- IrMakes' first loop. -/
def pk {α : Type} (o : IOp) (a1 a2 a3 a5 a6 a0 : α) : α := if (o.Kind == 1) = true then a1 else if (o.Kind == 2) = true then a2 else if (o.Kind == 3) = true then a3 else if (o.Kind == 5) = true then a5 else if (o.Kind == 6) = true then a6 else a0
theorem pk_same {α : Type} (o : IOp) (a : α) : pk o a a a a a a = a := by unfold pk; simp
abbrev rMk : Nat := 3145750
abbrev rWt : Nat := 3145734
def keys3 : List Key := [(22,0),(22,1),(22,2),(22,3),(22,4),(22,5),(22,6),(rMk,0),(6,0),(6,1),(6,2),(6,3),(6,4),(6,5),(6,6),(rWt,0),(7,0)]
def st3g (c0 c1 : BitVec 64) (c3 c4 : Int) (c5 c6 : BitVec 64) (f : AV) (xs ms ws : List IOp) (ks : List Int) (j : Int) : St :=
  ⟨[(1, f), (5, .ptr 22 0), (6, .ptr 6 0), (7, .gs 7 0), (23, .vw 11 xs), (24, .i .i64 (xs.length : Int)), (25, .i .i64 j)],
   [((22,0), .u 64 c0), ((22,1), .u 64 c1), ((22,2), .gs rMk 0), ((22,3), .i .i64 c3), ((22,4), .i .i64 c4), ((22,5), .u 64 c5), ((22,6), .u 64 c6), ((rMk,0), .row 43 11 ms 0),
    ((6,0), .u 64 0#64), ((6,1), .u 64 0#64), ((6,2), .gs rWt 0), ((6,3), .i .i64 0), ((6,4), .i .i64 0), ((6,5), .u 64 0#64), ((6,6), .u 64 0#64), ((rWt,0), .row 36 11 ws 0), ((7,0), .row 3 2 ks 0)], [(7,0),(6,7),(rWt,0),(22,7),(rMk,0)], 0⟩
def st3 (f : Int) (xs ms ws : List IOp) (ks : List Int) (j : Int) : St := st3g 0#64 0#64 0 0 0#64 0#64 (.i .i64 f) xs ms ws ks j
def op1 (o : IOp) : IOp := ⟨1, 0, 0, 0, 0, 0, o.N, false, 0⟩
def op2 (o : IOp) : IOp := ⟨2, 0, 0, 0, 0, 0, BitVec.ofInt 64 o.A, false, 0⟩
def op3 (o : IOp) : IOp := ⟨3, 0, 0, o.A, 0, 0, BitVec.ofInt 64 o.B, false, 0⟩
def op5 (o : IOp) : IOp := ⟨5, 0, o.W, o.A, 0, 0, 0#64, o.Signed, 0⟩
def op6 (o : IOp) : IOp := ⟨6, 0, 0, o.A, o.B, o.C, 0#64, false, 0⟩
def wk (o : IOp) : IOp := ⟨pk o 1 2 3 5 6 o.Kind, pk o 0 0 0 0 0 o.F, pk o 0 0 0 o.W 0 o.W, pk o 0 0 o.A o.A o.A o.A, pk o 0 0 0 0 o.B o.B, pk o 0 0 0 0 o.C o.C,
  pk o o.N (BitVec.ofInt 64 o.A) (BitVec.ofInt 64 o.B) 0#64 0#64 o.N, pk o false false false o.Signed false o.Signed, pk o 0 0 0 0 0 o.Ord⟩
def lastOf (ms : List IOp) : Int := IntKind.i64.wrap ((ms.length : Int) - 1)
def kk (o : IOp) (ms ws : List IOp) : Int := pk o (lastOf (ms ++ [op1 o])) (lastOf (ms ++ [op2 o])) (ws.length : Int) (lastOf (ms ++ [op5 o])) (lastOf (ms ++ [op6 o])) (lastOf (ms ++ [o]))
def mm (o : IOp) (ms : List IOp) : List IOp := pk o (ms ++ [op1 o]) (ms ++ [op2 o]) (ms ++ [op3 o]) (ms ++ [op5 o]) (ms ++ [op6 o]) (ms ++ [o])
def n1 (o : IOp) (d : Bool) : Bool := if (o.Kind == 1) = true then d else true
def n2 (o : IOp) (d : Bool) : Bool := if (o.Kind == 1) = true then true else if (o.Kind == 2) = true then d else true
def n3 (o : IOp) (d : Bool) : Bool := if (o.Kind == 1) = true then true else if (o.Kind == 2) = true then true else if (o.Kind == 3) = true then d else true
def n5 (o : IOp) (d : Bool) : Bool := if (o.Kind == 1) = true then true else if (o.Kind == 2) = true then true else if (o.Kind == 3) = true then true else if (o.Kind == 5) = true then d else true
def n6 (o : IOp) (d : Bool) : Bool := if (o.Kind == 1) = true then true else if (o.Kind == 2) = true then true else if (o.Kind == 3) = true then true else if (o.Kind == 5) = true then true else if (o.Kind == 6) = true then d else true
def n0 (o : IOp) (d : Bool) : Bool := if (o.Kind == 1) = true then true else if (o.Kind == 2) = true then true else if (o.Kind == 3) = true then true else if (o.Kind == 5) = true then true else if (o.Kind == 6) = true then true else d
def natsL : Nat → Int → List Int
  | 0, _ => []
  | n + 1, k => k :: natsL n (k + 1)
def q3a : St → Tr (Ex × St)
  | ⟨[(1, .i .i64 f), (5, .ptr p5 o5), (6, .ptr p6 o6), (7, .gs g7 v7), (23, .vw 11 xs), (24, .i .i64 n), (25, .i .i64 j)],
     [(k0, .u 64 c0), (k1, .u 64 c1), (k2, .gs g v), (k3, .i .i64 c3), (k4, .i .i64 c4), (k5, .u 64 c5), (k6, .u 64 c6), (k7, .row 43 11 ms w),
      (h0, .u 64 d0), (h1, .u 64 d1), (h2, .gs g' v'), (h3, .i .i64 d3), (h4, .i .i64 d4), (h5, .u 64 d5), (h6, .u 64 d6), (h7, .row 36 11 ws w'), (h8, .row 3 2 ks w2)], ids, _⟩ =>
    .need ((p5 == 22 && o5 == 0) && ((p6 == 6 && o6 == 0) && ((g7 == 7 && v7 == 0) && ((g == rMk && v == 0) && ((g' == rWt && v' == 0) && ((w == 0 && w' == 0) && (w2 == 0 && ([k0, k1, k2, k3, k4, k5, k6, k7, h0, h1, h2, h3, h4, h5, h6, h7, h8] == keys3 && ids == [(7,0),(6,7),(rWt,0),(22,7),(rMk,0)]))))))))
      (.need ((c0 == 0#64 && c1 == 0#64) && ((c3 == 0 && c4 == 0) && ((c5 == 0#64 && c6 == 0#64) && ((d0 == 0#64 && d1 == 0#64) && ((d3 == 0 && d4 == 0) && ((d5 == 0#64 && d6 == 0#64) && (ms.isEmpty && (ws.isEmpty && ks.isEmpty))))))))
      (.need ((n == (xs.length : Int) && j == 0) && decide (xs.length ≤ 30))
        (.leaf (.exit 0, st3 f xs (xs.map wk) (xs.map wk) (natsL xs.length 0) (xs.length : Int)))))
  | _ => .fail
def L3a : Nat → Live := fun _ => ⟨[1,5,6,7,23,24,25], keys3, [22,rMk,6,rWt,7], some q3a⟩
def st3o (f : Int) (o : IOp) (xs ms ws : List IOp) (ks : List Int) (j : Int) : St := st3g (pk o 0#64 0#64 0#64 0#64 0#64 0#64) (pk o 0#64 0#64 0#64 0#64 0#64 0#64) (pk o 0 0 0 0 0 0) (pk o 0 0 0 0 0 0) (pk o 0#64 0#64 0#64 0#64 0#64 0#64) (pk o 0#64 0#64 0#64 0#64 0#64 0#64) (.i .i64 f) xs ms ws ks j
theorem step3a (f : Int) (xs ms ws : List IOp) (ks : List Int) (j : Int) : ∀ o, o = xs.getD j.toNat (dat0 11) → 
  (atHead (evCode T SK2 L3a 190 1 (loopOf Tryd.f3 0)) (L3a (firstR (loopOf Tryd.f3 0))) (st3 f xs ms ws ks j)).run =
    if decide (j < (xs.length : Int)) = true then if decide (0 ≤ j) = true then if decide (j < (xs.length : Int)) = true then
      if n1 o (decide (ms.length + 1 ≤ 134217728)) = true then if n2 o (decide (ms.length + 1 ≤ 134217728)) = true then if n3 o (decide (ms.length + 1 ≤ 134217728)) = true then
      if n5 o (decide (ms.length + 1 ≤ 134217728)) = true then if n6 o (decide (ms.length + 1 ≤ 134217728)) = true then if n0 o (decide (ms.length + 1 ≤ 134217728)) = true then
      if decide (ws.length + [wk o].length ≤ 134217728) = true then
      if (kk o ms ws != lastOf (ws ++ [wk o])) = true then some (.ret, st3o f o xs (mm o ms) (ws ++ [wk o]) ks j)
      else if decide (ks.length + [kk o ms ws].length ≤ 134217728) = true then some (.normal, st3o f o xs (mm o ms) (ws ++ [wk o]) (ks ++ [kk o ms ws]) (IntKind.i64.wrap (j + 1)))
      else none else none else none else none else none else none else none else none else none else none 
      else some (.exit 0, st3 f xs ms ws ks j) := by intro o ho; subst ho; kernel_rfl
end Go.Proofs.YtcdnbdphakhilaaDoor
set_option maxRecDepth 100000
namespace Go.Proofs.YtcdnbdphakhilaaDoor
open Go.Proofs.YtcdnbdphakhilaaDoor.Ev Go.RowKit
/- IrMakes' loops. -/
theorem lastOf_app (l : List IOp) (x : IOp) (h : l.length ≤ 134217728) : lastOf (l ++ [x]) = (l.length : Int) := by
  unfold lastOf
  rw [List.length_append, List.length_singleton, wrap_small _ (by omega) (by omega)]
  omega
theorem kk_eq (o : IOp) (ms ws : List IOp) (h : ms.length ≤ 134217728) (he : ws.length = ms.length) : kk o ms ws = (ms.length : Int) := by
  unfold kk
  rw [lastOf_app _ _ h, lastOf_app _ _ h, lastOf_app _ _ h, lastOf_app _ _ h, lastOf_app _ _ h, he, pk_same]
theorem mm_eq (o : IOp) (ms : List IOp) : mm o ms = ms ++ [wk o] := by
  unfold mm wk pk
  by_cases h1 : (o.Kind == 1) = true
  · simp only [h1, if_true]; rfl
  by_cases h2 : (o.Kind == 2) = true
  · simp only [h1, h2, if_true, if_false]; rfl
  by_cases h3 : (o.Kind == 3) = true
  · simp only [h1, h2, h3, if_true, if_false]; rfl
  by_cases h5 : (o.Kind == 5) = true
  · simp only [h1, h2, h3, h5, if_true, if_false]; rfl
  by_cases h6 : (o.Kind == 6) = true
  · simp only [h1, h2, h3, h5, h6, if_true, if_false]; rfl
  · simp only [h1, h2, h3, h5, h6, if_true, if_false]; rfl
theorem st3o_eq (f : Int) (o : IOp) (xs ms ws : List IOp) (ks : List Int) (j : Int) : st3o f o xs ms ws ks j = st3 f xs ms ws ks j := by
    unfold st3o st3; rw [pk_same, pk_same]
theorem nall (o : IOp) : n1 o true = true ∧ n2 o true = true ∧ n3 o true = true ∧ n5 o true = true ∧ n6 o true = true ∧ n0 o true = true := by
  refine ⟨?_, ?_, ?_, ?_, ?_, ?_⟩ <;> simp [n1, n2, n3, n5, n6, n0]
theorem natsL_succ : ∀ (n : Nat) (k : Int), natsL (n + 1) k = natsL n k ++ [k + (n : Int)]
  | 0, k => by simp [natsL]
  | n + 1, k => by
    rw [natsL, natsL_succ n (k + 1), natsL]
    simp only [List.cons_append, List.cons.injEq, List.append_cancel_left_eq, and_true, true_and]
    omega
theorem natsL_len : ∀ (n : Nat) (k : Int), (natsL n k).length = n
  | 0, k => rfl
  | n + 1, k => by rw [natsL, List.length_cons, natsL_len n]
theorem loop3a (N : Nat) : LoopOk T SK2 L3a 190 N (loopOf Tryd.f3 0) := LoopOk.sub rfl <| by
  intro τ e st hcut hr
  unfold q3a at hr
  split at hr
  case h_2 => exact (Tr.of_fail hr).elim
  rename_i f p5 o5 p6 o6 g7 v7 xs n j k0 c0 k1 c1 k2 g v k3 c3 k4 c4 k5 c5 k6 c6 k7 ms w h0 d0 h1 d1 h2 g' v' h3 d3 h4 d4 h5 d5 h6 d6 h7 ws w' h8 ks w2 ids c
  obtain rfl : c = 0 := hcut
  obtain ⟨hc, hr1⟩ := Tr.of_need hr
  obtain ⟨hz, hr2⟩ := Tr.of_need hr1
  obtain ⟨hd, hr3⟩ := Tr.of_need hr2
  clear hr hr1 hr2
  simp only [Bool.and_eq_true, beq_iff_eq] at hc
  obtain ⟨⟨rfl, rfl⟩, ⟨rfl, rfl⟩, ⟨rfl, rfl⟩, ⟨rfl, rfl⟩, ⟨rfl, rfl⟩, ⟨rfl, rfl⟩, rfl, hk, rfl⟩ := hc
  simp only [keys3, List.cons.injEq, and_true] at hk
  obtain ⟨rfl, rfl, rfl, rfl, rfl, rfl, rfl, rfl, rfl, rfl, rfl, rfl, rfl, rfl, rfl, rfl, rfl⟩ := hk
  simp only [Bool.and_eq_true, beq_iff_eq, List.isEmpty_iff] at hz
  obtain ⟨⟨rfl, rfl⟩, ⟨rfl, rfl⟩, ⟨rfl, rfl⟩, ⟨rfl, rfl⟩, ⟨rfl, rfl⟩, ⟨rfl, rfl⟩, rfl, rfl, rfl⟩ := hz
  simp only [Bool.and_eq_true, beq_iff_eq, decide_eq_true_eq] at hd
  obtain ⟨⟨rfl, rfl⟩, hlen⟩ := hd
  have hlen : xs.length ≤ 30 := hlen
  simp only [Tr.run, Option.some.injEq, Prod.mk.injEq] at hr3
  obtain ⟨rfl, rfl⟩ := hr3
  have sameN : ∀ τ, atHead (evCode T SK2 L3a 190 N (loopOf Tryd.f3 0)) (L3a (firstR (loopOf Tryd.f3 0))) τ = atHead (evCode T SK2 L3a 190 1 (loopOf Tryd.f3 0)) (L3a (firstR (loopOf Tryd.f3 0))) τ := fun τ => rfl
  obtain ⟨N', hn⟩ := iter_from (g := atHead (evCode T SK2 L3a 190 N (loopOf Tryd.f3 0)) (L3a (firstR (loopOf Tryd.f3 0))))
    (fun j => st3 f xs ((xs.take j).map wk) ((xs.take j).map wk) (natsL j 0) (j : Int)) 0 xs.length (Nat.zero_le _)
    (fun j _ hj => by
      have hl : ((xs.take j).map wk).length = j := by simp; omega
      have hl2 : ((xs.take j).map wk).length + 1 ≤ 134217728 := by omega
      obtain ⟨m1, m2, m3, m5, m6, m0⟩ := nall (xs.getD ((j : Int)).toNat (dat0 11))
      rw [sameN, step3a f xs _ _ _ (j : Int) _ rfl, decide_eq_true hl2, if_pos (by simpa using hj), if_pos (by simp), if_pos (by simpa using hj), if_pos m1, if_pos m2, if_pos m3, if_pos m5, if_pos m6, if_pos m0,
        if_pos (by rw [hl]; simp; omega), kk_eq _ _ _ (by omega) rfl, lastOf_app _ _ (by omega), if_neg (by simp), if_pos (by rw [natsL_len]; simp; omega), st3o_eq, mm_eq, Int.toNat_natCast, getD_at hj, wrap_succ j (by omega),
        List.take_succ_eq_append_getElem hj, List.map_append, hl, natsL_succ, Int.zero_add]
      rfl)
    (by rw [sameN, step3a f xs _ _ _ _ _ rfl, if_neg (by simp), List.take_length]) (by simp)
  exact ⟨N', _, hn, fun _ _ h => h, rfl, rfl⟩
def keys3b : List Key := [(22,0),(22,1),(22,2),(22,3),(22,4),(22,5),(22,6),(rMk,0),(6,0),(6,1),(6,2),(6,3),(6,4),(6,5),(6,6),(rWt,0)]
def st3b (f p last : Int) (ks : List (Dat 2)) (ms ws : List IOp) (j : Int) : St :=
  ⟨[(1, .i .i64 f), (5, .ptr 22 0), (6, .ptr 6 0), (11, .i .i64 p), (12, .i .i64 last), (142, .vw 2 ks), (143, .i .i64 (ks.length : Int)), (144, .i .i64 j)],
   [((22,0), .u 64 0#64), ((22,1), .u 64 0#64), ((22,2), .gs rMk 0), ((22,3), .i .i64 0), ((22,4), .i .i64 0), ((22,5), .u 64 0#64), ((22,6), .u 64 0#64), ((rMk,0), .row 43 11 ms 0),
    ((6,0), .u 64 0#64), ((6,1), .u 64 0#64), ((6,2), .gs rWt 0), ((6,3), .i .i64 0), ((6,4), .i .i64 0), ((6,5), .u 64 0#64), ((6,6), .u 64 0#64), ((rWt,0), .row 36 11 ws 0)], [(6,7),(rWt,0),(22,7),(rMk,0)], 0⟩
def q3b : St → Tr (Ex × St)
  | ⟨[(1, .i .i64 f), (5, .ptr p5 o5), (6, .ptr p6 o6), (11, .i .i64 p), (12, .i .i64 last), (142, .vw 2 ks), (143, .i .i64 n), (144, .i .i64 j)],
     [(k0, .u 64 c0), (k1, .u 64 c1), (k2, .gs g v), (k3, .i .i64 c3), (k4, .i .i64 c4), (k5, .u 64 c5), (k6, .u 64 c6), (k7, .row 43 11 ms w),
      (h0, .u 64 d0), (h1, .u 64 d1), (h2, .gs g' v'), (h3, .i .i64 d3), (h4, .i .i64 d4), (h5, .u 64 d5), (h6, .u 64 d6), (h7, .row 36 11 ws w')], ids, _⟩ =>
    .need ((p5 == 22 && o5 == 0) && ((p6 == 6 && o6 == 0) && ((g == rMk && v == 0) && ((g' == rWt && v' == 0) && ((w == 0 && w' == 0) && ([k0, k1, k2, k3, k4, k5, k6, k7, h0, h1, h2, h3, h4, h5, h6, h7] == keys3b && ids == [(6,7),(rWt,0),(22,7),(rMk,0)]))))))
      (.need ((c0 == 0#64 && c1 == 0#64) && ((c3 == 0 && c4 == 0) && ((c5 == 0#64 && c6 == 0#64) && ((d0 == 0#64 && d1 == 0#64) && ((d3 == 0 && d4 == 0) && (d5 == 0#64 && d6 == 0#64))))))
      (.need ((n == (ks.length : Int) && j == 0) && decide (ws.length + ks.length ≤ 134217728))
        (.leaf (.exit 3, st3b f p (ks.foldl (aluF f) (ws, last)).2 ks ms (ks.foldl (aluF f) (ws, last)).1 (ks.length : Int)))))
  | _ => .fail
def L3 : Nat → Live := fun k => match k == 39 with
  | true => ⟨[1,5,6,11,12,142,143,144], keys3b, [22,rMk,6,rWt], some q3b⟩
  | false => ⟨[1,5,6,7,23,24,25], keys3, [22,rMk,6,rWt,7], some q3a⟩
theorem step3b (f p last : Int) (ks : List (Dat 2)) (ms ws : List IOp) (j : Int) :
  (atHead (evCode T SK2 L3 190 1 (loopOf Tryd.f3 1)) (L3 (firstR (loopOf Tryd.f3 1))) (st3b f p last ks ms ws j)).run =
    if decide (j < (ks.length : Int)) = true then if decide (0 ≤ j) = true then if decide (j < (ks.length : Int)) = true then
      if decide (ws.length + [aluS f last (ks.getD j.toNat (dat0 2))].length ≤ 134217728) = true then
      some (.normal, st3b f p (aluF f (ws, last) (ks.getD j.toNat (dat0 2))).2 ks ms (aluF f (ws, last) (ks.getD j.toNat (dat0 2))).1 (IntKind.i64.wrap (j + 1)))
      else none else none else none else some (.exit 3, st3b f p last ks ms ws j) := by kernel_rfl
theorem loop3b (N : Nat) : LoopOk T SK2 L3 190 N (loopOf Tryd.f3 1) := LoopOk.sub rfl <| by
  intro τ e st hcut hr
  unfold q3b at hr
  split at hr
  case h_2 => exact (Tr.of_fail hr).elim
  rename_i f p5 o5 p6 o6 p last ks n j k0 c0 k1 c1 k2 g v k3 c3 k4 c4 k5 c5 k6 c6 k7 ms w h0 d0 h1 d1 h2 g' v' h3 d3 h4 d4 h5 d5 h6 d6 h7 ws w' ids c
  obtain rfl : c = 0 := hcut
  obtain ⟨hc, hr1⟩ := Tr.of_need hr
  obtain ⟨hz, hr2⟩ := Tr.of_need hr1
  obtain ⟨hd, hr3⟩ := Tr.of_need hr2
  clear hr hr1 hr2
  simp only [Bool.and_eq_true, beq_iff_eq] at hc
  obtain ⟨⟨rfl, rfl⟩, ⟨rfl, rfl⟩, ⟨rfl, rfl⟩, ⟨rfl, rfl⟩, ⟨rfl, rfl⟩, hk, rfl⟩ := hc
  simp only [keys3b, List.cons.injEq, and_true] at hk
  obtain ⟨rfl, rfl, rfl, rfl, rfl, rfl, rfl, rfl, rfl, rfl, rfl, rfl, rfl, rfl, rfl, rfl⟩ := hk
  simp only [Bool.and_eq_true, beq_iff_eq] at hz
  obtain ⟨⟨rfl, rfl⟩, ⟨rfl, rfl⟩, ⟨rfl, rfl⟩, ⟨rfl, rfl⟩, ⟨rfl, rfl⟩, rfl, rfl⟩ := hz
  simp only [Bool.and_eq_true, beq_iff_eq, decide_eq_true_eq] at hd
  obtain ⟨⟨rfl, rfl⟩, hlen⟩ := hd
  have hlen : ws.length + ks.length ≤ 134217728 := hlen
  simp only [Tr.run, Option.some.injEq, Prod.mk.injEq] at hr3
  obtain ⟨rfl, rfl⟩ := hr3
  have sameN : ∀ τ, atHead (evCode T SK2 L3 190 N (loopOf Tryd.f3 1)) (L3 (firstR (loopOf Tryd.f3 1))) τ = atHead (evCode T SK2 L3 190 1 (loopOf Tryd.f3 1)) (L3 (firstR (loopOf Tryd.f3 1))) τ := fun τ => rfl
  obtain ⟨N', hn⟩ := iter_from (g := atHead (evCode T SK2 L3 190 N (loopOf Tryd.f3 1)) (L3 (firstR (loopOf Tryd.f3 1))))
    (fun j => st3b f p ((ks.take j).foldl (aluF f) (ws, last)).2 ks ms ((ks.take j).foldl (aluF f) (ws, last)).1 (j : Int)) 0 ks.length (Nat.zero_le _)
    (fun j _ hj => by
      have hl : ((ks.take j).foldl (aluF f) (ws, last)).1.length = ws.length + j := by
        rw [aluF_len]; simp; omega
      rw [sameN, step3b, if_pos (by simpa using hj), if_pos (by simp), if_pos (by simpa using hj), if_pos (by simp; omega), Int.toNat_natCast, getD_at hj, wrap_succ j (by omega), foldl_take _ _ _ _ hj])
    (by rw [sameN, step3b, if_neg (by simp), List.take_length]) (by simp)
  exact ⟨N', _, hn, fun _ _ h => h, rfl, rfl⟩
theorem loop3a' (N : Nat) : LoopOk T SK2 L3 190 N (loopOf Tryd.f3 0) := loop3a N
end Go.Proofs.YtcdnbdphakhilaaDoor
set_option maxRecDepth 100000
namespace Go.Proofs.YtcdnbdphakhilaaDoor
open Go.Proofs.YtcdnbdphakhilaaDoor.Ev Go.RowKit
/- IrMakes: the run. -/
def l30 (xs : List IOp) : List IOp := if decide ((30 : Int) < (xs.length : Int)) = true then (xs.drop ((0 : Nat) : Int).toNat).take ((30 : Int).toNat - ((0 : Nat) : Int).toNat) else xs
def ks1 (ks : List (Dat 2)) : List (Dat 2) := if ((ks.length : Int) == 0) = true then [(0 : Int)] else ks
def ws1 (ks : List (Dat 2)) (ws : List (Dat 11)) : List (Dat 11) := if ((ks.length : Int) == 0) = true then ws ++ [constO] else ws
def rest1 (ks : List (Dat 2)) : List (Dat 2) := ((ks1 ks).drop (1 : Int).toNat).take (((ks1 ks).length : Int).toNat - (1 : Int).toNat)
def fin1 (f : Int) (ks : List (Dat 2)) (ws : List IOp) : List IOp × Int := (rest1 ks).foldl (aluF f) (ws1 ks ws, (ks1 ks).getD (0 : Int).toNat (dat0 2))
def ifB (c d : Bool) : Bool := if c = true then d else true
def cnd {α : Type} (c : Bool) (x : Option α) : Option α := if c = true then x else none
theorem cnd_of {α : Type} {c : Bool} {x : Option α} (h : c = true) : cnd c x = x := by unfold cnd; rw [if_pos h]
noncomputable def run3 (f : Int) (xs l ms : List IOp) (ks : List (Dat 2)) : Option AV :=
  cnd (ifB (decide ((30 : Int) < (xs.length : Int))) (decide ((0 : Int) ≤ ((0 : Nat) : Int)))) <|
  cnd (ifB (decide ((30 : Int) < (xs.length : Int))) (decide (((0 : Nat) : Int) ≤ 30))) <|
  cnd (ifB (decide ((30 : Int) < (xs.length : Int))) (decide ((30 : Int) ≤ (xs.length : Int)))) <|
  cnd (((l.length : Int) == (l.length : Int) && (0 : Int) == 0) && decide (l.length ≤ 30)) <|
  cnd (decide (ms.length + (ks.length + 1) ≤ 134217728)) <|
  cnd (ifB ((ks.length : Int) == 0) (decide (ms.length + [constO].length ≤ 134217728))) <|
  cnd (ifB ((ks.length : Int) == 0) (decide (ks.length = 0))) <|
  cnd (ifB ((ks.length : Int) == 0) (decide ([(0 : Int)].length ≤ 134217728))) <|
  cnd (decide ((0 : Int) < ((ks1 ks).length : Int))) <|
  cnd (decide ((1 : Int) ≤ ((ks1 ks).length : Int))) <|
  cnd (decide (((ks1 ks).length : Int) ≤ ((ks1 ks).length : Int))) <|
  cnd ((((rest1 ks).length : Int) == ((rest1 ks).length : Int) && (0 : Int) == 0) && decide ((ws1 ks ms).length + (rest1 ks).length ≤ 134217728)) <|
  cnd (ifB ((aluO f ms ks).2 == (fin1 f ks ms).2) (decide ((aluO f ms ks).1.length ≤ 134217728))) <|
  cnd (ifB ((aluO f ms ks).2 == (fin1 f ks ms).2) (eqL (aluO f ms ks).1 (fin1 f ks ms).1)) <|
  cnd (ifB ((aluO f ms ks).2 == (fin1 f ks ms).2) (decide ((0#64 = 0#64 ∧ 0#64 = 0#64 ∧ (0 : Int) = 0 ∧ (0 : Int) = 0 ∧ 0#64 = 0#64 ∧ 0#64 = 0#64)))) <|
  cnd (ifB ((aluO f ms ks).2 == (fin1 f ks ms).2) (decide ((aluO f ms ks).1.length ≤ 134217728))) <|
  some (.b (if (if (if (if ((aluO f ms ks).2 == (fin1 f ks ms).2) = true then true else false) = true then true else false) = true then true else false) = true then true else false))
theorem run3_eq (f : Int) (xs : List IOp) : (evFn T SK2 L3 1 Tryd.f3 [.vw 11 xs, .i .i64 f]).run = run3 f xs (l30 xs) ((l30 xs).map wk) (natsL (l30 xs).length 0) := by kernel_rfl
theorem l30_len (xs : List IOp) : (l30 xs).length ≤ 30 := by
  unfold l30
  split
  · simp; omega
  · rename_i h; simp at h; omega
theorem alu_fin (f : Int) (l : List IOp) (hl : l.length ≤ 30) : aluO f (l.map wk) (natsL l.length 0) = fin1 f (natsL l.length 0) (l.map wk) := by
  cases l with
  | nil => simp [natsL, aluO, fin1, rest1, ks1, ws1, constO, dat0]; rfl
  | cons x r =>
    have hk : ks1 (natsL (x :: r).length 0) = 0 :: natsL r.length 1 := by
      unfold ks1
      rw [if_neg (by rw [natsL_len]; simp; omega)]
      rfl
    have hw : ws1 (natsL (x :: r).length 0) ((x :: r).map wk) = (x :: r).map wk := by
      unfold ws1
      rw [if_neg (by rw [natsL_len]; simp; omega)]
    unfold fin1 rest1
    rw [hk, hw]
    have key : ∀ z : List (Dat 2), z = ((0 : Int) :: natsL r.length 1 : List Int) → (z.drop (1 : Int).toNat).take ((z.length : Int).toNat - (1 : Int).toNat) = natsL r.length 1 := by
      intro z hz; subst hz; simp
    rw [key _ rfl]
    rfl
theorem law3 (f : Int) (xs : List IOp) : (evFn T SK2 L3 1 Tryd.f3 [.vw 11 xs, .i .i64 f]).run = some (.b true) := by
  rw [run3_eq]
  have hl := l30_len xs
  generalize hL : l30 xs = l at hl
  have hm : (l.map wk).length = l.length := List.length_map ..
  have hk := natsL_len l.length 0
  have e := alu_fin f l hl
  have hfl : (fin1 f (natsL l.length 0) (l.map wk)).1.length ≤ 134217728 := by
    unfold fin1
    rw [aluF_len]
    show (ws1 (natsL l.length 0) (l.map wk)).length + (rest1 (natsL l.length 0)).length ≤ 134217728
    have h1 : (ws1 (natsL l.length 0) (l.map wk)).length ≤ 31 := by
      unfold ws1; split <;> simp <;> omega
    have h2 : (rest1 (natsL l.length 0)).length ≤ 31 := by
      unfold rest1 ks1
      rw [List.length_take, List.length_drop]
      split <;> simp <;> omega
    omega
  have hk1 : 1 ≤ (ks1 (natsL l.length 0)).length ∧ (ks1 (natsL l.length 0)).length ≤ 31 := by
    unfold ks1
    split
    · simp
    · rename_i h; rw [hk] at h ⊢
      have : l.length ≠ 0 := fun e => h (by rw [e]; rfl)
      omega
  unfold run3
  rw [cnd_of (by simp [ifB]), cnd_of (by simp [ifB]), cnd_of (by
    unfold ifB; split
    · rename_i h; simp at h ⊢; omega
    · rfl), cnd_of (by simp; omega), cnd_of (by rw [hm, hk]; simp; omega), cnd_of (by
    unfold ifB; rw [hm]; simp; omega), cnd_of (by
    unfold ifB; split
    · rename_i h; rw [hk] at h ⊢; simp at h ⊢; omega
    · rfl), cnd_of (by simp [ifB]), cnd_of (by simp; omega), cnd_of (by simp; omega), cnd_of (by simp), cnd_of (by
    have h1 : (ws1 (natsL l.length 0) (l.map wk)).length ≤ 31 := by
      unfold ws1; split <;> simp <;> omega
    have h2 : (rest1 (natsL l.length 0)).length ≤ 31 := by
      unfold rest1
      rw [List.length_take, List.length_drop]
      omega
    simp; omega), e, cnd_of (by unfold ifB; rw [decide_eq_true hfl]; simp), cnd_of (by unfold ifB; rw [eqL_iff.2 rfl]; simp), cnd_of (by simp [ifB]), cnd_of (by unfold ifB; rw [decide_eq_true hfl]; simp)]
  simp
end Go.Proofs.YtcdnbdphakhilaaDoor
set_option maxRecDepth 100000
namespace Go.Proofs.YtcdnbdphakhilaaDoor
open Go.Proofs.YtcdnbdphakhilaaDoor.Ev Go.RowKit
/- From a row's condition to what is known of the variables. -/
/-- A change's row, whose condition on the world and the world's shape are handed on. -/
theorem returns_laid {H : Type} {enc : TypeId × Value → H} {a : Assume} {C : Checked} {os : Os} {f : FuncId} {fn : Func} {s : ChangeSpec} {conds : List PathCond} {apart fresh handsOn again : Bool} {X : World → Array Value → Prop}
    (hX : ∀ (w w' : World) (args : Array Value), w.heap = w'.heap → X w args → X w' args)
    (own : ownKnob C.prog.godebug = none) (started : os.Started) (noInit : C.prog.inits.idxOf? f = none) (hfn : C.prog.funcs[f]? = some fn)
    (witness : ∃ (w : World) (tape : Tape) (i : Input), w.os = os ∧ (w.forCall tape i).Shaped C.prog ∧ i.vars = [] ∧ Input.okWide C.prog (w.forCall tape i) .any w.heap.size f i ∧
      ((s.pre enc C.prog fn conds apart (w.forCall tape i).memory i.args ∧ X (w.forCall tape i).memory i.args) ∧ sizedMet enc C.prog fn (OpenSpec.ofChange s) apart (w.forCall tape i).memory i.args) ∧ a.holds C.prog (lone (Frame.enter C.prog f i.args .normal) [] (w.forCall tape i)))
    (contract : ∀ (W : World) (base : Nat) (args : Array Value) (ds gs : List (DataW H)) (before : List MemPlace),
      (∀ (j : Nat) t v, fn.params[j]? = some t → args[j]? = some v → Value.okWide C.prog W .any base t v) →
      DataW.Whole enc C.prog fn.params.toList s.vars apart W args.toList ds gs before →
      X W args → W.ShapedOpen C.prog →
      Calls C.prog f args W fun e W' => ∃ v, e = .returned v ∧ s.post enc C.prog fn apart fresh handsOn again W args v W') :
    ReturnsInHanded a C os f .any (fun w args => (s.pre enc C.prog fn conds apart w args ∧ X w args) ∧ sizedMet enc C.prog fn (OpenSpec.ofChange s) apart w args) (s.post enc C.prog fn apart fresh handsOn again) := by
  refine returnsInHanded_of_calls own started noInit witness ?_
  intro w tape i _ hsh _ hok hpre hholds
  obtain ⟨_, _, _, fn', hfn', _, _, _, _, hval⟩ := hok
  have e : fn' = fn := Option.some.inj (hfn'.symm.trans hfn)
  subst e
  obtain ⟨⟨⟨ds, gs, before, hw, hc⟩, hx⟩, hz⟩ := hpre
  have hw' := DataW.Whole.of_heap (w' := w.forCall tape i) (by rfl) hw
  refine (contract (w.forCall tape i) w.heap.size i.args ds gs before hval hw' (hX _ _ _ (by rfl) hx) hsh).mono fun e W' ⟨v, he, hp⟩ => ?_
  subst he
  exact ChangeSpec.post_blind hp

theorem ownK : ownKnob Tryd.prog.godebug = none := by kernel_rfl
theorem laidOut : laidOutB Tryd.prog = true := by kernel_rfl
abbrev laid5 : List (String × DataW Unit) := [("math/bits.deBruijn32tab", Rows.laid_math_bits_deBruijn32tab), ("math/bits.deBruijn64tab", Rows.laid_math_bits_deBruijn64tab), ("internal/strconv.uint64pow10", Rows.laid_internal_strconv_uint64pow10), ("unicode/utf8.acceptRanges", Rows.laid_unicode_utf8_acceptRanges), ("unicode/utf8.first", Rows.laid_unicode_utf8_first)]
theorem laid_met (os : Os) (args : Array Value) : laidMetH Tryd.prog laid5 ((World.laidAll Tryd.prog os laid5).forCall (fun _ _ => 0) ⟨#[], args, []⟩).memory := by
  rw [MakeChecks.laidMetH_plain _ _ _ (by kernel_rfl)]
  exact laidMet_laidAll _ (by kernel_rfl) (by kernel_rfl)
theorem laid_shaped (os : Os) (args : Array Value) : ((World.laidAll Tryd.prog os laid5).forCall (fun _ _ => 0) ⟨#[], args, []⟩).Shaped Tryd.prog := World.shaped_of_ZipB (by kernel_rfl) (by kernel_rfl)
theorem gPow : Tryd.prog.globalNamed "internal/strconv.uint64pow10" = some 0 := by kernel_rfl
theorem vars_of_laid {W : World} (h : laidMetH Tryd.prog laid5 W) (hs : W.ShapedOpen Tryd.prog) : Vars W (fun b => b < W.heap.size) := by
  rw [MakeChecks.laidMetH_plain _ _ _ (by kernel_rfl)] at h
  obtain ⟨ps, ⟨g0, t0, cs0, f0, p0, q0, hg0, ht0, hv0, hd0, ⟨g1, t1, cs1, f1, p1, q1, hg1, ht1, hv1, hd1, ⟨g2, t2, cs2, f2, p2, q2, hg2, ht2, hv2, hd2, _, _⟩, _⟩, _⟩, _⟩ := h
  obtain rfl := Option.some.inj (gPow.symm.trans hg2)
  obtain ⟨m, hm⟩ := cell_of_shapedOpen_int (P := Tryd.prog) (g := 1) (t := 3) (zero := #[.int .i64 0]) hs (of_decide_eq_true (by kernel_rfl)) (by kernel_rfl) rfl (by kernel_rfl) (by kernel_rfl) Tryd.underlying3
  have hlt : 1 < W.heap.size := by
    unfold World.cell? at hm
    cases e : W.heap[1]? with
    | none => rw [e] at hm; cases hm
    | some o => exact (Array.getElem?_eq_some_iff.1 e).1
  refine ⟨⟨hlt, m, hm⟩, by show 0 < _; omega, ?_⟩
  have key : cs2 = (Lib.pow10Tab.map fun z => Value.int .u64 z).toArray := by
    obtain rfl := Option.some.inj ((show (Tryd.prog.globals[0]?).map (·.type) = some 125 by kernel_rfl).symm.trans ht2)
    have h2 : DataW.trod (fun _ => ()) Tryd.prog W 0 (fun _ => true) false f2 125 cs2.toList = some (Lib.tabData .u64 Lib.pow10Tab, p2) := hd2
    have := Lib.cells_of_tab (show Tryd.prog.underlying 125 = some (.array 20 24) by kernel_rfl) Tryd.underlying24 (by kernel_rfl) (by kernel_rfl) h2
    rw [← this]
  unfold World.var? at hv2
  rw [gPow] at hv2
  simp only [Option.bind_some] at hv2
  split at hv2
  · rename_i c a b e
    cases hv2
    exact ⟨a, b, by rw [e, key]⟩
  · cases hv2
theorem loops3 : FnLoops T SK2 L3 1 Tryd.f3 := FnLoops.of 2 (by kernel_rfl) (fun j hj => match j, hj with
  | 0, _ => loop3a' 1
  | 1, _ => loop3b 1)
end Go.Proofs.YtcdnbdphakhilaaDoor
