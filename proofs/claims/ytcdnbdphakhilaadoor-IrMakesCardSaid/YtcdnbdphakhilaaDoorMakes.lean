/- Lemmas: a maker's functions, each shown by the evaluator. No condition. -/
import Derived.Test.YtcdnbdphakhilaaDoorWake
set_option linter.unusedVariables false
set_option linter.unusedSimpArgs false
set_option maxRecDepth 100000
namespace Go.Proofs.YtcdnbdphakhilaaDoor
open Go.Proofs.YtcdnbdphakhilaaDoor.Ev Go.RowKit
/- The Maker's methods. -/
noncomputable abbrev SK0 : FuncId → CSpec := withS noS 3000009 (mSpec s9)
theorem SK0_ok : ∀ f, FnOk Tryd.prog f (SK0 f) := withS_ok noS_ok ok9
def r4 (a n : BitVec 64) (ek ea : Int) (et el : BitVec 64) (xs : List IOp) (u : BitVec 64) : CallRes := addR a n ek ea et el xs ⟨1, 0, 0, 0, 0, 0, u, false, 0⟩
def s4 : CSpec
  | [.nilp, .u 64 u] => some ⟨[], .fin (.i .i64 0) []⟩
  | [.ptr i off, .u 64 u, .obj (mkC a n (.gs g v) ek ea et el), .row 43 11 xs 0] => (match atM i off g v with
    | true => some (r4 a n ek ea et el xs u)
    | false => none)
  | _ => none
theorem ok4 : FnOk Tryd.prog (3000000 + 4) (mSpec s4) := okByM SK0_ok Tryd.func4 (by kernel_rfl) (by kernel_rfl) (L := noL) 1 (FnLoops.no (by simp [noSum, noL])) (by
  intro es fr l r hl hs h1 h2 hp
  unfold s4 at hs
  split at hs
  · rename_i u
    simp only [Option.some.injEq] at hs; subst hs
    obtain ⟨rfl, rfl⟩ := frag_split (a2 := [.nilp, .u 64 u]) (f2 := []) hl h1 h2 rfl rfl
    kernel_rfl
  · rename_i i off u a n g v ek ea et el xs
    split at hs
    · rename_i hat
      obtain ⟨rfl, rfl, rfl, rfl⟩ := atM_eq hat
      simp only [Option.some.injEq] at hs; subst hs
      obtain ⟨rfl, rfl⟩ := frag_split (a2 := [.ptr big 0, .u 64 u]) (f2 := [.obj _, .row 43 11 xs 0]) hl h1 h2 rfl rfl
      have hp0 := hp _ (List.mem_cons_self ..)
      have e : (evFnM T SK0 noL 1 Tryd.f4 [.ptr big 0, .u 64 u] [.obj (mkC a n (.gs (big + 1) 0) ek ea et el), .row 43 11 xs 0]).run =
        if decide (xs.length + 1 ≤ 134217728) = true then some ((r4 a n ek ea et el xs u).val, (r4 a n ek ea et el xs u).outs) else none := by kernel_rfl
      rw [e, if_pos hp0]
    · cases hs
  · cases hs)
def r5 (a n : BitVec 64) (ek ea : Int) (et el : BitVec 64) (xs : List IOp) (x : Int) : CallRes := addR a n ek ea et el xs ⟨2, 0, 0, 0, 0, 0, BitVec.ofInt 64 x, false, 0⟩
def s5 : CSpec
  | [.nilp, .i .i64 x] => some ⟨[], .fin (.i .i64 0) []⟩
  | [.ptr i off, .i .i64 x, .obj (mkC a n (.gs g v) ek ea et el), .row 43 11 xs 0] => (match atM i off g v with
    | true => some (r5 a n ek ea et el xs x)
    | false => none)
  | _ => none
theorem ok5 : FnOk Tryd.prog (3000000 + 5) (mSpec s5) := okByM SK0_ok Tryd.func5 (by kernel_rfl) (by kernel_rfl) (L := noL) 1 (FnLoops.no (by simp [noSum, noL])) (by
  intro es fr l r hl hs h1 h2 hp
  unfold s5 at hs
  split at hs
  · rename_i x
    simp only [Option.some.injEq] at hs; subst hs
    obtain ⟨rfl, rfl⟩ := frag_split (a2 := [.nilp, .i .i64 x]) (f2 := []) hl h1 h2 rfl rfl
    kernel_rfl
  · rename_i i off x a n g v ek ea et el xs
    split at hs
    · rename_i hat
      obtain ⟨rfl, rfl, rfl, rfl⟩ := atM_eq hat
      simp only [Option.some.injEq] at hs; subst hs
      obtain ⟨rfl, rfl⟩ := frag_split (a2 := [.ptr big 0, .i .i64 x]) (f2 := [.obj _, .row 43 11 xs 0]) hl h1 h2 rfl rfl
      have hp0 := hp _ (List.mem_cons_self ..)
      have e : (evFnM T SK0 noL 1 Tryd.f5 [.ptr big 0, .i .i64 x] [.obj (mkC a n (.gs (big + 1) 0) ek ea et el), .row 43 11 xs 0]).run =
        if decide (xs.length + 1 ≤ 134217728) = true then some ((r5 a n ek ea et el xs x).val, (r5 a n ek ea et el xs x).outs) else none := by kernel_rfl
      rw [e, if_pos hp0]
    · cases hs
  · cases hs)
def r6 (a n : BitVec 64) (ek ea : Int) (et el : BitVec 64) (xs : List IOp) (x y : Int) : CallRes := {addR a n ek ea et el xs ⟨3, 0, 0, y, 0, 0, BitVec.ofInt 64 x, false, 0⟩ with res := .fin (.tup []) (addR a n ek ea et el xs ⟨3, 0, 0, y, 0, 0, BitVec.ofInt 64 x, false, 0⟩).outs}
def s6 : CSpec
  | [.nilp, .i .i64 x, .i .i64 y] => some ⟨[], .fin (.tup []) []⟩
  | [.ptr i off, .i .i64 x, .i .i64 y, .obj (mkC a n (.gs g v) ek ea et el), .row 43 11 xs 0] => (match atM i off g v with
    | true => some (r6 a n ek ea et el xs x y)
    | false => none)
  | _ => none
theorem ok6 : FnOk Tryd.prog (3000000 + 6) (mSpec s6) := okByM SK0_ok Tryd.func6 (by kernel_rfl) (by kernel_rfl) (L := noL) 1 (FnLoops.no (by simp [noSum, noL])) (by
  intro es fr l r hl hs h1 h2 hp
  unfold s6 at hs
  split at hs
  · rename_i x y
    simp only [Option.some.injEq] at hs; subst hs
    obtain ⟨rfl, rfl⟩ := frag_split (a2 := [.nilp, .i .i64 x, .i .i64 y]) (f2 := []) hl h1 h2 rfl rfl
    kernel_rfl
  · rename_i i off x y a n g v ek ea et el xs
    split at hs
    · rename_i hat
      obtain ⟨rfl, rfl, rfl, rfl⟩ := atM_eq hat
      simp only [Option.some.injEq] at hs; subst hs
      obtain ⟨rfl, rfl⟩ := frag_split (a2 := [.ptr big 0, .i .i64 x, .i .i64 y]) (f2 := [.obj _, .row 43 11 xs 0]) hl h1 h2 rfl rfl
      have hp0 := hp _ (List.mem_cons_self ..)
      have e : (evFnM T SK0 noL 1 Tryd.f6 [.ptr big 0, .i .i64 x, .i .i64 y] [.obj (mkC a n (.gs (big + 1) 0) ek ea et el), .row 43 11 xs 0]).run =
        if decide (xs.length + 1 ≤ 134217728) = true then some ((r6 a n ek ea et el xs x y).val, (r6 a n ek ea et el xs x y).outs) else none := by kernel_rfl
      rw [e, if_pos hp0]
    · cases hs
  · cases hs)
def r7 (a n : BitVec 64) (ek ea : Int) (et el : BitVec 64) (xs : List IOp) (x y : Int) (s : Bool) : CallRes := addR a n ek ea et el xs ⟨5, 0, y, x, 0, 0, 0#64, s, 0⟩
def s7 : CSpec
  | [.nilp, .i .i64 x, .i .i64 y, .b s] => some ⟨[], .fin (.i .i64 0) []⟩
  | [.ptr i off, .i .i64 x, .i .i64 y, .b s, .obj (mkC a n (.gs g v) ek ea et el), .row 43 11 xs 0] => (match atM i off g v with
    | true => some (r7 a n ek ea et el xs x y s)
    | false => none)
  | _ => none
theorem ok7 : FnOk Tryd.prog (3000000 + 7) (mSpec s7) := okByM SK0_ok Tryd.func7 (by kernel_rfl) (by kernel_rfl) (L := noL) 1 (FnLoops.no (by simp [noSum, noL])) (by
  intro es fr l r hl hs h1 h2 hp
  unfold s7 at hs
  split at hs
  · rename_i x y s
    simp only [Option.some.injEq] at hs; subst hs
    obtain ⟨rfl, rfl⟩ := frag_split (a2 := [.nilp, .i .i64 x, .i .i64 y, .b s]) (f2 := []) hl h1 h2 rfl rfl
    kernel_rfl
  · rename_i i off x y s a n g v ek ea et el xs
    split at hs
    · rename_i hat
      obtain ⟨rfl, rfl, rfl, rfl⟩ := atM_eq hat
      simp only [Option.some.injEq] at hs; subst hs
      obtain ⟨rfl, rfl⟩ := frag_split (a2 := [.ptr big 0, .i .i64 x, .i .i64 y, .b s]) (f2 := [.obj _, .row 43 11 xs 0]) hl h1 h2 rfl rfl
      have hp0 := hp _ (List.mem_cons_self ..)
      have e : (evFnM T SK0 noL 1 Tryd.f7 [.ptr big 0, .i .i64 x, .i .i64 y, .b s] [.obj (mkC a n (.gs (big + 1) 0) ek ea et el), .row 43 11 xs 0]).run =
        if decide (xs.length + 1 ≤ 134217728) = true then some ((r7 a n ek ea et el xs x y s).val, (r7 a n ek ea et el xs x y s).outs) else none := by kernel_rfl
      rw [e, if_pos hp0]
    · cases hs
  · cases hs)
def r8 (a n : BitVec 64) (ek ea : Int) (et el : BitVec 64) (xs : List IOp) (x y z : Int) : CallRes := addR a n ek ea et el xs ⟨6, 0, 0, x, y, z, 0#64, false, 0⟩
def s8 : CSpec
  | [.nilp, .i .i64 x, .i .i64 y, .i .i64 z] => some ⟨[], .fin (.i .i64 0) []⟩
  | [.ptr i off, .i .i64 x, .i .i64 y, .i .i64 z, .obj (mkC a n (.gs g v) ek ea et el), .row 43 11 xs 0] => (match atM i off g v with
    | true => some (r8 a n ek ea et el xs x y z)
    | false => none)
  | _ => none
theorem ok8 : FnOk Tryd.prog (3000000 + 8) (mSpec s8) := okByM SK0_ok Tryd.func8 (by kernel_rfl) (by kernel_rfl) (L := noL) 1 (FnLoops.no (by simp [noSum, noL])) (by
  intro es fr l r hl hs h1 h2 hp
  unfold s8 at hs
  split at hs
  · rename_i x y z
    simp only [Option.some.injEq] at hs; subst hs
    obtain ⟨rfl, rfl⟩ := frag_split (a2 := [.nilp, .i .i64 x, .i .i64 y, .i .i64 z]) (f2 := []) hl h1 h2 rfl rfl
    kernel_rfl
  · rename_i i off x y z a n g v ek ea et el xs
    split at hs
    · rename_i hat
      obtain ⟨rfl, rfl, rfl, rfl⟩ := atM_eq hat
      simp only [Option.some.injEq] at hs; subst hs
      obtain ⟨rfl, rfl⟩ := frag_split (a2 := [.ptr big 0, .i .i64 x, .i .i64 y, .i .i64 z]) (f2 := [.obj _, .row 43 11 xs 0]) hl h1 h2 rfl rfl
      have hp0 := hp _ (List.mem_cons_self ..)
      have e : (evFnM T SK0 noL 1 Tryd.f8 [.ptr big 0, .i .i64 x, .i .i64 y, .i .i64 z] [.obj (mkC a n (.gs (big + 1) 0) ek ea et el), .row 43 11 xs 0]).run =
        if decide (xs.length + 1 ≤ 134217728) = true then some ((r8 a n ek ea et el xs x y z).val, (r8 a n ek ea et el xs x y z).outs) else none := by kernel_rfl
      rw [e, if_pos hp0]
    · cases hs
  · cases hs)
def s10 : CSpec | [.agg (opC k f w a b c n s o)] => some ⟨[], .agg (opC k f w a b c n s o)⟩ | _ => none
theorem ok10 : FnOk Tryd.prog 10 s10 := okBy noS_ok Tryd.func10 (by kernel_rfl) (by kernel_rfl) 1 <| by
  intro xs r hs
  unfold s10 at hs; split at hs <;> cases hs
  rename_i k f w a b c n s o
  intro hp _
  show (evFn T noS noL 1 Tryd.f10 [.agg (opC k f w a b c n s o)]).run = some (.agg (opC k f w a b c n s o))
  kernel_rfl
end Go.Proofs.YtcdnbdphakhilaaDoor
set_option maxRecDepth 100000
namespace Go.Proofs.YtcdnbdphakhilaaDoor
open Go.Proofs.YtcdnbdphakhilaaDoor.Ev Go.RowKit
/- Alu: several steps, one behind the other. -/
noncomputable abbrev SK1 : FuncId → CSpec := withS SK0 3000004 (mSpec s4)
theorem SK1_ok : ∀ f, FnOk Tryd.prog f (SK1 f) := withS_ok SK0_ok ok4
theorem LoopOk.sub {S : FuncId → CSpec} {L : Nat → Live} {nt N : Nat} {a : Code} {q : St → Tr (Ex × St)} (hs : (L (firstR a)).sum = some q)
    (h : ∀ τ e st, τ.cut = 0 → (q τ).run = some (e, st) → ∃ n st', (iter (atHead (evCode T S L nt N a) (L (firstR a))) n τ).run = some (e, st') ∧ (∀ t v, Ev.look st.env t = some v → Ev.look st'.env t = some v) ∧ st'.mem = st.mem ∧ st'.ids = st.ids) : LoopOk T S L nt N a := by
  intro q' hq'
  rw [hs] at hq'
  cases hq'
  exact h
theorem wrap_succ (j : Nat) (hj : j ≤ 134217728) : IntKind.i64.wrap ((j : Int) + 1) = ((j + 1 : Nat) : Int) := by rw [wrap_small _ (by omega) (by omega)]; rfl
theorem getD_at {t : Nat} {xs : List (Dat t)} {j : Nat} (h : j < xs.length) : xs.getD j (dat0 t) = xs[j] := by rw [List.getD_eq_getElem?_getD, List.getElem?_eq_getElem h]; rfl
theorem foldl_take {α β : Type} (f : β → α → β) (b : β) (l : List α) (j : Nat) (hj : j < l.length) : (l.take (j + 1)).foldl f b = f ((l.take j).foldl f b) l[j] := by
  rw [List.take_succ_eq_append_getElem hj, List.foldl_append]; rfl
def aluS (f a b : Int) : IOp := ⟨4, f, 0, a, b, 0, 0#64, false, 0⟩
/-- One step more, on what has been so far. -/
def aluF (f : Int) (p : List IOp × Int) (k : Int) : List IOp × Int := (p.1 ++ [aluS f p.2 k], IntKind.i64.wrap (((p.1 ++ [aluS f p.2 k]).length : Int) - 1))
theorem aluF_len (f : Int) : ∀ (ks : List Int) (p : List IOp × Int), (ks.foldl (aluF f) p).1.length = p.1.length + ks.length
  | [], p => rfl
  | k :: ks, p => by
    rw [List.foldl_cons, aluF_len f ks]; simp [aluF]; omega
def constO : IOp := ⟨1, 0, 0, 0, 0, 0, 0#64, false, 0⟩
def aluO (f : Int) (xs : List IOp) : List Int → List IOp × Int
  | [] => (xs ++ [constO], IntKind.i64.wrap (((xs ++ [constO]).length : Int) - 1))
  | k :: ks => ks.foldl (aluF f) (xs, k)
def keys11 : List Key := [(big,0),(big,1),(big,2),(big,3),(big,4),(big,5),(big,6),(big+1,0)]
def st11 (a n : BitVec 64) (ek ea : Int) (et el : BitVec 64) (f : Int) (ks : List (Dat 2)) (xs : List IOp) (last j : Int) : St :=
  ⟨[(0, .ptr big 0), (1, .i .i64 f), (7, .i .i64 last), (19, .vw 2 ks), (20, .i .i64 (ks.length : Int)), (21, .i .i64 j)],
   [((big,0), .u 64 a), ((big,1), .u 64 n), ((big,2), .gs (big+1) 0), ((big,3), .i .i64 ek), ((big,4), .i .i64 ea), ((big,5), .u 64 et), ((big,6), .u 64 el), ((big+1,0), .row 43 11 xs 0)], [(big, 7), (big+1, 0)], 0⟩
def q11 : St → Tr (Ex × St)
  | ⟨[(0, .ptr i0 o0), (1, .i .i64 f), (7, .i .i64 last), (19, .vw 2 ks), (20, .i .i64 n), (21, .i .i64 j)],
     [(k0, .u 64 a), (k1, .u 64 nx), (k2, .gs g v), (k3, .i .i64 ek), (k4, .i .i64 ea), (k5, .u 64 et), (k6, .u 64 el), (k7, .row 43 11 xs w)], ids, _⟩ =>
    .need ((i0 == big && o0 == 0) && ((g == big + 1 && v == 0) && (w == 0 && ([k0, k1, k2, k3, k4, k5, k6, k7] == keys11 && ids == [(big, 7), (big+1, 0)]))))
      (.need ((n == (ks.length : Int) && j == 0) && decide (xs.length + ks.length ≤ 134217728))
        (.leaf (.exit 0, st11 a nx ek ea et el f ks (ks.foldl (aluF f) (xs, last)).1 (ks.foldl (aluF f) (xs, last)).2 (ks.length : Int))))
  | _ => .fail
def L11 : Nat → Live := fun _ => ⟨[0,1,7,19,20,21], keys11, [big, big+1], some q11⟩
theorem step11 (a n : BitVec 64) (ek ea : Int) (et el : BitVec 64) (f : Int) (ks : List (Dat 2)) (xs : List IOp) (last j : Int) :
  (atHead (evCode T SK1 L11 33 1 (loopOf Tryd.f11 0)) (L11 (firstR (loopOf Tryd.f11 0))) (st11 a n ek ea et el f ks xs last j)).run =
    if decide (j < (ks.length : Int)) = true then if decide (0 ≤ j) = true then if decide (j < (ks.length : Int)) = true then if decide (xs.length + 1 ≤ 134217728) = true then
      some (.normal, st11 a n ek ea et el f ks (aluF f (xs, last) (ks.getD j.toNat (dat0 2))).1 (aluF f (xs, last) (ks.getD j.toNat (dat0 2))).2 (IntKind.i64.wrap (j + 1)))
      else none else none else none else some (.exit 0, st11 a n ek ea et el f ks xs last j) := by kernel_rfl
theorem loop11 (N : Nat) : LoopOk T SK1 L11 33 N (loopOf Tryd.f11 0) := LoopOk.sub rfl <| by
  intro τ e st hcut hr
  unfold q11 at hr
  split at hr
  case h_2 => exact (Tr.of_fail hr).elim
  rename_i i0 o0 f last ks n j k0 a k1 nx k2 g v k3 ek k4 ea k5 et k6 el k7 xs w ids c
  obtain rfl : c = 0 := hcut
  obtain ⟨hc, hr1⟩ := Tr.of_need hr
  obtain ⟨hd, hr2⟩ := Tr.of_need hr1
  clear hr hr1
  simp only [Bool.and_eq_true, beq_iff_eq] at hc
  obtain ⟨⟨rfl, rfl⟩, ⟨rfl, rfl⟩, rfl, hk, rfl⟩ := hc
  simp only [keys11, List.cons.injEq, and_true] at hk
  obtain ⟨rfl, rfl, rfl, rfl, rfl, rfl, rfl, rfl⟩ := hk
  simp only [Bool.and_eq_true, beq_iff_eq, decide_eq_true_eq] at hd
  obtain ⟨⟨rfl, rfl⟩, hlen⟩ := hd
  have hlen : xs.length + ks.length ≤ 134217728 := hlen
  simp only [Tr.run, Option.some.injEq, Prod.mk.injEq] at hr2
  obtain ⟨rfl, rfl⟩ := hr2
  have sameN : ∀ τ, atHead (evCode T SK1 L11 33 N (loopOf Tryd.f11 0)) (L11 (firstR (loopOf Tryd.f11 0))) τ = atHead (evCode T SK1 L11 33 1 (loopOf Tryd.f11 0)) (L11 (firstR (loopOf Tryd.f11 0))) τ := fun τ => rfl
  obtain ⟨N', hn⟩ := iter_from (g := atHead (evCode T SK1 L11 33 N (loopOf Tryd.f11 0)) (L11 (firstR (loopOf Tryd.f11 0))))
    (fun j => st11 a nx ek ea et el f ks ((ks.take j).foldl (aluF f) (xs, last)).1 ((ks.take j).foldl (aluF f) (xs, last)).2 (j : Int)) 0 ks.length (Nat.zero_le _)
    (fun j _ hj => by
      have hl : ((ks.take j).foldl (aluF f) (xs, last)).1.length = xs.length + j := by
        rw [aluF_len]; simp; omega
      rw [sameN, step11, if_pos (by simpa using hj), if_pos (by simp), if_pos (by simpa using hj), if_pos (by simp; omega), Int.toNat_natCast, getD_at hj, wrap_succ j (by omega), foldl_take _ _ _ _ hj])
    (by rw [sameN, step11, if_neg (by simp), List.take_length]) (by simp)
  exact ⟨N', _, hn, fun _ _ h => h, rfl, rfl⟩
def s11m : CSpec
  | [.ptr i off, .i .i64 f, .vw 2 ks, .obj (mkC a n (.gs g v) ek ea et el), .row 43 11 xs 0] => (match atM i off g v with
    | true => some ⟨[decide (xs.length + (ks.length + 1) ≤ 134217728)], .fin (.i .i64 (aluO f xs ks).2) [mkC a n (.gs (big + 1) 0) ek ea et el, [.row 43 11 (aluO f xs ks).1 0]]⟩
    | false => none)
  | _ => none
theorem ok11m : FnOk Tryd.prog (3000000 + 11) (mSpec s11m) := okByM SK1_ok Tryd.func11 (by kernel_rfl) (by kernel_rfl) (L := L11) 1 (FnLoops.one (by kernel_rfl) (loop11 1)) (by
  intro es fr l r hl hs h1 h2 hp
  unfold s11m at hs
  split at hs
  · rename_i i off f ks a n g v ek ea et el xs
    split at hs
    · rename_i hat
      obtain ⟨rfl, rfl, rfl, rfl⟩ := atM_eq hat
      simp only [Option.some.injEq] at hs; subst hs
      obtain ⟨rfl, rfl⟩ := frag_split (a2 := [.ptr big 0, .i .i64 f, .vw 2 ks]) (f2 := [.obj _, .row 43 11 xs 0]) hl h1 h2 rfl rfl
      have hp0 : xs.length + (ks.length + 1) ≤ 134217728 := of_decide_eq_true (hp _ (List.mem_cons_self ..))
      cases ks with
      | nil =>
        have e : (evFnM T SK1 L11 1 Tryd.f11 [.ptr big 0, .i .i64 f, .vw 2 []] [.obj (mkC a n (.gs (big + 1) 0) ek ea et el), .row 43 11 xs 0]).run =
          if decide (xs.length + 1 ≤ 134217728) = true then some (.i .i64 (IntKind.i64.wrap (((xs ++ [constO]).length : Int) - 1)), [mkC a n (.gs (big + 1) 0) ek ea et el, [.row 43 11 (xs ++ [constO]) 0]]) else none := by kernel_rfl
        rw [e, if_pos (by simpa using hp0)]
        rfl
      | cons k ks =>
        have e : (evFnM T SK1 L11 1 Tryd.f11 [.ptr big 0, .i .i64 f, .vw 2 (k :: ks)] [.obj (mkC a n (.gs (big + 1) 0) ek ea et el), .row 43 11 xs 0]).run =
          if decide ((0 : Int) < ((k :: ks).length : Int)) = true then if decide ((1 : Int) ≤ ((k :: ks).length : Int)) = true then if decide (((k :: ks).length : Int) ≤ ((k :: ks).length : Int)) = true then
          if ((((((k :: ks).drop 1).take (((k :: ks).length : Int).toNat - (1 : Int).toNat)).length : Int) == (((((k :: ks).drop 1).take (((k :: ks).length : Int).toNat - (1 : Int).toNat)).length : Int)) && (0 : Int) == 0) && decide (xs.length + (((k :: ks).drop 1).take (((k :: ks).length : Int).toNat - (1 : Int).toNat)).length ≤ 134217728)) = true then
            some (.i .i64 ((((k :: ks).drop 1).take (((k :: ks).length : Int).toNat - (1 : Int).toNat)).foldl (aluF f) (xs, k)).2, [mkC a n (.gs (big + 1) 0) ek ea et el, [.row 43 11 ((((k :: ks).drop 1).take (((k :: ks).length : Int).toNat - (1 : Int).toNat)).foldl (aluF f) (xs, k)).1 0]])
          else none else none else none else none := by kernel_rfl
        have hx : ((k :: ks).drop 1).take (((k :: ks).length : Int).toNat - (1 : Int).toNat) = ks := by
          rw [Int.toNat_natCast, List.length_cons]; simp
        rw [e, hx, if_pos (by rw [decide_eq_true_eq, List.length_cons]; omega), if_pos (by rw [decide_eq_true_eq, List.length_cons]; omega), if_pos (by simp), if_pos (by simp at hp0 ⊢; omega)]
        rfl
    · cases hs
  · cases hs)
end Go.Proofs.YtcdnbdphakhilaaDoor
set_option maxRecDepth 100000
namespace Go.Proofs.YtcdnbdphakhilaaDoor
open Go.Proofs.YtcdnbdphakhilaaDoor.Ev Go.RowKit
/- Plain and Same. -/
abbrev r3 : Nat := 3145731
abbrev r2 : Nat := 3145730
def keys13 : List Key := [(2,0),(2,1),(2,2),(2,3),(2,4),(2,5),(2,6),(3,0),(3,1),(3,2),(3,3),(3,4),(3,5),(3,6),(r3,0),(r2,0)]
def st13 (a n : BitVec 64) (ek ea : Int) (et el : BitVec 64) (xs ys : List IOp) (j : Int) : St :=
  ⟨[(2, .ptr 2 0), (3, .ptr 3 0), (24, .vw 11 xs), (25, .i .i64 (xs.length : Int)), (26, .i .i64 j)],
   [((2,0), .u 64 0#64), ((2,1), .u 64 0#64), ((2,2), .gs r2 0), ((2,3), .i .i64 0), ((2,4), .i .i64 0), ((2,5), .u 64 0#64), ((2,6), .u 64 0#64),
    ((3,0), .u 64 a), ((3,1), .u 64 n), ((3,2), .gs r3 0), ((3,3), .i .i64 ek), ((3,4), .i .i64 ea), ((3,5), .u 64 et), ((3,6), .u 64 el), ((r3,0), .row 36 11 ys 0), ((r2,0), .row 36 11 [] 0)], [(3,7),(r3,0),(2,7),(r2,0)], 0⟩
def q13 : St → Tr (Ex × St)
  | ⟨[(2, .ptr p2 o2), (3, .ptr p3 o3), (24, .vw 11 xs), (25, .i .i64 n), (26, .i .i64 j)],
     [(k0, .u 64 z0), (k1, .u 64 z1), (k2, .gs g v), (k3, .i .i64 z3), (k4, .i .i64 z4), (k5, .u 64 z5), (k6, .u 64 z6),
      (h0, .u 64 a), (h1, .u 64 nx), (h2, .gs g' v'), (h3, .i .i64 ek), (h4, .i .i64 ea), (h5, .u 64 et), (h6, .u 64 el), (h7, .row 36 11 ys w), (h8, .row 36 11 zs w')], ids, _⟩ =>
    .need ((p2 == 2 && o2 == 0) && ((p3 == 3 && o3 == 0) && ((g == r2 && v == 0) && ((g' == r3 && v' == 0) && ((w == 0 && w' == 0) && ([k0, k1, k2, k3, k4, k5, k6, h0, h1, h2, h3, h4, h5, h6, h7, h8] == keys13 && ids == [(3,7),(r3,0),(2,7),(r2,0)]))))))
      (.need ((z0 == 0#64 && z1 == 0#64) && ((z3 == 0 && z4 == 0) && ((z5 == 0#64 && z6 == 0#64) && (ys.isEmpty && zs.isEmpty))))
      (.need ((n == (xs.length : Int) && j == 0) && decide (xs.length ≤ 134217728))
        (.leaf (.exit 0, st13 a nx ek ea et el xs xs (xs.length : Int)))))
  | _ => .fail
def L13 : Nat → Live := fun _ => ⟨[2,3,24,25,26], keys13, [2,3,r3,r2], some q13⟩
theorem step13 (a n : BitVec 64) (ek ea : Int) (et el : BitVec 64) (xs ys : List IOp) (j : Int) :
  (atHead (evCode T noS L13 56 1 (loopOf Tryd.f13 0)) (L13 (firstR (loopOf Tryd.f13 0))) (st13 a n ek ea et el xs ys j)).run =
    if decide (j < (xs.length : Int)) = true then if decide (0 ≤ j) = true then if decide (j < (xs.length : Int)) = true then if decide (ys.length + [xs.getD j.toNat (dat0 11)].length ≤ 134217728) = true then
      some (.normal, st13 a n ek ea et el xs (ys ++ [xs.getD j.toNat (dat0 11)]) (IntKind.i64.wrap (j + 1)))
      else none else none else none else some (.exit 0, st13 a n ek ea et el xs ys j) := by kernel_rfl
theorem loop13 (N : Nat) : LoopOk T noS L13 56 N (loopOf Tryd.f13 0) := LoopOk.sub rfl <| by
  intro τ e st hcut hr
  unfold q13 at hr
  split at hr
  case h_2 => exact (Tr.of_fail hr).elim
  rename_i p2 o2 p3 o3 xs n j k0 z0 k1 z1 k2 g v k3 z3 k4 z4 k5 z5 k6 z6 h0 a h1 nx h2 g' v' h3 ek h4 ea h5 et h6 el h7 ys w h8 zs w' ids c
  obtain rfl : c = 0 := hcut
  obtain ⟨hc, hr1⟩ := Tr.of_need hr
  obtain ⟨hz, hr2⟩ := Tr.of_need hr1
  obtain ⟨hd, hr3⟩ := Tr.of_need hr2
  clear hr hr1 hr2
  simp only [Bool.and_eq_true, beq_iff_eq] at hc
  obtain ⟨⟨rfl, rfl⟩, ⟨rfl, rfl⟩, ⟨rfl, rfl⟩, ⟨rfl, rfl⟩, ⟨rfl, rfl⟩, hk, rfl⟩ := hc
  simp only [keys13, List.cons.injEq, and_true] at hk
  obtain ⟨rfl, rfl, rfl, rfl, rfl, rfl, rfl, rfl, rfl, rfl, rfl, rfl, rfl, rfl, rfl, rfl⟩ := hk
  simp only [Bool.and_eq_true, beq_iff_eq, List.isEmpty_iff] at hz
  obtain ⟨⟨rfl, rfl⟩, ⟨rfl, rfl⟩, ⟨rfl, rfl⟩, rfl, rfl⟩ := hz
  simp only [Bool.and_eq_true, beq_iff_eq, decide_eq_true_eq] at hd
  obtain ⟨⟨rfl, rfl⟩, hlen⟩ := hd
  have hlen : xs.length ≤ 134217728 := hlen
  simp only [Tr.run, Option.some.injEq, Prod.mk.injEq] at hr3
  obtain ⟨rfl, rfl⟩ := hr3
  have sameN : ∀ τ, atHead (evCode T noS L13 56 N (loopOf Tryd.f13 0)) (L13 (firstR (loopOf Tryd.f13 0))) τ = atHead (evCode T noS L13 56 1 (loopOf Tryd.f13 0)) (L13 (firstR (loopOf Tryd.f13 0))) τ := fun τ => rfl
  obtain ⟨N', hn⟩ := iter_from (g := atHead (evCode T noS L13 56 N (loopOf Tryd.f13 0)) (L13 (firstR (loopOf Tryd.f13 0))))
    (fun j => st13 a nx ek ea et el xs (xs.take j) (j : Int)) 0 xs.length (Nat.zero_le _)
    (fun j _ hj => by
      rw [sameN, step13, if_pos (by simpa using hj), if_pos (by simp), if_pos (by simpa using hj), if_pos (by simp; omega), Int.toNat_natCast, getD_at hj, wrap_succ j (by omega), List.take_succ_eq_append_getElem hj])
    (by rw [sameN, step13, if_neg (by simp), List.take_length]) (by simp)
  exact ⟨N', _, hn, fun _ _ h => h, rfl, rfl⟩
def s13m : CSpec
  | [.agg (mkC a n (.vw 11 xs) ek ea et el)] => some ⟨[decide (xs.length ≤ 134217728)], .fin (.agg (mkC a n (.vw 11 xs) ek ea et el)) []⟩
  | _ => none
theorem ok13m : FnOk Tryd.prog (3000000 + 13) (mSpec s13m) := okByM noS_ok Tryd.func13 (by kernel_rfl) (by kernel_rfl) (L := L13) 1 (FnLoops.one (by kernel_rfl) (loop13 1)) (by
  intro es fr l r hl hs h1 h2 hp
  unfold s13m at hs
  split at hs
  · rename_i a n xs ek ea et el
    simp only [Option.some.injEq] at hs; subst hs
    obtain ⟨rfl, rfl⟩ := frag_split (a2 := [.agg (mkC a n (.vw 11 xs) ek ea et el)]) (f2 := []) hl h1 h2 rfl rfl
    have hp0 := hp _ (List.mem_cons_self ..)
    have e : (evFnM T noS L13 1 Tryd.f13 [.agg (mkC a n (.vw 11 xs) ek ea et el)] []).run = if (((xs.length : Int) == (xs.length : Int) && (0 : Int) == 0) && decide (xs.length ≤ 134217728)) = true then some (.agg (mkC a n (.vw 11 xs) ek ea et el), []) else none := by kernel_rfl
    rw [e, if_pos (by simpa using hp0)]
    rfl
  · cases hs)
def keys12 : List Key := [(2,0),(2,1),(2,2),(2,3),(2,4),(2,5),(2,6),(3,0),(3,1),(3,2),(3,3),(3,4),(3,5),(3,6)]
def st12 (a n : BitVec 64) (ek ea : Int) (et el : BitVec 64) (xs : List IOp) (a' n' : BitVec 64) (ek' ea' : Int) (et' el' : BitVec 64) (xs' : List IOp) (j : Int) : St :=
  ⟨[(2, .ptr 2 0), (3, .ptr 3 0), (57, .i .i64 (xs.length : Int)), (58, .i .i64 j)],
   [((2,0), .u 64 a), ((2,1), .u 64 n), ((2,2), .vw 11 xs), ((2,3), .i .i64 ek), ((2,4), .i .i64 ea), ((2,5), .u 64 et), ((2,6), .u 64 el),
    ((3,0), .u 64 a'), ((3,1), .u 64 n'), ((3,2), .vw 11 xs'), ((3,3), .i .i64 ek'), ((3,4), .i .i64 ea'), ((3,5), .u 64 et'), ((3,6), .u 64 el')], [(3,7),(2,7)], 0⟩
open Classical in
noncomputable def eqL (xs xs' : List IOp) : Bool := decide (xs = xs')
theorem eqL_iff {xs xs' : List IOp} : eqL xs xs' = true ↔ xs = xs' := by unfold eqL; simp
noncomputable def q12 : St → Tr (Ex × St)
  | ⟨[(2, .ptr p2 o2), (3, .ptr p3 o3), (57, .i .i64 n), (58, .i .i64 j)],
     [(k0, .u 64 a), (k1, .u 64 nx), (k2, .vw 11 xs), (k3, .i .i64 ek), (k4, .i .i64 ea), (k5, .u 64 et), (k6, .u 64 el),
      (h0, .u 64 a'), (h1, .u 64 nx'), (h2, .vw 11 xs'), (h3, .i .i64 ek'), (h4, .i .i64 ea'), (h5, .u 64 et'), (h6, .u 64 el')], ids, _⟩ =>
    .need ((p2 == 2 && o2 == 0) && ((p3 == 3 && o3 == 0) && ([k0, k1, k2, k3, k4, k5, k6, h0, h1, h2, h3, h4, h5, h6] == keys12 && ids == [(3,7),(2,7)])))
      (.need ((n == (xs.length : Int) && j == 0) && (decide (xs.length ≤ 134217728) && eqL xs xs'))
        (.leaf (.exit 0, st12 a nx ek ea et el xs a' nx' ek' ea' et' el' xs' (xs.length : Int))))
  | _ => .fail
noncomputable def L12 : Nat → Live := fun _ => ⟨[2,3,57,58], keys12, [2,3], some q12⟩
def sameO (x y : IOp) : Bool := x.Kind == y.Kind && (x.F == y.F && (x.W == y.W && (x.A == y.A && (x.B == y.B && (x.C == y.C && (x.N == y.N && (x.Signed == y.Signed && (x.Ord == y.Ord && true))))))))
theorem sameO_self (x : IOp) : sameO x x = true := by simp [sameO]
theorem step12 (a n : BitVec 64) (ek ea : Int) (et el : BitVec 64) (xs : List IOp) (a' n' : BitVec 64) (ek' ea' : Int) (et' el' : BitVec 64) (xs' : List IOp) (j : Int) :
  (atHead (evCode T noS L12 73 1 (loopOf Tryd.f12 0)) (L12 (firstR (loopOf Tryd.f12 0))) (st12 a n ek ea et el xs a' n' ek' ea' et' el' xs' j)).run =
    if decide (j < (xs.length : Int)) = true then if decide (0 ≤ j) = true then if decide (j < (xs'.length : Int)) = true then if decide (0 ≤ j) = true then if decide (j < (xs.length : Int)) = true then
      if (!sameO (xs.getD j.toNat (dat0 11)) (xs'.getD j.toNat (dat0 11))) = true then some (.ret, st12 a n ek ea et el xs a' n' ek' ea' et' el' xs' j)
      else some (.normal, st12 a n ek ea et el xs a' n' ek' ea' et' el' xs' (IntKind.i64.wrap (j + 1)))
      else none else none else none else none else some (.exit 0, st12 a n ek ea et el xs a' n' ek' ea' et' el' xs' j) := by kernel_rfl
theorem loop12 (N : Nat) : LoopOk T noS L12 73 N (loopOf Tryd.f12 0) := LoopOk.sub rfl <| by
  intro τ e st hcut hr
  unfold q12 at hr
  split at hr
  case h_2 => exact (Tr.of_fail hr).elim
  rename_i p2 o2 p3 o3 n j k0 a k1 nx k2 xs k3 ek k4 ea k5 et k6 el h0 a' h1 nx' h2 xs' h3 ek' h4 ea' h5 et' h6 el' ids c
  obtain rfl : c = 0 := hcut
  obtain ⟨hc, hr1⟩ := Tr.of_need hr
  obtain ⟨hd, hr2⟩ := Tr.of_need hr1
  clear hr hr1
  simp only [Bool.and_eq_true, beq_iff_eq] at hc
  obtain ⟨⟨rfl, rfl⟩, ⟨rfl, rfl⟩, hk, rfl⟩ := hc
  simp only [keys12, List.cons.injEq, and_true] at hk
  obtain ⟨rfl, rfl, rfl, rfl, rfl, rfl, rfl, rfl, rfl, rfl, rfl, rfl, rfl, rfl⟩ := hk
  rw [Bool.and_eq_true, Bool.and_eq_true, Bool.and_eq_true, eqL_iff] at hd
  obtain ⟨⟨h1, h2⟩, hlen, he⟩ := hd
  obtain rfl := eq_of_beq h1
  obtain rfl := eq_of_beq h2
  have he : xs = xs' := he
  subst he
  have hlen : xs.length ≤ 134217728 := of_decide_eq_true hlen
  simp only [Tr.run, Option.some.injEq, Prod.mk.injEq] at hr2
  obtain ⟨rfl, rfl⟩ := hr2
  have sameN : ∀ τ, atHead (evCode T noS L12 73 N (loopOf Tryd.f12 0)) (L12 (firstR (loopOf Tryd.f12 0))) τ = atHead (evCode T noS L12 73 1 (loopOf Tryd.f12 0)) (L12 (firstR (loopOf Tryd.f12 0))) τ := fun τ => rfl
  obtain ⟨N', hn⟩ := iter_from (g := atHead (evCode T noS L12 73 N (loopOf Tryd.f12 0)) (L12 (firstR (loopOf Tryd.f12 0))))
    (fun j => st12 a nx ek ea et el xs a' nx' ek' ea' et' el' xs (j : Int)) 0 xs.length (Nat.zero_le _)
    (fun j _ hj => by
      rw [sameN, step12, if_pos (by simpa using hj), if_pos (by simp), if_pos (by simpa using hj), if_pos (by simp), if_pos (by simpa using hj), if_neg (by rw [sameO_self]; simp), wrap_succ j (by omega)])
    (by rw [sameN, step12, if_neg (by simp)]) (by simp)
  exact ⟨N', _, hn, fun _ _ h => h, rfl, rfl⟩
noncomputable def s12m : CSpec
  | [.agg (mkC a n (.vw 11 xs) ek ea et el), .agg (mkC a' n' (.vw 11 xs') ek' ea' et' el')] =>
    some ⟨[decide (xs.length ≤ 134217728), eqL xs xs', decide (a = a' ∧ n = n' ∧ ek = ek' ∧ ea = ea' ∧ et = et' ∧ el = el')], .fin (.b true) []⟩
  | _ => none
theorem ok12m : FnOk Tryd.prog (3000000 + 12) (mSpec s12m) := okByM noS_ok Tryd.func12 (by kernel_rfl) (by kernel_rfl) (L := L12) 1 (FnLoops.one (by kernel_rfl) (loop12 1)) (by
  intro es fr l r hl hs h1 h2 hp
  unfold s12m at hs
  split at hs
  · rename_i a n xs ek ea et el a' n' xs' ek' ea' et' el'
    simp only [Option.some.injEq] at hs; subst hs
    obtain ⟨rfl, rfl⟩ := frag_split (a2 := [.agg (mkC a n (.vw 11 xs) ek ea et el), .agg (mkC a' n' (.vw 11 xs') ek' ea' et' el')]) (f2 := []) hl h1 h2 rfl rfl
    have hp0 : xs.length ≤ 134217728 := of_decide_eq_true (hp _ (List.mem_cons_self ..))
    have hp1 : eqL xs xs' = true := hp _ (List.mem_cons_of_mem _ (List.mem_cons_self ..))
    obtain ⟨rfl, rfl, rfl, rfl, rfl, rfl⟩ := of_decide_eq_true (hp _ (List.mem_cons_of_mem _ (List.mem_cons_of_mem _ (List.mem_cons_self ..))))
    have hxx : xs = xs' := eqL_iff.1 hp1
    subst hxx
    have e : (evFnM T noS L12 1 Tryd.f12 [.agg (mkC a n (.vw 11 xs) ek ea et el), .agg (mkC a n (.vw 11 xs) ek ea et el)] []).run =
      if (if (if (if (if (if (if (a != a) = true then true else n != n) = true then true else ek != ek) = true then true else ea != ea) = true then true else et != et) = true then true else el != el) = true then true else (xs.length : Int) != (xs.length : Int)) = true then some (.b false, [])
      else if (((xs.length : Int) == (xs.length : Int) && (0 : Int) == 0) && (decide (xs.length ≤ 134217728) && eqL xs xs)) = true then some (.b true, []) else none := by kernel_rfl
    rw [e, if_neg (by simp), if_pos (by simp [hp0, hp1])]
    rfl
  · cases hs)
end Go.Proofs.YtcdnbdphakhilaaDoor
set_option maxRecDepth 100000
namespace Go.Proofs.YtcdnbdphakhilaaDoor
open Go.Proofs.YtcdnbdphakhilaaDoor.Ev Go.RowKit
/- What IrMakes calls. -/
def orS (s1 s2 : CSpec) : CSpec := fun xs => match s1 xs with
  | some r => some r
  | none => s2 xs
theorem orS_of {s1 s2 : CSpec} {Φ : List AV → CallRes → Prop} (h1 : ∀ xs r, s1 xs = some r → Φ xs r) (h2 : ∀ xs r, s2 xs = some r → Φ xs r) : ∀ xs r, orS s1 s2 xs = some r → Φ xs r := by
  intro xs r h
  unfold orS at h
  split at h
  · rename_i r' h'; cases h; exact h1 _ _ h'
  · exact h2 _ _ h
theorem orM_ok {P : Program} {f : FuncId} {s1 s2 : CSpec} (h1 : FnOk P (3000000 + f) s1) (h2 : FnOk P (3000000 + f) s2) : FnOk P (3000000 + f) (orS s1 s2) := by
  have hO : offO ≤ 3000000 + f := Nat.le_trans (by decide) (Nat.le_add_right _ _)
  have hP : offP ≤ 3000000 + f := Nat.le_trans (by decide) (Nat.le_add_right _ _)
  have hM : offM ≤ 3000000 + f := Nat.le_add_right _ _
  have k1 := ((h1.2 hO).2 hP).2 hM
  have k2 := ((h2.2 hO).2 hP).2 hM
  refine ⟨fun h => absurd h (Nat.not_lt.2 hO), fun _ => ⟨fun h => absurd h (Nat.not_lt.2 hP), fun _ => ⟨fun h => absurd h (Nat.not_lt.2 hM), fun _ => ?_⟩⟩⟩
  intro es fr r h
  exact orS_of (s1 := s1) (s2 := s2) (Φ := fun xs r => xs = es ++ fr → es.all (fun a => !isFrag a) = true → fr.all isFrag = true → (∀ c ∈ r.pre, c = true) → ∀ (C : Ctx) (h : ∀ i, C.has i → big ≤ i) (vs : List Value), EntM C fr h → TR C es vs →
    Invokes P (3000000 + f - offM) vs.toArray C.w fun v w' => ∃ C', C'.w = w' ∧ DoneM C h fr r.val r.outs v C')
    (fun xs r hs e => k1 es fr r (e ▸ hs)) (fun xs r hs e => k2 es fr r (e ▸ hs)) _ r h rfl
noncomputable abbrev s11n : CSpec := rM SK1 (lv 33 []) 6 Tryd.f11
theorem ok11n : FnOk Tryd.prog (3000000 + 11) (mSpec s11n) := rM_ok SK1_ok (lv 33 []) 6 (lv_ok _ _) Tryd.func11 (by kernel_rfl) (by kernel_rfl)
noncomputable abbrev s11 : CSpec := orS (mSpec s11m) (mSpec s11n)
theorem ok11 : FnOk Tryd.prog (3000000 + 11) s11 := orM_ok ok11m ok11n
noncomputable abbrev SK2 : FuncId → CSpec := withS (withS (withS (withS (withS (withS (withS (withS (withS (withS SK1 3000005 (mSpec s5)) 3000006 (mSpec s6)) 3000007 (mSpec s7)) 3000008 (mSpec s8)) 10 s10) 3000011 s11) 3000012 (mSpec s12m)) 3000013 (mSpec s13m)) 14 s14) 0 (noS 0)
theorem SK2_ok : ∀ f, FnOk Tryd.prog f (SK2 f) := withS_ok (withS_ok (withS_ok (withS_ok (withS_ok (withS_ok (withS_ok (withS_ok (withS_ok (withS_ok SK1_ok ok5) ok6) ok7) ok8) ok10) ok11) ok12m) ok13m) ok14) (noS_ok 0)
end Go.Proofs.YtcdnbdphakhilaaDoor
