/- Lemmas: all of a program's words, and all that is read back, loops over rows that grow. No condition. -/
import Derived.Test.YtocfkaihfjbfnaaDoorWords
import Derived.Test.YtocfkaihfjbfnaaDoorShow
import Derived.Test.YtocfkaihfjbfnaaDoorBack
set_option linter.unusedVariables false
set_option linter.unusedSimpArgs false
set_option maxRecDepth 100000
namespace Go.Proofs.YtocfkaihfjbfnaaDoor
open Go.Proofs.YtocfkaihfjbfnaaDoor.Ev Go.RowKit
/- All of the program's words. -/
abbrev T2 : TypeId → Option TyI := tyList ((41, ⟨.slice 24, 1, false, [.nils]⟩) :: (42, ⟨.slice 25, 1, false, [.nils]⟩) :: (43, ⟨.slice 27, 1, false, [.nils]⟩) :: tyL)
theorem tyOk2 : TyOk Tryd.prog T2 := .cons (.nils Tryd.underlying41 (by kernel_rfl)) <| .cons (.nils Tryd.underlying42 (by kernel_rfl)) <| .cons (.nils Tryd.underlying43 (by kernel_rfl)) tyOk
def onA {α : Type} (f : Int → Int → Int → Int → Int → Int → W64 → Int → Int → Int → Int → α) (x : AInst) : α := f x.Op x.W x.D x.N x.M x.A x.Imm x.Off x.Cond x.R x.S
abbrev mayI (x : AInst) : Bool := onA mayA x
abbrev encI (x : AInst) : W32 := onA encP x
noncomputable abbrev SL0 : FuncId → CSpec := withS noS 10 s10
theorem SL0_ok : ∀ f, FnOk Tryd.prog f (SL0 f) := withS_ok noS_ok ok10
theorem LoopOk2.sub {S : FuncId → CSpec} {L : Nat → Live} {nt N : Nat} {a : Code} {q : St → Tr (Ex × St)} (hs : (L (firstR a)).sum = some q)
    (h : ∀ τ e st, τ.cut = 0 → (q τ).run = some (e, st) → ∃ n st', (iter (atHead (evCode T2 S L nt N a) (L (firstR a))) n τ).run = some (e, st') ∧ (∀ t v, Ev.look st.env t = some v → Ev.look st'.env t = some v) ∧ st'.mem = st.mem ∧ st'.ids = st.ids) : LoopOk T2 S L nt N a := by
  intro q' hq'
  rw [hs] at hq'
  cases hq'
  exact h
def st20 (xs : List AInst) (ws : List W32) (e j : Int) : St :=
  ⟨[(2, .gs 2 0), (3, .i .i64 e), (4, .gs 4 0), (9, .vw 10 xs), (10, .i .i64 (xs.length : Int)), (11, .i .i64 j)], [((2, 0), .row 27 1 [] 0), ((4, 0), .row 27 1 ws 0)], [(4, 0), (2, 0)], 0⟩
def qAll : St → Tr (Ex × St)
  | ⟨[(2, .gs 2 0), (3, .i .i64 e), (4, .gs 4 0), (9, .vw 10 xs), (10, .i .i64 n), (11, .i .i64 j)], [((2, 0), .row 27 1 us 0), ((4, 0), .row 27 1 ws 0)], [(4, 0), (2, 0)], _⟩ =>
    .need (e == 0 && (n == (xs.length : Int) && (j == 0 && (decide (xs.length ≤ 1000000) && (us.isEmpty && ws.isEmpty))))) (.ite (xs.all mayI) (.leaf (.exit 0, st20 xs (xs.map encI) 0 (xs.length : Int)))
      (.leaf (.ret, st20 xs ((xs.takeWhile mayI).map encI) 2 ((xs.takeWhile mayI).length : Int))))
  | _ => .fail
def LAll : Nat → Live := fun _ => ⟨[2, 3, 4, 9, 10, 11], [(2, 0), (4, 0)], [2, 4], some qAll⟩
theorem step20 (xs : List AInst) (ws : List W32) (j : Int) : (atHead (evCode T2 SL0 LAll 29 1 (loopOf Tryd.f20 0)) (LAll (firstR (loopOf Tryd.f20 0))) (st20 xs ws 0 j)).run =
    if decide (j < (xs.length : Int)) = true then if decide (0 ≤ j) = true then if decide (j < (xs.length : Int)) = true then
      if (errA (mayI (xs.getD j.toNat (dat0 10))) != 0) = true then some (.ret, st20 xs ws (errA (mayI (xs.getD j.toNat (dat0 10)))) j)
      else if decide (ws.length + [wordA (mayI (xs.getD j.toNat (dat0 10))) (encI (xs.getD j.toNat (dat0 10)))].length ≤ 134217728) = true then
        some (.normal, st20 xs (ws ++ [wordA (mayI (xs.getD j.toNat (dat0 10))) (encI (xs.getD j.toNat (dat0 10)))]) 0 (IntKind.i64.wrap (j + 1))) else none
    else none else none else some (.exit 0, st20 xs ws 0 j) := by kernel_rfl
theorem getD_at {xs : List AInst} {j : Nat} (h : j < xs.length) : xs.getD j (dat0 10) = xs[j] := by rw [List.getD_eq_getElem?_getD, List.getElem?_eq_getElem h]; rfl
theorem round20 (xs : List AInst) (hx : xs.length ≤ 1000000) (j : Nat) (hj : j < xs.length) (hm : mayI xs[j] = true) :
    (atHead (evCode T2 SL0 LAll 29 1 (loopOf Tryd.f20 0)) (LAll (firstR (loopOf Tryd.f20 0))) (st20 xs ((xs.take j).map encI) 0 (j : Int))).run = some (.normal, st20 xs ((xs.take (j + 1)).map encI) 0 ((j + 1 : Nat) : Int)) := by
  rw [step20, if_pos (by simpa using hj), if_pos (by simp), if_pos (by simpa using hj), Int.toNat_natCast, getD_at hj, hm, wrap_succ j (by omega), List.take_succ_eq_append_getElem hj, List.map_append]
  rw [if_neg (by simp [errA]), if_pos (by simp; omega)]
  rfl
theorem bad20 (xs : List AInst) (j : Nat) (hj : j < xs.length) (hm : mayI xs[j] = false) (ws : List W32) :
    (atHead (evCode T2 SL0 LAll 29 1 (loopOf Tryd.f20 0)) (LAll (firstR (loopOf Tryd.f20 0))) (st20 xs ws 0 (j : Int))).run = some (.ret, st20 xs ws 2 (j : Int)) := by
  rw [step20, if_pos (by simpa using hj), if_pos (by simp), if_pos (by simpa using hj), Int.toNat_natCast, getD_at hj, hm]
  rw [if_pos (by simp [errA])]
  rfl
theorem end20 (xs : List AInst) (ws : List W32) :
    (atHead (evCode T2 SL0 LAll 29 1 (loopOf Tryd.f20 0)) (LAll (firstR (loopOf Tryd.f20 0))) (st20 xs ws 0 (xs.length : Int))).run = some (.exit 0, st20 xs ws 0 (xs.length : Int)) := by
  rw [step20, if_neg (by simp)]
/-- The first ones that are. -/
theorem first20 : ∀ (xs : List AInst) (p : AInst → Bool), (xs.takeWhile p).length ≤ xs.length ∧ (∀ j (h : j < xs.length), j < (xs.takeWhile p).length → p xs[j] = true) ∧ xs.take (xs.takeWhile p).length = xs.takeWhile p ∧ (xs.all p = false → ∃ h : (xs.takeWhile p).length < xs.length, p xs[(xs.takeWhile p).length] = false)
  | [], p => ⟨by simp, fun j h => by simp at h, by simp, fun h => by simp at h⟩
  | x :: xs, p => by
    obtain ⟨h1, h2, h3, h4⟩ := first20 xs p
    cases hp : p x with
    | false => refine ⟨by simp [hp], fun j h hj => by simp [hp] at hj, by simp [hp], fun _ => ⟨by simp [hp], by simp [hp]⟩⟩
    | true =>
      have e : (x :: xs).takeWhile p = x :: xs.takeWhile p := by simp [hp]
      refine ⟨by rw [e]; simp; omega, fun j h hj => ?_, by rw [e]; simp [h3], fun ha => ?_⟩
      · cases j with
        | zero => exact hp
        | succ j => exact h2 j (by simpa using h) (by rw [e] at hj; simpa using hj)
      · have : xs.all p = false := by simpa [hp] using ha
        obtain ⟨k1, k2⟩ := h4 this
        simp only [e]
        exact ⟨by simpa using k1, by simpa using k2⟩
theorem loop20 (N : Nat) : LoopOk T2 SL0 LAll 29 N (loopOf Tryd.f20 0) := LoopOk2.sub rfl <| by
  intro τ e st hcut hr
  unfold qAll at hr
  split at hr
  case h_2 => exact (Tr.of_fail hr).elim
  rename_i e0 xs n j us ws c
  obtain rfl : c = 0 := hcut
  obtain ⟨hc, hr2⟩ := Tr.of_need hr
  clear hr
  simp only [Bool.and_eq_true, beq_iff_eq, decide_eq_true_eq, List.isEmpty_iff] at hc
  obtain ⟨rfl, rfl, rfl, hlen, rfl, rfl⟩ := hc
  have sameN : ∀ τ, atHead (evCode T2 SL0 LAll 29 N (loopOf Tryd.f20 0)) (LAll (firstR (loopOf Tryd.f20 0))) τ = atHead (evCode T2 SL0 LAll 29 1 (loopOf Tryd.f20 0)) (LAll (firstR (loopOf Tryd.f20 0))) τ := fun τ => rfl
  obtain ⟨h1, h2, h3, h4⟩ := first20 xs mayI
  rcases Tr.of_ite hr2 with ⟨hp, hr⟩ | ⟨hp, hr⟩
  · simp only [Tr.run, Option.some.injEq, Prod.mk.injEq] at hr
    obtain ⟨rfl, rfl⟩ := hr
    obtain ⟨n, hn⟩ := iter_from (g := atHead (evCode T2 SL0 LAll 29 N (loopOf Tryd.f20 0)) (LAll (firstR (loopOf Tryd.f20 0)))) (fun j => st20 xs ((xs.take j).map encI) 0 (j : Int)) 0 xs.length (Nat.zero_le _)
      (fun j _ hj => by rw [sameN]; exact round20 xs hlen j hj (List.all_eq_true.1 hp _ (List.getElem_mem hj))) (by rw [sameN, List.take_length]; exact end20 xs _) (by simp)
    exact ⟨n, _, hn, fun _ _ h => h, rfl, rfl⟩
  · simp only [Tr.run, Option.some.injEq, Prod.mk.injEq] at hr
    obtain ⟨rfl, rfl⟩ := hr
    obtain ⟨k1, k2⟩ := h4 hp
    obtain ⟨n, hn⟩ := iter_from (g := atHead (evCode T2 SL0 LAll 29 N (loopOf Tryd.f20 0)) (LAll (firstR (loopOf Tryd.f20 0)))) (fun j => st20 xs ((xs.take j).map encI) 0 (j : Int)) 0 (xs.takeWhile mayI).length (Nat.zero_le _)
      (fun j _ hj => by rw [sameN]; exact round20 xs hlen j (by omega) (h2 j (by omega) hj)) (by rw [sameN]; exact bad20 xs _ k1 k2 _) (by simp)
    rw [h3] at hn
    exact ⟨n, _, hn, fun _ _ h => h, rfl, rfl⟩
def g20 : CSpec | [.vw 10 xs] => some ⟨[decide (xs.length ≤ 1000000)], .tup [.vw 1 (if xs.all mayI = true then xs.map encI else []), .i .i64 (if xs.all mayI = true then 0 else 2)]⟩ | _ => none
theorem okg20 : FnOk Tryd.prog 20 g20 := FnOk.of tyOk2 SL0_ok mixed (L := LAll) Tryd.func20 (by kernel_rfl) (by kernel_rfl) (fun xs r hs hp w R vs hvs => by
  unfold g20 at hs; split at hs <;> cases hs
  rename_i xs
  have hl : xs.length ≤ 1000000 := by simpa using hp
  refine ⟨1, FnLoops.one (by kernel_rfl) (loop20 1), ?_⟩
  show (evFn T2 SL0 LAll 1 Tryd.f20 [.vw 10 xs]).run = some (.tup [.vw 1 (if xs.all mayI = true then xs.map encI else []), .i .i64 (if xs.all mayI = true then 0 else 2)])
  have e : (evFn T2 SL0 LAll 1 Tryd.f20 [.vw 10 xs]).run = if ((0 : Int) == 0 && ((xs.length : Int) == (xs.length : Int) && ((0 : Int) == 0 && (decide (xs.length ≤ 1000000) && true)))) = true then
      if xs.all mayI = true then some (.tup [.vw 1 (xs.map encI), .i .i64 0]) else some (.tup [.vw 1 [], .i .i64 2]) else none := by kernel_rfl
  rw [e, if_pos (by simpa using hl)]
  cases xs.all mayI <;> rfl)
end Go.Proofs.YtocfkaihfjbfnaaDoor
set_option maxRecDepth 100000
namespace Go.Proofs.YtocfkaihfjbfnaaDoor
open Go.Proofs.YtocfkaihfjbfnaaDoor.Ev Go.RowKit
/- A64All: the plain law. -/
noncomputable abbrev SAL5 : FuncId → CSpec := withS (withS (withS (withS (withS noS 9 g9) 12 sr26) 15 g15) 16 g16) 20 g20
theorem SAL5_ok : ∀ f, FnOk Tryd.prog f (SAL5 f) := withS_ok (withS_ok (withS_ok (withS_ok (withS_ok noS_ok okg9) okr28) okg15) okg16) okg20
abbrev eR (x : AInst) : W32 := (onA encR x).setWidth 32
theorem may_eR {x : AInst} (ho : IntKind.i64.has x.Off) (h : mayI x = true) : inB 1 x.Op 47 = true ∧ isW x.W = true ∧ encI x = (onA encR x).setWidth 32 := by
  obtain ⟨op, w, d, n, m, a, imm, off, cond, r, s⟩ := x
  have h : mayA op w d n m a imm off cond r s = true := h
  obtain ⟨g1, _, _, _⟩ := good_all ho h
  have hr := may_range h
  refine ⟨?_, (may_w h).1, ?_⟩
  · show inB 1 op 47 = true
    simp [inB]; omega
  · show encP op w d n m a imm off cond r s = (encR op w d n m a imm off cond r s).setWidth 32
    exact g1.symm
/-- The first loop: those that are. -/
def st5 (us ys os : List AInst) (bad : Bool) (j : Int) : St :=
  ⟨[(0, .vw 10 us), (2, .b false), (3, .gs 3 0), (4, .b bad), (15, .vw 10 ys), (16, .i .i64 (ys.length : Int)), (17, .i .i64 j)], [((3, 0), .row 25 10 os 0)], [(3, 0)], 0⟩
def q5a : St → Tr (Ex × St)
  | ⟨[(0, .vw 10 ys), (2, .b b2), (3, .gs 3 0), (4, .b bad), (15, .vw 10 zs), (16, .i .i64 n), (17, .i .i64 j)], [((3, 0), .row 25 10 os 0)], [(3, 0)], _⟩ =>
    .need (n == (zs.length : Int) && (j == 0 && (decide (zs.length ≤ 1000000) && (os.isEmpty && (!b2 && !bad))))) (.leaf (.exit 0, ⟨[(0, .vw 10 ys), (2, .b false), (3, .gs 3 0), (4, .b (!zs.all mayI)), (15, .vw 10 zs), (16, .i .i64 (zs.length : Int)), (17, .i .i64 (zs.length : Int))], [((3, 0), .row 25 10 zs 0)], [(3, 0)], 0⟩))
  | _ => .fail
/-- The second one: words. -/
def st5b (ys : List AInst) (ws : List W32) (j : Int) : St := ⟨[(0, .vw 10 ys), (2, .b false), (7, .vw 1 ws), (59, .i .i64 (ys.length : Int)), (60, .i .i64 j)], [], [], 0⟩
def okW (ys : List AInst) (ws : List W32) : Bool := (List.range ys.length).all fun k => inB 1 (ys.getD k (dat0 10)).Op 47 && (isW (ys.getD k (dat0 10)).W && (ws.getD k (dat0 1) == eR (ys.getD k (dat0 10))))
def q5b : St → Tr (Ex × St)
  | ⟨[(0, .vw 10 ys), (2, .b b2), (7, .vw 1 ws), (59, .i .i64 n), (60, .i .i64 j)], [], [], _⟩ =>
    .need (n == (ys.length : Int) && (j == 0 && (decide (ys.length ≤ 1000000) && ((ws.length == ys.length) && (!b2 && okW ys ws))))) (.leaf (.exit 2, st5b ys ws (ys.length : Int)))
  | _ => .fail
def L5 : Nat → Live := fun r => match r with
  | 6 => ⟨[0, 2, 3, 4, 15, 16, 17], [(3, 0)], [3], some q5a⟩
  | _ => ⟨[0, 2, 7, 59, 60], [], [], some q5b⟩
theorem step5a (us ys os : List AInst) (bad : Bool) (j : Int) (N : Nat) : (atHead (evCode T2 SAL5 L5 75 N (loopOf Tryd.f5 0)) (L5 (firstR (loopOf Tryd.f5 0))) (st5 us ys os bad j)).run =
    if decide (j < (ys.length : Int)) = true then if decide (0 ≤ j) = true then if decide (j < (ys.length : Int)) = true then
      if decide (os.length + [ys.getD j.toNat (dat0 10)].length ≤ 134217728) = true then
        some (.normal, st5 us ys (os ++ [ys.getD j.toNat (dat0 10)]) (if bad = true then true else !mayI (ys.getD j.toNat (dat0 10))) (IntKind.i64.wrap (j + 1))) else none
    else none else none else some (.exit 0, st5 us ys os bad j) := by kernel_rfl
theorem step5b (ys : List AInst) (ws : List W32) (j : Int) (N : Nat) : (atHead (evCode T2 SAL5 L5 75 N (loopOf Tryd.f5 1)) (L5 (firstR (loopOf Tryd.f5 1))) (st5b ys ws j)).run =
    if decide (j < (ys.length : Int)) = true then if inB 1 (ys.getD j.toNat (dat0 10)).Op 47 = true then if isW (ys.getD j.toNat (dat0 10)).W = true then if decide (0 ≤ j) = true then if decide (j < (ys.length : Int)) = true then if decide (0 ≤ j) = true then if decide (j < (ws.length : Int)) = true then
      if (ws.getD j.toNat (dat0 1) != eR (ys.getD j.toNat (dat0 10))) = true then some (.ret, ⟨[(0, .vw 10 ys), (2, .b false), (7, .vw 1 ws), (59, .i .i64 (ys.length : Int)), (60, .i .i64 j)], [], [], 0⟩)
      else some (.normal, st5b ys ws (IntKind.i64.wrap (j + 1)))
    else none else none else none else none else none else none else some (.exit 2, st5b ys ws j) := by kernel_rfl
theorem loop5a (N : Nat) : LoopOk T2 SAL5 L5 75 N (loopOf Tryd.f5 0) := LoopOk2.sub rfl <| by
  intro τ e st hcut hr
  unfold q5a at hr
  split at hr
  case h_2 => exact (Tr.of_fail hr).elim
  rename_i ys b2 bad zs n j os c
  obtain rfl : c = 0 := hcut
  obtain ⟨hc, hr2⟩ := Tr.of_need hr
  clear hr
  simp only [Bool.and_eq_true, beq_iff_eq, decide_eq_true_eq, List.isEmpty_iff, Bool.not_eq_true'] at hc
  obtain ⟨rfl, rfl, hlen, rfl, rfl, rfl⟩ := hc
  simp only [Tr.run, Option.some.injEq, Prod.mk.injEq] at hr2
  obtain ⟨rfl, rfl⟩ := hr2
  have h : ∀ k, k < zs.length → (atHead (evCode T2 SAL5 L5 75 N (loopOf Tryd.f5 0)) (L5 (firstR (loopOf Tryd.f5 0))) (st5 ys zs (zs.take k) (!(zs.take k).all mayI) (k : Int))).run = some (.normal, st5 ys zs (zs.take (k + 1)) (!(zs.take (k + 1)).all mayI) ((k + 1 : Nat) : Int)) := by
    intro k hk
    rw [step5a, if_pos (by simpa using hk), if_pos (by simp), if_pos (by simpa using hk), Int.toNat_natCast, getD_at hk, wrap_succ k (by omega), List.take_succ_eq_append_getElem hk, if_pos (by simp; omega)]
    have e : (if (!(zs.take k).all mayI) = true then true else !mayI zs[k]) = !(zs.take k ++ [zs[k]]).all mayI := by
      rw [List.all_append]
      cases (zs.take k).all mayI <;> simp
    rw [e]
  obtain ⟨n, hn⟩ := iter_from (g := atHead (evCode T2 SAL5 L5 75 N (loopOf Tryd.f5 0)) (L5 (firstR (loopOf Tryd.f5 0)))) (fun k => st5 ys zs (zs.take k) (!(zs.take k).all mayI) (k : Int)) 0 zs.length (Nat.zero_le _)
    (fun k _ hk => h k hk) (by rw [List.take_length, step5a, if_neg (by simp)]) (by simp)
  exact ⟨n, _, hn, fun _ _ h => h, rfl, rfl⟩
theorem okW_at {ys : List AInst} {ws : List W32} (h : okW ys ws = true) (k : Nat) (hk : k < ys.length) : inB 1 (ys.getD k (dat0 10)).Op 47 = true ∧ isW (ys.getD k (dat0 10)).W = true ∧ (ws.getD k (dat0 1) != eR (ys.getD k (dat0 10))) = false := by
  unfold okW at h
  have := List.all_eq_true.1 h k (List.mem_range.2 hk)
  simp only [Bool.and_eq_true, beq_iff_eq] at this
  obtain ⟨h1, h2, h3⟩ := this
  refine ⟨h1, h2, ?_⟩
  rw [h3]
  simp
theorem loop5b (N : Nat) : LoopOk T2 SAL5 L5 75 N (loopOf Tryd.f5 1) := LoopOk2.sub rfl <| by
  intro τ e st hcut hr
  unfold q5b at hr
  split at hr
  case h_2 => exact (Tr.of_fail hr).elim
  rename_i ys b2 ws n j c
  obtain rfl : c = 0 := hcut
  obtain ⟨hc, hr2⟩ := Tr.of_need hr
  clear hr
  simp only [Bool.and_eq_true, beq_iff_eq, decide_eq_true_eq, List.isEmpty_iff, Bool.not_eq_true'] at hc
  obtain ⟨rfl, rfl, hlen, hw, rfl, hok⟩ := hc
  simp only [Tr.run, Option.some.injEq, Prod.mk.injEq] at hr2
  obtain ⟨rfl, rfl⟩ := hr2
  have h : ∀ k, k < ys.length → (atHead (evCode T2 SAL5 L5 75 N (loopOf Tryd.f5 1)) (L5 (firstR (loopOf Tryd.f5 1))) (st5b ys ws (k : Int))).run = some (.normal, st5b ys ws ((k + 1 : Nat) : Int)) := by
    intro k hk
    obtain ⟨h1, h2, h3⟩ := okW_at hok k hk
    rw [step5b, if_pos (by simpa using hk), Int.toNat_natCast, if_pos h1, if_pos h2, if_pos (by simp), if_pos (by simpa using hk), if_pos (by simp), if_pos (by simp; omega), h3, wrap_succ k (by omega)]
    rfl
  obtain ⟨n, hn⟩ := iter_from (g := atHead (evCode T2 SAL5 L5 75 N (loopOf Tryd.f5 1)) (L5 (firstR (loopOf Tryd.f5 1)))) (fun k => st5b ys ws (k : Int)) 0 ys.length (Nat.zero_le _)
    (fun k _ hk => h k hk) (by rw [step5b, if_neg (by simp)]) (by simp)
  exact ⟨n, _, hn, fun _ _ h => h, rfl, rfl⟩
/-- At most twenty. -/
def cut20 (xs : List AInst) : List AInst := if decide ((20 : Int) < (xs.length : Int)) = true then List.take (Int.toNat 20 - ((0 : Nat) : Int).toNat) (List.drop ((0 : Nat) : Int).toNat xs) else xs
theorem cut20_len (xs : List AInst) : (cut20 xs).length ≤ 20 := by
  unfold cut20
  split
  · simp; omega
  · rename_i h; simp at h; omega
theorem cut20_mem {xs : List AInst} {x : AInst} (h : x ∈ cut20 xs) : x ∈ xs := by
  unfold cut20 at h
  split at h
  · exact List.mem_of_mem_drop (List.mem_of_mem_take h)
  · exact h
theorem run5 (xs : List AInst) : (evFn T2 SAL5 L5 1 Tryd.f5 [.vw 10 xs]).run =
    if (if decide ((20 : Int) < (xs.length : Int)) = true then decide ((0 : Int) ≤ ((0 : Nat) : Int)) else true) = true then
    if (if decide ((20 : Int) < (xs.length : Int)) = true then decide (((0 : Nat) : Int) ≤ 20) else true) = true then
    if (if decide ((20 : Int) < (xs.length : Int)) = true then decide ((20 : Int) ≤ (xs.length : Int)) else true) = true then
    if (((cut20 xs).length : Int) == ((cut20 xs).length : Int) && ((0 : Int) == 0 && (decide ((cut20 xs).length ≤ 1000000) && true))) = true then
    if decide ((cut20 xs).length ≤ 1000000) = true then
    if (!(cut20 xs).all mayI) = true then some (.b (if (if (((if (cut20 xs).all mayI = true then (cut20 xs).map encI else []).length : Int) == 0) = true then (if (cut20 xs).all mayI = true then (0 : Int) else 2) == 2 else false) = true then true else false))
    else if (if ((if (cut20 xs).all mayI = true then (0 : Int) else 2) != 0) = true then true else ((if (cut20 xs).all mayI = true then (cut20 xs).map encI else []).length : Int) != ((cut20 xs).length : Int)) = true then some (.b false)
    else if (((cut20 xs).length : Int) == ((cut20 xs).length : Int) && ((0 : Int) == 0 && (decide ((cut20 xs).length ≤ 1000000) && ((if (cut20 xs).all mayI = true then (cut20 xs).map encI else []).length == (cut20 xs).length && (true && okW (cut20 xs) (if (cut20 xs).all mayI = true then (cut20 xs).map encI else [])))))) = true then some (.b true) else none
    else none else none else none else none else none := by kernel_rfl
theorem okW_may (ys : List AInst) (ho : ∀ x ∈ ys, IntKind.i64.has x.Off) (hm : ys.all mayI = true) : okW ys (ys.map encI) = true := by
  unfold okW
  rw [List.all_eq_true]
  intro k hk
  have hk := List.mem_range.1 hk
  have hmem : ys[k] ∈ ys := List.getElem_mem hk
  have hmk := List.all_eq_true.1 hm _ hmem
  have e1 : ys.getD k (dat0 10) = ys[k] := getD_at hk
  have e2 : (ys.map encI).getD k (dat0 1) = encI ys[k] := by
    rw [List.getD_eq_getElem?_getD, List.getElem?_eq_getElem (by simpa using hk)]
    simp
  rw [e1, e2]
  have := may_eR (ho _ hmem) hmk
  simp [this]
theorem lawAll (xs : List AInst) (ho : ∀ x ∈ xs, IntKind.i64.has x.Off) : (evFn T2 SAL5 L5 1 Tryd.f5 [.vw 10 xs]).run = some (.b true) := by
  rw [run5]
  have hl := cut20_len xs
  have ho' : ∀ x ∈ cut20 xs, IntKind.i64.has x.Off := fun x hx => ho x (cut20_mem hx)
  have c1 : (if decide ((20 : Int) < (xs.length : Int)) = true then decide ((20 : Int) ≤ (xs.length : Int)) else true) = true := by
    split
    · rename_i h; simp at h; simp; omega
    · rfl
  rw [c1]
  generalize cut20 xs = ys at *
  have c2 : decide (ys.length ≤ 1000000) = true := by simp; omega
  rw [c2]
  cases hm : ys.all mayI with
  | false => simp
  | true =>
    have := okW_may ys ho' hm
    simp [this]
theorem ro_el {C : Ctx} {s n : Nat} {g : Nat → List AV} {v : Value} (h : VR C (.ro s n g) v) (i : Nat) (hi : i < n) : ∃ us, CR C.bare (g i) us := by
  cases h with
  | ro hb h hl hc hcap hn => exact ⟨_, h i hi⟩
  | ro0 => omega
  | roE => omega
theorem has_offs {C : Ctx} {xs : List AInst} {v : Value} (h : VR C (.vw 10 xs) v) : ∀ x ∈ xs, IntKind.i64.has x.Off := by
  intro x hx
  obtain ⟨i, hi, rfl⟩ := List.getElem_of_mem hx
  obtain ⟨us, h⟩ := ro_el (vw_inv h) i hi
  have e : encAt 10 xs i = enc 10 xs[i] := by unfold encAt; rw [getD_at hi]
  rw [e] at h
  exact has_off (VR.agg h)
theorem lawAllM (xs : List AInst) {C : Ctx} {v : Value} (h : VR C (.vw 10 xs) v) : (evFn T2 SAL5 L5 1 Tryd.f5 [.vw 10 xs]).run = some (.b true) := lawAll xs (has_offs h)
/-- A law that is true, as a call (with slices of this seat). -/
theorem law_calls2 {S : FuncId → CSpec} (hS : ∀ f, FnOk Tryd.prog f (S f)) {L : Nat → Live} {N : Nat} {f : FuncId} {fn : Func} (hf : Tryd.prog.funcs[f]? = some fn) (hL : FnLoops T2 S L N fn) {xs : List AV} (h : (evFn T2 S L N fn xs).run = some (.b true))
    {W : World} {R : Nat → Prop} (hR : ∀ b, R b → b < W.heap.size) (hG : Glob.G W R) {vs : List Value} (hvs : TR (baseC W R) xs vs) : Calls Tryd.prog f vs.toArray W fun e W' => e = .returned (.bool true) ∧ Below W.heap.size W W' := by
  refine (calls_ev tyOk2 hS mixed hf hL h hR hG hvs).mono fun e W' hd => ?_
  obtain ⟨v, rfl, R', hd⟩ := hd
  have hv := hd.res
  cases hv
  exact ⟨rfl, hd.fr.os, hd.fr.tape, hd.fr.output, hd.fr.size, fun k hk => hd.fr.block k hk (fun h => h)⟩
theorem loops5 : FnLoops T2 SAL5 L5 1 Tryd.f5 := FnLoops.two (by kernel_rfl) (loop5a 1) (loop5b 1)
end Go.Proofs.YtocfkaihfjbfnaaDoor
set_option maxRecDepth 100000
namespace Go.Proofs.YtocfkaihfjbfnaaDoor
open Go.Proofs.YtocfkaihfjbfnaaDoor.Ev Go.RowKit
/- AdecAll: the plain law. -/
theorem wrap_succ' (j : Nat) (h : j < 9223372036854775807) : IntKind.i64.wrap ((j : Int) + 1) = ((j + 1 : Nat) : Int) := by
  rw [wrap_small] <;> omega
/-- The instruction of a word. -/
def decI (x : W32) : AInst := onP x (decE (okD x) AInst.mk)
/- All of the reader's. -/
noncomputable abbrev SAM0 : FuncId → CSpec := withS noS 21 g21
theorem SAM0_ok : ∀ f, FnOk Tryd.prog f (SAM0 f) := withS_ok noS_ok okg21
def st25 (us xs : List W32) (es os : List AInst) (n j : Int) : St :=
  ⟨[(0, .vw 1 us), (2, .gs 2 0), (3, .i .i64 0), (4, .b false), (5, .gs 5 0), (10, .vw 1 xs), (11, .i .i64 n), (12, .i .i64 j)], [((2, 0), .row 25 10 es 0), ((5, 0), .row 25 10 os 0)], [(5, 0), (2, 0)], 0⟩
def st25r (us xs : List W32) (es os : List AInst) (n j : Int) : St :=
  ⟨[(0, .vw 1 us), (2, .gs 5 0), (3, .i .i64 j), (4, .b false), (5, .gs 5 0), (10, .vw 1 xs), (11, .i .i64 n), (12, .i .i64 j)], [((2, 0), .row 25 10 es 0), ((5, 0), .row 25 10 os 0)], [(5, 0), (2, 0)], 0⟩
def qD25 : St → Tr (Ex × St)
  | ⟨[(0, .vw 1 us), (2, .gs 2 0), (3, .i .i64 r3), (4, .b r4), (5, .gs 5 0), (10, .vw 1 xs), (11, .i .i64 n), (12, .i .i64 j)], [((2, 0), .row 25 10 es 0), ((5, 0), .row 25 10 os 0)], [(5, 0), (2, 0)], _⟩ =>
    .need (r3 == 0 && (!r4 && (n == (xs.length : Int) && (j == 0 && (decide (xs.length ≤ 1000000) && os.isEmpty))))) (.ite (xs.all okD) (.leaf (.exit 0, st25 us xs es (xs.map decI) n (xs.length : Int)))
      (.leaf (.ret, st25r us xs es ((xs.takeWhile okD).map decI) n ((xs.takeWhile okD).length : Int))))
  | _ => .fail
def LD : Nat → Live := fun _ => ⟨[0, 2, 3, 4, 5, 10, 11, 12], [(2, 0), (5, 0)], [2, 5], some qD25⟩
theorem step25 (us xs : List W32) (es os : List AInst) (n j : Int) (N : Nat) : (atHead (evCode T2 SAM0 LD 34 N (loopOf Tryd.f25 0)) (LD (firstR (loopOf Tryd.f25 0))) (st25 us xs es os n j)).run =
    if decide (j < n) = true then if decide (0 ≤ j) = true then if decide (j < (xs.length : Int)) = true then
      if (!okD (xs.getD j.toNat (dat0 1))) = true then some (.ret, st25r us xs es os n j)
      else if decide (os.length + [decI (xs.getD j.toNat (dat0 1))].length ≤ 134217728) = true then
        some (.normal, st25 us xs es (os ++ [decI (xs.getD j.toNat (dat0 1))]) n (IntKind.i64.wrap (j + 1))) else none
    else none else none else some (.exit 0, st25 us xs es os n j) := by kernel_rfl
theorem getW_at {xs : List W32} {j : Nat} (h : j < xs.length) : xs.getD j (dat0 1) = xs[j] := by rw [List.getD_eq_getElem?_getD, List.getElem?_eq_getElem h]; rfl
theorem firstW : ∀ (xs : List W32) (p : W32 → Bool), (xs.takeWhile p).length ≤ xs.length ∧ (∀ j (h : j < xs.length), j < (xs.takeWhile p).length → p xs[j] = true) ∧ xs.take (xs.takeWhile p).length = xs.takeWhile p ∧ (∀ h : (xs.takeWhile p).length < xs.length, p xs[(xs.takeWhile p).length] = false) ∧ (xs.all p = true → xs.takeWhile p = xs) ∧ (xs.all p = false → (xs.takeWhile p).length < xs.length)
  | [], p => ⟨by simp, fun j h => by simp at h, by simp, fun h => by simp at h, by simp, by simp⟩
  | x :: xs, p => by
    obtain ⟨h1, h2, h3, h4, h5, h6⟩ := firstW xs p
    cases hp : p x with
    | false => refine ⟨by simp [hp], fun j h hj => by simp [hp] at hj, by simp [hp], fun _ => by simp [hp], by simp [hp], by simp [hp]⟩
    | true =>
      have e : (x :: xs).takeWhile p = x :: xs.takeWhile p := by simp [hp]
      refine ⟨by rw [e]; simp; omega, fun j h hj => ?_, by rw [e]; simp [h3], fun h => ?_, fun ha => ?_, fun ha => ?_⟩
      · cases j with
        | zero => exact hp
        | succ j => exact h2 j (by simpa using h) (by rw [e] at hj; simpa using hj)
      · simp only [e] at h ⊢
        have := h4 (by simpa using h)
        simpa using this
      · rw [e, h5 (by simpa [hp] using ha)]
      · rw [e]
        have := h6 (by simpa [hp] using ha)
        simpa using this
theorem loop25 (N : Nat) : LoopOk T2 SAM0 LD 34 N (loopOf Tryd.f25 0) := LoopOk2.sub rfl <| by
  intro τ e st hcut hr
  unfold qD25 at hr
  split at hr
  case h_2 => exact (Tr.of_fail hr).elim
  rename_i us r3 r4 xs n j es os c
  obtain rfl : c = 0 := hcut
  obtain ⟨hc, hr2⟩ := Tr.of_need hr
  clear hr
  simp only [Bool.and_eq_true, beq_iff_eq, decide_eq_true_eq, List.isEmpty_iff, Bool.not_eq_true'] at hc
  obtain ⟨rfl, rfl, rfl, rfl, hlen, rfl⟩ := hc
  obtain ⟨h1, h2, h3, h4, h5, h6⟩ := firstW xs okD
  have rd : ∀ k (hk : k < xs.length), okD xs[k] = true → (atHead (evCode T2 SAM0 LD 34 N (loopOf Tryd.f25 0)) (LD (firstR (loopOf Tryd.f25 0))) (st25 us xs es ((xs.take k).map decI) (xs.length : Int) (k : Int))).run = some (.normal, st25 us xs es ((xs.take (k + 1)).map decI) (xs.length : Int) ((k + 1 : Nat) : Int)) := by
    intro k hk hok
    rw [step25, if_pos (by simpa using hk), if_pos (by simp), if_pos (by simpa using hk), Int.toNat_natCast, getW_at hk, hok, if_neg (by simp), wrap_succ' k (by omega), List.take_succ_eq_append_getElem hk, List.map_append, if_pos (by simp; omega)]
    rfl
  rcases Tr.of_ite hr2 with ⟨hp, hr⟩ | ⟨hp, hr⟩
  · simp only [Tr.run, Option.some.injEq, Prod.mk.injEq] at hr
    obtain ⟨rfl, rfl⟩ := hr
    obtain ⟨n, hn⟩ := iter_from (g := atHead (evCode T2 SAM0 LD 34 N (loopOf Tryd.f25 0)) (LD (firstR (loopOf Tryd.f25 0)))) (fun j => st25 us xs es ((xs.take j).map decI) (xs.length : Int) (j : Int)) 0 xs.length (Nat.zero_le _)
      (fun k _ hk => rd k hk (List.all_eq_true.1 hp _ (List.getElem_mem hk))) (by rw [List.take_length, step25, if_neg (by simp)]) (by simp)
    exact ⟨n, _, hn, fun _ _ h => h, rfl, rfl⟩
  · simp only [Tr.run, Option.some.injEq, Prod.mk.injEq] at hr
    obtain ⟨rfl, rfl⟩ := hr
    have k1 := h6 hp
    have k2 := h4 k1
    obtain ⟨n, hn⟩ := iter_from (g := atHead (evCode T2 SAM0 LD 34 N (loopOf Tryd.f25 0)) (LD (firstR (loopOf Tryd.f25 0)))) (fun j => st25 us xs es ((xs.take j).map decI) (xs.length : Int) (j : Int)) 0 (xs.takeWhile okD).length (Nat.zero_le _)
      (fun k _ hk => rd k (by omega) (h2 k (by omega) hk)) (by rw [step25, if_pos (by simpa using k1), if_pos (by simp), if_pos (by simpa using k1), Int.toNat_natCast, getW_at k1, k2, if_pos (by simp)]) (by simp)
    rw [h3] at hn
    exact ⟨n, _, hn, fun _ _ h => h, rfl, rfl⟩
def g25 : CSpec | [.vw 1 xs] => some ⟨[decide (xs.length ≤ 1000000)], .tup [.vw 10 ((xs.takeWhile okD).map decI), .i .i64 ((xs.takeWhile okD).length : Int), .b (xs.all okD)]⟩ | _ => none
theorem okg25 : FnOk Tryd.prog 25 g25 := FnOk.of tyOk2 SAM0_ok mixed (L := LD) Tryd.func25 (by kernel_rfl) (by kernel_rfl) (fun xs r hs hp w R vs hvs => by
  unfold g25 at hs; split at hs <;> cases hs
  rename_i xs
  have hl : xs.length ≤ 1000000 := by simpa using hp
  refine ⟨1, FnLoops.one (by kernel_rfl) (loop25 1), ?_⟩
  show (evFn T2 SAM0 LD 1 Tryd.f25 [.vw 1 xs]).run = some (.tup [.vw 10 ((xs.takeWhile okD).map decI), .i .i64 ((xs.takeWhile okD).length : Int), .b (xs.all okD)])
  have e : (evFn T2 SAM0 LD 1 Tryd.f25 [.vw 1 xs]).run = if ((0 : Int) == 0 && (true && ((xs.length : Int) == (xs.length : Int) && ((0 : Int) == 0 && (decide (xs.length ≤ 1000000) && true))))) = true then
      if xs.all okD = true then some (.tup [.vw 10 (xs.map decI), .i .i64 (xs.length : Int), .b true]) else some (.tup [.vw 10 ((xs.takeWhile okD).map decI), .i .i64 ((xs.takeWhile okD).length : Int), .b false]) else none := by kernel_rfl
  rw [e, if_pos (by simpa using hl)]
  obtain ⟨h1, h2, h3, h4, h5, h6⟩ := firstW xs okD
  cases ha : xs.all okD with
  | true => rw [h5 ha]; rfl
  | false => rfl)
/- The law's loops. -/
noncomputable abbrev SAM1 : FuncId → CSpec := withS (withS (withS (withS (withS (withS noS 12 sr26) 16 g16) 22 g21) 23 g23) 24 g24) 25 g25
theorem SAM1_ok : ∀ f, FnOk Tryd.prog f (SAM1 f) := withS_ok (withS_ok (withS_ok (withS_ok (withS_ok (withS_ok noS_ok okr28) okg16) okg22) okg23) okg24) okg25
def pA (xs : List AInst) (j : Int) : Bool := if decide (j < 12) = true then mayI (xs.getD j.toNat (dat0 10)) else false
def rowA (xs : List AInst) : Nat → List W32
  | 0 => []
  | j + 1 => if pA xs (j : Int) = true then rowA xs j ++ [eR (xs.getD j (dat0 10))] else rowA xs j
def rowB (ws os : List W32) : Nat → List W32
  | 0 => os
  | j + 1 => if decide ((j : Int) < 6) = true then rowB ws os j ++ [ws.getD j (dat0 1)] else rowB ws os j
theorem rowA_len (xs : List AInst) : ∀ j, (rowA xs j).length ≤ 12 ∧ (rowA xs j).length ≤ j
  | 0 => by simp [rowA]
  | j + 1 => by
    obtain ⟨h1, h2⟩ := rowA_len xs j
    unfold rowA
    split
    · rename_i h
      have : j < 12 := by
        unfold pA at h
        split at h
        · rename_i hc
          have : (j : Int) < 12 := by simpa using hc
          omega
        · cases h
      simp; omega
    · omega
theorem rowB_len (ws os : List W32) : ∀ j, (rowB ws os j).length ≤ os.length + 6 ∧ (rowB ws os j).length ≤ os.length + j
  | 0 => by simp [rowB]
  | j + 1 => by
    obtain ⟨h1, h2⟩ := rowB_len ws os j
    unfold rowB
    split
    · rename_i h
      have : (j : Int) < 6 := by simpa using h
      simp; omega
    · omega
def stA (xs : List AInst) (ws os : List W32) (n j : Int) : St :=
  ⟨[(1, .vw 1 ws), (4, .b false), (5, .gs 5 0), (17, .vw 10 xs), (18, .i .i64 n), (19, .i .i64 j)], [((5, 0), .row 27 1 os 0)], [(5, 0)], 0⟩
def stB (ws os : List W32) (n j : Int) : St :=
  ⟨[(4, .b false), (5, .gs 5 0), (36, .vw 1 ws), (37, .i .i64 n), (38, .i .i64 j)], [((5, 0), .row 27 1 os 0)], [(5, 0)], 0⟩
def stC (e : Nat) (ms : List AInst) (os : List W32) (k n j : Int) : St :=
  ⟨[(4, .b false), (10, .vw 10 ms), (11, .i .i64 k), (74, .gs 5 0), (75, .i .i64 n), (76, .i .i64 j)], [((5, 0), .row e 1 os 0)], [(5, 0)], 0⟩
def eqJ (a b : AInst) : Bool := eqI a.Op a.W a.D a.N a.M a.A a.Imm a.Off a.Cond a.R a.S b.Op b.W b.D b.N b.M b.A b.Imm b.Off b.Cond b.R b.S
def c0 (ms : List AInst) (os : List W32) (j : Int) : Bool := if (!okD (os.getD j.toNat (dat0 1))) = true then true else decide ((ms.length : Int) ≤ j)
def cC (ms : List AInst) (os : List W32) (k j : Int) : Bool :=
  if (if decide (j < k) = true then if c0 ms os j = true then true else !eqJ (ms.getD j.toNat (dat0 10)) (decI (os.getD j.toNat (dat0 1))) else false) = true then true else if (j == k) = true then okD (os.getD j.toNat (dat0 1)) else false
def qA : St → Tr (Ex × St)
  | ⟨[(1, .vw 1 ws), (4, .b b4), (5, .gs 5 0), (17, .vw 10 xs), (18, .i .i64 n), (19, .i .i64 j)], [((5, 0), .row 27 1 os 0)], [(5, 0)], _⟩ =>
    .need (!b4 && (n == (xs.length : Int) && (j == 0 && (decide (xs.length ≤ 9223372036854775807) && os.isEmpty)))) (.leaf (.exit 0, stA xs ws (rowA xs xs.length) n (xs.length : Int)))
  | _ => .fail
def qB : St → Tr (Ex × St)
  | ⟨[(4, .b b4), (5, .gs 5 0), (36, .vw 1 ws), (37, .i .i64 n), (38, .i .i64 j)], [((5, 0), .row 27 1 os 0)], [(5, 0)], _⟩ =>
    .need (!b4 && (n == (ws.length : Int) && (j == 0 && (decide (ws.length ≤ 9223372036854775807) && decide (os.length ≤ 12))))) (.leaf (.exit 2, stB ws (rowB ws os ws.length) n (ws.length : Int)))
  | _ => .fail
def qC : St → Tr (Ex × St)
  | ⟨[(4, .b b4), (10, .vw 10 ms), (11, .i .i64 k), (74, .gs 5 0), (75, .i .i64 n), (76, .i .i64 j)], [((5, 0), .row e 1 os 0)], [(5, 0)], _⟩ =>
    .need (!b4 && (n == (os.length : Int) && (j == 0 && (decide (os.length ≤ 1000000) && (List.range os.length).all fun i => !cC ms os k (i : Int))))) (.leaf (.exit 4, stC e ms os k n (os.length : Int)))
  | _ => .fail
def L8 : Nat → Live := fun r => match r with
  | 3 => ⟨[1, 4, 5, 17, 18, 19], [(5, 0)], [5], some qA⟩
  | 9 => ⟨[4, 5, 36, 37, 38], [(5, 0)], [5], some qB⟩
  | _ => ⟨[4, 10, 11, 74, 75, 76], [(5, 0)], [5], some qC⟩
theorem stepA (xs : List AInst) (ws os : List W32) (n j : Int) (N : Nat) : (atHead (evCode T2 SAM1 L8 118 N (loopOf Tryd.f8 0)) (L8 (firstR (loopOf Tryd.f8 0))) (stA xs ws os n j)).run =
    if decide (j < n) = true then if decide (0 ≤ j) = true then if decide (j < (xs.length : Int)) = true then
      if (if pA xs j = true then decide (os.length + [eR (xs.getD j.toNat (dat0 10))].length ≤ 134217728) else true) = true then
      if (if pA xs j = true then inB 1 (xs.getD j.toNat (dat0 10)).Op 47 else true) = true then
      if (if pA xs j = true then isW (xs.getD j.toNat (dat0 10)).W else true) = true then
        some (.normal, stA xs ws (if pA xs j = true then os ++ [eR (xs.getD j.toNat (dat0 10))] else os) n (IntKind.i64.wrap (j + 1))) else none
    else none else none else none else none else some (.exit 0, stA xs ws os n j) := by kernel_rfl
theorem stepB (ws os : List W32) (n j : Int) (N : Nat) : (atHead (evCode T2 SAM1 L8 118 N (loopOf Tryd.f8 1)) (L8 (firstR (loopOf Tryd.f8 1))) (stB ws os n j)).run =
    if decide (j < n) = true then if decide (0 ≤ j) = true then if decide (j < (ws.length : Int)) = true then
      if (if decide (j < 6) = true then decide (os.length + [ws.getD j.toNat (dat0 1)].length ≤ 134217728) else true) = true then
        some (.normal, stB ws (if decide (j < 6) = true then os ++ [ws.getD j.toNat (dat0 1)] else os) n (IntKind.i64.wrap (j + 1))) else none
    else none else none else some (.exit 2, stB ws os n j) := by kernel_rfl
theorem stepC (e : Nat) (ms : List AInst) (os : List W32) (k n j : Int) (N : Nat) : (atHead (evCode T2 SAM1 L8 118 N (loopOf Tryd.f8 2)) (L8 (firstR (loopOf Tryd.f8 2))) (stC e ms os k n j)).run =
    if decide (j < n) = true then if decide (0 ≤ j) = true then if decide (j < (os.length : Int)) = true then
      if (if (!c0 ms os j) = true then if decide (j < k) = true then decide (0 ≤ j) else true else true) = true then
      if (if (!c0 ms os j) = true then if decide (j < k) = true then decide (j < (ms.length : Int)) else true else true) = true then
      if cC ms os k j = true then some (.ret, stC e ms os k n j) else some (.normal, stC e ms os k n (IntKind.i64.wrap (j + 1)))
    else none else none else none else none else some (.exit 4, stC e ms os k n j) := by kernel_rfl
theorem may_rw {x : AInst} (h : mayI x = true) : inB 1 x.Op 47 = true ∧ isW x.W = true := by
  obtain ⟨op, w, d, n, m, a, imm, off, cond, r, s⟩ := x
  have h : mayA op w d n m a imm off cond r s = true := h
  have hr := may_range h
  refine ⟨?_, (may_w h).1⟩
  show inB 1 op 47 = true
  simp [inB]; omega
theorem pA_may {xs : List AInst} {j : Int} (h : pA xs j = true) : mayI (xs.getD j.toNat (dat0 10)) = true := by
  unfold pA at h
  split at h
  · exact h
  · cases h
theorem loopA (N : Nat) : LoopOk T2 SAM1 L8 118 N (loopOf Tryd.f8 0) := LoopOk2.sub rfl <| by
  intro τ e st hcut hr
  unfold qA at hr
  split at hr
  case h_2 => exact (Tr.of_fail hr).elim
  rename_i ws b4 xs n j os c
  obtain rfl : c = 0 := hcut
  obtain ⟨hc, hr2⟩ := Tr.of_need hr
  clear hr
  simp only [Bool.and_eq_true, beq_iff_eq, decide_eq_true_eq, List.isEmpty_iff, Bool.not_eq_true'] at hc
  obtain ⟨rfl, rfl, rfl, hlen, rfl⟩ := hc
  simp only [Tr.run, Option.some.injEq, Prod.mk.injEq] at hr2
  obtain ⟨rfl, rfl⟩ := hr2
  have rd : ∀ k, k < xs.length → (atHead (evCode T2 SAM1 L8 118 N (loopOf Tryd.f8 0)) (L8 (firstR (loopOf Tryd.f8 0))) (stA xs ws (rowA xs k) (xs.length : Int) (k : Int))).run = some (.normal, stA xs ws (rowA xs (k + 1)) (xs.length : Int) ((k + 1 : Nat) : Int)) := by
    intro k hk
    have hl := (rowA_len xs k).1
    rw [stepA, if_pos (by simpa using hk), if_pos (by simp), if_pos (by simpa using hk), wrap_succ' k (by omega)]
    cases hp : pA xs (k : Int) with
    | false => simp [rowA, hp]
    | true =>
      have hm := pA_may hp
      obtain ⟨m1, m2⟩ := may_rw hm
      rw [if_pos rfl, if_pos rfl, if_pos rfl, if_pos (by simp; omega), if_pos m1, if_pos m2]
      simp only [rowA, hp, if_true, Int.toNat_natCast]
  obtain ⟨n, hn⟩ := iter_from (g := atHead (evCode T2 SAM1 L8 118 N (loopOf Tryd.f8 0)) (L8 (firstR (loopOf Tryd.f8 0)))) (fun k => stA xs ws (rowA xs k) (xs.length : Int) (k : Int)) 0 xs.length (Nat.zero_le _)
    (fun k _ hk => rd k hk) (by rw [stepA, if_neg (by simp)]) (by simp)
  exact ⟨n, _, hn, fun _ _ h => h, rfl, rfl⟩
theorem loopB (N : Nat) : LoopOk T2 SAM1 L8 118 N (loopOf Tryd.f8 1) := LoopOk2.sub rfl <| by
  intro τ e st hcut hr
  unfold qB at hr
  split at hr
  case h_2 => exact (Tr.of_fail hr).elim
  rename_i b4 ws n j os c
  obtain rfl : c = 0 := hcut
  obtain ⟨hc, hr2⟩ := Tr.of_need hr
  clear hr
  simp only [Bool.and_eq_true, beq_iff_eq, decide_eq_true_eq, Bool.not_eq_true'] at hc
  obtain ⟨rfl, rfl, rfl, hlen, hos⟩ := hc
  simp only [Tr.run, Option.some.injEq, Prod.mk.injEq] at hr2
  obtain ⟨rfl, rfl⟩ := hr2
  have rd : ∀ k, k < ws.length → (atHead (evCode T2 SAM1 L8 118 N (loopOf Tryd.f8 1)) (L8 (firstR (loopOf Tryd.f8 1))) (stB ws (rowB ws os k) (ws.length : Int) (k : Int))).run = some (.normal, stB ws (rowB ws os (k + 1)) (ws.length : Int) ((k + 1 : Nat) : Int)) := by
    intro k hk
    have hl := (rowB_len ws os k).1
    rw [stepB, if_pos (by simpa using hk), if_pos (by simp), if_pos (by simpa using hk), wrap_succ' k (by omega)]
    cases hp : decide ((k : Int) < 6) with
    | false => simp only [rowB, hp]; rfl
    | true =>
      rw [if_pos rfl, if_pos (by simp; omega)]
      simp only [rowB, hp, if_true, Int.toNat_natCast]
  obtain ⟨n, hn⟩ := iter_from (g := atHead (evCode T2 SAM1 L8 118 N (loopOf Tryd.f8 1)) (L8 (firstR (loopOf Tryd.f8 1)))) (fun k => stB ws (rowB ws os k) (ws.length : Int) (k : Int)) 0 ws.length (Nat.zero_le _)
    (fun k _ hk => rd k hk) (by rw [stepB, if_neg (by simp)]) (by simp)
  exact ⟨n, _, hn, fun _ _ h => h, rfl, rfl⟩
theorem loopC (N : Nat) : LoopOk T2 SAM1 L8 118 N (loopOf Tryd.f8 2) := LoopOk2.sub rfl <| by
  intro τ ex st hcut hr
  unfold qC at hr
  split at hr
  case h_2 => exact (Tr.of_fail hr).elim
  rename_i b4 ms K n j e os c
  obtain rfl : c = 0 := hcut
  obtain ⟨hc, hr2⟩ := Tr.of_need hr
  clear hr
  simp only [Bool.and_eq_true, beq_iff_eq, decide_eq_true_eq, Bool.not_eq_true', List.all_eq_true, List.mem_range] at hc
  obtain ⟨rfl, rfl, rfl, hlen, hall⟩ := hc
  simp only [Tr.run, Option.some.injEq, Prod.mk.injEq] at hr2
  obtain ⟨rfl, rfl⟩ := hr2
  have rd : ∀ k, k < os.length → (atHead (evCode T2 SAM1 L8 118 N (loopOf Tryd.f8 2)) (L8 (firstR (loopOf Tryd.f8 2))) (stC e ms os K (os.length : Int) (k : Int))).run = some (.normal, stC e ms os K (os.length : Int) ((k + 1 : Nat) : Int)) := by
    intro k hk
    rw [stepC, if_pos (by simpa using hk), if_pos (by simp), if_pos (by simpa using hk), wrap_succ' k (by omega), hall k hk]
    have hb : (if (!c0 ms os (k : Int)) = true then if decide ((k : Int) < K) = true then decide ((k : Int) < (ms.length : Int)) else true else true) = true := by
      cases h0 : c0 ms os (k : Int) with
      | true => rfl
      | false =>
        have : (k : Int) < (ms.length : Int) := by
          unfold c0 at h0
          split at h0
          · cases h0
          · simpa using h0
        simp only [this, decide_true]
        simp
    have ha : (if (!c0 ms os (k : Int)) = true then if decide ((k : Int) < K) = true then decide ((0 : Int) ≤ (k : Int)) else true else true) = true := by simp
    rw [ha, hb]
    rfl
  obtain ⟨n, hn⟩ := iter_from (g := atHead (evCode T2 SAM1 L8 118 N (loopOf Tryd.f8 2)) (L8 (firstR (loopOf Tryd.f8 2)))) (fun k => stC e ms os K (os.length : Int) (k : Int)) 0 os.length (Nat.zero_le _)
    (fun k _ hk => rd k hk) (by rw [stepC, if_neg (by simp)]) (by simp)
  exact ⟨n, _, hn, fun _ _ h => h, rfl, rfl⟩
theorem loops8 : FnLoops T2 SAM1 L8 1 Tryd.f8 := FnLoops.of 3 (by kernel_rfl) (fun j hj => by
  match j, hj with
  | 0, _ => exact loopA 1
  | 1, _ => exact loopB 1
  | 2, _ => exact loopC 1)
theorem eqJ_self (a : AInst) : eqJ a a = true := eqI_self ..
theorem cC_false (V : List W32) (i : Nat) (hi : i < V.length) : cC ((V.takeWhile okD).map decI) V ((V.takeWhile okD).length : Int) (i : Int) = false := by
  obtain ⟨h1, h2, h3, h4, h5, h6⟩ := firstW V okD
  generalize hK : (V.takeWhile okD).length = K at *
  have e1 : V.getD i (dat0 1) = V[i] := getW_at hi
  unfold cC c0
  rw [Int.toNat_natCast, e1]
  rcases Nat.lt_trichotomy i K with h | h | h
  · have hok := h2 i hi h
    have e2 : ((V.takeWhile okD).map decI).getD i (dat0 10) = decI V[i] := by
      rw [← h3, List.getD_eq_getElem?_getD, List.getElem?_map, List.getElem?_take, if_pos h, List.getElem?_eq_getElem hi]
      rfl
    rw [e2, eqJ_self, hok]
    have n1 : ¬ ((K : Int) ≤ (i : Int)) := by omega
    have n2 : ¬ ((i : Int) = (K : Int)) := by omega
    simp [hK, n1, n2]
  · subst h
    have hf := h4 hi
    simp [hf]
  · have n1 : ¬ ((i : Int) < (K : Int)) := by omega
    have n2 : ¬ ((i : Int) = (K : Int)) := by omega
    simp [n1, n2]
def rowV (xs : List AInst) (ws : List W32) : List W32 := rowB ws (rowA xs xs.length) ws.length
theorem rowV_len (xs : List AInst) (ws : List W32) : (rowV xs ws).length ≤ 18 := by
  have h1 := (rowA_len xs xs.length).1
  have h2 := (rowB_len ws (rowA xs xs.length) ws.length).1
  unfold rowV
  omega
theorem run8 (xs : List AInst) (ws : List W32) : (evFn T2 SAM1 L8 1 Tryd.f8 [.vw 10 xs, .vw 1 ws]).run =
    if (true && ((xs.length : Int) == (xs.length : Int) && ((0 : Int) == 0 && (decide (xs.length ≤ 9223372036854775807) && true)))) = true then
    if (true && ((ws.length : Int) == (ws.length : Int) && ((0 : Int) == 0 && (decide (ws.length ≤ 9223372036854775807) && decide ((rowA xs xs.length).length ≤ 12))))) = true then
    if decide ((rowV xs ws).length ≤ 1000000) = true then
    if (if (if (((((rowV xs ws).takeWhile okD).map decI).length : Int) != (((rowV xs ws).takeWhile okD).length : Int)) = true then true else decide (((rowV xs ws).length : Int) < (((rowV xs ws).takeWhile okD).length : Int))) = true then true else !((rowV xs ws).all okD == ((((rowV xs ws).takeWhile okD).length : Int) == ((rowV xs ws).length : Int)))) = true then some (.b false)
    else if (true && (((rowV xs ws).length : Int) == ((rowV xs ws).length : Int) && ((0 : Int) == 0 && (decide ((rowV xs ws).length ≤ 1000000) && (List.range (rowV xs ws).length).all fun i => !cC (((rowV xs ws).takeWhile okD).map decI) (rowV xs ws) (((rowV xs ws).takeWhile okD).length : Int) (i : Int))))) = true then some (.b true) else none
    else none else none else none := by kernel_rfl
theorem lawAllB (xs : List AInst) (ws : List W32) (hx : xs.length ≤ 9223372036854775807) (hw : ws.length ≤ 9223372036854775807) : (evFn T2 SAM1 L8 1 Tryd.f8 [.vw 10 xs, .vw 1 ws]).run = some (.b true) := by
  rw [run8]
  have h1 := (rowA_len xs xs.length).1
  have h2 := rowV_len xs ws
  generalize rowV xs ws = V at *
  have hC : ((List.range V.length).all fun i => !cC ((V.takeWhile okD).map decI) V ((V.takeWhile okD).length : Int) (i : Int)) = true := by
    rw [List.all_eq_true]
    intro i hi
    rw [cC_false V i (List.mem_range.1 hi)]
    rfl
  have d1 : decide (xs.length ≤ 9223372036854775807) = true := decide_eq_true hx
  have d2 : decide (ws.length ≤ 9223372036854775807) = true := decide_eq_true hw
  have d3 : decide ((rowA xs xs.length).length ≤ 12) = true := decide_eq_true h1
  have d4 : decide (V.length ≤ 1000000) = true := by simp; omega
  rw [hC, d1, d2, d3, d4]
  obtain ⟨k1, k2, k3, k4, k5, k6⟩ := firstW V okD
  have b1 : (((((V.takeWhile okD).map decI).length : Int) != ((V.takeWhile okD).length : Int))) = false := by simp
  have b2 : decide ((V.length : Int) < ((V.takeWhile okD).length : Int)) = false := by simp; omega
  have b3 : (!(V.all okD == (((V.takeWhile okD).length : Int) == (V.length : Int)))) = false := by
    cases ha : V.all okD with
    | true => rw [k5 ha]; simp
    | false =>
      have := k6 ha
      have : ¬ (((V.takeWhile okD).length : Int) = (V.length : Int)) := by omega
      simp [this]
  rw [b1, b2, b3]
  simp
theorem ro_len {C : Ctx} {s n : Nat} {g : Nat → List AV} {v : Value} (h : VR C (.ro s n g) v) : n ≤ 9223372036854775807 := by
  cases h with
  | ro hb h hl hc hcap hn => exact hn
  | ro0 => omega
  | roE => omega
theorem lawAllD (xs : List AInst) (ws : List W32) {C : Ctx} {v : Value} (h : VR C (.vw 10 xs) v) {C' : Ctx} {v' : Value} (h' : VR C' (.vw 1 ws) v') : (evFn T2 SAM1 L8 1 Tryd.f8 [.vw 10 xs, .vw 1 ws]).run = some (.b true) :=
  lawAllB xs ws (ro_len (vw_inv h)) (ro_len (vw_inv h'))
end Go.Proofs.YtocfkaihfjbfnaaDoor
