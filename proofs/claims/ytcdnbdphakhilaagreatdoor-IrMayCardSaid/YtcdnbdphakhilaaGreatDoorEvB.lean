/- Lemmas: the symbolic evaluator, second part: regions, code and functions; a function comes to what its evaluation says. No condition. -/
import Derived.Test.YtcdnbdphakhilaaGreatDoorEvM
import Derived.LoopN
import Derived.Scope
import Derived.WideShapes
import Derived.OpenShut
import Derived.ChangeOld
set_option linter.unusedVariables false
set_option linter.unusedSimpArgs false
namespace Go.Proofs.YtcdnbdphakhilaaGreatDoor.Ev

/-! ### What an operation leans on -/
theorem readC_congr {M M' : Key → Option AV} {id : Nat} : ∀ {fuel off n : Nat}, (∀ j, j < n → M (id, off + j) = M' (id, off + j)) → readC M id fuel off n = readC M' id fuel off n
  | 0, off, n, h => by simp [readC]
  | fuel + 1, off, 0, h => by simp [readC]
  | fuel + 1, off, n + 1, h => by
    simp only [readC]
    have h0 := h 0 (by omega)
    rw [Nat.add_zero] at h0
    rw [← h0]
    cases M (id, off) with
    | none => rfl
    | some x =>
      cases hb : Nat.ble x.width (n + 1) with
      | false => simp [hb]
      | true =>
        have hle := Nat.le_of_ble_eq_true hb
        simp only [hb]
        rw [readC_congr (M := M) (M' := M') (fun j hj => by have := h (x.width + j) (by omega); rwa [show off + (x.width + j) = off + x.width + j by omega] at this)]

theorem mem_keysFrom {id off n j : Nat} (h : j < n) : (id, off + j) ∈ keysFrom id off n := by
  unfold keysFrom
  exact List.mem_map.2 ⟨j, List.mem_range.2 h, rfl⟩

theorem fitsW_congr2 {M M' : Key → Option AV} {id : Nat} : ∀ {l : List AV} {off : Nat} {acc : List (Key × AV)}, (∀ k, k ∈ (keysAcc id off l acc).map (·.1) → M k = M' k) → fitsW M id off l = fitsW M' id off l
  | [], off, acc, h => rfl
  | x :: l, off, acc, h => by
    have hk : (id, off) ∈ (keysAcc id off (x :: l) acc).map (·.1) := by
      simp only [keysAcc]
      exact mem_acc (by simp)
    simp only [fitsW]
    rw [h _ hk, fitsW_congr2 (acc := ((id, off), x) :: acc) h]
where
  mem_acc {k : Key} {id : Nat} : ∀ {l : List AV} {off : Nat} {acc : List (Key × AV)}, k ∈ acc.map (·.1) → k ∈ (keysAcc id off l acc).map (·.1)
  | [], _, _, h => h
  | x :: l, off, acc, h => mem_acc (l := l) (by simp at h ⊢; exact .inr h)

theorem evLoad_congr {T : TypeId → Option TyI} {M M' : Key → Option AV} {t : TypeId} {p : AV} {r : OpR} (h : evLoad T M t p = some r) (hM : ∀ k, k ∈ r.rd → M k = M' k) : evLoad T M' t p = some r := by
  unfold evLoad at h ⊢
  cases ht : T t with
  | none => simp [ht] at h
  | some d =>
    simp only [ht] at h ⊢
    cases p with
    | ptr id off =>
      simp only at h ⊢
      cases ha : isAggD d.desc with
      | true =>
        simp only [ha] at h ⊢
        split at h
        · rename_i l hl
          simp only [Option.some.injEq] at h; subst h
          rw [← readC_congr (M := M) (M' := M') (fun j hj => hM _ (mem_keysFrom hj)), hl]
        · simp at h
      | false =>
        simp only [ha] at h ⊢
        split at h
        · rename_i v hv
          split at h
          · rename_i hs
            simp only [Option.some.injEq] at h; subst h
            rw [← hM (id, off) (by simp), hv]
            simp only [hs]
          · simp at h
        · simp at h
    | px id off n i =>
      simp only at h ⊢
      split at h
      · rename_i n' f hf
        split at h
        · rename_i hc
          simp only [Option.some.injEq] at h; subst h
          rw [← hM (id, off) (by simp), hf]
          simp only [hc]
        · simp at h
      · simp at h
    | _ => exact h

theorem evStore_congr {T : TypeId → Option TyI} {M M' : Key → Option AV} {t : TypeId} {p v : AV} {r : OpR} (h : evStore T M t p v = some r) (hM : ∀ k, k ∈ r.rd ∨ k ∈ r.wr.map (·.1) → M k = M' k) : evStore T M' t p v = some r := by
  unfold evStore at h ⊢
  cases ht : T t with
  | none => simp [ht] at h
  | some d =>
    simp only [ht] at h ⊢
    cases p with
    | ptr id off =>
      simp only at h ⊢
      split at h
      · rename_i hc
        simp only [Option.some.injEq] at h; subst h
        rw [← fitsW_congr2 (M := M) (M' := M') (acc := []) (fun k hk => hM k (.inr hk)), hc]
      · simp at h
    | px id off n i =>
      simp only at h ⊢
      split at h
      · rename_i n' f hf
        split at h
        · rename_i hc
          simp only [Option.some.injEq] at h; subst h
          rw [← hM (id, off) (by simp), hf]
          simp only [hc]
        · simp at h
      · simp at h
    | _ => simp at h

theorem mem_rd {os : List (Nat × Nat × List AV)} {x : Nat × Nat × List AV} (hx : x ∈ os) {j : Nat} (hj : j < x.2.1) : (x.1, j) ∈ rdKeys os := by
  unfold rdKeys
  rw [List.mem_flatMap]
  refine ⟨x, hx, ?_⟩
  unfold keysFrom
  exact List.mem_map.2 ⟨j, List.mem_range.2 hj, by simp⟩
theorem ownArgs_congr {ids : List (Nat × Nat)} {M M' : Key → Option AV} : ∀ {vs : List AV} {os : List (Nat × Nat × List AV)}, ownArgs ids M vs = some os → (∀ k ∈ rdKeys os, M k = M' k) → ownArgs ids M' vs = some os
  | [], os, h, hM => h
  | a :: as, os, h, hM => by
    have other : (match bareV a with | true => ownArgs ids M as | false => none) = some os → (match bareV a with | true => ownArgs ids M' as | false => none) = some os := by
      intro h
      split at h
      · exact ownArgs_congr h hM
      · cases h
    cases a with
    | ptr id off =>
      simp only [ownArgs] at h ⊢
      split at h
      · rename_i n hsz
        split at h
        · rename_i l r hall hr hrest
          split at h
          · rename_i hb
            simp only [Option.some.injEq] at h; subst h
            have h1 := ownArgs_congr (M' := M') hrest (fun k hk => hM k (by unfold rdKeys at hk ⊢; rw [List.flatMap_cons]; exact List.mem_append_right _ hk))
            have h2 : readC M' id n 0 n = some l := by
              rw [← hr]
              exact (readC_congr (fun j hj => by rw [Nat.zero_add]; exact hM (id, j) (mem_rd (List.mem_cons_self ..) hj))).symm
            simp only [hall, h2, h1, hb]
          · cases h
        · cases h
      · cases h
    | _ => exact other h
theorem evCall_congr {S : FuncId → CSpec} {ids : List (Nat × Nat)} {M M' : Key → Option AV} {dst : Option Nat} {f : FuncId} {vs : List AV} {r : OpR} (h : evCall S ids M dst f vs = some r) (hM : ∀ k, k ∈ r.rd ∨ k ∈ r.wr.map (·.1) → M k = M' k) : evCall S ids M' dst f vs = some r := by
  unfold evCall at h ⊢
  split at h
  · cases h
  · rename_i hb
    have key : ∀ os, ownArgs ids M vs = some os → (∀ k ∈ rdKeys os, M k = M' k) → ownArgs ids M' vs = some os := fun os h1 h2 => ownArgs_congr h1 h2
    split at h
    · rename_i hos
      have h1 := key [] hos (fun k hk => by cases hk)
      rw [h1]; simp only [hb]; exact h
    · rename_i os hne hos
      have hrd : r.rd = rdKeys os := by
        split at h
        · split at h
          · simp only [Option.some.injEq] at h; subst h; rfl
          · cases h
        · split at h
          · split at h
            · simp only [Option.some.injEq] at h; subst h; rfl
            · cases h
          · cases h
      have h1 := key os hos (fun k hk => hM k (.inl (by rw [hrd]; exact hk)))
      rw [h1]; simp only [hb]
      cases os with
      | nil => exact (hne rfl).elim
      | cons x os => exact h
    · cases h

section
variable {T : TypeId → Option TyI} {S : FuncId → CSpec}

theorem frz_congr {M M' : Key → Option AV} : ∀ {vs : List AV} {bs : List AV} {gs : List (Nat × AV)}, frzArgs M vs = some (bs, gs) → (∀ x, x ∈ gs → M (x.1, 0) = M' (x.1, 0)) → frzArgs M' vs = some (bs, gs)
  | [], bs, gs, h, hM => h
  | a :: as, bs, gs, h, hM => by
    simp only [frzArgs] at h ⊢
    split at h
    · rename_i bs1 gs1 h1
      have sub : ∀ i, i ∈ gs1 → i ∈ gs := by
        intro i hi
        split at h
        · split at h
          · split at h
            · simp only [Option.some.injEq, Prod.mk.injEq] at h
              rw [← h.2]; exact List.mem_cons_of_mem _ hi
            · cases h
          · cases h
        · split at h
          · simp only [Option.some.injEq, Prod.mk.injEq] at h
            rw [← h.2]; exact hi
          · cases h
      rw [frz_congr h1 (fun i hi => hM i (sub i hi))]
      simp only
      split at h
      · rename_i id v
        have hk : ∃ x, x ∈ gs ∧ x.1 = id := by
          split at h
          · split at h
            · simp only [Option.some.injEq, Prod.mk.injEq] at h
              rw [← h.2]; exact ⟨_, List.mem_cons_self .., rfl⟩
            · cases h
          · cases h
        obtain ⟨x, hx, rfl⟩ := hk
        rw [← hM x hx]
        exact h
      · rename_i hno
        cases a <;> first | exact h | exact (hno _ _ rfl).elim
    · cases h
theorem evCallR_congr {M M' : Key → Option AV} {f : FuncId} {vs : List AV} {r : OpR} (h : evCallR S M f vs = some r) (hM : ∀ k, k ∈ r.rd → M k = M' k) : evCallR S M' f vs = some r := by
  unfold evCallR at h ⊢
  split at h
  · rename_i bs gs hlt hf
    have hrd : r.rd = gs.map fun x => (x.1, 0) := by
      split at h
      · split at h
        · simp only [Option.some.injEq] at h; subst h; rfl
        · split at h
          · simp only [Option.some.injEq] at h; subst h; rfl
          · cases h
        · cases h
      · cases h
    have := frz_congr (M' := M') hf (fun i hi => hM _ (by rw [hrd]; exact List.mem_map.2 ⟨i, hi, rfl⟩))
    rw [this, hlt]
    exact h
  · cases h
theorem evCallR_al {M : Key → Option AV} {f : FuncId} {vs : List AV} {r : OpR} (h : evCallR S M f vs = some r) : r.al = [] := by
  unfold evCallR at h
  repeat' (first | (cases h; done) | split at h)
  all_goals (simp only [Option.some.injEq] at h; subst h; rfl)
theorem frzL_congr {M M' : Key → Option AV} : ∀ {l bs : List AV} {gs : List (Nat × AV)}, frzL M l = some (bs, gs) → (∀ x ∈ gs, M (x.1, 0) = M' (x.1, 0)) → frzL M' l = some (bs, gs)
  | [], bs, gs, h, _ => h
  | a :: l, bs, gs, h, hM => by
    simp only [frzL] at h ⊢
    split at h
    · rename_i bs' gs' h1
      have rest : (∀ x ∈ gs', M (x.1, 0) = M' (x.1, 0)) → frzL M' l = some (bs', gs') := frzL_congr h1
      split at h
      · rename_i id v
        split at h
        · rename_i e t xs w hm
          split at h
          · rename_i hb
            simp only [Option.some.injEq, Prod.mk.injEq] at h
            obtain ⟨rfl, rfl⟩ := h
            have e0 := hM _ (List.mem_cons_self ..)
            rw [rest (fun x hx => hM x (List.mem_cons_of_mem _ hx))]
            simp only
            rw [← show M (id, 0) = M' (id, 0) from e0, hm]
            simp only [hb]
          · cases h
        · cases h
      · rename_i hne
        simp only [Option.some.injEq, Prod.mk.injEq] at h
        obtain ⟨rfl, rfl⟩ := h
        rw [rest hM]
    · cases h
theorem frzA_congr {M M' : Key → Option AV} : ∀ {l bs : List AV} {gs : List (Nat × AV)}, frzA M l = some (bs, gs) → (∀ x ∈ gs, M (x.1, 0) = M' (x.1, 0)) → frzA M' l = some (bs, gs)
  | [], bs, gs, h, _ => h
  | a :: l, bs, gs, h, hM => by
    simp only [frzA] at h ⊢
    split at h
    · rename_i bs' gs' h1
      split at h
      · rename_i cs
        split at h
        · rename_i ds hs h2
          simp only [Option.some.injEq, Prod.mk.injEq] at h
          obtain ⟨rfl, rfl⟩ := h
          rw [frzA_congr h1 (fun x hx => hM x (List.mem_append_right _ hx))]
          simp only
          rw [frzL_congr h2 (fun x hx => hM x (List.mem_append_left _ hx))]
        · cases h
      · split at h
        · rename_i d hs h2
          simp only [Option.some.injEq, Prod.mk.injEq] at h
          obtain ⟨rfl, rfl⟩ := h
          rw [frzA_congr h1 (fun x hx => hM x (List.mem_append_right _ hx))]
          simp only
          rw [frzL_congr h2 (fun x hx => hM x (List.mem_append_left _ hx))]
        · cases h
    · cases h
theorem contOf_congr {ids : List (Nat × Nat)} {M M' : Key → Option AV} {id : Nat} {c : AV} (h : contOf ids M id = some c) (h0 : M (id, 0) = M' (id, 0)) (hk : ∀ l, c = .obj l → ∀ j, j < widthC l → M (id, j) = M' (id, j)) : contOf ids M' id = some c := by
  unfold contOf at h ⊢
  rw [← h0]
  split at h
  · exact h
  · rename_i hne
    split at h
    · rename_i n hn
      split at h
      · rename_i l hall hr
        split at h
        · rename_i hw
          simp only [Option.some.injEq] at h; subst h
          have hw : widthC l = n := by simpa using hw
          have : readC M' id n 0 n = some l := by
            rw [← readC_congr (M := M) (fun j hj => ?_)]
            · exact hr
            · rw [Nat.zero_add]; exact hk l rfl j (by omega)
          rw [this]
          simp only [hall, hw, beq_self_eq_true]
        · cases h
      · cases h
    · cases h
theorem reach_acc {ids : List (Nat × Nat)} {M : Key → Option AV} : ∀ {n : Nat} {todo : List Nat} {acc σ : List (Nat × AV)}, reach ids M n todo acc = some σ → ∀ x ∈ acc, x ∈ σ
  | 0, todo, acc, σ, h => by simp [reach] at h
  | n + 1, [], acc, σ, h => by
    simp only [reach, Option.some.injEq] at h; subst h
    exact fun x hx => hx
  | n + 1, id :: rest, acc, σ, h => by
    simp only [reach] at h
    split at h
    · exact reach_acc h
    · split at h
      · exact fun x hx => reach_acc h x (List.mem_append_left _ hx)
      · cases h
theorem reachKeys_mem {σ : List (Nat × AV)} {id : Nat} {c : AV} (h : (id, c) ∈ σ) : (id, 0) ∈ reachKeys σ ∧ ∀ l, c = .obj l → ∀ j, j < widthC l → (id, j) ∈ reachKeys σ := by
  induction σ with
  | nil => cases h
  | cons x r ih =>
    obtain ⟨xi, xc⟩ := x
    rcases List.mem_cons.1 h with e | h
    · cases e
      constructor
      · cases c <;> simp [reachKeys]
      · intro l e j hj
        subst e
        simp only [reachKeys, List.cons_append, List.mem_cons, List.mem_append]
        right; left
        have := mem_keysFrom (id := id) (off := 0) hj
        rwa [Nat.zero_add] at this
    · obtain ⟨g1, g2⟩ := ih h
      have sub : ∀ k, k ∈ reachKeys r → k ∈ reachKeys ((xi, xc) :: r) := fun k hk => by
        cases xc <;> simp [reachKeys, hk]
      exact ⟨sub _ g1, fun l e j hj => sub _ (g2 l e j hj)⟩
theorem reach_congr {ids : List (Nat × Nat)} {M M' : Key → Option AV} : ∀ {n : Nat} {todo : List Nat} {acc σ : List (Nat × AV)}, reach ids M n todo acc = some σ → (∀ k ∈ reachKeys σ, M k = M' k) → reach ids M' n todo acc = some σ
  | 0, todo, acc, σ, h, _ => by simp [reach] at h
  | n + 1, [], acc, σ, h, _ => h
  | n + 1, id :: rest, acc, σ, h, hM => by
    simp only [reach] at h ⊢
    split at h
    · exact reach_congr h hM
    · split at h
      · rename_i c hc
        have hin := reach_acc h (id, c) (List.mem_append_right _ (List.mem_singleton.2 rfl))
        obtain ⟨g1, g2⟩ := reachKeys_mem hin
        rw [contOf_congr hc (hM _ g1) (fun l e j hj => hM _ (g2 l e j hj))]
        exact reach_congr h hM
      · cases h
theorem evCallM_congr {ids : List (Nat × Nat)} {M M' : Key → Option AV} {f : FuncId} {vs : List AV} {r : OpR} (h : evCallM S ids M f vs = some r) (hM : ∀ k, k ∈ r.rd → M k = M' k) : evCallM S ids M' f vs = some r := by
  unfold evCallM at h ⊢
  split at h
  case h_2 => cases h
  rename_i bs gs hlt hfrz
  split at h
  case h_2 => cases h
  rename_i σ hσ
  split at h
  case h_2 => cases h
  rename_i as_ fr hdis has hfr
  split at h
  case h_2 => cases h
  rename_i res hres
  split at h
  case h_2 => cases h
  rename_i wr hwr hbare
  simp only [Option.some.injEq] at h; subst h
  simp only [List.mem_append] at hM
  rw [frzA_congr hfrz (fun x hx => hM _ (.inr (List.mem_map.2 ⟨x, hx, rfl⟩))), hlt]
  simp only
  rw [reach_congr hσ (fun k hk => hM k (.inl hk))]
  simp only [hdis, has, hfr, hres, hwr, hbare]
theorem evCallM_al {ids : List (Nat × Nat)} {M : Key → Option AV} {f : FuncId} {vs : List AV} {r : OpR} (h : evCallM S ids M f vs = some r) : r.al = [] := by
  unfold evCallM at h
  repeat' (first | (cases h; done) | split at h)
  all_goals (simp only [Option.some.injEq] at h; subst h; rfl)
theorem capRo_congr {ids : List (Nat × Nat)} {M M' : Key → Option AV} : ∀ {l bs : List AV} {ks : List Key}, capRo ids M l = some (bs, ks) → (∀ k ∈ ks, M k = M' k) → capRo ids M' l = some (bs, ks)
  | [], bs, ks, h, _ => h
  | a :: l, bs, ks, h, hM => by
    simp only [capRo] at h ⊢
    split at h
    · rename_i bs' ks' h1
      split at h
      · rename_i id off
        split at h
        · rename_i c hc
          split at h
          · rename_i hb
            simp only [Option.some.injEq, Prod.mk.injEq] at h
            obtain ⟨rfl, rfl⟩ := h
            rw [capRo_congr h1 (fun k hk => hM k (List.mem_append_right _ hk))]
            simp only
            rw [contOf_congr hc (hM _ (by simp)) (fun l e j hj => by
              cases e
              have := mem_keysFrom (id := id) (off := 0) hj
              rw [Nat.zero_add] at this
              exact hM _ (by simp [this]))]
            simp only [hb]
          · cases h
        · cases h
      · rename_i hne
        split at h
        · rename_i hb
          simp only [Option.some.injEq, Prod.mk.injEq] at h
          obtain ⟨rfl, rfl⟩ := h
          rw [capRo_congr h1 hM]
        · cases h
    · cases h
theorem cloArgs_congr {ids : List (Nat × Nat)} {M M' : Key → Option AV} : ∀ {l bs : List AV} {ks : List Key}, cloArgs ids M l = some (bs, ks) → (∀ k ∈ ks, M k = M' k) → cloArgs ids M' l = some (bs, ks)
  | [], bs, ks, h, _ => h
  | a :: l, bs, ks, h, hM => by
    simp only [cloArgs] at h ⊢
    split at h
    · rename_i bs' ks' h1
      split at h
      · rename_i f caps
        split at h
        · rename_i cs hs h2
          simp only [Option.some.injEq, Prod.mk.injEq] at h
          obtain ⟨rfl, rfl⟩ := h
          rw [cloArgs_congr h1 (fun k hk => hM k (List.mem_append_right _ hk))]
          simp only
          rw [capRo_congr h2 (fun k hk => hM k (List.mem_append_left _ hk))]
        · cases h
      · rename_i hne
        split at h
        · rename_i hb
          simp only [Option.some.injEq, Prod.mk.injEq] at h
          obtain ⟨rfl, rfl⟩ := h
          rw [cloArgs_congr h1 hM]
        · cases h
    · cases h
theorem evCallK_congr {ids : List (Nat × Nat)} {M M' : Key → Option AV} {f : FuncId} {vs : List AV} {r : OpR} (h : evCallK S ids M f vs = some r) (hM : ∀ k, k ∈ r.rd → M k = M' k) : evCallK S ids M' f vs = some r := by
  unfold evCallK at h ⊢
  split at h
  case h_2 => cases h
  rename_i as_ ks hlt hcl
  split at h
  case h_2 => cases h
  rename_i res hres
  split at h
  case h_2 => cases h
  rename_i hout hflat
  simp only [Option.some.injEq] at h; subst h
  rw [cloArgs_congr hcl hM, hlt]
  simp only [hres, hout, hflat]
theorem evCallK_al {ids : List (Nat × Nat)} {M : Key → Option AV} {f : FuncId} {vs : List AV} {r : OpR} (h : evCallK S ids M f vs = some r) : r.al = [] := by
  unfold evCallK at h
  repeat' (first | (cases h; done) | split at h)
  all_goals (simp only [Option.some.injEq] at h; subst h; rfl)
theorem evCloCall_al {caps : List AV} {f : FuncId} {vs : List AV} {r : OpR} (h : evCloCall S caps vs f = some r) : r.al = [] := by
  unfold evCloCall at h
  repeat' (first | (cases h; done) | split at h)
  all_goals (simp only [Option.some.injEq] at h; subst h; rfl)
theorem evNews_congr {M M' : Key → Option AV} {t : Nat} {y : AV} {ks : List Key} {ys : List (Dat t)} (h : evNews M t y = some (ks, ys)) (hM : ∀ k, k ∈ ks → M k = M' k) : evNews M' t y = some (ks, ys) := by
  cases y with
  | gs id v =>
    simp only [evNews] at h ⊢
    have hk : (id, 0) ∈ ks := by
      split at h
      · split at h
        · split at h
          · simp only [Option.some.injEq, Prod.mk.injEq] at h
            rw [← h.1]; exact List.mem_singleton.2 rfl
          · cases h
        · cases h
      · cases h
    rw [← hM _ hk]; exact h
  | _ => exact h
theorem evAppend_congr {M M' : Key → Option AV} {ts : List TypeId} {vs : List AV} {r : OpR} (h : evAppend T M ts vs = some r) (hM : ∀ k, k ∈ r.rd → M k = M' k) : evAppend T M' ts vs = some r := by
  unfold evAppend at h ⊢
  split at h
  · rename_i tt tt' id v y
    split at h
    · rename_i e t xs w hm
      split at h
      · rename_i he
        split at h
        · rename_i hvt
          have hk0 : (id, 0) ∈ r.rd := by
            unfold evAppendZ at h
            repeat' (first | (cases h; done) | split at h)
            simp only [Option.some.injEq] at h; subst h
            exact List.mem_cons_self ..
          have h6 : M' (id, 0) = some (.row e t xs w) := by rw [← hM (id, 0) hk0]; exact hm
          simp only [h6, he, hvt]
          unfold evAppendZ at h ⊢
          split at h
          · rename_i d ks ys hd hnews
            split at h
            · rename_i e' hdesc
              split at h
              · rename_i de hde
                split at h
                · rename_i hc
                  simp only [Option.some.injEq] at h; subst h
                  have h5 := evNews_congr (M' := M') hnews (fun k hk => hM k (List.mem_cons_of_mem _ hk))
                  simp only [hd, h5, hdesc, hde, hc]
                · cases h
              · cases h
            · cases h
          · cases h
        · cases h
      rename_i hfz
      split at h
      · rename_i d de ks ys h1 h2 h3 h4
        split at h
        · rename_i e' hd
          split at h
          · rename_i hc
            simp only [Option.some.injEq] at h; subst h
            have h5 := evNews_congr (M' := M') h4 (fun k hk => hM k (List.mem_cons_of_mem _ hk))
            have h6 : M' (id, 0) = some (.row e t xs w) := by rw [← hM (id, 0) (List.mem_cons_self ..)]; exact hm
            rw [hfz] at h1
            simp only [h6, hfz, h1, h2, h3, h5, hd, hc]
          · cases h
        · cases h
      · cases h
    · cases h
  · cases h
theorem evOwnLen_congr {M M' : Key → Option AV} {ts : List TypeId} {vs : List AV} {r : OpR} (h : evOwnLen T M ts vs = some r) (hM : ∀ k, k ∈ r.rd → M k = M' k) : evOwnLen T M' ts vs = some r := by
  unfold evOwnLen at h ⊢
  split at h
  · rename_i t rest id v
    split at h
    · rename_i d e k xs w h1 hm
      split at h
      · rename_i e' h2 h3
        simp only [Option.some.injEq] at h; subst h
        have h6 : M' (id, 0) = some (.row e k xs w) := by rw [← hM (id, 0) (List.mem_singleton.2 rfl)]; exact hm
        simp only [h6, h1, h2, h3]
      · cases h
    · cases h
  · cases h
theorem evOwnAddr_congr {M M' : Key → Option AV} {t : TypeId} {x ix : AV} {r : OpR} (h : evOwnAddr T t M x ix = some r) (hM : ∀ k, k ∈ r.rd → M k = M' k) : evOwnAddr T t M' x ix = some r := by
  unfold evOwnAddr at h ⊢
  split at h
  · rename_i id v i d h1 h2
    split at h
    · rename_i e0 k xs w e hm hd
      split at h
      · rename_i de hde
        split at h
        · rename_i hc
          simp only [Option.some.injEq] at h; subst h
          have h6 : M' (id, 0) = some (.row e0 k xs w) := by rw [← hM (id, 0) (List.mem_singleton.2 rfl)]; exact hm
          simp only [h1, h2, h6, hd, hde, hc]
        · cases h
      · cases h
    · cases h
  · cases h
theorem evOwnLoad_congr {M M' : Key → Option AV} {t : TypeId} {p : AV} {r : OpR} (h : evOwnLoad T M t p = some r) (hM : ∀ k, k ∈ r.rd → M k = M' k) : evOwnLoad T M' t p = some r := by
  unfold evOwnLoad at h ⊢
  split at h
  · rename_i id v sz i off
    split at h
    · rename_i e k xs w d hm ht
      split at h
      · rename_i r' h1 h2
        simp only [Option.some.injEq] at h; subst h
        have h6 : M' (id, 0) = some (.row e k xs w) := by rw [← hM (id, 0) (List.mem_singleton.2 rfl)]; exact hm
        simp only [h6, ht, h1, h2]
      · cases h
    · cases h
  · cases h
theorem evOwn_al {M : Key → Option AV} {b : Builtin} {ts : List TypeId} {vs : List AV} {r : OpR} (h : evOwnBuiltin T M b ts vs = some r) : r.al = [] := by
  unfold evOwnBuiltin at h
  split at h
  · unfold evAppend evAppendZ at h
    repeat' (first | (cases h; done) | split at h)
    all_goals (simp only [Option.some.injEq] at h; subst h; rfl)
  · unfold evOwnLen at h
    repeat' (first | (cases h; done) | split at h)
    all_goals (simp only [Option.some.injEq] at h; subst h; rfl)
  · cases h
theorem evOwnAddr_al {M : Key → Option AV} {t : TypeId} {x ix : AV} {r : OpR} (h : evOwnAddr T t M x ix = some r) : r.al = [] := by
  unfold evOwnAddr at h
  repeat' (first | (cases h; done) | split at h)
  all_goals (simp only [Option.some.injEq] at h; subst h; rfl)
theorem evOwnLoad_al {M : Key → Option AV} {t : TypeId} {p : AV} {r : OpR} (h : evOwnLoad T M t p = some r) : r.al = [] := by
  unfold evOwnLoad at h
  repeat' (first | (cases h; done) | split at h)
  all_goals (simp only [Option.some.injEq] at h; subst h; rfl)
theorem evBirth_al {ids : List (Nat × Nat)} {M : Key → Option AV} {dst : Option Nat} {t : TypeId} {r : OpR} (h : evBirth T ids M dst t = some r) : ∀ id n, (id, n) ∈ r.al → dst = some id ∧ sizeIn ids id = none := by
  intro id n hm
  unfold evBirth at h
  split at h
  · split at h
    · split at h
      · split at h
        · simp only [Option.some.injEq] at h; subst h
          simp only [List.mem_singleton, Prod.mk.injEq] at hm
          obtain ⟨rfl, _⟩ := hm
          exact ⟨rfl, by assumption⟩
        · split at h
          · simp only [Option.some.injEq] at h; subst h; cases hm
          · simp only [Option.some.injEq] at h; subst h; cases hm
        · cases h
      · cases h
    · cases h
  · cases h
theorem evBirth_congr {ids : List (Nat × Nat)} {M M' : Key → Option AV} {dst : Option Nat} {t : TypeId} {x : Option OpR} (h : evBirth T ids M dst t = x) (hM : ∀ r k, x = some r → k ∈ r.rd → M k = M' k) : evBirth T ids M' dst t = x := by
  subst h
  unfold evBirth at hM ⊢
  cases hd : T t with
  | none => rfl
  | some d =>
    cases dst with
    | none => rfl
    | some id =>
      simp only [hd] at hM ⊢
      cases he : d.desc with
      | slice e =>
        simp only [he] at hM ⊢
        cases hde : T e with
        | none => rfl
        | some de =>
          simp only [hde] at hM ⊢
          cases hk : kindZ de.zero with
          | none => rfl
          | some k =>
            cases hz : sizeIn ids id with
            | none => rfl
            | some n =>
              simp only [hk, hz] at hM ⊢
              have hk0 : M (id, 0) = M' (id, 0) := by
                split at hM
                · exact hM _ (id, 0) rfl (List.mem_singleton.2 rfl)
                · exact hM _ (id, 0) rfl (List.mem_singleton.2 rfl)
              rw [hk0]
      | _ => rfl

theorem evOp_congr {ids : List (Nat × Nat)} {Ev : Operand → Option AV} {Ep : Bool → Operand → Operand → Option AV} {M M' : Key → Option AV} {o : Oper} {r : OpR} (h : evOp T S ids Ev Ep M o = some r) (hM : ∀ k, k ∈ r.rd ∨ k ∈ r.wr.map (·.1) → M k = M' k) :
    evOp T S ids Ev Ep M' o = some r := by
  unfold evOp at h ⊢
  cases hop : o.op with
  | assign x =>
    simp only [hop] at h ⊢
    have key : ∀ {y : Option OpR}, evBirth T ids M o.dst o.type = y → (∀ r' k, isNilC x = true → y = some r' → k ∈ r'.rd → M k = M' k) → isNilC x = true → evBirth T ids M' o.dst o.type = y := fun h1 h2 h3 => evBirth_congr h1 (fun r' k e hk => h2 r' k h3 e hk)
    cases hn : isNilC x with
    | false => rw [hn] at h; exact h
    | true =>
      cases hb : evBirth T ids M o.dst o.type with
      | some r' =>
        rw [hn, hb] at h
        simp only [Option.some.injEq] at h; subst h
        rw [key hb (fun r2 k _ e hk => by cases e; exact hM k (.inl hk)) hn]
      | none =>
        rw [hn, hb] at h
        rw [key hb (fun r2 k _ e hk => by cases e) hn]
        exact h
  | load t x =>
    simp only [hop] at h ⊢
    split at h
    · rename_i p hp
      split at h
      · exact evOwnLoad_congr h (fun k hk => hM k (.inl hk))
      · exact evLoad_congr h (fun k hk => hM k (.inl hk))
    · simp at h
  | indexAddr t x ix =>
    simp only [hop] at h ⊢
    split at h
    · split at h
      · exact evOwnAddr_congr h (fun k hk => hM k (.inl hk))
      · exact h
    · simp at h
  | store t x y =>
    simp only [hop] at h ⊢
    split at h
    · rename_i p v hp hv
      split at h
      · rename_i r0 hr0
        simp only [Option.some.injEq] at h; subst h
        rw [evStore_congr hr0 (fun k hk => hM k (again_rd hk))]
        show some (again T M' t p r0) = _
        rw [again_congr (M := M) (M' := M') hM]
      · simp at h
    · simp at h
  | call c =>
    simp only [hop] at h ⊢
    split at h
    · split at h
      · split at h
        · exact evCallM_congr h (fun k hk => hM k (.inl hk))
        split at h
        · exact evCallK_congr h (fun k hk => hM k (.inl hk))
        split at h
        · exact evCallR_congr h (fun k hk => hM k (.inl hk))
        · exact evCall_congr h hM
      · exact h
      · split at h
        · rename_i b hb hown
          unfold evOwnBuiltin at h ⊢
          split at h
          · exact evAppend_congr h (fun k hk => hM k (.inl hk))
          · exact evOwnLen_congr h (fun k hk => hM k (.inl hk))
          · cases h
        · exact h
      · exact h
    · simp at h
  | slice t x lo hi mx =>
    simp only [hop] at h ⊢
    split at h
    · split at h
      · split at h
        · unfold evOwnSlice at h ⊢
          split at h
          · rename_i id ver hE0 last0
            split at h
            · rename_i e k xs w hm
              split at h
              · rename_i r0 hc hr0
                simp only [Option.some.injEq] at h; subst h
                have h6 : M' (id, 0) = some (.row e k xs w) := by rw [← hM (id, 0) (.inl (List.mem_cons_self ..))]; exact hm
                simp only [h6, hc, hr0]
              · cases h
            · cases h
          · cases h
        · exact h
      · cases h
    · cases h
  | next x str =>
    simp only [hop] at h ⊢
    split at h
    · rename_i id hx
      have hk : M (id, 0) = M' (id, 0) := by
        split at h
        · split at h
          · split at h
            · simp only [Option.some.injEq] at h; subst h; exact hM _ (.inl (List.mem_singleton.2 rfl))
            · cases h
          · simp only [Option.some.injEq] at h; subst h; exact hM _ (.inl (List.mem_singleton.2 rfl))
        · cases h
      rw [← hk]; exact h
    · cases h
  | _ => simp only [hop] at h ⊢; exact h

theorem evOp_al {ids : List (Nat × Nat)} {Ev : Operand → Option AV} {Ep : Bool → Operand → Operand → Option AV} {M : Key → Option AV} {o : Oper} {r : OpR} (h : evOp T S ids Ev Ep M o = some r) : ∀ id n, (id, n) ∈ r.al → (∃ d, o.dst = some d ∧ id % subN = d % subN) ∧ sizeIn ids id = none := by
  intro id n hm
  have hval : ∀ v : AV, val v = some r → False := fun v hv => by simp only [val, Option.some.injEq] at hv; subst hv; simp at hm
  have hvalN : ∀ c (v : AV), valN c v = some r → False := fun c v hv => by simp only [valN, Option.some.injEq] at hv; subst hv; simp at hm
  unfold evOp at h
  split at h
  case h_2 x hop =>
    split at h
    · rename_i r' hn hb
      simp only [Option.some.injEq] at h; subst h
      have := evBirth_al hb id n hm
      exact ⟨⟨id, this.1, rfl⟩, this.2⟩
    · exfalso
      repeat' (first | (exact hval _ h) | (cases h; done) | split at h)
  case h_16 t hop =>
    split at h
    · rename_i d id' hd hdst
      split at h
      · rename_i hs
        simp only [Option.some.injEq] at h; subst h
        rcases List.mem_cons.1 hm with e | hm
        · cases e; exact ⟨⟨_, hdst, rfl⟩, hs⟩
        · obtain ⟨⟨off, e⟩, h2, _⟩ := bornAll_al hm
          exact ⟨⟨_, hdst, by rw [show id = _ from e]; exact ridOf_mod⟩, h2⟩
      · simp at h
    · simp at h
  case h_17 t x hop =>
    split at h
    · rename_i v id' hv hdst
      split at h
      · rename_i hs hc
        simp only [Option.some.injEq] at h; subst h
        rcases List.mem_cons.1 hm with e | hm
        · cases e; exact ⟨⟨_, hdst, rfl⟩, hs⟩
        · obtain ⟨⟨off, e⟩, h2, _⟩ := bornAll_al hm
          exact ⟨⟨_, hdst, by rw [show id = _ from e]; exact ridOf_mod⟩, h2⟩
      · simp at h
    · simp at h
  case h_18 c hop =>
    split at h
    · split at h
      · split at h
        · rw [evCallM_al h] at hm; cases hm
        split at h
        · rw [evCallK_al h] at hm; cases hm
        split at h
        · rw [evCallR_al h] at hm; cases hm
        unfold evCall at h
        repeat' (first | (cases h; done) | split at h)
        all_goals (simp only [Option.some.injEq] at h; subst h; simp at hm)
        rw [hm.1]; exact ⟨⟨_, by assumption, rfl⟩, by assumption⟩
      · split at h
        · rw [evCloCall_al h] at hm; cases hm
        · cases h
      · exfalso
        split at h
        · rw [evOwn_al h] at hm; cases hm
        · unfold evBuiltin at h
          repeat' (first | (exact hval _ h) | (cases h; done) | split at h)
      · cases h
    · cases h
  case h_20 t x hop =>
    split at h
    · rename_i d s id' hd hx hdst
      split at h
      · rename_i hs hc
        simp only [Option.some.injEq] at h; subst h
        simp at hm; rw [hm.1]; exact ⟨⟨_, hdst, rfl⟩, hc⟩
      · simp at h
    · simp at h
  case h_19 t n ps hop =>
    split at h
    · split at h
      · unfold evBuildPtrs at h
        repeat' (first | (cases h; done) | split at h)
        simp only [Option.some.injEq] at h; subst h
        simp at hm
        rw [hm.1]; exact ⟨⟨_, by assumption, rfl⟩, by assumption⟩
      · exfalso
        split at h
        case h_2 => cases h
        rename_i r0 hr0
        simp only [Option.some.injEq] at h; subst h
        have hal : r0.al = [] := by
          unfold evBuildSlice at hr0
          repeat' (first | (cases hr0; done) | split at hr0)
          simp only [val, Option.some.injEq] at hr0; subst hr0; rfl
        simp only [packR] at hm
        rw [hal] at hm; cases hm
    · cases h
  all_goals exfalso
  case h_21 x str hop =>
    repeat' (first | (cases h; done) | split at h)
    all_goals (simp only [Option.some.injEq] at h; subst h; simp at hm)
  case h_8 t x hop =>
    split at h
    · split at h
      · rw [evOwnLoad_al h] at hm; cases hm
      · unfold evLoad at h
        repeat' (first | (exact hval _ h) | (cases h; done) | split at h)
        all_goals (simp only [Option.some.injEq] at h; subst h; simp at hm)
    · cases h
  case h_9 t x y hop =>
    split at h
    · split at h
      · rename_i r0 hr0
        simp only [Option.some.injEq] at h; subst h
        rw [again_al] at hm
        unfold evStore at hr0
        repeat' (first | (exact hval _ hr0) | (cases hr0; done) | split at hr0)
        all_goals (simp only [Option.some.injEq] at hr0; subst hr0; simp at hm)
      · cases h
    · cases h
  case h_10 t x f hop =>
    split at h
    · unfold evFieldAddr at h
      repeat' (first | (exact hval _ h) | (cases h; done) | split at h)
    · cases h
  case h_11 t x f hop =>
    split at h
    · unfold evField at h
      repeat' (first | (exact hval _ h) | (cases h; done) | split at h)
    · cases h
  case h_12 t x ix hop =>
    split at h
    · split at h
      · rw [evOwnAddr_al h] at hm; cases hm
      · unfold evIndexAddr at h
        repeat' (first | (exact hvalN _ _ h) | (cases h; done) | split at h)
    · cases h
  case h_13 t x ix hop =>
    split at h
    · unfold evIndex at h
      repeat' (first | (exact hvalN _ _ h) | (cases h; done) | split at h)
    · cases h
  case h_15 t ps hop =>
    split at h
    · unfold evBuild at h
      repeat' (first | (exact hval _ h) | (cases h; done) | split at h)
    · cases h
  case h_23 t x lo hi mx hop =>
    split at h
    · split at h
      · split at h
        · unfold evOwnSlice at h
          repeat' (first | (cases h; done) | split at h)
          simp only [Option.some.injEq] at h; subst h; simp at hm
        · unfold evSlice at h
          repeat' (first | (exact hvalN _ _ h) | (cases h; done) | split at h)
      · cases h
    · cases h
  all_goals repeat' (first | (exact hval _ h) | (exact hvalN _ _ h) | (cases h; done) | split at h)
end
end Go.Proofs.YtcdnbdphakhilaaGreatDoor.Ev
namespace Go.Proofs.YtcdnbdphakhilaaGreatDoor.Ev
section
variable {T : TypeId → Option TyI} {S : FuncId → CSpec}

/-- One step of a region's evaluation, told. -/
structure StepOf (T : TypeId → Option TyI) (S : FuncId → CSpec) (ops : List Oper) (i : Nat) (o : Oper) (s : RS) (ctx : Chain) (r : OpR) (s' : RS) : Prop where
  cx : ctxOf s ops i o.guard = some ctx
  ev : evOp T S s.ids (evOpd s ctx) (pickOpd s ops i ctx) (look s.mem) o = some r
  base : s'.base = s.base
  vals : s'.vals = match o.dst with | some d => (d, ctx, r.v) :: s.vals | none => s.vals
  mem : s'.mem = r.wr ++ s.mem
  ids : s'.ids = r.al ++ s.ids
  log : s'.log = (r.rd, r.wr.map (·.1)) :: s.log
  free : o.guard = none → s'.needs = r.pre ++ s.needs
  bound : ∀ g, o.guard = some g → (r.wr = [] ∨ FrzW (look s.mem) r.wr) ∧ r.al = [] ∧ ∃ bs, guardB s ops ctx = some bs ∧ s'.needs = r.pre.map (impl bs) ++ s.needs

theorem evStep_of {ops : List Oper} {i : Nat} {o : Oper} {s s' : RS} (h : evStep T S ops i o s = some s') : ∃ ctx r, StepOf T S ops i o s ctx r s' := by
  unfold evStep at h
  split at h
  · simp at h
  · rename_i ctx hctx
    split at h
    · simp at h
    · rename_i r hr
      refine ⟨ctx, r, ?_⟩
      split at h
      · rename_i hg
        simp only [Option.some.injEq] at h; subst h
        have hc : ctx = [] := by rw [hg] at hctx; simpa [ctxOf] using hctx.symm
        subst hc
        exact ⟨hctx, hr, rfl, by cases o.dst <;> rfl, rfl, rfl, rfl, (fun _ => rfl), fun g hg' => by rw [hg] at hg'; cases hg'⟩
      · rename_i g hg
        split at h
        · rename_i d bs hw ha hd hb
          simp only [Option.some.injEq] at h; subst h
          have hw' : r.wr = [] ∨ FrzW (look s.mem) r.wr := by
            rcases Bool.or_eq_true _ _ ▸ hw with h1 | h1
            · exact .inl (List.isEmpty_iff.1 h1)
            · exact .inr (quiet_frz hr h1)
          exact ⟨hctx, hr, rfl, by rw [hd], rfl, by rw [ha]; rfl, rfl, (fun hg' => by rw [hg] at hg'; cases hg'), fun _ _ => ⟨hw', ha, bs, hb, rfl⟩⟩
        · simp at h

theorem evOps_of {ops : List Oper} : ∀ {rest : List Oper} {i : Nat} {s s' : RS}, evOps T S ops i rest s = some s' →
    ∃ (f : Nat → RS) (cx : Nat → Chain) (r : Nat → OpR), f 0 = s ∧ f rest.length = s' ∧ ∀ k o, rest[k]? = some o → StepOf T S ops (i + k) o (f k) (cx k) (r k) (f (k + 1))
  | [], i, s, s', h => by
    simp only [evOps, Option.some.injEq] at h; subst h
    exact ⟨fun _ => s, fun _ => [], fun _ => ⟨[], .poison, [], [], []⟩, rfl, rfl, fun k o hk => by simp at hk⟩
  | o :: rest, i, s, s', h => by
    simp only [evOps] at h
    split at h
    · rename_i s1 h1
      obtain ⟨ctx, r0, hs⟩ := evStep_of h1
      obtain ⟨f, cx, r, e1, e2, e3⟩ := evOps_of h
      refine ⟨fun k => match k with | 0 => s | k + 1 => f k, fun k => match k with | 0 => ctx | k + 1 => cx k, fun k => match k with | 0 => r0 | k + 1 => r k, rfl, e2, ?_⟩
      intro k o' hk
      cases k with
      | zero =>
        simp only [List.getElem?_cons_zero, Option.some.injEq] at hk; subst hk
        simp only [Nat.add_zero]
        rw [e1]; exact hs
      | succ k =>
        simp only [List.getElem?_cons_succ] at hk
        have := e3 k o' hk
        rw [show i + (k + 1) = i + 1 + k by omega]
        exact this
    · simp at h

/-- A region's evaluation as a whole. -/
structure Trace (T : TypeId → Option TyI) (S : FuncId → CSpec) (ops : List Oper) (f : Nat → RS) (cx : Nat → Chain) (r : Nat → OpR) : Prop where
  step : ∀ i o, ops[i]? = some o → StepOf T S ops i o (f i) (cx i) (r i) (f (i + 1))
  vals0 : (f 0).vals = []
  needs0 : (f 0).needs = []
  nodup : nodupD (ops.filterMap (·.dst)) = true
  low : ∀ (j : Nat) (o : Oper) (d : Nat), ops[j]? = some o → o.dst = some d → d < subN

theorem nodup_dst : ∀ {ops : List Oper}, nodupD (ops.filterMap (·.dst)) = true → ∀ {i j : Nat} {o o' : Oper} {d : Nat}, ops[i]? = some o → ops[j]? = some o' → o.dst = some d → o'.dst = some d → i = j
  | [], _, i, j, o, o', d, hi, hj, h1, h2 => by simp at hi
  | x :: ops, h, i, j, o, o', d, hi, hj, h1, h2 => by
    have hmem : ∀ {k : Nat} {y : Oper}, ops[k]? = some y → y.dst = some d → d ∈ ops.filterMap (·.dst) := fun hk hy => List.mem_filterMap.2 ⟨_, List.mem_of_getElem? hk, hy⟩
    have htail : nodupD (ops.filterMap (·.dst)) = true := by
      cases hx : x.dst with
      | none => simpa [List.filterMap_cons, hx] using h
      | some e =>
        simp only [List.filterMap_cons, hx, nodupD, Bool.and_eq_true] at h
        exact h.2
    have hhead : x.dst = some d → d ∉ ops.filterMap (·.dst) := fun hx => by
      simp only [List.filterMap_cons, hx, nodupD, Bool.and_eq_true, Bool.not_eq_true', List.contains_eq_mem, decide_eq_false_iff_not] at h
      exact h.1
    cases i with
    | zero =>
      cases j with
      | zero => rfl
      | succ j =>
        simp only [List.getElem?_cons_zero, Option.some.injEq] at hi; subst hi
        simp only [List.getElem?_cons_succ] at hj
        exact (hhead h1 (hmem hj h2)).elim
    | succ i =>
      simp only [List.getElem?_cons_succ] at hi
      cases j with
      | zero =>
        simp only [List.getElem?_cons_zero, Option.some.injEq] at hj; subst hj
        exact (hhead h2 (hmem hi h1)).elim
      | succ j =>
        simp only [List.getElem?_cons_succ] at hj
        rw [nodup_dst htail hi hj h1 h2]

section
variable {ops : List Oper} {f : Nat → RS} {cx : Nat → Chain} {r : Nat → OpR}

theorem op_at {i : Nat} (h : i < ops.length) : ∃ o, ops[i]? = some o := ⟨ops[i], by simp [h]⟩

theorem Trace.base (t : Trace T S ops f cx r) : ∀ i, i ≤ ops.length → (f i).base = (f 0).base
  | 0, _ => rfl
  | i + 1, h => by
    obtain ⟨o, ho⟩ := op_at (ops := ops) (i := i) (by omega)
    rw [(t.step i o ho).base, t.base i (by omega)]

theorem Trace.look_some (t : Trace T S ops f cx r) {d : Nat} {g : Chain} {v : AV} : ∀ i, i ≤ ops.length → lookG (f i).vals d = some (g, v) → ∃ j o, j < i ∧ ops[j]? = some o ∧ o.dst = some d ∧ g = cx j ∧ v = (r j).v
  | 0, _, h => by rw [t.vals0] at h; simp [lookG] at h
  | i + 1, hi, h => by
    obtain ⟨o, ho⟩ := op_at (ops := ops) (i := i) (by omega)
    rw [(t.step i o ho).vals] at h
    cases hd : o.dst with
    | none =>
      simp only [hd] at h
      obtain ⟨j, o', h1, h2⟩ := t.look_some i (by omega) h
      exact ⟨j, o', by omega, h2⟩
    | some e =>
      simp only [hd, lookG] at h
      cases he : e == d with
      | true =>
        simp only [he, Option.some.injEq, Prod.mk.injEq] at h
        have : e = d := by simpa using he
        subst this
        exact ⟨i, o, by omega, ho, hd, h.1.symm, h.2.symm⟩
      | false =>
        simp only [he] at h
        obtain ⟨j, o', h1, h2⟩ := t.look_some i (by omega) h
        exact ⟨j, o', by omega, h2⟩

theorem Trace.look_none (t : Trace T S ops f cx r) {d : Nat} : ∀ i, i ≤ ops.length → lookG (f i).vals d = none → ∀ j o, j < i → ops[j]? = some o → o.dst ≠ some d
  | 0, _, h => fun j o hj => by omega
  | i + 1, hi, h => by
    intro j o hj ho hd
    obtain ⟨o', ho'⟩ := op_at (ops := ops) (i := i) (by omega)
    rw [(t.step i o' ho').vals] at h
    by_cases e : j = i
    · subst e
      rw [ho'] at ho
      simp only [Option.some.injEq] at ho; subst ho
      simp [hd, lookG] at h
    · have h' : lookG (f i).vals d = none := by
        cases hd' : o'.dst with
        | none => simpa [hd'] using h
        | some e =>
          simp only [hd', lookG] at h
          cases he : e == d with
          | true => simp [he] at h
          | false => simpa [he] using h
      exact t.look_none i (by omega) h' j o (by omega) ho hd

theorem Trace.needs (t : Trace T S ops f cx r) {c : Bool} : ∀ i k, i + k ≤ ops.length → c ∈ (f i).needs → c ∈ (f (i + k)).needs
  | i, 0, _, h => h
  | i, k + 1, hk, h => by
    have h1 := t.needs i k (by omega) h
    obtain ⟨o, ho⟩ := op_at (ops := ops) (i := i + k) (by omega)
    have hs := t.step _ o ho
    rw [show i + (k + 1) = i + k + 1 by omega]
    cases hg : o.guard with
    | none => rw [hs.free hg]; exact List.mem_append_right _ h1
    | some g =>
      obtain ⟨_, _, bs, _, e⟩ := hs.bound g hg
      rw [e]; exact List.mem_append_right _ h1

/-- Does a test hold? -/
def beta (r : Nat → OpR) (x : Nat × Bool) : Bool := match (r x.1).v with
  | .b y => match x.2 with
    | true => y
    | false => !y
  | _ => false

def want (cx : Nat → Chain) (r : Nat → OpR) (i : Nat) : Bool := (cx i).all (beta r)

theorem Trace.guardB_eq (t : Trace T S ops f cx r) {i : Nat} (hi : i ≤ ops.length) : ∀ {c : Chain} {bs : List Bool}, guardB (f i) ops c = some bs → bs = c.map (beta r)
  | [], bs, h => by simp [guardB] at h; subst h; rfl
  | (j, p) :: c, bs, h => by
    simp only [guardB] at h
    split at h
    · rename_i d bs' hd hb
      split at h
      · rename_i g x hx
        simp only [Option.some.injEq] at h; subst h
        obtain ⟨j', o', h1, h2, h3, h4, h5⟩ := t.look_some i hi hx
        unfold dstAt at hd
        split at hd
        · rename_i o ho
          have := nodup_dst t.nodup ho h2 hd h3
          subst this
          rw [List.map_cons, t.guardB_eq hi hb]
          simp only [beta, ← h5]
          cases p <;> rfl
        · simp at hd
      · simp at h
    · simp at h

theorem Trace.ctx_some (t : Trace T S ops f cx r) {i : Nat} {o : Oper} (ho : ops[i]? = some o) {j : Nat} {p : Bool} (hg : o.guard = some (j, p)) :
    ∃ o' d x, j < i ∧ ops[j]? = some o' ∧ o'.dst = some d ∧ cx i = (j, p) :: cx j ∧ (r j).v = .b x := by
  have hi : i < ops.length := by
    rcases Nat.lt_or_ge i ops.length with h | h
    · exact h
    · rw [List.getElem?_eq_none h] at ho; cases ho
  have h := (t.step i o ho).cx
  rw [hg] at h
  simp only [ctxOf] at h
  split at h
  · rename_i d hlt hd
    split at h
    · rename_i c x hx
      simp only [Option.some.injEq] at h
      obtain ⟨j', o', h1, h2, h3, h4, h5⟩ := t.look_some i (by omega) hx
      unfold dstAt at hd
      split at hd
      · rename_i o2 ho2
        have := nodup_dst t.nodup ho2 h2 hd h3
        subst this
        have hlt' : j < i := by have := Nat.le_of_ble_eq_true (show Nat.ble (j + 1) i = true from hlt); omega
        exact ⟨o2, d, x, hlt', ho2, hd, by rw [← h, h4], h5.symm⟩
      · simp at hd
    · simp at h
  · simp at h

theorem Trace.ctx_none (t : Trace T S ops f cx r) {i : Nat} {o : Oper} (ho : ops[i]? = some o) (hg : o.guard = none) : cx i = [] := by
  have h := (t.step i o ho).cx
  rw [hg] at h
  simpa [ctxOf] using h.symm

theorem impl_all : ∀ {bs : List Bool} {c : Bool}, impl bs c = true → (∀ b ∈ bs, b = true) → c = true
  | [], c, h, _ => h
  | b :: bs, c, h, hb => by
    have := hb b (by simp)
    subst this
    simp only [impl, if_true] at h
    exact impl_all h (fun x hx => hb x (by simp [hx]))

/-- What an operation asks holds, where it is wanted. -/
theorem Trace.pre (t : Trace T S ops f cx r) (hn : ∀ c ∈ (f ops.length).needs, c = true) {i : Nat} {o : Oper} (ho : ops[i]? = some o) (hw : want cx r i = true) : ∀ c ∈ (r i).pre, c = true := by
  have hi : i < ops.length := by
    rcases Nat.lt_or_ge i ops.length with h | h
    · exact h
    · rw [List.getElem?_eq_none h] at ho; cases ho
  intro c hc
  have hs := t.step i o ho
  have hall : ∀ c ∈ (f (i + 1)).needs, c = true := fun c hc => hn c (by
    have := t.needs (i + 1) (ops.length - (i + 1)) (by omega) hc
    rwa [show i + 1 + (ops.length - (i + 1)) = ops.length by omega] at this)
  cases hg : o.guard with
  | none => exact hall c (by rw [hs.free hg]; exact List.mem_append_left _ hc)
  | some g =>
    obtain ⟨_, _, bs, hb, e⟩ := hs.bound g hg
    have h1 := hall (impl bs c) (by rw [e]; exact List.mem_append_left _ (List.mem_map.2 ⟨c, hc, rfl⟩))
    refine impl_all h1 (fun b hbm => ?_)
    rw [t.guardB_eq (by omega) hb] at hbm
    obtain ⟨x, hx, rfl⟩ := List.mem_map.1 hbm
    exact List.all_eq_true.1 hw x hx

end
end
end Go.Proofs.YtcdnbdphakhilaaGreatDoor.Ev
namespace Go.Proofs.YtcdnbdphakhilaaGreatDoor.Ev

theorem ofVal_VR (C : Ctx) (v : Value) : VR C (ofVal v) v := by
  unfold ofVal
  split
  · rename_i k n
    unfold mkI
    split
    · rename_i h
      simp only [Bool.and_eq_true, decide_eq_true_eq] at h
      have hh : k.has n := h
      cases hk : isU k with
      | none => exact .i hk hh
      | some w =>
        simp only
        have := wrap_u hk n
        rw [wrap_of_has hh] at this
        rw [this]
        have e : BitVec.ofInt w ((BitVec.ofInt w n).toNat : Int) = BitVec.ofInt w n := ofInt_toNat _
        rw [e]
        exact .u hk
    · exact .poison _
  · exact .b _
  · exact .nilp
  · exact .nils
  · rename_i s
    split
    · rename_i h
      have hl := Nat.le_of_ble_eq_true h
      have : s = ⟨s.data.toList.toArray⟩ := by cases s; simp
      rw [this]
      simpa using VR.str (C := C) s.data.toList hl
    · exact .poison _
  · exact .poison _

/-- The memory, once some operations have come up. -/
def memAt (M : Key → Option AV) (r : Nat → OpR) (D : Nat → Bool) : Nat → Key → Option AV
  | 0 => M
  | n + 1 => if D n = true then updK (memAt M r D n) (r n).wr else memAt M r D n

theorem updK_other {M : Key → Option AV} {ks : List (Key × AV)} {k : Key} (h : k ∉ ks.map (·.1)) : updK M ks k = M k := by
  unfold updK
  have : look ks k = none := by
    induction ks with
    | nil => rfl
    | cons x ks ih =>
      obtain ⟨k', v⟩ := x
      simp only [List.map_cons, List.mem_cons, not_or] at h
      simp only [look]
      have : (k' == k) = false := by simpa using fun e => h.1 e.symm
      rw [this]
      exact ih h.2
  rw [this]

theorem updK_same {M M' : Key → Option AV} {ks : List (Key × AV)} {k : Key} (h : k ∈ ks.map (·.1)) : updK M ks k = updK M' ks k := by
  unfold updK
  have : ∃ v, look ks k = some v := by
    induction ks with
    | nil => simp at h
    | cons x ks ih =>
      obtain ⟨k', v⟩ := x
      simp only [look]
      cases e : k' == k with
      | true => exact ⟨v, rfl⟩
      | false =>
        simp only [List.map_cons, List.mem_cons] at h
        rcases h with h | h
        · subst h; simp at e
        · exact ih h
  obtain ⟨v, hv⟩ := this
  rw [hv]

theorem memAt_eq {M : Key → Option AV} {r : Nat → OpR} {D D' : Nat → Bool} {k : Key} : ∀ {n : Nat}, (∀ j, j < n → k ∈ (r j).wr.map (·.1) → D j = D' j) → memAt M r D n k = memAt M r D' n k
  | 0, _ => rfl
  | n + 1, h => by
    have ih := memAt_eq (M := M) (r := r) (D := D) (D' := D') (k := k) (n := n) (fun j hj => h j (by omega))
    simp only [memAt]
    by_cases hk : k ∈ (r n).wr.map (·.1)
    · rw [h n (by omega) hk]
      split
      · exact updK_same hk
      · exact ih
    · split <;> split <;> simp only [updK_other hk, ih]

theorem memAt_ins {M : Key → Option AV} {r : Nat → OpR} {D : Nat → Bool} {i : Nat} {k : Key} (hi : D i = false) : ∀ {n : Nat}, i < n → (∀ j, i < j → j < n → D j = true → k ∈ (r i).wr.map (·.1) → k ∉ (r j).wr.map (·.1)) →
    memAt M r (fun j => D j || j == i) n k = updK (memAt M r D n) (r i).wr k
  | 0, h, _ => by omega
  | n + 1, hin, h => by
    by_cases e : i = n
    · subst e
      have e1 : memAt M r (fun j => D j || j == i) i k = memAt M r D i k := memAt_eq (fun j hj _ => by
        have : (j == i) = false := by simpa using Nat.ne_of_lt hj
        simp [this])
      simp only [memAt, hi, Bool.false_or, beq_self_eq_true, if_true, Bool.false_eq_true, if_false]
      by_cases hk : k ∈ (r i).wr.map (·.1)
      · exact updK_same hk
      · rw [updK_other hk, updK_other hk, e1]
    · have hlt : i < n := by omega
      have ih := memAt_ins (M := M) hi (n := n) hlt (fun j h1 h2 => h j h1 (by omega))
      have hne : (n == i) = false := by simpa using fun e' => e e'.symm
      simp only [memAt, hne, Bool.or_false]
      by_cases hd : D n = true
      · simp only [hd, if_true]
        by_cases hk : k ∈ (r i).wr.map (·.1)
        · have hkn := h n hlt (by omega) hd hk
          rw [updK_other hkn, ih]
          exact updK_same hk
        · rw [updK_other hk] at ih ⊢
          by_cases hkn : k ∈ (r n).wr.map (·.1)
          · exact updK_same hkn
          · rw [updK_other hkn, updK_other hkn, ih]
      · simp only [hd, if_false]
        exact ih

section
variable {P : Program} {T : TypeId → Option TyI} {S : FuncId → CSpec} {w0 : World} {E : Ent} {R0 : Nat → Prop}

/-- Where a region's evaluation stands, once some operations have come up. -/
structure RInv [Glob] (w0 : World) (E : Ent) (R0 : Nat → Prop) (nt : Nat) (ops : List Oper) (f : Nat → RS) (cx : Nat → Chain) (r : Nat → OpR) (D : Nat → Bool) (a : Act) (C : Ctx) : Prop where
  size : a.tmps.size = nt
  defers : a.defers = []
  base : ∀ t v, look (f 0).base t = some v → (∀ j o, D j = true → ops[j]? = some o → o.dst ≠ some t) → VR C v (a.tmps.getD t undef)
  vals : ∀ j o d, D j = true → ops[j]? = some o → o.dst = some d → (want cx r j = true → VR C (r j).v (a.tmps.getD d undef)) ∧ (want cx r j = false → a.tmps.getD d undef = undef)
  sr : SR w0 E R0 (memAt (look (f 0).mem) r D ops.length) C
  kn : ∀ id b n, E.K id b n → nt ≤ id
  ids : ∀ i, C.has i → (i, C.sz i) ∈ (f 0).ids ∨ ∃ j, D j = true ∧ j < ops.length ∧ (i, C.sz i) ∈ (r j).al

/-- What must have come up ahead of an operation, and what may not have. -/
structure Turn (ops : List Oper) (r : Nat → OpR) (D : Nat → Bool) (i : Nat) (o : Oper) : Prop where
  un : D i = false
  before : ∀ j o', j < i → ops[j]? = some o' → (∃ d, o'.dst = some d ∧ (d ∈ opSlots o ∨ ∃ p, o.guard = some (j, p))) → D j = true
  behind : ∀ j o' d, i < j → ops[j]? = some o' → o'.dst = some d → d ∈ opSlots o → D j = false
  memB : ∀ j k, j < i → k ∈ (r j).wr.map (·.1) → (k ∈ (r i).rd ∨ k ∈ (r i).wr.map (·.1)) → D j = true
  memA : ∀ j k, i < j → j < ops.length → k ∈ (r j).wr.map (·.1) → (k ∈ (r i).rd ∨ k ∈ (r i).wr.map (·.1)) → D j = false

theorem mem_of_look {l : List (Nat × Nat)} {i : Nat} : sizeIn l i = none → ∀ n, (i, n) ∉ l := by
  intro h n hm
  unfold sizeIn at h
  rw [List.lookup_eq_none_iff] at h
  have := h _ hm
  simp at this

theorem ids_mono {ops : List Oper} {f : Nat → RS} {cx : Nat → Chain} {r : Nat → OpR} (t : Trace T S ops f cx r) {x : Nat × Nat} (hx : x ∈ (f 0).ids) : ∀ i, i ≤ ops.length → x ∈ (f i).ids
  | 0, _ => hx
  | i + 1, h => by
    obtain ⟨o, ho⟩ := op_at (ops := ops) (i := i) (by omega)
    rw [(t.step i o ho).ids]
    exact List.mem_append_right _ (ids_mono t hx i (by omega))

theorem mem_text {ops : List Oper} {f : Nat → RS} {cx : Nat → Chain} {r : Nat → OpR} (t : Trace T S ops f cx r) (k : Key) : ∀ i, i ≤ ops.length → look (f i).mem k = memAt (look (f 0).mem) r (fun j => decide (j < i)) i k
  | 0, _ => rfl
  | i + 1, h => by
    obtain ⟨o, ho⟩ := op_at (ops := ops) (i := i) (by omega)
    rw [(t.step i o ho).mem, look_app]
    have e : memAt (look (f 0).mem) r (fun j => decide (j < i + 1)) i k = memAt (look (f 0).mem) r (fun j => decide (j < i)) i k := memAt_eq (fun j hj _ => by
      simp; omega)
    have ih := mem_text t k i (by omega)
    simp only [memAt, Nat.lt_succ_self, decide_true, if_true]
    by_cases hk : k ∈ (r i).wr.map (·.1)
    · exact updK_same hk
    · rw [updK_other hk, updK_other hk, ih, e]

theorem memAt_cut {M : Key → Option AV} {r : Nat → OpR} {D : Nat → Bool} {k : Key} {i : Nat} : ∀ {n : Nat}, i ≤ n → (∀ j, i ≤ j → j < n → k ∈ (r j).wr.map (·.1) → D j = false) → memAt M r D n k = memAt M r D i k
  | 0, h, _ => by have : i = 0 := by omega
                  subst this; rfl
  | n + 1, h, hd => by
    by_cases e : i = n + 1
    · subst e; rfl
    · have ih := memAt_cut (M := M) (r := r) (D := D) (k := k) (i := i) (n := n) (by omega) (fun j h1 h2 => hd j h1 (by omega))
      simp only [memAt]
      by_cases hk : k ∈ (r n).wr.map (·.1)
      · have := hd n (by omega) (by omega) hk
        simp [this, ih]
      · split
        · rw [updK_other hk, ih]
        · exact ih

end
end Go.Proofs.YtcdnbdphakhilaaGreatDoor.Ev
namespace Go.Proofs.YtcdnbdphakhilaaGreatDoor.Ev
section
variable {P : Program} {T : TypeId → Option TyI} {S : FuncId → CSpec} {w0 : World} {E : Ent} {R0 : Nat → Prop}

theorem put_size (a : Act) (d : Option Nat) (v : Value) : (a.put d v).tmps.size = a.tmps.size := by cases d <;> simp [Act.put]
theorem put_defers' (a : Act) (d : Option Nat) (v : Value) : (a.put d v).defers = a.defers := by cases d <;> rfl
theorem put_other {a : Act} {d : Option Nat} {v : Value} {t : Nat} (h : d ≠ some t) : (a.put d v).tmps.getD t undef = a.tmps.getD t undef := by
  cases d with
  | none => rfl
  | some d =>
    have hne : d ≠ t := fun e => h (by rw [e])
    simp [Act.put, Array.getD_eq_getD_getElem?, Array.getElem?_setIfInBounds_ne hne]
theorem put_same {a : Act} {d : Nat} {v : Value} (h : d < a.tmps.size) : (a.put (some d) v).tmps.getD d undef = v := by
  simp [Act.put, Array.getD_eq_getD_getElem?, h]

theorem subC_mem {c ctx : Chain} (h : subC c ctx = true) : ∀ x ∈ c, x ∈ ctx := by
  intro x hx
  have := List.all_eq_true.1 h x hx
  simpa using this

theorem posDst_some {ops : List Oper} {t : Nat} : ∀ {n j : Nat}, posDst ops t n = some j → j < n ∧ ∃ o, ops[j]? = some o ∧ o.dst = some t
  | 0, j, h => by simp [posDst] at h
  | n + 1, j, h => by
    simp only [posDst] at h
    split at h
    · rename_i hd
      simp only [Option.some.injEq] at h; subst h
      simp only [beq_iff_eq] at hd
      unfold dstAt at hd
      split at hd
      · rename_i o ho; exact ⟨by omega, o, ho, hd⟩
      · cases hd
    · obtain ⟨h1, h2⟩ := posDst_some h
      exact ⟨by omega, h2⟩

variable {ops : List Oper} {f : Nat → RS} {cx : Nat → Chain} {r : Nat → OpR} {nt : Nat}

/-- An operand, as the evaluation has it and as it stands. -/
theorem opd_VR [Glob] (t : Trace T S ops f cx r) {D : Nat → Bool} {a : Act} {C : Ctx} {i : Nat} {o : Oper} (ho : ops[i]? = some o) (tu : Turn ops r D i o) (inv : RInv w0 E R0 nt ops f cx r D a C) {ctx : Chain} (hctx : ∀ x ∈ ctx, beta r x = true)
    {x : Operand} {v : AV} (hx : x ∈ o.op.operands) (h : evOpd (f i) ctx x = some v) : VR C v (a.eval x) := by
  have hi : i < ops.length := by
    rcases Nat.lt_or_ge i ops.length with h | h
    · exact h
    · rw [List.getElem?_eq_none h] at ho; cases ho
  cases x with
  | tmp d =>
    have hsl : d ∈ opSlots o := by
      unfold opSlots
      exact List.mem_filterMap.2 ⟨.tmp d, by simpa using hx, rfl⟩
    simp only [evOpd] at h
    split at h
    · rename_i g u hg
      split at h
      · rename_i hs
        simp only [Option.some.injEq] at h; subst h
        obtain ⟨j, o', h1, h2, h3, h4, h5⟩ := t.look_some i (by omega) hg
        have hD := tu.before j o' h1 h2 ⟨d, h3, .inl hsl⟩
        have hw : want cx r j = true := by
          unfold want
          rw [List.all_eq_true]
          intro y hy
          exact hctx y (subC_mem hs y (by rw [h4]; exact hy))
        rw [h5]
        exact (inv.vals j o' d hD h2 h3).1 hw
      · simp at h
    · rename_i hg
      rw [t.base i (by omega)] at h
      refine inv.base d v h (fun j o' hD h2 h3 => ?_)
      rcases Nat.lt_trichotomy j i with hlt | heq | hgt
      · exact t.look_none i (by omega) hg j o' hlt h2 h3
      · subst heq; rw [tu.un] at hD; cases hD
      · rw [tu.behind j o' d hgt h2 h3 hsl] at hD; cases hD
  | const v' =>
    simp only [evOpd, Option.some.injEq] at h; subst h
    exact ofVal_VR C v'
  | global g => simp [evOpd] at h
  | func g =>
    simp only [evOpd, Option.some.injEq] at h; subst h
    exact .clo .nil

theorem wanted_eq [Glob] (t : Trace T S ops f cx r) {D : Nat → Bool} {a : Act} {C : Ctx} {i : Nat} {o : Oper} (ho : ops[i]? = some o) (tu : Turn ops r D i o) (inv : RInv w0 E R0 nt ops f cx r D a C) (hdst : ∀ (j : Nat) (o : Oper) (d : Nat), ops[j]? = some o → o.dst = some d → d < nt) :
    Region.wanted o (yielded ops.toArray a.tmps) = want cx r i := by
  unfold Region.wanted
  cases hg : o.guard with
  | none => simp [want, t.ctx_none ho hg]
  | some jp =>
    obtain ⟨j, p⟩ := jp
    obtain ⟨o', d, x, h1, h2, h3, h4, h5⟩ := t.ctx_some ho hg
    have hD := tu.before j o' h1 h2 ⟨d, h3, .inr ⟨p, hg⟩⟩
    obtain ⟨k1, k2⟩ := inv.vals j o' d hD h2 h3
    have hd : d < a.tmps.size := by rw [inv.size]; exact hdst j o' d h2 h3
    have hy : yielded ops.toArray a.tmps j = match a.tmps.getD d undef with | .bool b => some b | _ => none := by
      unfold yielded
      simp only [List.getElem?_toArray, h2, Option.bind_some, h3]
      rw [Array.getD_eq_getD_getElem?, Array.getElem?_eq_getElem hd]
      simp
      split <;> simp_all
    have hwi : want cx r i = (beta r (j, p) && want cx r j) := by simp [want, h4]
    rw [hwi]
    simp only
    cases hw : want cx r j with
    | true =>
      have hv := k1 hw
      rw [h5] at hv
      generalize hX : a.tmps.getD d undef = X at hv hy
      cases hv
      rw [hy]
      simp only [beta, h5, Bool.and_true]
      cases p <;> cases x <;> rfl
    | false =>
      rw [hy, k2 hw]
      simp [undef]

theorem ids_mono2 (t : Trace T S ops f cx r) {x : Nat × Nat} {j : Nat} (hx : x ∈ (f j).ids) : ∀ k, j + k ≤ ops.length → x ∈ (f (j + k)).ids
  | 0, _ => hx
  | k + 1, h => by
    obtain ⟨o, ho⟩ := op_at (ops := ops) (i := j + k) (by omega)
    rw [show j + (k + 1) = j + k + 1 by omega, (t.step _ o ho).ids]
    exact List.mem_append_right _ (ids_mono2 t hx k (by omega))

theorem mem_sizeIn {l : List (Nat × Nat)} {id n : Nat} (h : sizeIn l id = some n) : (id, n) ∈ l := by
  unfold sizeIn at h
  induction l with
  | nil => simp at h
  | cons x l ih =>
    rw [List.lookup_cons] at h
    cases e : id == x.1 with
    | true =>
      simp only [e, Option.some.injEq] at h
      have : id = x.1 := by simpa using e
      subst this; subst h
      exact List.mem_cons_self ..
    | false =>
      simp only [e] at h
      exact List.mem_cons_of_mem _ (ih h)
theorem entry_eq {l : List (Nat × Nat)} {id n m : Nat} (h : l.all (fun x => !(x.1 == id) || x.2 == n) = true) (hm : (id, m) ∈ l) : m = n := by
  have := List.all_eq_true.1 h _ hm
  simpa using this

theorem region_step [Glob] (hT : TyOk P T) (hS : ∀ f, FnOk P f (S f)) (t : Trace T S ops f cx r) (hn : ∀ c ∈ (f ops.length).needs, c = true) (hdst : ∀ (j : Nat) (o : Oper) (d : Nat), ops[j]? = some o → o.dst = some d → d < nt)
    {D : Nat → Bool} {a : Act} {C : Ctx} {i : Nat} {o : Oper} (ho : ops[i]? = some o) (tu : Turn ops r D i o) (inv : RInv w0 E R0 nt ops f cx r D a C) {K : Act → World → Prop} {Q : Exit → Act → World → Prop}
    (hK : ∀ a' C', RInv w0 E R0 nt ops f cx r (fun j => D j || j == i) a' C' → K a' C'.w) : wpOp P ops.toArray Q i K a C.w := by
  have hi : i < ops.length := by
    rcases Nat.lt_or_ge i ops.length with h | h
    · exact h
    · rw [List.getElem?_eq_none h] at ho; cases ho
  have hs := t.step i o ho
  have hmemtext : ∀ k, k ∈ (r i).rd ∨ k ∈ (r i).wr.map (·.1) → look (f i).mem k = memAt (look (f 0).mem) r D ops.length k := by
    intro k hk
    rw [mem_text t k i (by omega), memAt_cut (i := i) (n := ops.length) (by omega) (fun j h1 h2 hw => by
      rcases Nat.lt_or_eq_of_le h1 with h | h
      · exact tu.memA j k h h2 hw hk
      · rw [← h]; exact tu.un)]
    exact memAt_eq (fun j hj hw => by rw [tu.memB j k hj hw hk]; simpa using hj)
  have hput : ∀ (v : Value) (C' : Ctx), C.Le C' → (want cx r i = true → VR C' (r i).v v) → (want cx r i = false → v = undef) → SR w0 E R0 (updK (memAt (look (f 0).mem) r D ops.length) (r i).wr) C' → (∀ j, C'.has j → (C.has j ∧ C'.sz j = C.sz j) ∨ (j, C'.sz j) ∈ (r i).al) →
      RInv w0 E R0 nt ops f cx r (fun j => D j || j == i) (a.put o.dst v) C' := by
    intro v C' hle hv1 hv2 hsr hdom
    refine ⟨by rw [put_size]; exact inv.size, by rw [put_defers']; exact inv.defers, ?_, ?_, ?_, inv.kn, ?_⟩
    · intro t' u hu hno
      have h1 : o.dst ≠ some t' := hno i o (by simp) ho
      rw [put_other h1]
      exact (inv.base t' u hu (fun j o' hD => hno j o' (by simp [hD]))).mono hle
    · intro j o' d hD hj hd
      by_cases e : j = i
      · subst e
        rw [ho] at hj
        simp only [Option.some.injEq] at hj; subst hj
        rw [hd, put_same (by rw [inv.size]; exact hdst _ _ _ ho hd)]
        exact ⟨hv1, hv2⟩
      · have hne : o.dst ≠ some d := fun e' => e (nodup_dst t.nodup hj ho hd e')
        rw [put_other hne]
        have hD' : D j = true := by simpa [e] using hD
        obtain ⟨k1, k2⟩ := inv.vals j o' d hD' hj hd
        exact ⟨fun h => (k1 h).mono hle, k2⟩
    · have : memAt (look (f 0).mem) r (fun j => D j || j == i) ops.length = updK (memAt (look (f 0).mem) r D ops.length) (r i).wr := by
        funext k
        exact memAt_ins tu.un hi (fun j h1 h2 hD hk hkj => by rw [tu.memA j k h1 h2 hkj (.inr hk)] at hD; cases hD)
      rw [this]; exact hsr
    · intro j hj
      rcases hdom j hj with ⟨h, hs'⟩ | h
      · rw [hs']
        rcases inv.ids j h with h | ⟨j', h1, h2, h3⟩
        · exact .inl h
        · exact .inr ⟨j', by simp [h1], h2, h3⟩
      · exact .inr ⟨i, by simp, hi, h⟩
  unfold wpOp
  have hget : ops.toArray[i]? = some o := by simpa using ho
  rw [hget]
  simp only
  rw [wanted_eq t ho tu inv hdst]
  cases hw : want cx r i with
  | false =>
    simp only [Bool.false_eq_true, if_false]
    have hg : ∃ g, o.guard = some g := by
      cases hg : o.guard with
      | none => rw [want, t.ctx_none ho hg] at hw; simp at hw
      | some g => exact ⟨g, rfl⟩
    obtain ⟨g, hg⟩ := hg
    obtain ⟨h1, h2, _⟩ := hs.bound g hg
    rcases h1 with h1 | ⟨gs, h1, h3⟩
    · exact hK _ C (hput undef C (.refl C) (fun h => by rw [hw] at h; cases h) (fun _ => rfl) (by rw [h1]; exact inv.sr) (fun j hj => .inl ⟨hj, rfl⟩))
    · have h4 : FrzOk (memAt (look (f 0).mem) r D ops.length) gs := by
        intro x hx
        obtain ⟨k1, k2⟩ := h3 x hx
        refine ⟨k1, ?_⟩
        rw [← hmemtext (x.1, 0) (.inr (by rw [h1, List.map_map]; exact List.mem_map.2 ⟨x, hx, rfl⟩))]
        exact k2
      have haft := frz_after inv.sr h4
      exact hK _ (frzC C (gs.map (·.1))) (hput undef _ haft.le (fun h => by rw [hw] at h; cases h) (fun _ => rfl) (by rw [h1]; exact haft.sr) (fun j hj => by
        rcases haft.dom j hj with h5 | h5
        · exact .inl h5
        · cases h5))
  | true =>
    simp only [if_true]
    left
    have hctx : ∀ x ∈ cx i, beta r x = true := fun x hx => List.all_eq_true.1 hw x hx
    refine evOp_wp hT hS (ids := (f i).ids) (Ev := evOpd (f i) (cx i)) (Ep := pickOpd (f i) ops i (cx i)) (r := r i) ?_ ?_ ?_ ?_ ?_ inv.sr (evOp_congr hs.ev hmemtext) (t.pre hn ho hw) ?_
    · intro d id hd hor hsz hdm
      rcases inv.ids id hdm with hm | ⟨j, h1, h2, h3⟩
      · exact mem_of_look hsz _ (ids_mono t hm i (by omega))
      · obtain ⟨o', ho'⟩ := op_at h2
        obtain ⟨d', hd', hor'⟩ := (evOp_al (t.step j o' ho').ev id _ h3).1
        have l1 := t.low _ _ _ ho hd
        have l2 := t.low _ _ _ ho' hd'
        have m1 : id % subN = d := hor.trans (Nat.mod_eq_of_lt l1)
        have m2 : id % subN = d' := hor'.trans (Nat.mod_eq_of_lt l2)
        have e := nodup_dst t.nodup ho' ho hd' (by rw [← m2, m1]; exact hd)
        subst e
        rw [tu.un] at h1; cases h1
    · intro id hd b n hk
      have h1 := hdst i o id ho hd
      have h2 := inv.kn id b n hk
      omega
    · intro id n hsz hall hdm
      rcases inv.ids id (.inl hdm) with hm | ⟨j, h1, h2, h3⟩
      · exact entry_eq hall (ids_mono t hm i (by omega))
      · obtain ⟨o', ho'⟩ := op_at h2
        rcases Nat.lt_trichotomy j i with hlt | e | hgt
        · have : (id, C.sz id) ∈ (f (j + 1)).ids := by rw [(t.step j o' ho').ids]; exact List.mem_append_left _ h3
          have := ids_mono2 t this (i - (j + 1)) (by omega)
          rw [show j + 1 + (i - (j + 1)) = i by omega] at this
          exact entry_eq hall this
        · subst e
          rw [tu.un] at h1; cases h1
        · have hn := (evOp_al (t.step j o' ho').ev id _ h3).2
          have := ids_mono2 t (mem_sizeIn hsz) (j - i) (by omega)
          rw [show i + (j - i) = j by omega] at this
          exact absurd this (mem_of_look hn n)
    · intro x v hx hv
      exact opd_VR t ho tu inv hctx hx hv
    · intro c A B hop x hc
      have hA : A ∈ o.op.operands := by simp [hop, Op.operands]
      have hB : B ∈ o.op.operands := by simp [hop, Op.operands]
      have key : ∀ (p : Bool), (p = x) → ∀ (y : Operand) (v : AV), y ∈ o.op.operands → pickOpd (f i) ops i (cx i) p c y = some v → VR C v (a.eval y) := by
        intro p hp y v hy hv
        unfold pickOpd at hv
        split at hv
        · rename_i d
          split at hv
          · rename_i j hj
            obtain ⟨h1, o', h2, h3⟩ := posDst_some hj
            refine opd_VR t ho tu inv (ctx := (j, p) :: cx i) ?_ hy hv
            intro z hz
            rcases List.mem_cons.1 hz with rfl | hz
            · simp only [evOpd] at hc
              split at hc
              · rename_i g u hg
                split at hc
                · simp only [Option.some.injEq] at hc; subst hc
                  obtain ⟨j', o2, k1, k2, k3, k4, k5⟩ := t.look_some i (by omega) hg
                  have := nodup_dst t.nodup h2 k2 h3 k3
                  subst this
                  simp only [beta, ← k5]
                  subst hp
                  cases p <;> rfl
                · simp at hc
              · rename_i hg
                exact (t.look_none i (by omega) hg j o' h1 h2 h3).elim
            · exact hctx z hz
          · exact opd_VR t ho tu inv hctx hy hv
        · exact opd_VR t ho tu inv hctx hy hv
      exact ⟨fun e va hva => key true e.symm A va hA hva, fun e vb hvb => key false e.symm B vb hB hvb⟩
    · intro v C' haft
      exact hK _ C' (hput v C' haft.le (fun _ => haft.res) (fun h => by rw [hw] at h; cases h) haft.sr haft.dom)

end
end Go.Proofs.YtcdnbdphakhilaaGreatDoor.Ev
namespace Go.Proofs.YtcdnbdphakhilaaGreatDoor.Ev
section
variable {P : Program} {T : TypeId → Option TyI} {S : FuncId → CSpec} {w0 : World} {E : Ent} {R0 : Nat → Prop}
variable {ops : List Oper} {f : Nat → RS} {cx : Nat → Chain} {r : Nat → OpR} {nt cu : Nat}

/-- Where a code's evaluation stands. -/
structure CInv [Glob] (w0 : World) (E : Ent) (R0 : Nat → Prop) (nt : Nat) (st : St) (a : Act) (C : Ctx) : Prop where
  size : a.tmps.size = nt
  defers : a.defers = []
  env : ∀ t v, look st.env t = some v → VR C v (a.tmps.getD t undef)
  sr : SR w0 E R0 (look st.mem) C
  kn : ∀ id b n, E.K id b n → nt ≤ id
  ids : ∀ i, C.has i → (i, C.sz i) ∈ st.ids

theorem memAt_none {M : Key → Option AV} {r : Nat → OpR} : ∀ n, memAt M r (fun _ => false) n = M
  | 0 => rfl
  | n + 1 => by simp [memAt, memAt_none n]

theorem finEnv_look {base : List (Nat × AV)} {t : Nat} {v : AV} : ∀ {vals : List (Nat × Chain × AV)}, look (finEnv base vals) t = some v →
    (lookG vals t = some ([], v)) ∨ (∃ c g u, lookG vals t = some (c :: g, u) ∧ v = .poison) ∨ (lookG vals t = none ∧ look base t = some v)
  | [], h => .inr (.inr ⟨rfl, h⟩)
  | (d, g, u) :: vals, h => by
    simp only [finEnv, look] at h
    simp only [lookG]
    cases hd : d == t with
    | true =>
      simp only [hd, Option.some.injEq] at h
      cases g with
      | nil => simp only at h; subst h; exact .inl rfl
      | cons c g => simp only at h; subst h; exact .inr (.inl ⟨c, g, u, rfl, rfl⟩)
    | false =>
      simp only [hd] at h
      exact finEnv_look h

/-- All have come up. -/
theorem RInv.done [Glob] (t : Trace T S ops f cx r) {D : Nat → Bool} {a : Act} {C : Ctx} (hD : ∀ j, j < ops.length → D j = true) (inv : RInv w0 E R0 nt ops f cx r D a C) :
    CInv w0 E R0 nt ⟨finEnv (f ops.length).base (f ops.length).vals, (f ops.length).mem, (f ops.length).ids, cu⟩ a C := by
  refine ⟨inv.size, inv.defers, ?_, ?_, inv.kn, ?_⟩
  · intro d v hv
    rcases finEnv_look hv with h | ⟨c, g, u, h, rfl⟩ | ⟨h1, h2⟩
    · obtain ⟨j, o, h1, h2, h3, h4, h5⟩ := t.look_some ops.length (Nat.le_refl _) h
      rw [h5]
      exact (inv.vals j o d (hD j h1) h2 h3).1 (by rw [want, ← h4]; rfl)
    · exact .poison _
    · rw [t.base ops.length (Nat.le_refl _)] at h2
      refine inv.base d v h2 (fun j o _ hj => t.look_none ops.length (Nat.le_refl _) h1 j o ?_ hj)
      rcases Nat.lt_or_ge j ops.length with h | h
      · exact h
      · rw [List.getElem?_eq_none h] at hj; cases hj
  · have : look (f ops.length).mem = memAt (look (f 0).mem) r D ops.length := by
      funext k
      rw [mem_text t k ops.length (Nat.le_refl _)]
      exact memAt_eq (fun j hj _ => by rw [hD j hj]; simpa using hj)
    rw [this]; exact inv.sr
  · intro i hi
    rcases inv.ids i hi with h | ⟨j, h1, h2, h3⟩
    · exact ids_mono t h ops.length (Nat.le_refl _)
    · obtain ⟨o, ho⟩ := op_at h2
      have : (i, C.sz i) ∈ (f (j + 1)).ids := by rw [(t.step j o ho).ids]; exact List.mem_append_left _ h3
      have := ids_mono2 t this (ops.length - (j + 1)) (by omega)
      rwa [show j + 1 + (ops.length - (j + 1)) = ops.length by omega] at this

theorem RInv.start [Glob] {st : St} {a : Act} {C : Ctx} (inv : CInv w0 E R0 nt st a C) (h0 : f 0 = ⟨st.env, [], st.mem, st.ids, [], []⟩) : RInv w0 E R0 nt ops f cx r (fun _ => false) a C := by
  refine ⟨inv.size, inv.defers, ?_, (fun j o d h => by simp at h), ?_, inv.kn, ?_⟩
  · intro t v hv _
    rw [h0] at hv
    exact inv.env t v hv
  · rw [memAt_none, h0]; exact inv.sr
  · intro i hi
    rw [h0]
    exact .inl (inv.ids i hi)

/-- In the text's order. -/
theorem region_seq [Glob] (hT : TyOk P T) (hS : ∀ f, FnOk P f (S f)) (t : Trace T S ops f cx r) (hn : ∀ c ∈ (f ops.length).needs, c = true) (hdst : ∀ (j : Nat) (o : Oper) (d : Nat), ops[j]? = some o → o.dst = some d → d < nt) {Q : Exit → Act → World → Prop}
    (hQ : ∀ a C, CInv w0 E R0 nt ⟨finEnv (f ops.length).base (f ops.length).vals, (f ops.length).mem, (f ops.length).ids, cu⟩ a C → Q .normal a C.w) :
    ∀ (m k : Nat) (a : Act) (C : Ctx), k + m = ops.length → RInv w0 E R0 nt ops f cx r (fun j => decide (j < k)) a C → wpOps P ops.toArray Q (List.range' k m) a C.w
  | 0, k, a, C, h, inv => by
    simp only [List.range'_zero, wpOps]
    exact hQ a C (inv.done t (fun j hj => by simp; omega))
  | m + 1, k, a, C, h, inv => by
    obtain ⟨o, ho⟩ := op_at (ops := ops) (i := k) (by omega)
    rw [List.range'_succ, wpOps_cons]
    refine region_step hT hS t hn hdst ho ⟨by simp, fun j o' hj _ _ => by simpa using hj, fun j o' d hj _ _ _ => by simp; omega, fun j k' hj _ _ => by simpa using hj, fun j k' hj _ _ _ => by simp; omega⟩ inv ?_
    intro a' C' inv'
    have : (fun j => decide (j < k) || j == k) = fun j => decide (j < k + 1) := by
      funext j
      rw [Bool.eq_iff_iff]; simp; omega
    rw [this] at inv'
    exact region_seq hT hS t hn hdst hQ m (k + 1) a' C' (by omega) inv'

/-! ### In any order -/
theorem log_at (t : Trace T S ops f cx r) (h0 : (f 0).log = []) : ∀ i, i ≤ ops.length → (f i).log.reverse = (List.range i).map fun j => ((r j).rd, (r j).wr.map (·.1))
  | 0, _ => by simp [h0]
  | i + 1, h => by
    obtain ⟨o, ho⟩ := op_at (ops := ops) (i := i) (by omega)
    rw [(t.step i o ho).log, List.reverse_cons, log_at t h0 i (by omega), List.range_succ, List.map_append]
    rfl

theorem pairsOk_at {i : Nat} {o : Oper} {l : List Key × List Key} : ∀ {os : List Oper} {ls : List (List Key × List Key)} {j : Nat} {o' : Oper} {l' : List Key × List Key}, pairsOk i o l os ls = true → os[j]? = some o' → ls[j]? = some l' → pairOk i o o' l l' = true
  | [], ls, j, o', l', h, h1, h2 => by simp at h1
  | x :: os, [], j, o', l', h, h1, h2 => by simp at h2
  | x :: os, y :: ls, j, o', l', h, h1, h2 => by
    simp only [pairsOk, Bool.and_eq_true] at h
    cases j with
    | zero => simp at h1 h2; subst h1; subst h2; exact h.1
    | succ j => exact pairsOk_at h.2 (by simpa using h1) (by simpa using h2)

theorem allPairs_at : ∀ {i0 : Nat} {os : List Oper} {ls : List (List Key × List Key)} {i j : Nat} {o o' : Oper} {l l' : List Key × List Key}, allPairs i0 os ls = true → i < j → os[i]? = some o → os[j]? = some o' → ls[i]? = some l → ls[j]? = some l' → pairOk (i0 + i) o o' l l' = true
  | i0, [], ls, i, j, o, o', l, l', h, hij, h1, h2, h3, h4 => by simp at h1
  | i0, x :: os, [], i, j, o, o', l, l', h, hij, h1, h2, h3, h4 => by simp at h3
  | i0, x :: os, y :: ls, i, j, o, o', l, l', h, hij, h1, h2, h3, h4 => by
    simp only [allPairs, Bool.and_eq_true] at h
    cases j with
    | zero => omega
    | succ j =>
      cases i with
      | zero =>
        simp at h1 h3; subst h1; subst h3
        exact pairsOk_at h.1 (by simpa using h2) (by simpa using h4)
      | succ i =>
        have := allPairs_at h.2 (by omega : i < j) (by simpa using h1) (by simpa using h2) (by simpa using h3) (by simpa using h4)
        rwa [show i0 + 1 + i = i0 + (i + 1) by omega] at this

theorem backEdges_at : ∀ {i0 : Nat} {os : List Oper} {i : Nat} {o : Oper}, backEdges i0 os = true → os[i]? = some o → (∀ e ∈ o.after.toList, Region.binds .any e = true → e.on < i0 + i) ∧ ∀ j p, o.guard = some (j, p) → waits o j = true
  | i0, [], i, o, h, h1 => by simp at h1
  | i0, x :: os, i, o, h, h1 => by
    simp only [backEdges, Bool.and_eq_true] at h
    cases i with
    | zero =>
      simp at h1; subst h1
      refine ⟨fun e he hb => ?_, fun j p hg => ?_⟩
      · have := List.all_eq_true.1 h.1.1 e he
        simp only [hb, Bool.not_true, Bool.false_or] at this
        have := Nat.le_of_ble_eq_true (show Nat.ble (e.on + 1) i0 = true from this)
        omega
      · have := h.1.2; rw [hg] at this; exact this
    | succ i =>
      obtain ⟨k1, k2⟩ := backEdges_at h.2 (by simpa using h1)
      exact ⟨fun e he hb => by have := k1 e he hb; omega, k2⟩

theorem pairOk_slots {i : Nat} {o o' : Oper} {l l' : List Key × List Key} (h : pairOk i o o' l l' = true) (hw : waits o' i = false) :
    (∀ d, o.dst = some d → d ∉ opSlots o') ∧ (∀ d, o'.dst = some d → d ∉ opSlots o) ∧ (∀ k, k ∈ l.2 → k ∉ l'.1 ∧ k ∉ l'.2) ∧ ∀ k, k ∈ l.1 → k ∉ l'.2 := by
  unfold pairOk at h
  rw [hw] at h
  simp only [Bool.false_or, Bool.and_eq_true] at h
  obtain ⟨⟨⟨h1, h2⟩, h3⟩, h4⟩ := h
  refine ⟨fun d hd => ?_, fun d hd => ?_, fun k hk => ?_, fun k hk => ?_⟩
  · rw [hd] at h1; simpa using h1
  · rw [hd] at h2; simpa using h2
  · have := List.all_eq_true.1 h3 k hk
    simpa using this
  · have := List.all_eq_true.1 h4 k hk
    simpa using this

end
end Go.Proofs.YtcdnbdphakhilaaGreatDoor.Ev
namespace Go.Proofs.YtcdnbdphakhilaaGreatDoor.Ev
section
variable {P : Program} {T : TypeId → Option TyI} {S : FuncId → CSpec} {w0 : World} {E : Ent} {R0 : Nat → Prop}
variable {ops : List Oper} {f : Nat → RS} {cx : Nat → Chain} {r : Nat → OpR} {nt cu : Nat}

/-- A draw turns nothing. -/
theorem Ctx.drew_le (C : Ctx) : C.Le { C with w := C.w.drew } := ⟨fun _ h => ⟨h, rfl⟩, fun _ h => ⟨h, rfl⟩, fun _ _ h => ⟨h, rfl⟩⟩

theorem SR.drew [Glob] {M : Key → Option AV} {C : Ctx} (h : SR w0 E R0 M C) : SR w0 E R0 M { C with w := C.w.drew } :=
  ⟨⟨fun id off a ha hs => let ⟨h1, vs, h2, h3⟩ := h.mr.at_ id off a ha hs; ⟨h1, vs, h2.mono C.drew_le, h3⟩, fun id off a ha hs => (h.mr.sp id off a ha hs).congr ⟨.rfl, .rfl, .rfl, fun _ => rfl, fun _ => .rfl, fun _ _ => rfl, fun _ => rfl⟩ C.drew_le.R, h.mr.apart⟩, ⟨h.own.lt, h.own.unfrozen, h.own.apart, h.own.inj, h.own.R_lt, h.own.sized, h.own.dis, h.own.liv, h.own.rsz, h.own.hokr⟩, ⟨h.fr.os, h.fr.tape, h.fr.output, h.fr.size, h.fr.block⟩, h.mine, h.rr, h.keep, Glob.mono h.gl C.drew_le.R, h.rown⟩

theorem CInv.drew [Glob] {st : St} {a : Act} {C : Ctx} (h : CInv w0 E R0 nt st a C) : CInv w0 E R0 nt st a { C with w := C.w.drew } :=
  ⟨h.size, h.defers, fun t v hv => (h.env t v hv).mono C.drew_le, h.sr.drew, h.kn, h.ids⟩

def unl (n : Nat) (listed : Array Bool) : Nat := (List.range n).countP fun j => !listed.getD j true

theorem ready_iff {listed : Array Bool} {i : Nat} : i ∈ Region.ready .any ops.toArray listed ↔ i < ops.length ∧ listed.getD i true = false ∧ ∃ o, ops[i]? = some o ∧ ∀ e ∈ o.after.toList, Region.binds .any e = true → listed.getD e.on false = true := by
  unfold Region.ready
  rw [List.mem_filter, List.mem_range]
  simp only [List.size_toArray, List.getElem?_toArray, Bool.and_eq_true, Bool.not_eq_true']
  constructor
  · rintro ⟨h1, h2, h3⟩
    refine ⟨h1, h2, ?_⟩
    obtain ⟨o, ho⟩ := op_at h1
    refine ⟨o, ho, ?_⟩
    rw [ho] at h3
    simp only [Option.map_some, Option.getD_some] at h3
    intro e he hb
    have := (Array.all_eq_true.1 h3)
    obtain ⟨k, hk, rfl⟩ := List.getElem_of_mem he
    have := this k (by simpa using hk)
    simp only [Array.getElem_toList] at hb ⊢
    simpa [hb] using this
  · rintro ⟨h1, h2, o, ho, h3⟩
    refine ⟨h1, h2, ?_⟩
    rw [ho]
    simp only [Option.map_some, Option.getD_some]
    rw [Array.all_eq_true]
    intro k hk
    have := h3 o.after[k] (by simp)
    cases hb : Region.binds .any o.after[k] with
    | false => simp
    | true => simpa using this hb

theorem getD_set (l : Array Bool) (i j : Nat) (d : Bool) (h : i < l.size) : (l.setIfInBounds i true).getD j d = if j = i then true else l.getD j d := by
  by_cases e : j = i
  · subst e; simp [Array.getD_eq_getD_getElem?, h]
  · simp [Array.getD_eq_getD_getElem?, Array.getElem?_setIfInBounds_ne (Ne.symm e), e]

theorem unl_set {n i : Nat} {listed : Array Bool} (hs : listed.size = n) (hi : i < n) (hu : listed.getD i true = false) : unl n (listed.setIfInBounds i true) + 1 = unl n listed := by
  unfold unl
  have key : ∀ m, m ≤ n → (List.range m).countP (fun j => !(listed.setIfInBounds i true).getD j true) + (if i < m then 1 else 0) = (List.range m).countP fun j => !listed.getD j true := by
    intro m hm
    induction m with
    | zero => simp
    | succ m ih =>
      have ih := ih (by omega)
      rw [List.range_succ, List.countP_append, List.countP_append]
      simp only [List.countP_singleton]
      rw [getD_set _ _ _ _ (by omega)]
      by_cases e : m = i
      · subst e
        simp only [if_true, hu, Nat.lt_irrefl, if_false, Nat.lt_succ_self] at ih ⊢
        simp at ih ⊢
        omega
      · have h1 : (i < m + 1) ↔ (i < m) := by omega
        simp only [e, if_false, h1]
        omega
  have := key n (Nat.le_refl _)
  simpa [hi] using this

/-- In whatever order. -/
theorem region_any [Glob] (hT : TyOk P T) (hS : ∀ f, FnOk P f (S f)) (t : Trace T S ops f cx r) (hn : ∀ c ∈ (f ops.length).needs, c = true) (hdst : ∀ (j : Nat) (o : Oper) (d : Nat), ops[j]? = some o → o.dst = some d → d < nt)
    (h0 : (f 0).log = []) (hb : backEdges 0 ops = true) (hp : allPairs 0 ops (f ops.length).log.reverse = true) {Q : Exit → Act → World → Prop}
    (hQ : ∀ a C, CInv w0 E R0 nt ⟨finEnv (f ops.length).base (f ops.length).vals, (f ops.length).mem, (f ops.length).ids, cu⟩ a C → Q .normal a C.w) :
    ∀ (m : Nat) (listed : Array Bool) (a : Act) (C : Ctx), listed.size = ops.length → unl ops.length listed = m → (∀ i o, ops[i]? = some o → listed.getD i true = true → ∀ e ∈ o.after.toList, Region.binds .any e = true → listed.getD e.on false = true) →
      RInv w0 E R0 nt ops f cx r (fun j => decide (j < ops.length) && listed.getD j true) a C → wpAny P .any ops.toArray Q m listed a C.w := by
  have hpair : ∀ i j o o', i < j → ops[i]? = some o → ops[j]? = some o' → pairOk i o o' ((r i).rd, (r i).wr.map (·.1)) ((r j).rd, (r j).wr.map (·.1)) = true := by
    intro i j o o' hij h1 h2
    have hj : j < ops.length := by
      rcases Nat.lt_or_ge j ops.length with h | h
      · exact h
      · rw [List.getElem?_eq_none h] at h2; cases h2
    have hl := log_at t h0 ops.length (Nat.le_refl _)
    rw [hl] at hp
    have := allPairs_at hp hij h1 h2 (l := ((r i).rd, (r i).wr.map (·.1))) (l' := ((r j).rd, (r j).wr.map (·.1))) (by simp [show i < ops.length by omega]) (by simp [hj])
    simpa using this
  -- nothing is left behind
  have hall : ∀ listed : Array Bool, listed.size = ops.length → Region.ready .any ops.toArray listed = [] → ∀ j, j < ops.length → listed.getD j true = true := by
    intro listed hs hr j
    induction j using Nat.strongRecOn with
    | _ j ih =>
      intro hj
      cases hl : listed.getD j true with
      | true => rfl
      | false =>
        exfalso
        obtain ⟨o, ho⟩ := op_at hj
        have : j ∈ Region.ready .any ops.toArray listed := by
          rw [ready_iff]
          refine ⟨hj, hl, o, ho, fun e he hbd => ?_⟩
          have hlt := (backEdges_at hb ho).1 e he hbd
          have hlt' : e.on < j := by omega
          have := ih e.on hlt' (by omega)
          have hlt2 : e.on < listed.size := by omega
          rw [Array.getD_eq_getD_getElem?, Array.getElem?_eq_getElem hlt2] at this ⊢
          exact this
        rw [hr] at this; cases this
  have hfin : ∀ listed : Array Bool, listed.size = ops.length → Region.ready .any ops.toArray listed = [] → ∀ a C, RInv w0 E R0 nt ops f cx r (fun j => decide (j < ops.length) && listed.getD j true) a C → Q .normal a C.w :=
    fun listed hs hr a C inv => hQ a C (inv.done t (fun j hj => by simp [hj, hall listed hs hr j hj]))
  intro m
  induction m with
  | zero =>
    intro listed a C hs hu hcl inv
    have hr : Region.ready .any ops.toArray listed = [] := by
      rw [List.eq_nil_iff_forall_not_mem]
      intro i hi
      rw [ready_iff] at hi
      have : 0 < unl ops.length listed := List.countP_pos_iff.2 ⟨i, List.mem_range.2 hi.1, by rw [hi.2.1]; rfl⟩
      omega
    exact ⟨hr, hfin listed hs hr a C inv⟩
  | succ m ih =>
    intro listed a C hs hu hcl inv
    refine ⟨fun hr => hfin listed hs hr a C inv, fun i hi => ?_⟩
    rw [ready_iff] at hi
    obtain ⟨h1, h2, o, ho, h3⟩ := hi
    have hgd : ∀ j, j < ops.length → listed.getD j false = true → listed.getD j true = true := by
      intro j hj h
      have hlt : j < listed.size := by omega
      rw [Array.getD_eq_getD_getElem?, Array.getElem?_eq_getElem hlt] at h ⊢
      exact h
    have hon : ∀ j, waits o j = true → listed.getD j false = true := by
      intro j hw
      unfold waits at hw
      rw [List.any_eq_true] at hw
      obtain ⟨e, he, hx⟩ := hw
      simp only [Bool.and_eq_true, beq_iff_eq] at hx
      rw [← hx.1]
      exact h3 e he hx.2
    have hbehind : ∀ j o', i < j → ops[j]? = some o' → waits o' i = true → listed.getD j true = false := by
      intro j o' hij ho' hw
      cases hl : listed.getD j true with
      | false => rfl
      | true =>
        exfalso
        unfold waits at hw
        rw [List.any_eq_true] at hw
        obtain ⟨e, he, hx⟩ := hw
        simp only [Bool.and_eq_true, beq_iff_eq] at hx
        have := hcl j o' ho' hl e he hx.2
        rw [hx.1] at this
        have := hgd i h1 this
        rw [h2] at this; cases this
    have tu : Turn ops r (fun j => decide (j < ops.length) && listed.getD j true) i o := by
      refine ⟨by simp [h2], ?_, ?_, ?_, ?_⟩
      · rintro j o' hj ho' ⟨d, hd, hx⟩
        have hjl : j < ops.length := by omega
        have hw : waits o j = true := by
          rcases hx with hx | ⟨p, hg⟩
          · cases hw : waits o j with
            | true => rfl
            | false => exact ((pairOk_slots (hpair j i o' o hj ho' ho) hw).1 d hd hx).elim
          · exact (backEdges_at hb ho).2 j p hg
        simp [hjl, hgd j hjl (hon j hw)]
      · intro j o' d hij ho' hd hx
        have hw : waits o' i = true := by
          cases hw : waits o' i with
          | true => rfl
          | false => exact ((pairOk_slots (hpair i j o o' hij ho ho') hw).2.1 d hd hx).elim
        simp [hbehind j o' hij ho' hw]
      · intro j k hj hk hx
        have hjl : j < ops.length := by omega
        obtain ⟨o', ho'⟩ := op_at hjl
        have hw : waits o j = true := by
          cases hw : waits o j with
          | true => rfl
          | false =>
            have := (pairOk_slots (hpair j i o' o hj ho' ho) hw).2.2.1 k hk
            rcases hx with hx | hx
            · exact (this.1 hx).elim
            · exact (this.2 hx).elim
        simp [hjl, hgd j hjl (hon j hw)]
      · intro j k hij hjl hk hx
        obtain ⟨o', ho'⟩ := op_at hjl
        have hw : waits o' i = true := by
          cases hw : waits o' i with
          | true => rfl
          | false =>
            obtain ⟨_, _, k1, k2⟩ := pairOk_slots (hpair i j o o' hij ho ho') hw
            rcases hx with hx | hx
            · exact (k2 k hx hk).elim
            · exact ((k1 k hx).2 hk).elim
        simp [hbehind j o' hij ho' hw]
    refine region_step hT hS t hn hdst ho tu inv ?_
    intro a' C' inv'
    have hD : (fun j => (decide (j < ops.length) && listed.getD j true) || j == i) = fun j => decide (j < ops.length) && (listed.setIfInBounds i true).getD j true := by
      funext j
      rw [getD_set _ _ _ _ (by omega)]
      by_cases e : j = i
      · subst e; simp [h1]
      · simp [e]
    rw [hD] at inv'
    refine ih _ a' C' (by simp [hs]) ?_ ?_ inv'
    · have := unl_set hs h1 h2; omega
    · intro j o' ho' hl e he hbd
      rw [getD_set _ _ _ _ (by omega)]
      split
      · rfl
      · rename_i hne
        by_cases e' : j = i
        · subst e'
          rw [ho] at ho'
          simp only [Option.some.injEq] at ho'; subst ho'
          exact h3 e he hbd
        · rw [getD_set _ _ _ _ (by omega), if_neg e'] at hl
          exact hcl j o' ho' hl e he hbd

/-- **A region, as it is evaluated.** -/
theorem wp_region_ev [Glob] (hT : TyOk P T) (hS : ∀ f, FnOk P f (S f)) (hm : P.follows .mixedOrders = true) {id : Nat} {ops : Array Oper} {draw : Bool} {st : St} {rs : RS} (hev : evOps T S ops.toList 0 ops.toList ⟨st.env, [], st.mem, st.ids, [], []⟩ = some rs)
    (hok : okRegion draw nt ops.toList rs.log = true) (hn : ∀ c ∈ rs.needs, c = true) {a : Act} {C : Ctx} (inv : CInv w0 E R0 nt st a C) {Q : Exit → Act → World → Prop}
    (hQ : ∀ a' C', CInv w0 E R0 nt ⟨finEnv rs.base rs.vals, rs.mem, rs.ids, cu⟩ a' C' → Q .normal a' C'.w) : (Code.region id ops draw).wp P Q a C.w := by
  obtain ⟨f, cx, r, e0, e1, e2⟩ := evOps_of hev
  unfold okRegion at hok
  simp only [Bool.and_eq_true] at hok
  obtain ⟨⟨k1, k2⟩, k3⟩ := hok
  have t : Trace T S ops.toList f cx r := ⟨fun i o ho => by have := e2 i o ho; rwa [Nat.zero_add] at this, by rw [e0], by rw [e0], k1, fun j o d ho hd => by
    have := List.all_eq_true.1 k2 d (List.mem_filterMap.2 ⟨o, List.mem_of_getElem? ho, hd⟩)
    simp only [Bool.and_eq_true] at this
    have := Nat.le_of_ble_eq_true (show Nat.ble (d + 1) subN = true from this.2)
    exact this⟩
  have hdst : ∀ (j : Nat) (o : Oper) (d : Nat), ops.toList[j]? = some o → o.dst = some d → d < nt := by
    intro j o d ho hd
    have := List.all_eq_true.1 k2 d (List.mem_filterMap.2 ⟨o, List.mem_of_getElem? ho, hd⟩)
    simp only [Bool.and_eq_true] at this
    have := Nat.le_of_ble_eq_true (show Nat.ble (d + 1) nt = true from this.1)
    omega
  rw [← e1] at hn hQ
  cases draw with
  | false =>
    refine wp_region ?_
    have := region_seq hT hS t hn hdst hQ ops.toList.length 0 a C (by omega) (by
      have := RInv.start (ops := ops.toList) (cx := cx) (r := r) inv e0
      simpa using this)
    rw [List.range_eq_range']
    simpa using this
  | true =>
    simp only [Bool.and_eq_true] at k3
    refine wp_region_any hm ?_
    have h0 : (f 0).log = [] := by rw [e0]
    have hstart := RInv.start (ops := ops.toList) (cx := cx) (r := r) inv.drew e0
    have hD : (fun _ : Nat => false) = fun j => decide (j < ops.toList.length) && (Array.replicate ops.toList.length false).getD j true := by
      funext j
      by_cases hj : j < ops.toList.length
      · simp at hj; simp [hj, Array.getD_eq_getD_getElem?]
      · simp at hj; simp [Nat.not_lt.2 hj]
    rw [hD] at hstart
    have := region_any hT hS t hn hdst h0 k3.1.1 (by rw [e1]; exact k3.1.2) hQ ops.toList.length (Array.replicate ops.toList.length false) a _ (by simp) ?_ ?_ hstart
    · simpa using this
    · unfold unl
      rw [List.countP_eq_length.2]
      · simp
      · intro j hj
        have := List.mem_range.1 hj
        simp at this
        simp [Array.getD_eq_getD_getElem?, this]
    · intro i o ho hl
      have : i < ops.toList.length := by
        rcases Nat.lt_or_ge i ops.toList.length with h | h
        · exact h
        · rw [List.getElem?_eq_none h] at ho; cases ho
      simp at this
      simp [Array.getD_eq_getD_getElem?, this] at hl

end
end Go.Proofs.YtcdnbdphakhilaaGreatDoor.Ev
namespace Go.Proofs.YtcdnbdphakhilaaGreatDoor.Ev

/-! ### Trees -/
namespace Tr
variable {α β : Type}
theorem run_bind {t : Tr α} {k : α → Tr β} {b : β} (h : (t.bind k).run = some b) : ∃ a, t.run = some a ∧ (k a).run = some b := by
  induction t with
  | fail => simp [bind, run] at h
  | leaf a => exact ⟨a, rfl, h⟩
  | ite c t e iht ihe =>
    simp only [bind, run] at h ⊢
    split at h
    · rename_i hc; simp only [hc, if_true]; exact iht h
    · rename_i hc; simp only [hc, if_false]; exact ihe h
  | need c t ih =>
    simp only [bind, run] at h ⊢
    split at h
    · rename_i hc; simp only [hc, if_true]; exact ih h
    · simp at h
theorem run_needs {t : Tr α} {a : α} : ∀ {cs : List Bool}, (needs cs t).run = some a → (∀ c ∈ cs, c = true) ∧ t.run = some a
  | [], h => ⟨(fun c hc => by cases hc), h⟩
  | c :: cs, h => by
    simp only [needs, run] at h
    split at h
    · rename_i hc
      obtain ⟨h1, h2⟩ := run_needs h
      exact ⟨fun x hx => by rcases List.mem_cons.1 hx with rfl | hx; exact hc; exact h1 x hx, h2⟩
    · simp at h
/-- What holds at every end of a tree. -/
def ends (p : α → Prop) : Tr α → Prop
  | fail => True
  | leaf a => p a
  | ite _ t e => t.ends p ∧ e.ends p
  | need _ t => t.ends p
theorem ends_bind {p : α → Prop} {q : β → Prop} {k : α → Tr β} : ∀ {t : Tr α}, t.ends p → (∀ a, p a → (k a).ends q) → (t.bind k).ends q
  | fail, _, _ => trivial
  | leaf a, h, hk => hk a h
  | ite _ t e, h, hk => ⟨ends_bind h.1 hk, ends_bind h.2 hk⟩
  | need _ t, h, hk => ends_bind (t := t) h hk
theorem ends_needs {p : α → Prop} {t : Tr α} : ∀ {cs : List Bool}, t.ends p → (needs cs t).ends p
  | [], h => h
  | c :: cs, h => ends_needs (cs := cs) h
theorem ends_mono {p q : α → Prop} (h : ∀ a, p a → q a) : ∀ {t : Tr α}, t.ends p → t.ends q
  | fail, _ => trivial
  | leaf a, ha => h a ha
  | ite _ t e, ha => ⟨ends_mono h ha.1, ends_mono h ha.2⟩
  | need _ t, ha => ends_mono (t := t) h ha
end Tr

/-! ### What has only been added to -/
/-- Since 'st' (or since what was forgotten) it has only been added to. -/
structure Adds (st st' : St) : Prop where
  cut : st.cut ≤ st'.cut
  same : st'.cut = st.cut → (∃ d, st'.env = d ++ st.env) ∧ (∃ d, st'.mem = d ++ st.mem)

theorem Adds.refl (st : St) : Adds st st := ⟨Nat.le_refl _, fun _ => ⟨⟨[], rfl⟩, ⟨[], rfl⟩⟩⟩
theorem Adds.trans {a b c : St} (h : Adds a b) (k : Adds b c) : Adds a c := by
  refine ⟨Nat.le_trans h.cut k.cut, fun e => ?_⟩
  have h1 := h.cut
  have h2 := k.cut
  obtain ⟨⟨d1, e1⟩, ⟨d2, e2⟩⟩ := h.same (by omega)
  obtain ⟨⟨d3, e3⟩, ⟨d4, e4⟩⟩ := k.same (by omega)
  exact ⟨⟨d3 ++ d1, by rw [e3, e1, List.append_assoc]⟩, ⟨d4 ++ d2, by rw [e4, e2, List.append_assoc]⟩⟩

theorem finEnv_app (base : List (Nat × AV)) : ∀ vals, ∃ d, finEnv base vals = d ++ base
  | [] => ⟨[], rfl⟩
  | (d, g, v) :: l => by
    obtain ⟨e, he⟩ := finEnv_app base l
    exact ⟨_ :: e, by simp only [finEnv, he]; rfl⟩

section
variable {T : TypeId → Option TyI} {S : FuncId → CSpec} {L : Nat → Live} {nt N : Nat}

theorem evOps_adds {ops : List Oper} : ∀ {rest : List Oper} {i : Nat} {s s' : RS}, evOps T S ops i rest s = some s' → s'.base = s.base ∧ ∃ d, s'.mem = d ++ s.mem
  | [], i, s, s', h => by simp only [evOps, Option.some.injEq] at h; subst h; exact ⟨rfl, [], rfl⟩
  | o :: rest, i, s, s', h => by
    simp only [evOps] at h
    split at h
    · rename_i s1 h1
      obtain ⟨ctx, r, hs⟩ := evStep_of h1
      obtain ⟨e1, d, e2⟩ := evOps_adds h
      exact ⟨e1.trans hs.base, d ++ r.wr, by rw [e2, hs.mem, List.append_assoc]⟩
    · simp at h

theorem recut_cut {c : Nat} : ∀ t : Tr (Ex × St), (recut c t).ends fun x => x.2.cut = c
  | .fail => trivial
  | .leaf _ => rfl
  | .ite _ t e => ⟨recut_cut t, recut_cut e⟩
  | .need _ t => recut_cut t

theorem adds_cut {st : St} {t : Tr (Ex × St)} (h : t.ends fun x => x.2.cut = st.cut + 1) : t.ends fun x => Adds st x.2 :=
  Tr.ends_mono (fun x hx => ⟨by omega, fun e => by omega⟩) h

theorem joinL_adds {c : Bool} {base a b : St} (ha : Adds base a) (hb : Adds base b) : (joinL c base a b).ends fun x => Adds base x.2 := by
  unfold joinL
  split
  · exact ⟨Nat.le_refl _, fun _ => ⟨⟨_, rfl⟩, ⟨_, rfl⟩⟩⟩
  · exact ⟨ha, hb⟩

theorem joinR_adds {c : Bool} {base : St} {t : Tr (Ex × St)} (ht : t.ends fun x => Adds base x.2) : ∀ {u : Tr (Ex × St)}, u.ends (fun x => Adds base x.2) → (joinR c base t u).ends fun x => Adds base x.2
  | .need x u, hu => by unfold joinR; exact joinR_adds (u := u) ht hu
  | .leaf (.normal, b), hu => by
    unfold joinR
    split
    · exact joinL_adds ht hu
    · exact ⟨ht, hu⟩
  | .leaf (.exit id, b), hu => by unfold joinR; exact ⟨ht, hu⟩
  | .leaf (.ret, b), hu => by unfold joinR; exact ⟨ht, hu⟩
  | .fail, hu => by unfold joinR; exact ⟨ht, hu⟩
  | .ite x t' e, hu => by unfold joinR; exact ⟨ht, hu⟩

theorem join_adds {c : Bool} {base : St} {u : Tr (Ex × St)} (hu : u.ends fun x => Adds base x.2) : ∀ {t : Tr (Ex × St)}, t.ends (fun x => Adds base x.2) → (join c base t u).ends fun x => Adds base x.2
  | .need x t, ht => by unfold join; exact join_adds (t := t) hu ht
  | .leaf a, ht => by unfold join; exact joinR_adds ht hu
  | .fail, ht => by unfold join; exact joinR_adds ht hu
  | .ite x t' e, ht => by unfold join; exact joinR_adds ht hu

theorem evCode_adds : ∀ (c : Code) (st : St), (evCode T S L nt N c st).ends fun x => Adds st x.2
  | .skip, st => .refl st
  | .label _, st => .refl st
  | .ret, st => .refl st
  | .exit id, st => .refl st
  | .seq a b, st => by
    unfold evCode
    refine Tr.ends_bind (evCode_adds a st) ?_
    rintro ⟨e, st'⟩ h
    cases e with
    | normal => exact Tr.ends_mono (fun x hx => h.trans hx) (evCode_adds b st')
    | exit id => exact h
    | ret => exact h
  | .block id a, st => by
    unfold evCode
    refine Tr.ends_bind (evCode_adds a st) ?_
    rintro ⟨e, st'⟩ h
    cases e with
    | exit k =>
      simp only
      split <;> exact h
    | normal => exact h
    | ret => exact h
  | .scope a, st => by unfold evCode; exact evCode_adds a st
  | .cond c a b, st => by
    unfold evCode
    split
    · split
      · exact join_adds (evCode_adds b st) (evCode_adds a st)
      · trivial
    · trivial
  | .loop a, st => by
    unfold evCode
    split
    · exact adds_cut (recut_cut _)
    · exact adds_cut (recut_cut _)
  | .region id ops draw, st => by
    unfold evCode
    split
    · rename_i rs hrs
      split
      · obtain ⟨h1, d, h2⟩ := evOps_adds hrs
        obtain ⟨d', h3⟩ := finEnv_app rs.base rs.vals
        refine Tr.ends_needs ?_
        exact ⟨Nat.le_refl _, fun _ => ⟨⟨d', by rw [h3, h1]⟩, ⟨d, h2⟩⟩⟩
      · trivial
    · trivial
  | .rangeFunc _ _ _ _, st => by unfold evCode; trivial
  | .goto _, st => by unfold evCode; trivial
  | .refuse _, st => by unfold evCode; trivial

end
end Go.Proofs.YtcdnbdphakhilaaGreatDoor.Ev
namespace Go.Proofs.YtcdnbdphakhilaaGreatDoor.Ev
section
variable {P : Program} {T : TypeId → Option TyI} {S : FuncId → CSpec} {w0 : World} {E : Ent} {R0 : Nat → Prop} {nt : Nat}

/-! ### Less told of the memory -/
theorem MR.wpos {C : Ctx} {M : Key → Option AV} (h : MR C M) {k : Key} {a : AV} (hm : M k = some a) : 0 < a.width := by
  cases hs : a.spec with
  | true => cases a <;> simp [AV.spec] at hs <;> simp [AV.width]
  | false =>
    obtain ⟨_, vs, hv, _⟩ := h.at_ k.1 k.2 a hm hs
    obtain ⟨_, _, _, _, _, _, hp⟩ := CR_uncons hv
    exact hp
theorem MR.weaken {C : Ctx} {M M' : Key → Option AV} (h : MR C M) (hw : ∀ k a', M' k = some a' → ∃ a, M k = some a ∧ a'.width ≤ a.width ∧ (a' = a ∨ a' = .dead ∨ (a.spec = false ∧ a'.spec = false ∧ ∀ vs, CR C [a] vs → ∃ v1 v2, vs = v1 ++ v2 ∧ CR C [a'] v1))) : MR C M' := by
  refine ⟨fun id off a' ha' hs => ?_, fun id off a' ha' hs => ?_, fun id o1 o2 a1 a2 h1 h2 hlt => ?_⟩
  · obtain ⟨a, h1, h2, rfl | rfl | ⟨h3, h4, h5⟩⟩ := hw _ _ ha'
    · exact h.at_ id off a' h1 hs
    · cases hs
    · obtain ⟨hd, vs, hc, hat⟩ := h.at_ id off a h1 h3
      obtain ⟨v1, v2, rfl, h4⟩ := h5 vs hc
      exact ⟨hd, v1, h4, fun j v hj => hat j v (by rw [List.getElem?_append_left (lt_of_getElem? hj)]; exact hj)⟩
  · obtain ⟨a, h1, h2, rfl | rfl | ⟨h3, h4, h5⟩⟩ := hw _ _ ha'
    · exact h.sp id off a' h1 hs
    · exact h.has h1
    · rw [h4] at hs; cases hs
  · obtain ⟨b1, k1, k2, _⟩ := hw _ _ h1
    obtain ⟨b2, k3, _, _⟩ := hw _ _ h2
    have := h.apart id o1 o2 b1 b2 k1 k3 hlt
    omega

theorem CR_self {C : Ctx} {a : AV} : ∀ vs, CR C [a] vs → ∃ v1 v2, vs = v1 ++ v2 ∧ CR C [a] v1 := fun vs h => ⟨vs, [], by simp, h⟩

theorem CR_poison {C : Ctx} {a : AV} {vs : List Value} (h : CR C [a] vs) : (∃ v1 v2, vs = v1 ++ v2 ∧ CR C [AV.poison] v1) ∧ 0 < a.width := by
  obtain ⟨v1, v2, hv, h1, h2, hl, hp⟩ := CR_uncons h
  have hone := CR_oneCell h
  cases vs with
  | nil =>
    have : v1 = [] := by cases v1 <;> simp at hv ⊢
    subst this; simp at hl; omega
  | cons v vs' => exact ⟨⟨[v], vs', rfl, .one rfl (hone v (by simp)) (.poison _) .nil⟩, hp⟩

theorem mergeM_spec {c : Bool} {x y : AV} : mergeM c x y = mergeSp c x y ∨ (x.spec = false ∧ y.spec = false) := by
  unfold mergeM
  cases hx : x.spec <;> cases hy : y.spec <;> simp
theorem mergeM_CR {C : Ctx} {c : Bool} {x y : AV} {vs : List Value} (sx : x.spec = false) (sy : y.spec = false) (hx : c = true → CR C [x] vs) (hy : c = false → CR C [y] vs) : (∃ v1 v2, vs = v1 ++ v2 ∧ CR C [mergeM c x y] v1) ∧ (c = true → (mergeM c x y).width ≤ x.width) ∧ (c = false → (mergeM c x y).width ≤ y.width) := by
  unfold mergeM
  rw [sx, sy]
  simp only [Bool.or_self]
  split
  · rename_i hw
    have hw : x.width = y.width := by simpa using hw
    obtain ⟨v1, v2, h1, h2, h3⟩ := merge_CR hx hy hw
    exact ⟨⟨v1, v2, h1, h2⟩, fun _ => h3, fun _ => by omega⟩
  · cases c with
    | true => obtain ⟨h1, h2⟩ := CR_poison (hx rfl); exact ⟨h1, fun _ => h2, fun e => by cases e⟩
    | false => obtain ⟨h1, h2⟩ := CR_poison (hy rfl); exact ⟨h1, (fun e => by cases e), fun _ => h2⟩

/-! ### Lists laid over lists -/
theorem look_append {κ : Type} [BEq κ] (a b : List (κ × AV)) (k : κ) : look (a ++ b) k = match look a k with | some v => some v | none => look b k := by
  induction a with
  | nil => rfl
  | cons x a ih =>
    obtain ⟨k', v⟩ := x
    simp only [List.cons_append, look]
    cases (k' == k)
    · exact ih
    · rfl

theorem look_none_of {κ : Type} [BEq κ] [LawfulBEq κ] {l : List (κ × AV)} {k : κ} (h : k ∉ l.map (·.1)) : look l k = none := by
  induction l with
  | nil => rfl
  | cons x l ih =>
    obtain ⟨k', v⟩ := x
    simp only [List.map_cons, List.mem_cons, not_or] at h
    have : (k' == k) = false := by simpa using fun e => h.1 e.symm
    simp only [look, this]
    exact ih h.2

theorem mem_dedup {κ : Type} [BEq κ] [LawfulBEq κ] {k : κ} : ∀ {l : List κ}, k ∈ l → k ∈ dedup l
  | x :: l, h => by
    simp only [dedup]
    split
    · rename_i hc
      rcases List.mem_cons.1 h with rfl | h
      · simpa using hc
      · exact mem_dedup h
    · rcases List.mem_cons.1 h with rfl | h
      · exact List.mem_cons_self ..
      · exact List.mem_cons_of_mem _ (mem_dedup h)

theorem delta_app {κ : Type} (d base : List (κ × AV)) : delta (d ++ base) base = d.map (·.1) := by
  unfold delta
  simp

/-- What a merged list tells: of a place in it, one of both; else what stood before. -/
theorem mergeL_look {κ : Type} [BEq κ] [LawfulBEq κ] {m : AV → AV → AV} {la lb base : List (κ × AV)} {k : κ} {v : AV} : ∀ {ks : List κ}, look (mergeL m la lb base ks) k = some v →
    (∃ x y, look la k = some x ∧ look lb k = some y ∧ v = m x y) ∨ (∃ u, look base k = some u ∧ (∀ x y, look la k = some x → look lb k = some y → False))
  | [], h => by simp [mergeL, look] at h
  | q :: ks, h => by
    simp only [mergeL] at h
    have hrec := fun h' => mergeL_look (m := m) (la := la) (lb := lb) (base := base) (k := k) (v := v) (ks := ks) h'
    split at h
    · rename_i x y hx hy
      simp only [look] at h
      cases e : q == k with
      | true =>
        simp only [e, Option.some.injEq] at h
        have : q = k := by simpa using e
        subst this
        exact .inl ⟨x, y, hx, hy, h.symm⟩
      | false => simp only [e] at h; exact hrec h
    · rename_i hno
      split at h
      · rename_i u hu
        simp only [look] at h
        cases e : q == k with
        | true =>
          simp only [e, Option.some.injEq] at h
          have : q = k := by simpa using e
          subst this
          exact .inr ⟨u, hu, hno⟩
        | false => simp only [e] at h; exact hrec h
      · exact hrec h

theorem mergeL_none {κ : Type} [BEq κ] [LawfulBEq κ] {m : AV → AV → AV} {la lb base : List (κ × AV)} {k : κ} : ∀ {ks : List κ}, look (mergeL m la lb base ks) k = none → k ∈ ks → look base k = none
  | [], h, hm => by cases hm
  | q :: ks, h, hm => by
    simp only [mergeL] at h
    have hrec := fun h' hm' => mergeL_none (m := m) (la := la) (lb := lb) (base := base) (k := k) (ks := ks) h' hm'
    split at h
    · simp only [look] at h
      cases e : q == k with
      | true => simp [e] at h
      | false =>
        simp only [e] at h
        rcases List.mem_cons.1 hm with rfl | hm
        · simp at e
        · exact hrec h hm
    · split at h
      · simp only [look] at h
        cases e : q == k with
        | true => simp [e] at h
        | false =>
          simp only [e] at h
          rcases List.mem_cons.1 hm with rfl | hm
          · simp at e
          · exact hrec h hm
      · rename_i hu
        rcases List.mem_cons.1 hm with rfl | hm
        · exact hu
        · exact hrec h hm

/-- The merged list as a whole, over what both have been added to. -/
theorem merged_look {κ : Type} [BEq κ] [LawfulBEq κ] {m : AV → AV → AV} {da db base : List (κ × AV)} {k : κ} {v : AV}
    (h : look (mergeL m (da ++ base) (db ++ base) base (dedup (delta (da ++ base) base ++ delta (db ++ base) base)) ++ base) k = some v) :
    (∃ x y, look (da ++ base) k = some x ∧ look (db ++ base) k = some y ∧ v = m x y) ∨ (look (da ++ base) k = some v ∧ look (db ++ base) k = some v) := by
  rw [look_append] at h
  cases hm : look (mergeL m (da ++ base) (db ++ base) base (dedup (delta (da ++ base) base ++ delta (db ++ base) base))) k with
  | some u =>
    rw [hm] at h
    simp only [Option.some.injEq] at h; subst h
    rcases mergeL_look hm with h | h
    · exact .inl h
    · obtain ⟨u, hu, hno⟩ := h
      exfalso
      have h1 : ∃ x, look (da ++ base) k = some x := by rw [look_append, hu]; cases look da k <;> exact ⟨_, rfl⟩
      have h2 : ∃ x, look (db ++ base) k = some x := by rw [look_append, hu]; cases look db k <;> exact ⟨_, rfl⟩
      obtain ⟨x, h1⟩ := h1
      obtain ⟨y, h2⟩ := h2
      exact hno x y h1 h2
  | none =>
    rw [hm] at h
    simp only at h
    right
    have hnot : k ∉ dedup (delta (da ++ base) base ++ delta (db ++ base) base) := fun hk => by
      have := mergeL_none hm hk
      rw [h] at this; cases this
    have h1 : k ∉ da.map (·.1) := fun hk => hnot (mem_dedup (List.mem_append_left _ (by rw [delta_app]; exact hk)))
    have h2 : k ∉ db.map (·.1) := fun hk => hnot (mem_dedup (List.mem_append_right _ (by rw [delta_app]; exact hk)))
    rw [look_append, look_append, look_none_of h1, look_none_of h2]
    exact ⟨h, h⟩

/-! ### The newest headers of both ways -/
theorem verAt_some {M : Key → Option AV} {i x : Nat} (h : verAt M i = some x) : ∃ e t xs, M (i, 0) = some (.row e t xs x) := by
  unfold verAt at h
  split at h
  · rename_i e t xs y hm
    simp only [Option.some.injEq] at h; subst h
    exact ⟨e, t, xs, hm⟩
  · cases h
theorem verAt_row {M : Key → Option AV} {i e t x : Nat} {xs : List (Dat t)} (h : M (i, 0) = some (.row e t xs x)) : verAt M i = some x := by
  unfold verAt; rw [h]
def Ctx.bump (C : Ctx) (A B : Key → Option AV) : Ctx := { C with
  hok := fun i v => C.hok i v ∨ ∃ x y, verAt A i = some x ∧ verAt B i = some y ∧ v = Nat.max x y ∧ C.hok i x
  hd := fun i v => match verAt A i, verAt B i with
    | some x, some y => if v = Nat.max x y ∧ x < y then C.hd i x else C.hd i v
    | _, _ => C.hd i v }
theorem bump_hd {C : Ctx} {A B : Key → Option AV} {i x y : Nat} (hx : verAt A i = some x) (hy : verAt B i = some y) : (C.bump A B).hd i (Nat.max x y) = C.hd i x := by
  unfold Ctx.bump
  simp only [hx, hy]
  split
  · rfl
  · rename_i h
    have : ¬ x < y := by simpa using h
    have : Nat.max x y = x := Nat.max_eq_left (by omega)
    rw [this]
theorem bump_le {C : Ctx} {A B : Key → Option AV} (hM : MR C A) : C.Le (C.bump A B) := by
  refine ⟨fun _ h => ⟨h, rfl⟩, fun _ h => ⟨h, rfl⟩, fun i v hv => ⟨.inl hv, ?_⟩⟩
  unfold Ctx.bump
  simp only
  split
  · rename_i x y hx hy
    split
    · rename_i h
      obtain ⟨e, t, xs, hm⟩ := verAt_some hx
      obtain ⟨_, hrow⟩ := hM.sp i 0 _ hm rfl
      have := hrow.top v hv
      have : Nat.max x y = y := Nat.max_eq_right (by omega)
      omega
    · rfl
  · rfl
theorem bumpV_VR {C : Ctx} {A B : Key → Option AV} (hM : MR C A) {a : AV} {v : Value} (h : VR C a v) : VR (C.bump A B) (bumpV A B a) v := by
  have hle := bump_le (B := B) hM
  cases a with
  | gs i w =>
    simp only [bumpV]
    split
    · rename_i x y hx hy
      split
      · rename_i e
        have e : w = x := by simpa using e
        subst e
        cases h with
        | gs hk he => exact .gs (.inr ⟨w, y, hx, hy, rfl, hk⟩) ((bump_hd hx hy).trans he)
      · exact h.mono hle
    · exact h.mono hle
  | _ => exact h.mono hle
theorem unbump {C : Ctx} {A B : Key → Option AV} (hM : MR C A) {a : AV} {u v : Value} (h0 : VR C a u) (h : VR (C.bump A B) (bumpV A B a) v) : VR (C.bump A B) a v := by
  cases a with
  | gs i w =>
    simp only [bumpV] at h
    split at h
    · rename_i x y hx hy
      split at h
      · rename_i e
        have e : w = x := by simpa using e
        subst e
        cases h0 with
        | gs hk0 he0 =>
        cases h with
        | gs hk he =>
        refine .gs (.inl hk0) ?_
        rw [((bump_le (B := B) hM).hok i w hk0).2, ← bump_hd hx hy]
        exact he
      · exact h
    · exact h
  | _ => exact h
theorem bumpV_width (A B : Key → Option AV) (a : AV) : (bumpV A B a).width = a.width := by
  cases a with
  | gs i w =>
    simp only [bumpV]
    split
    · split <;> rfl
    · rfl
  | _ => rfl
theorem bumpV_single (A B : Key → Option AV) (a : AV) : (bumpV A B a).single = a.single := by
  cases a with
  | gs i w =>
    simp only [bumpV]
    split
    · split <;> rfl
    · rfl
  | _ => rfl
theorem bumpV_spec (A B : Key → Option AV) (a : AV) : (bumpV A B a).spec = a.spec := by
  cases a with
  | gs i w =>
    simp only [bumpV]
    split
    · split <;> rfl
    · rfl
  | _ => rfl
theorem bumpV_CR {C : Ctx} {A B : Key → Option AV} (hM : MR C A) {a : AV} {vs : List Value} (h : CR C [a] vs) : CR (C.bump A B) [bumpV A B a] vs := by
  cases h with
  | one ha hv h hl => cases hl; exact .one ((bumpV_single A B a).trans ha) hv (bumpV_VR hM h) .nil
  | ar h0 h h1 hf hl => cases hl; exact (CR.ar h0 h h1 hf .nil).mono (bump_le hM)
/-- A row's newest version, of both ways. -/
def bumpK (A B : Key → Option AV) (k : Key) : AV → AV
  | .row e t xs x => match verAt B k.1 with
    | some y => .row e t xs (Nat.max x y)
    | none => .row e t xs x
  | a => bumpV A B a
theorem bumpK_width (A B : Key → Option AV) (k : Key) (a : AV) : (bumpK A B k a).width = a.width := by
  cases a with
  | row e t xs x =>
    simp only [bumpK]
    split <;> rfl
  | gs i v => exact bumpV_width A B (.gs i v)
  | _ => rfl
theorem bumpK_spec (A B : Key → Option AV) (k : Key) (a : AV) : (bumpK A B k a).spec = a.spec := by
  cases a with
  | row e t xs x =>
    simp only [bumpK]
    split <;> rfl
  | gs i v => exact bumpV_spec A B (.gs i v)
  | _ => rfl
theorem SR_bump [Glob] {A B : Key → Option AV} {C : Ctx} (h : SR w0 E R0 A C) : SR w0 E R0 (fun k => (A k).map (bumpK A B k)) (C.bump A B) := by
  have hle := bump_le (B := B) h.mr
  refine ⟨⟨?_, ?_, ?_⟩, ⟨h.own.lt, h.own.unfrozen, h.own.apart, h.own.inj, h.own.R_lt, h.own.sized, h.own.dis, h.own.liv, h.own.rsz, ?_⟩, h.fr, h.mine, h.rr, h.keep, Glob.mono h.gl hle.R, h.rown⟩
  · intro id off a' ha' hs
    obtain ⟨a, ha, rfl⟩ := Option.map_eq_some_iff.1 ha'
    rw [bumpK_spec] at hs
    obtain ⟨hd, vs, hc, hat⟩ := h.mr.at_ id off a ha hs
    refine ⟨hd, vs, ?_, hat⟩
    cases a with
    | row e t xs x => cases hs
    | _ => exact bumpV_CR h.mr hc
  · intro id off a' ha' hs
    obtain ⟨a, ha, rfl⟩ := Option.map_eq_some_iff.1 ha'
    rw [bumpK_spec] at hs
    have hsp := h.mr.sp id off a ha hs
    cases a with
    | row e t xs x =>
      obtain ⟨rfl, hrow⟩ := hsp
      have hx := verAt_row ha
      have same : ∀ v, (∀ v', (C.bump A B).hok id v' → v' ≤ v) → (C.bump A B).hok id v → (C.bump A B).hd id v = C.hd id x → RowR (C.bump A B) id e t xs v := by
        intro v ht hk hh
        refine ⟨hrow.row, ht, hk, ?_⟩
        rcases hrow.at_ with ⟨k1, k2, k3⟩ | ⟨k1, cap, cur, k2, k3, k4, k5, k6, k7⟩ | ⟨k0, b, e0, cap, cur, k1, k2, k3, k4, k5, k6, k7⟩
        · exact .inl ⟨k1, k2, hh.trans k3⟩
        · exact .inr (.inl ⟨k1, cap, cur, hh.trans k2, k3, k4, k5, k6, fun i hi => CR.mono (C := C.bare) (C' := (C.bump A B).bare) ⟨fun _ h => False.elim h, hle.R, fun _ _ h => False.elim h⟩ (k7 i hi)⟩)
        · exact .inr (.inr ⟨k0, b, e0, cap, cur, k1, hh.trans k2, k3, k4, k5, k6, fun i hi => CR.mono (C := C.bare) (C' := (C.bump A B).bare) ⟨fun _ h => False.elim h, hle.R, fun _ _ h => False.elim h⟩ (k7 i hi)⟩)
      simp only [bumpK]
      split
      · rename_i y hy
        refine ⟨rfl, same _ ?_ (.inr ⟨x, y, hx, hy, rfl, hrow.ok⟩) (bump_hd hx hy)⟩
        rintro v' (hv | ⟨x', y', h1, h2, rfl, _⟩)
        · exact Nat.le_trans (hrow.top v' hv) (Nat.le_max_left _ _)
        · rw [hx] at h1; rw [show verAt B id = some y from hy] at h2; cases h1; cases h2; exact Nat.le_refl _
      · rename_i hy
        refine ⟨rfl, same _ ?_ (.inl hrow.ok) ((hle.hok id x hrow.ok).2)⟩
        rintro v' (hv | ⟨x', y', h1, h2, rfl, _⟩)
        · exact hrow.top v' hv
        · rw [show verAt B id = none from hy] at h2; cases h2
    | sit s0 p0 => exact hsp
    | dead => exact hsp
    | _ => cases hs
  · intro id o1 o2 a1 a2 h1 h2 hlt
    obtain ⟨b1, k1, rfl⟩ := Option.map_eq_some_iff.1 h1
    obtain ⟨b2, k2, rfl⟩ := Option.map_eq_some_iff.1 h2
    rw [bumpK_width]
    exact h.mr.apart id o1 o2 b1 b2 k1 k2 hlt
  · rintro i v (hv | ⟨x, y, _, _, _, hk⟩)
    · exact h.own.hokr i v hv
    · exact h.own.hokr i x hk

theorem mergeSt_inv [Glob] {c : Bool} {base sa sb : St} {a : Act} {C : Ctx} (ha : Adds base sa) (hb : Adds base sb) (hc : sameCut base sa sb = true) (h1 : c = true → CInv w0 E R0 nt sa a C) (h2 : c = false → CInv w0 E R0 nt sb a C) : ∃ C' : Ctx, C'.w = C.w ∧ CInv w0 E R0 nt (mergeSt c base sa sb) a C' := by
  unfold sameCut at hc
  simp only [Bool.and_eq_true, beq_iff_eq] at hc
  obtain ⟨⟨da, ea⟩, ⟨ma, fa⟩⟩ := ha.same hc.1
  obtain ⟨⟨db, eb⟩, ⟨mb, fb⟩⟩ := hb.same hc.2
  have main : ∀ (st : St) (A B : Key → Option AV), A = look st.mem → CInv w0 E R0 nt st a C →
      (∀ t v, look (mergeSt c base sa sb).env t = some v → (∃ x y, look st.env t = some x ∧ v = merge c (if c = true then bumpV A B x else y) (if c = true then y else bumpV A B x)) ∨ look st.env t = some v) →
      (∀ k v, look (mergeSt c base sa sb).mem k = some v → (∃ x y, A k = some x ∧ B k = some y ∧ v = mergeM c (if c = true then bumpV A B x else bumpV B A y) (if c = true then bumpV B A y else bumpV A B x)) ∨ (A k = some v ∧ B k = some v)) →
      (∀ i, (i, C.sz i) ∈ st.ids → (i, C.sz i) ∈ (mergeSt c base sa sb).ids) → ∃ C' : Ctx, C'.w = C.w ∧ CInv w0 E R0 nt (mergeSt c base sa sb) a C' := by
    rintro st A B rfl inv he hm hi
    have hle := bump_le (B := B) inv.sr.mr
    have hsr := SR_bump (B := B) inv.sr
    refine ⟨C.bump (look st.mem) B, rfl, inv.size, inv.defers, ?_, ⟨hsr.mr.weaken ?_, hsr.own, hsr.fr, hsr.mine, hsr.rr, hsr.keep, hsr.gl, hsr.rown⟩, inv.kn, fun i hh => hi i (inv.ids i hh)⟩
    · intro t v hv
      rcases he t v hv with ⟨x, y, k1, rfl⟩ | k1
      · have hx := bumpV_VR (B := B) inv.sr.mr (inv.env t x k1)
        refine merge_VR (fun e => ?_) (fun e => ?_)
        · rw [if_pos e]; exact hx
        · rw [if_neg (by simp [e])]; exact hx
      · exact (inv.env t v k1).mono hle
    · intro k a' ha'
      have wpos : ∀ {x}, look st.mem k = some x → 0 < x.width := fun h => inv.sr.mr.wpos h
      rcases hm k a' ha' with ⟨x, y, k1, k2, rfl⟩ | ⟨k1, k2⟩
      · refine ⟨bumpK (look st.mem) B k x, by simp only [k1, Option.map_some], ?_⟩
        cases hsx : x.spec with
        | false =>
          have hk : bumpK (look st.mem) B k x = bumpV (look st.mem) B x := by
            cases x <;> first | rfl | cases hsx
          rw [hk]
          have sx : (bumpV (look st.mem) B x).spec = false := (bumpV_spec _ _ _).trans hsx
          have sy : (bumpV B (look st.mem) y).spec = y.spec := bumpV_spec _ _ _
          cases hsy : y.spec with
          | false =>
            rw [hsy] at sy
            obtain ⟨_, vs, hv, _⟩ := inv.sr.mr.at_ k.1 k.2 x k1 hsx
            have hv' := bumpV_CR (B := B) inv.sr.mr hv
            cases c with
            | true =>
              simp only [if_true]
              obtain ⟨⟨v1, v2, _, h5⟩, h6, _⟩ := mergeM_CR (c := true) sx sy (fun _ => hv') (fun e => by cases e)
              exact ⟨h6 rfl, .inr (.inr ⟨sx, CR_spec h5, fun vs hv => (mergeM_CR sx sy (fun _ => hv) (fun e => by cases e)).1⟩)⟩
            | false =>
              simp only [Bool.false_eq_true, if_false]
              obtain ⟨⟨v1, v2, _, h5⟩, _, h6⟩ := mergeM_CR (c := false) sy sx (fun e => by cases e) (fun _ => hv')
              exact ⟨h6 rfl, .inr (.inr ⟨sx, CR_spec h5, fun vs hv => (mergeM_CR sy sx (fun e => by cases e) (fun _ => hv)).1⟩)⟩
          | true =>
            rw [hsy] at sy
            have hd : mergeM c (if c = true then bumpV (look st.mem) B x else bumpV B (look st.mem) y) (if c = true then bumpV B (look st.mem) y else bumpV (look st.mem) B x) = .dead := by
              cases c with
              | true =>
                simp only [if_true]
                unfold mergeM; rw [sx, sy]
                show mergeSp true _ _ = _
                generalize bumpV (look st.mem) B x = X at sx
                cases X <;> first | rfl | cases sx
              | false =>
                simp only [Bool.false_eq_true, if_false]
                unfold mergeM; rw [sx, sy]
                show mergeSp false _ _ = _
                generalize bumpV (look st.mem) B x = X at sx
                generalize bumpV B (look st.mem) y = Y
                cases X <;> first | (cases Y <;> rfl) | cases sx
            rw [hd]
            exact ⟨by rw [bumpV_width]; exact wpos k1, .inr (.inl rfl)⟩
        | true =>
          have hsp := inv.sr.mr.sp k.1 k.2 x k1 hsx
          have hX : bumpV (look st.mem) B x = x := by cases x <;> first | rfl | cases hsx
          have hY : y.spec = true → bumpV B (look st.mem) y = y := fun h => by cases y <;> first | rfl | cases h
          rw [hX]
          have dead : ∀ {z : AV}, z = .dead → z.width ≤ (bumpK (look st.mem) B k x).width ∧ (z = bumpK (look st.mem) B k x ∨ z = .dead ∨ ((bumpK (look st.mem) B k x).spec = false ∧ z.spec = false ∧ ∀ vs, CR (C.bump (look st.mem) B) [bumpK (look st.mem) B k x] vs → ∃ v1 v2, vs = v1 ++ v2 ∧ CR (C.bump (look st.mem) B) [z] v1)) := by
            rintro z rfl
            exact ⟨by rw [bumpK_width]; exact wpos k1, .inr (.inl rfl)⟩
          have spx : ∀ Y, mergeM true x Y = mergeSp true x Y := fun Y => by unfold mergeM; rw [hsx]; rfl
          have spy : ∀ Y, mergeM false Y x = mergeSp false Y x := fun Y => by unfold mergeM; rw [hsx, Bool.or_true]
          cases x with
          | row e t xs ver =>
            obtain ⟨hk2, hrow⟩ := hsp
            cases y with
            | row e' t' ys ver' =>
              have hB : verAt B k.1 = some ver' := verAt_row (e := e') (xs := ys) (by rw [← hk2]; exact k2)
              have hbk : bumpK (look st.mem) B k (.row e t xs ver) = .row e t xs (Nat.max ver ver') := by simp only [bumpK, hB]
              rw [hY rfl]
              cases c with
              | true =>
                simp only [if_true]
                rw [spx]
                by_cases ht : t' = t
                · subst ht
                  by_cases hee : e' = e
                  · subst hee
                    rw [hbk]
                    have : mergeSp true (.row e' t' xs ver) (.row e' t' ys ver') = .row e' t' xs (Nat.max ver ver') := by simp [mergeSp]
                    rw [this]
                    exact ⟨Nat.le_refl _, .inl rfl⟩
                  · rw [hbk]
                    have : mergeSp true (.row e t' xs ver) (.row e' t' ys ver') = .row e t' xs (Nat.max ver ver') := by simp [mergeSp, hee]
                    rw [this]
                    exact ⟨Nat.le_refl _, .inl rfl⟩
                · exact dead (by simp [mergeSp, ht])
              | false =>
                simp only [Bool.false_eq_true, if_false]
                rw [spy]
                by_cases ht : t = t'
                · subst ht
                  by_cases hee : e = e'
                  · subst hee
                    rw [hbk]
                    have : mergeSp false (.row e t ys ver') (.row e t xs ver) = .row e t xs (Nat.max ver ver') := by simp [mergeSp, Nat.max_comm]
                    rw [this]
                    exact ⟨Nat.le_refl _, .inl rfl⟩
                  · rw [hbk]
                    have : mergeSp false (.row e' t ys ver') (.row e t xs ver) = .row e t xs (Nat.max ver ver') := by simp [mergeSp, hee, Nat.max_comm]
                    rw [this]
                    exact ⟨Nat.le_refl _, .inl rfl⟩
                · exact dead (by simp [mergeSp, ht])
            | gs i v =>
              refine dead ?_
              cases c with
              | true =>
                simp only [if_true]; rw [spx]
                generalize bumpV B (look st.mem) (.gs i v) = Y, bumpV_spec B (look st.mem) (.gs i v) = hY
                cases Y <;> first | rfl | cases hY
              | false =>
                simp only [Bool.false_eq_true, if_false]; rw [spy]
                generalize bumpV B (look st.mem) (.gs i v) = Y, bumpV_spec B (look st.mem) (.gs i v) = hY
                cases Y <;> first | rfl | cases hY
            | _ =>
              refine dead ?_
              cases c with
              | true => simp only [if_true]; rw [spx]; rfl
              | false => simp only [Bool.false_eq_true, if_false]; rw [spy]; rfl
          | sit s0 p0 =>
            refine dead ?_
            cases c with
            | true => simp only [if_true]; rw [spx]; rfl
            | false =>
              simp only [Bool.false_eq_true, if_false]; rw [spy]
              generalize bumpV B (look st.mem) y = Y
              cases Y <;> rfl
          | dead =>
            refine dead ?_
            cases c with
            | true => simp only [if_true]; rw [spx]; rfl
            | false =>
              simp only [Bool.false_eq_true, if_false]; rw [spy]
              generalize bumpV B (look st.mem) y = Y
              cases Y <;> rfl
          | _ => cases hsx
      · refine ⟨bumpK (look st.mem) B k a', by simp only [k1, Option.map_some], by rw [bumpK_width]; exact Nat.le_refl _, ?_⟩
        cases hsx : a'.spec with
        | false =>
          have hk : bumpK (look st.mem) B k a' = bumpV (look st.mem) B a' := by cases a' <;> first | rfl | cases hsx
          rw [hk]
          refine .inr (.inr ⟨(bumpV_spec _ _ _).trans hsx, rfl, fun vs hv => ⟨vs, [], by simp, ?_⟩⟩)
          obtain ⟨_, vs0, hv0, _⟩ := inv.sr.mr.at_ k.1 k.2 a' k1 hsx
          cases hv0 with
          | one ha h1 h2 hl =>
            obtain ⟨u, rfl, h4, h5⟩ := CR_one hv ((bumpV_single _ _ _).trans ha)
            exact .one ha h5 (unbump inv.sr.mr h2 h4) .nil
          | ar h0 h1 h2 hf hl => exact hv
        | true =>
          have hsp := inv.sr.mr.sp k.1 k.2 a' k1 hsx
          left
          cases a' with
          | row e t xs ver =>
            have hB : verAt B k.1 = some ver := verAt_row (e := e) (xs := xs) (by rw [← hsp.1]; exact k2)
            simp only [bumpK, hB]
            rw [show Nat.max ver ver = ver from Nat.max_self ver]
          | sit s0 p0 => rfl
          | dead => rfl
          | _ => cases hsx
  have envs : ∀ t v, look (mergeSt c base sa sb).env t = some v → (∃ x y, look sa.env t = some x ∧ look sb.env t = some y ∧ v = merge c (bumpV (look sa.mem) (look sb.mem) x) (bumpV (look sb.mem) (look sa.mem) y)) ∨ (look sa.env t = some v ∧ look sb.env t = some v) := by
    intro t v hv
    unfold mergeSt at hv
    simp only at hv
    rw [ea, eb] at hv
    rcases merged_look hv with ⟨x, y, k1, k2, e⟩ | ⟨k1, k2⟩
    · rw [← ea] at k1; rw [← eb] at k2
      exact .inl ⟨x, y, k1, k2, e⟩
    · rw [← ea] at k1; rw [← eb] at k2
      exact .inr ⟨k1, k2⟩
  have mems : ∀ k v, look (mergeSt c base sa sb).mem k = some v → (∃ x y, look sa.mem k = some x ∧ look sb.mem k = some y ∧ v = mergeM c (bumpV (look sa.mem) (look sb.mem) x) (bumpV (look sb.mem) (look sa.mem) y)) ∨ (look sa.mem k = some v ∧ look sb.mem k = some v) := by
    intro k v hv
    unfold mergeSt at hv
    simp only at hv
    generalize hF : (fun x y => mergeM c (bumpV (look sa.mem) (look sb.mem) x) (bumpV (look sb.mem) (look sa.mem) y)) = F at hv
    rw [fa, fb] at hv
    rcases merged_look hv with ⟨x, y, k1, k2, e⟩ | ⟨k1, k2⟩
    · rw [← fa] at k1; rw [← fb] at k2
      rw [← hF] at e
      exact .inl ⟨x, y, k1, k2, e⟩
    · rw [← fa] at k1; rw [← fb] at k2
      exact .inr ⟨k1, k2⟩
  cases c with
  | true =>
    refine main sa (look sa.mem) (look sb.mem) rfl (h1 rfl) (fun t v hv => ?_) (fun k v hv => ?_) (fun i h => List.mem_append_left _ h)
    · rcases envs t v hv with ⟨x, y, k1, k2, e⟩ | ⟨k1, k2⟩
      · exact .inl ⟨x, bumpV (look sb.mem) (look sa.mem) y, k1, by simpa using e⟩
      · exact .inr k1
    · rcases mems k v hv with ⟨x, y, k1, k2, e⟩ | ⟨k1, k2⟩
      · exact .inl ⟨x, y, k1, k2, by simpa using e⟩
      · exact .inr ⟨k1, k2⟩
  | false =>
    refine main sb (look sb.mem) (look sa.mem) rfl (h2 rfl) (fun t v hv => ?_) (fun k v hv => ?_) (fun i h => List.mem_append_right _ h)
    · rcases envs t v hv with ⟨x, y, k1, k2, e⟩ | ⟨k1, k2⟩
      · exact .inl ⟨y, bumpV (look sa.mem) (look sb.mem) x, k2, by simpa using e⟩
      · exact .inr k2
    · rcases mems k v hv with ⟨x, y, k1, k2, e⟩ | ⟨k1, k2⟩
      · exact .inl ⟨y, x, k2, k1, by simpa using e⟩
      · exact .inr ⟨k2, k1⟩

/-! ### Forgetting -/
def Ctx.only (C : Ctx) (M : Key → Option AV) (ids : List Nat) : Ctx := { C with
  dom := fun i => C.dom i ∧ i ∈ ids
  liv := fun i => C.liv i ∧ i ∈ ids
  row := fun i => C.row i ∧ i ∈ ids
  hok := fun i v => v = 0 ∧ i ∈ ids ∧ ∃ x, verAt M i = some x ∧ C.hok i x
  hd := fun i _ => match verAt M i with
    | some x => C.hd i x
    | none => .bool false }
theorem only_bare (C : Ctx) (M : Key → Option AV) (ids : List Nat) : C.bare.Le (C.only M ids).bare := ⟨fun _ h => h.elim, fun b hb => ⟨hb, rfl⟩, fun _ _ h => h.elim⟩
theorem renum1_single {M : Key → Option AV} {a : AV} (h : a.single = true) : (renum1 M a).single = true := by
  cases a with
  | gs i v =>
    simp only [renum1]
    split
    · split <;> rfl
    · rfl
  | _ => exact h

theorem ro_only {C : Ctx} {M : Key → Option AV} {ids : List Nat} {s n : Nat} {g : Nat → List AV} {v : Value} (h : VR C (.ro s n g) v) : VR (C.only M ids) (.ro s n g) v := by
  cases h with
  | ro hR h hl hc hcap hn => exact VR.ro (C := C.only M ids) hR (fun i hi => (h i hi).mono (only_bare C M ids)) hl hc hcap hn
  | ro0 => exact .ro0
  | roE => exact .roE
theorem keeps1_VR {C : Ctx} {M : Key → Option AV} {ids : List Nat} {a : AV} {v : Value} (h : VR C a v) (hk : keeps1 ids a = true) : VR (C.only M ids) (renum1 M a) v := by
  cases h with
  | poison => exact .poison _
  | i hk' h => exact .i hk' h
  | u hk' => exact .u hk'
  | b => exact .b _
  | str _ h => exact .str _ h
  | nilp => exact .nilp
  | nils => exact .nils
  | ptr off hd => exact VR.ptr (C := C.only M ids) off ⟨hd, by simpa [keeps1] using hk⟩
  | px off n hd hi => exact VR.px (C := C.only M ids) off n ⟨hd, by simpa [keeps1] using hk⟩ hi
  | agg _ => simp [keeps1] at hk
  | tup _ => simp [keeps1] at hk
  | osl off hd hcap hn => exact VR.osl (C := C.only M ids) off ⟨hd, by simpa [keeps1] using hk⟩ hcap hn
  | clo h => exact .clo (TR.mono (C := baseC C.w C.R) (C' := C.only M ids) ⟨fun _ h => h.elim, fun b hb => ⟨hb, rfl⟩, fun _ _ h => h.elim⟩ (bareS_TR h hk (fun b hb => ⟨hb, rfl⟩)))
  | ro hR h hl hc hcap hn => exact VR.ro (C := C.only M ids) hR (fun i hi => (h i hi).mono (only_bare C M ids)) hl hc hcap hn
  | ro0 => exact .ro0
  | roE => exact .roE
  | rp hR h hc => exact VR.rp (C := C.only M ids) hR (h.mono (only_bare C M ids)) hc
  | vw h => exact VR.vw (C := C.only M ids) (ro_only h)
  | @gs _ id ver n cap a hok he =>
    simp only [renum1]
    split
    · rename_i x hx
      split
      · rename_i e
        have e : ver = x := by simpa using e
        subst e
        refine .gs ⟨rfl, by simpa [keeps1] using hk, ver, hx, hok⟩ ?_
        unfold Ctx.only
        simp only [hx]
        exact he
      · exact .poison _
    · exact .poison _
  | pg _ _ _ => simp [keeps1] at hk

theorem keeps_CR {C : Ctx} {M : Key → Option AV} {ids : List Nat} {l : List AV} {vs : List Value} (h : CR C l vs) (hk : l.all (keeps1 ids) = true) : CR (C.only M ids) (l.map (renum1 M)) vs := by
  match h with
  | .nil => exact .nil
  | .one ha hv h hl =>
    simp only [List.all_cons, Bool.and_eq_true] at hk
    exact .one (renum1_single ha) hv (keeps1_VR h hk.1) (keeps_CR hl hk.2)
  | .ar h0 h h1 hf hl =>
    simp only [List.all_cons, Bool.and_eq_true] at hk
    exact CR.ar (C := C.only M ids) h0 (fun j hj => (h j hj).mono (only_bare C M ids)) h1 hf (keeps_CR hl hk.2)

theorem keeps_TR {C : Ctx} {M : Key → Option AV} {ids : List Nat} {l : List AV} {vs : List Value} (h : TR C l vs) (hk : l.all (keeps1 ids) = true) : TR (C.only M ids) (l.map (renum1 M)) vs := by
  match h with
  | .nil => exact .nil
  | .cons h hl =>
    simp only [List.all_cons, Bool.and_eq_true] at hk
    exact .cons (keeps1_VR h hk.1) (keeps_TR hl hk.2)

theorem keeps_VR {C : Ctx} {M : Key → Option AV} {ids : List Nat} {a : AV} {v : Value} (h : VR C a v) (hk : keeps ids a = true) : VR (C.only M ids) (renumV M a) v := by
  cases a with
  | agg l => cases h with
    | agg h => exact .agg (keeps_CR h (by simpa [keeps] using hk))
  | tup l => cases h with
    | tup h => exact .tup (keeps_TR h (by simpa [keeps] using hk))
  | _ => exact keeps1_VR h hk

theorem pickE_look {ids : List Nat} {M : Key → Option AV} {l : List (Nat × AV)} {t : Nat} {v : AV} : ∀ {ks : List Nat}, look (pickE ids M l ks) t = some v → ∃ u, v = renumV M u ∧ look l t = some u ∧ keeps ids u = true
  | [], h => by simp [pickE, look] at h
  | k :: ks, h => by
    simp only [pickE] at h
    have hrec := fun h' => pickE_look (ids := ids) (M := M) (l := l) (t := t) (v := v) (ks := ks) h'
    split at h
    · rename_i u hu
      split at h
      · rename_i hk
        simp only [look] at h
        cases e : k == t with
        | true =>
          simp only [e, Option.some.injEq] at h
          have : k = t := by simpa using e
          subst this; subst h
          exact ⟨u, rfl, hu, hk⟩
        | false => simp only [e] at h; exact hrec h
      · exact hrec h
    · exact hrec h

theorem pickM_look {ids : List Nat} {M : Key → Option AV} {l : List (Key × AV)} {t : Key} {v : AV} : ∀ {ks : List Key}, look (pickM ids M l ks) t = some v → ∃ u, v = renumM M u ∧ look l t = some u ∧ keeps ids u = true ∧ t.1 ∈ ids
  | [], h => by simp [pickM, look] at h
  | k :: ks, h => by
    simp only [pickM] at h
    have hrec := fun h' => pickM_look (ids := ids) (M := M) (l := l) (t := t) (v := v) (ks := ks) h'
    split at h
    · rename_i hi
      split at h
      · rename_i u hu
        split at h
        · rename_i hk
          simp only [look] at h
          cases e : k == t with
          | true =>
            simp only [e, Option.some.injEq] at h
            have : k = t := by simpa using e
            subst this; subst h
            exact ⟨u, rfl, hu, hk, by simpa using hi⟩
          | false => simp only [e] at h; exact hrec h
        · exact hrec h
      · exact hrec h
    · exact hrec h

theorem pickI_mem {ids : List Nat} {x : Nat × Nat} : ∀ {l : List (Nat × Nat)}, x ∈ l → x.1 ∈ ids → x ∈ pickI ids l
  | y :: l, h, hx => by
    simp only [pickI]
    rcases List.mem_cons.1 h with rfl | h
    · have : ids.contains x.1 = true := by simpa using hx
      rw [this]
      dsimp only
      split
      · rename_i hc; exact pickI_mem (by simpa using hc) hx
      · exact List.mem_cons_self ..
    · split
      · split
        · exact pickI_mem h hx
        · exact List.mem_cons_of_mem _ (pickI_mem h hx)
      · exact pickI_mem h hx

theorem recut_inv [Glob] {st : St} {c : Nat} {a : Act} {C : Ctx} (h : CInv w0 E R0 nt st a C) : CInv w0 E R0 nt ⟨st.env, st.mem, st.ids, c⟩ a C := ⟨h.size, h.defers, h.env, h.sr, h.kn, h.ids⟩

theorem renumM_spec (M : Key → Option AV) (a : AV) : (renumM M a).spec = a.spec := by
  cases a with
  | gs i v =>
    show (renum1 M (.gs i v)).spec = _
    simp only [renum1]
    split
    · split <;> rfl
    · rfl
  | _ => rfl
theorem renumM_width (M : Key → Option AV) (a : AV) : (renumM M a).width = a.width := by
  cases a with
  | gs i v =>
    show (renum1 M (.gs i v)).width = _
    simp only [renum1]
    split
    · split <;> rfl
    · rfl
  | _ => rfl
theorem only_blk {C : Ctx} {M : Key → Option AV} {ids : List Nat} {i : Nat} (h : (C.only M ids).blk i) : C.blk i := by
  rcases h with h | h
  · exact .inl h.1
  · exact .inr h.1
theorem forget_inv [Glob] {L : Live} {st : St} {a : Act} {C : Ctx} (h : CInv w0 E R0 nt st a C) : CInv w0 E R0 nt (forget L st) a (C.only (look st.mem) L.ids) := by
  refine ⟨h.size, h.defers, ?_, ⟨⟨?_, ?_, ?_⟩, ⟨fun id hd => h.sr.own.lt id (only_blk hd), fun id hd => h.sr.own.unfrozen id (only_blk hd), fun id hd => h.sr.own.apart id (only_blk hd), fun a b ha hb => h.sr.own.inj a b (only_blk ha) (only_blk hb), h.sr.own.R_lt, fun id hd => h.sr.own.sized id hd.1, fun id hd hr => h.sr.own.dis id hd.1 hr.1, fun id hl => ⟨h.sr.own.liv id hl.1, hl.2⟩, fun id hr => h.sr.own.rsz id hr.1, fun id v hv => ?_⟩, h.sr.fr, fun id hd => h.sr.mine id (only_blk hd), h.sr.rr, fun id b n hk hd => h.sr.keep id b n hk hd.1, h.sr.gl, fun id hl => h.sr.rown id hl.1⟩, h.kn, ?_⟩
  · intro t v hv
    obtain ⟨u, rfl, h1, h2⟩ := pickE_look hv
    exact keeps_VR (h.env t u h1) h2
  · intro id off x hx hsx
    obtain ⟨u, rfl, h1, h2, h3⟩ := pickM_look hx
    rw [renumM_spec] at hsx
    obtain ⟨hd, vs, hc, hat⟩ := h.sr.mr.at_ id off u h1 hsx
    refine ⟨⟨hd, h3⟩, vs, ?_, hat⟩
    cases hc with
    | one ha hv hx' hl =>
      cases hl
      cases u <;> first | (simp [AV.single] at ha; done) | exact .one (renum1_single (M := look st.mem) ha) hv (keeps1_VR hx' h2) .nil
    | ar h0 hx' h1' hf hl => cases hl; exact CR.ar (C := C.only (look st.mem) L.ids) h0 (fun j hj => (hx' j hj).mono (only_bare C _ _)) h1' hf .nil
  · intro id off x hx hsx
    obtain ⟨u, rfl, h1, h2, h3⟩ := pickM_look hx
    rw [renumM_spec] at hsx
    have hsp := h.sr.mr.sp id off u h1 hsx
    cases u with
    | sit s0 p0 => exact ⟨⟨hsp.1, h3⟩, hsp.2⟩
    | row e t xs ver =>
      obtain ⟨rfl, hrow⟩ := hsp
      have hx := verAt_row h1
      have hh : (C.only (look st.mem) L.ids).hd id 0 = C.hd id ver := by unfold Ctx.only; simp only [hx]
      refine ⟨rfl, ⟨hrow.row, h3⟩, fun v hv => by rw [hv.1]; exact Nat.le_refl _, ⟨rfl, h3, ver, hx, hrow.ok⟩, ?_⟩
      rcases hrow.at_ with ⟨k1, k2, k3⟩ | ⟨k1, cap, cur, k2, k3, k4, k5, k6, k7⟩ | ⟨k0, b, e0, cap, cur, k1, k2, k3, k4, k5, k6, k7⟩
      · exact .inl ⟨fun hl => k1 hl.1, k2, hh.trans k3⟩
      · exact .inr (.inl ⟨⟨k1, h3⟩, cap, cur, hh.trans k2, k3, k4, k5, k6, fun i hi => (k7 i hi).mono (only_bare C _ _)⟩)
      · exact .inr (.inr ⟨k0, b, e0, cap, cur, k1, hh.trans k2, k3, k4, k5, k6, fun i hi => (k7 i hi).mono (only_bare C _ _)⟩)
    | dead =>
      rcases hsp with hd | hr
      · exact .inl ⟨hd, h3⟩
      · exact .inr ⟨hr, h3⟩
    | _ => cases hsx
  · intro id o1 o2 a1 a2 h1 h2
    obtain ⟨u1, rfl, k1, _⟩ := pickM_look h1
    obtain ⟨u2, rfl, k2, _⟩ := pickM_look h2
    rw [renumM_width]
    exact h.sr.mr.apart id o1 o2 u1 u2 k1 k2
  · obtain ⟨_, hm, x, _, hk⟩ := hv
    exact ⟨h.sr.own.hokr id x hk, hm⟩
  · intro i hi
    rcases hi with hi | hi
    · exact pickI_mem (h.ids i (.inl hi.1)) hi.2
    · exact pickI_mem (h.ids i (.inr hi.1)) hi.2

end
end Go.Proofs.YtcdnbdphakhilaaGreatDoor.Ev
namespace Go.Proofs.YtcdnbdphakhilaaGreatDoor.Ev
section
variable {P : Program} {T : TypeId → Option TyI} {S : FuncId → CSpec} {w0 : World} {E : Ent} {R0 : Nat → Prop} {nt : Nat}

def exOf : Ex → Exit
  | .normal => .normal
  | .exit id => .exit id
  | .ret => .ret

/-- A result that is as good. -/
def Good [Glob] (w0 : World) (E : Ent) (R0 : Nat → Prop) (nt : Nat) (t : Tr (Ex × St)) (e : Ex) (st' : St) : Prop := ∃ st1, t.run = some (e, st1) ∧ ∀ a C, CInv w0 E R0 nt st1 a C → ∃ C' : Ctx, C'.w = C.w ∧ CInv w0 E R0 nt st' a C'

theorem Good.of [Glob] {t : Tr (Ex × St)} {e : Ex} {st' : St} (h : t.run = some (e, st')) : Good w0 E R0 nt t e st' := ⟨st', h, fun _ C h => ⟨C, rfl, h⟩⟩

theorem joinL_good [Glob] {c : Bool} {base sa sb : St} {e : Ex} {st' : St} (ha : Adds base sa) (hb : Adds base sb) (h : (joinL c base sa sb).run = some (e, st')) :
    (c = true → Good w0 E R0 nt (.leaf (.normal, sa)) e st') ∧ (c = false → Good w0 E R0 nt (.leaf (.normal, sb)) e st') := by
  unfold joinL at h
  split at h
  · rename_i hc
    simp only [Tr.run, Option.some.injEq, Prod.mk.injEq] at h
    obtain ⟨rfl, rfl⟩ := h
    exact ⟨fun e => ⟨sa, rfl, fun a C hi => mergeSt_inv (c := c) ha hb hc (fun _ => hi) (fun e' => by rw [e] at e'; cases e')⟩, fun e => ⟨sb, rfl, fun a C hi => mergeSt_inv (c := c) ha hb hc (fun e' => by rw [e] at e'; cases e') (fun _ => hi)⟩⟩
  · simp only [Tr.run] at h
    cases c with
    | true => simp only [if_true] at h; exact ⟨fun _ => .of h, fun e => by cases e⟩
    | false => simp only [Bool.false_eq_true, if_false] at h; exact ⟨(fun e => by cases e), fun _ => .of h⟩

theorem ite_good [Glob] {c : Bool} {t u : Tr (Ex × St)} {e : Ex} {st' : St} (h : (Tr.ite c t u).run = some (e, st')) : (c = true → Good w0 E R0 nt t e st') ∧ (c = false → Good w0 E R0 nt u e st') := by
  simp only [Tr.run] at h
  cases c with
  | true => simp only [if_true] at h; exact ⟨fun _ => .of h, fun e => by cases e⟩
  | false => simp only [Bool.false_eq_true, if_false] at h; exact ⟨(fun e => by cases e), fun _ => .of h⟩

theorem joinR_good [Glob] {c : Bool} {base : St} {e : Ex} {st' : St} {t : Tr (Ex × St)} (ht : t.ends fun x => Adds base x.2) : ∀ {u : Tr (Ex × St)}, u.ends (fun x => Adds base x.2) → (joinR c base t u).run = some (e, st') →
    (c = true → Good w0 E R0 nt t e st') ∧ (c = false → Good w0 E R0 nt u e st')
  | .need x u, hu, h => by
    unfold joinR at h
    simp only [Tr.run] at h
    by_cases hx : (if c = true then true else x) = true
    · rw [if_pos hx] at h
      obtain ⟨h1, h2⟩ := joinR_good ht (u := u) hu h
      refine ⟨h1, fun e => ?_⟩
      subst e
      simp only [Bool.false_eq_true, if_false] at hx
      obtain ⟨st1, k1, k2⟩ := h2 rfl
      exact ⟨st1, by simp only [Tr.run, hx, if_true]; exact k1, k2⟩
    · rw [if_neg hx] at h; cases h
  | .leaf (.normal, b), hu, h => by
    unfold joinR at h
    split at h
    · exact joinL_good ht hu h
    · exact ite_good h
  | .leaf (.exit id, b), hu, h => by unfold joinR at h; exact ite_good h
  | .leaf (.ret, b), hu, h => by unfold joinR at h; exact ite_good h
  | .fail, hu, h => by unfold joinR at h; exact ite_good h
  | .ite x t' e', hu, h => by unfold joinR at h; exact ite_good h

theorem join_good [Glob] {c : Bool} {base : St} {e : Ex} {st' : St} {u : Tr (Ex × St)} (hu : u.ends fun x => Adds base x.2) : ∀ {t : Tr (Ex × St)}, t.ends (fun x => Adds base x.2) → (join c base t u).run = some (e, st') →
    (c = true → Good w0 E R0 nt t e st') ∧ (c = false → Good w0 E R0 nt u e st')
  | .need x t, ht, h => by
    unfold join at h
    simp only [Tr.run] at h
    by_cases hx : (if c = true then x else true) = true
    · rw [if_pos hx] at h
      obtain ⟨h1, h2⟩ := join_good hu (t := t) ht h
      refine ⟨fun e => ?_, h2⟩
      subst e
      simp only [if_true] at hx
      obtain ⟨st1, k1, k2⟩ := h1 rfl
      exact ⟨st1, by simp only [Tr.run, hx, if_true]; exact k1, k2⟩
    · rw [if_neg hx] at h; cases h
  | .leaf a, ht, h => by unfold join at h; exact joinR_good ht hu h
  | .fail, ht, h => by unfold join at h; exact joinR_good ht hu h
  | .ite x t' e', ht, h => by unfold join at h; exact joinR_good ht hu h

/-- Rounds of a loop. -/
theorem atHead_wp [Glob] {f : St → Tr (Ex × St)} {l : Live} {body : Code}
    (hf : ∀ (st : St) (e : Ex) (st' : St) (Q : Exit → Act → World → Prop) (a : Act) (C : Ctx), (f st).run = some (e, st') → CInv w0 E R0 nt st a C → (∀ a' C', CInv w0 E R0 nt st' a' C' → Q (exOf e) a' C'.w) → body.wp P Q a C.w) :
    ∀ (st : St) (e : Ex) (st' : St) (Q : Exit → Act → World → Prop) (a : Act) (C : Ctx), (atHead f l st).run = some (e, st') → CInv w0 E R0 nt st a C → (∀ a' C', CInv w0 E R0 nt st' a' C' → Q (exOf e) a' C'.w) → body.wp P Q a C.w := by
  intro st e st' Q a C h inv hQ
  obtain ⟨⟨e1, st1⟩, h1, h2⟩ := Tr.run_bind h
  simp only [Tr.run, Option.some.injEq, Prod.mk.injEq] at h2
  obtain ⟨rfl, rfl⟩ := h2
  exact hf st e1 st1 Q a C h1 inv fun a' C' hC' => hQ a' (C'.only (look st1.mem) l.ids) (forget_inv hC')

theorem iter_rounds [Glob] {g : St → Tr (Ex × St)} {body : Code}
    (hg : ∀ (st : St) (e : Ex) (st' : St) (Q : Exit → Act → World → Prop) (a : Act) (C : Ctx), (g st).run = some (e, st') → CInv w0 E R0 nt st a C → (∀ a' C', CInv w0 E R0 nt st' a' C' → Q (exOf e) a' C'.w) → body.wp P Q a C.w) :
    ∀ (n : Nat) (st : St) (e : Ex) (st' : St) (Q : Exit → Act → World → Prop) (a : Act) (C : Ctx), (iter g n st).run = some (e, st') → CInv w0 E R0 nt st a C → (∀ a' C', CInv w0 E R0 nt st' a' C' → e ≠ .normal ∧ Q (exOf e) a' C'.w) → Code.rounds P body Q n a C.w
  | 0, st, e, st', Q, a, C, h, inv, hQ => by simp [iter, Tr.run] at h
  | n + 1, st, e, st', Q, a, C, h, inv, hQ => by
    obtain ⟨⟨e1, st1⟩, h1, h2⟩ := Tr.run_bind h
    rw [rounds_succ]
    refine hg st e1 st1 _ a C h1 inv ?_
    intro a' C' hC'
    cases e1 with
    | normal => exact iter_rounds hg n st1 e st' Q a' C' h2 hC' hQ
    | exit id =>
      simp only [Tr.run, Option.some.injEq, Prod.mk.injEq] at h2
      obtain ⟨rfl, rfl⟩ := h2
      exact (hQ a' C' hC').2
    | ret =>
      simp only [Tr.run, Option.some.injEq, Prod.mk.injEq] at h2
      obtain ⟨rfl, rfl⟩ := h2
      exact (hQ a' C' hC').2

theorem iter_ex {g : St → Tr (Ex × St)} : ∀ (n : Nat) (st : St) (e : Ex) (st' : St), (iter g n st).run = some (e, st') → e ≠ .normal
  | 0, st, e, st', h => by simp [iter, Tr.run] at h
  | n + 1, st, e, st', h => by
    obtain ⟨⟨e1, st1⟩, h1, h2⟩ := Tr.run_bind h
    cases e1 with
    | normal => exact iter_ex n st1 e st' h2
    | exit id =>
      simp only [Tr.run, Option.some.injEq, Prod.mk.injEq] at h2
      rw [← h2.1]; simp
    | ret =>
      simp only [Tr.run, Option.some.injEq, Prod.mk.injEq] at h2
      rw [← h2.1]; simp

/-- What is said of a loop by its head is so. -/
def LoopOk (T : TypeId → Option TyI) (S : FuncId → CSpec) (L : Nat → Live) (nt N : Nat) (a : Code) : Prop :=
  ∀ q, (L (firstR a)).sum = some q → ∀ τ e st, τ.cut = 0 → (q τ).run = some (e, st) →
    ∃ n st', (iter (atHead (evCode T S L nt N a) (L (firstR a))) n τ).run = some (e, st') ∧ (∀ t v, look st.env t = some v → look st'.env t = some v) ∧ st'.mem = st.mem ∧ st'.ids = st.ids

def LoopsOk (T : TypeId → Option TyI) (S : FuncId → CSpec) (L : Nat → Live) (nt N : Nat) : Code → Prop
  | .seq a b => LoopsOk T S L nt N a ∧ LoopsOk T S L nt N b
  | .cond _ a b => LoopsOk T S L nt N a ∧ LoopsOk T S L nt N b
  | .block _ a => LoopsOk T S L nt N a
  | .scope a => LoopsOk T S L nt N a
  | .loop a => LoopOk T S L nt N a ∧ LoopsOk T S L nt N a
  | _ => True

/-- **Code, as it is evaluated.** -/
theorem evCode_wp [Glob] (hT : TyOk P T) (hS : ∀ f, FnOk P f (S f)) (hm : P.follows .mixedOrders = true) {L : Nat → Live} {N : Nat} : ∀ (c : Code), LoopsOk T S L nt N c → ∀ (st : St) (e : Ex) (st' : St) (Q : Exit → Act → World → Prop) (a : Act) (C : Ctx),
    (evCode T S L nt N c st).run = some (e, st') → CInv w0 E R0 nt st a C → (∀ a' C', CInv w0 E R0 nt st' a' C' → Q (exOf e) a' C'.w) → c.wp P Q a C.w
  | .skip, hL, st, e, st', Q, a, C, h, inv, hQ => by
    simp only [evCode, Tr.run, Option.some.injEq, Prod.mk.injEq] at h
    obtain ⟨rfl, rfl⟩ := h
    exact wp_skip (hQ a C inv)
  | .label l, hL, st, e, st', Q, a, C, h, inv, hQ => by
    simp only [evCode, Tr.run, Option.some.injEq, Prod.mk.injEq] at h
    obtain ⟨rfl, rfl⟩ := h
    exact wp_label (hQ a C inv)
  | .ret, hL, st, e, st', Q, a, C, h, inv, hQ => by
    simp only [evCode, Tr.run, Option.some.injEq, Prod.mk.injEq] at h
    obtain ⟨rfl, rfl⟩ := h
    exact wp_ret (hQ a C inv)
  | .exit id, hL, st, e, st', Q, a, C, h, inv, hQ => by
    simp only [evCode, Tr.run, Option.some.injEq, Prod.mk.injEq] at h
    obtain ⟨rfl, rfl⟩ := h
    exact wp_exit (hQ a C inv)
  | .seq x y, hL, st, e, st', Q, a, C, h, inv, hQ => by
    unfold evCode at h
    obtain ⟨⟨e1, st1⟩, h1, h2⟩ := Tr.run_bind h
    refine wp_seq (evCode_wp hT hS hm x hL.1 st e1 st1 _ a C h1 inv ?_)
    intro a' C' hC'
    cases e1 with
    | normal => exact evCode_wp hT hS hm y hL.2 st1 e st' Q a' C' h2 hC' hQ
    | exit id =>
      simp only [Tr.run, Option.some.injEq, Prod.mk.injEq] at h2
      obtain ⟨rfl, rfl⟩ := h2
      exact hQ a' C' hC'
    | ret =>
      simp only [Tr.run, Option.some.injEq, Prod.mk.injEq] at h2
      obtain ⟨rfl, rfl⟩ := h2
      exact hQ a' C' hC'
  | .block id x, hL, st, e, st', Q, a, C, h, inv, hQ => by
    unfold evCode at h
    obtain ⟨⟨e1, st1⟩, h1, h2⟩ := Tr.run_bind h
    refine wp_block (evCode_wp hT hS hm x hL st e1 st1 _ a C h1 inv ?_)
    intro a' C' hC'
    cases e1 with
    | normal =>
      simp only [Tr.run, Option.some.injEq, Prod.mk.injEq] at h2
      obtain ⟨rfl, rfl⟩ := h2
      exact hQ a' C' hC'
    | exit k =>
      simp only at h2
      split at h2
      · rename_i hk
        simp only [Tr.run, Option.some.injEq, Prod.mk.injEq] at h2
        obtain ⟨rfl, rfl⟩ := h2
        have : k = id := by simpa using hk
        simp only [exOf, Exit.inBlock, this, if_true]
        exact hQ a' C' hC'
      · rename_i hk
        simp only [Tr.run, Option.some.injEq, Prod.mk.injEq] at h2
        obtain ⟨rfl, rfl⟩ := h2
        have : ¬ k = id := by simpa using hk
        simp only [exOf, Exit.inBlock, this, if_false]
        exact hQ a' C' hC'
    | ret =>
      simp only [Tr.run, Option.some.injEq, Prod.mk.injEq] at h2
      obtain ⟨rfl, rfl⟩ := h2
      exact hQ a' C' hC'
  | .scope x, hL, st, e, st', Q, a, C, h, inv, hQ => by
    unfold evCode at h
    refine wp_scope_straight (evCode_wp hT hS hm x hL st e st' _ a C h inv ?_)
    intro a' C' hC'
    cases e <;> exact hQ a' C' hC'
  | .cond c x y, hL, st, e, st', Q, a, C, h, inv, hQ => by
    unfold evCode at h
    split at h
    · rename_i t
      split at h
      · rename_i b hb
        obtain ⟨h1, h2⟩ := join_good (w0 := w0) (E := E) (R0 := R0) (nt := nt) (evCode_adds y st) (evCode_adds x st) h
        have hc : a.eval (.tmp t) = .bool b := by
          have := inv.env t _ hb
          generalize hX : a.tmps.getD t undef = X at this
          cases this
          exact hX
        refine wp_cond_split hc (fun hb => ?_) (fun hb => ?_)
        · obtain ⟨st1, k1, k2⟩ := h1 hb
          exact evCode_wp hT hS hm x hL.1 st e st1 Q a C k1 inv (fun a' C' hC' => by obtain ⟨C2, e2, h2⟩ := k2 a' C' hC'; rw [← e2]; exact hQ a' C2 h2)
        · obtain ⟨st1, k1, k2⟩ := h2 hb
          exact evCode_wp hT hS hm y hL.2 st e st1 Q a C k1 inv (fun a' C' hC' => by obtain ⟨C2, e2, h2⟩ := k2 a' C' hC'; rw [← e2]; exact hQ a' C2 h2)
      · simp [Tr.run] at h
    · simp [Tr.run] at h
  | .loop x, hL, st, e, st', Q, a, C, h, inv, hQ => by
    unfold evCode at h
    have hg := atHead_wp (w0 := w0) (E := E) (R0 := R0) (l := L (firstR x)) (fun st e st' Q a C h1 h2 h3 => evCode_wp hT hS hm x hL.2 st e st' Q a C h1 h2 h3)
    have inv' := forget_inv (L := L (firstR x)) inv
    split at h
    · obtain ⟨⟨e1, st1⟩, hi, h2⟩ := Tr.run_bind h
      simp only [Tr.run, Option.some.injEq, Prod.mk.injEq] at h2
      obtain ⟨rfl, rfl⟩ := h2
      refine wp_loop_rounds N (iter_rounds hg N _ e1 st1 Q a (C.only (look st.mem) (L (firstR x)).ids) hi inv' ?_)
      intro a' C' hC'
      exact ⟨iter_ex N _ e1 st1 hi, hQ a' C' (recut_inv hC')⟩
    · rename_i q hq
      obtain ⟨⟨e1, st1⟩, hi, h2⟩ := Tr.run_bind h
      simp only [Tr.run, Option.some.injEq, Prod.mk.injEq] at h2
      obtain ⟨rfl, rfl⟩ := h2
      obtain ⟨n, st2, hn, he, hme, hid⟩ := hL.1 q hq _ e1 st1 rfl hi
      refine wp_loop_rounds n (iter_rounds hg n _ _ _ Q a (C.only (look st.mem) (L (firstR x)).ids) hn inv' ?_)
      intro a' C' hC'
      exact ⟨iter_ex n _ _ _ hn, hQ a' C' ⟨hC'.size, hC'.defers, fun t v h => hC'.env t v (he t v h), by have := hC'.sr; rw [hme] at this; exact this, hC'.kn, by have := hC'.ids; rw [hid] at this; exact this⟩⟩
  | .region id ops draw, hL, st, e, st', Q, a, C, h, inv, hQ => by
    unfold evCode at h
    split at h
    · rename_i rs hrs
      split at h
      · rename_i hok
        obtain ⟨hn, h'⟩ := Tr.run_needs h
        simp only [Tr.run, Option.some.injEq, Prod.mk.injEq] at h'
        obtain ⟨rfl, rfl⟩ := h'
        exact wp_region_ev hT hS hm hrs hok hn inv hQ
      · simp [Tr.run] at h
    · simp [Tr.run] at h
  | .rangeFunc _ _ _ _, hL, st, e, st', Q, a, C, h, inv, hQ => by simp [evCode, Tr.run] at h
  | .goto _, hL, st, e, st', Q, a, C, h, inv, hQ => by simp [evCode, Tr.run] at h
  | .refuse _, hL, st, e, st', Q, a, C, h, inv, hQ => by simp [evCode, Tr.run] at h

end
end Go.Proofs.YtcdnbdphakhilaaGreatDoor.Ev
namespace Go.Proofs.YtcdnbdphakhilaaGreatDoor.Ev
section
variable {P : Program} {T : TypeId → Option TyI} {S : FuncId → CSpec}

theorem argEnv_look {C : Ctx} : ∀ {as : List AV} {vs : List Value} {i t : Nat} {v : AV}, TR C as vs → look (argEnv i as) t = some v → ∃ j u, t = i + j ∧ vs[j]? = some u ∧ VR C v u
  | [], vs, i, t, v, h, hl => by simp [argEnv, look] at hl
  | a :: as, vs, i, t, v, h, hl => by
    cases h with
    | @cons _ _ u _ vs h hs =>
    simp only [argEnv, look] at hl
    cases e : i == t with
    | true =>
      simp only [e, Option.some.injEq] at hl; subst hl
      exact ⟨0, u, by have : i = t := by simpa using e
                      omega, rfl, h⟩
    | false =>
      simp only [e] at hl
      obtain ⟨j, u', h1, h2, h3⟩ := argEnv_look hs hl
      exact ⟨j + 1, u', by omega, by simpa using h2, h3⟩

theorem TR_length {C : Ctx} {as : List AV} {vs : List Value} (h : TR C as vs) : vs.length = as.length := by
  match h with
  | .nil => rfl
  | .cons h hl => simp [TR_length hl]

def resSem (tmps : Array Value) : ResultVar → Sem Value
  | .tmp t => pure (tmps.getD t undef)
  | .cell ad t => do loadVar t (← asAddr (tmps.getD ad undef))

theorem results_eq (fn : Func) (tmps : Array Value) : results fn tmps = (do let vs ← fn.results.mapM (resSem tmps); pure (if h : vs.size = 1 then vs[0] else .tuple vs)) := by
  unfold results
  rfl

/-- What is read alone, and one's own rows. -/
def plusR (C : Ctx) : Nat → Prop := fun b => C.R b ∨ ∃ i, (C.liv i ∧ i < big) ∧ C.ρ i = b
theorem no_blk {w : World} {R : Nat → Prop} {i : Nat} (h : (baseC w R).blk i) : False := by
  rcases h with h | h <;> exact h
theorem no_has {w : World} {R : Nat → Prop} {i : Nat} (h : (baseC w R).has i) : False := by
  rcases h with h | h <;> exact h
theorem ownRow_run [Glob] {w0 : World} {E : Ent} {R0 : Nat → Prop} {M : Key → Option AV} {C : Ctx} (sr : SR w0 E R0 M C) {a v : AV} (h : ownRow M a = some v) {X : Value} (hv : VR C a X) : VR (baseC C.w (plusR C)) v X ∧ a.single = true := by
  unfold ownRow at h
  split at h
  · rename_i i w
    split at h
    · rename_i e k xs x' hm
      split at h
      · rename_i hvw
        simp only [Bool.and_eq_true] at hvw
        obtain ⟨hvw, hlt⟩ := hvw
        have hlt : i < big := Nat.le_of_ble_eq_true hlt
        have hvw : w = x' := by simpa using hvw
        subst hvw
        simp only [Option.some.injEq] at h; subst h
        obtain ⟨_, hrow⟩ := sr.mr.sp i 0 _ hm rfl
        refine ⟨?_, rfl⟩
        cases hv with
        | gs hk he =>
        rw [← he]
        exact row_vw hrow (fun b hb => .inl hb) (fun hl => .inr ⟨i, ⟨hl, hlt⟩, rfl⟩)
      · cases h
    · cases h
  · cases h
theorem ownRow_vw {M : Key → Option AV} {a v : AV} (h : ownRow M a = some v) : ∃ t, ∃ xs : List (Dat t), v = .vw t xs := by
  unfold ownRow at h
  split at h
  · split at h
    · split at h
      · simp only [Option.some.injEq] at h; exact ⟨_, _, h.symm⟩
      · cases h
    · cases h
  · cases h
theorem ownL_run [Glob] {w0 : World} {E : Ent} {R0 : Nat → Prop} {M : Key → Option AV} {C : Ctx} (sr : SR w0 E R0 M C) : ∀ {l r : List AV} {vs : List Value}, ownL M l = some r → CR C l vs → CR (baseC C.w (plusR C)) r vs
  | [], r, vs, h, hc => by
    simp only [ownL, Option.some.injEq] at h; subst h
    cases hc; exact .nil
  | a :: l, r, vs, h, hc => by
    simp only [ownL] at h
    split at h
    · rename_i r' hb hr
      simp only [Option.some.injEq] at h; subst h
      have hle : C.bare.Le (baseC C.w (plusR C)).bare := ⟨fun _ h => h.elim, fun b hb => ⟨.inl hb, rfl⟩, fun _ _ h => h.elim⟩
      cases hc with
      | one ha hv h hl => exact .one ha hv (bare1_VR h hb (fun b hb => ⟨.inl hb, rfl⟩)) (ownL_run sr hr hl)
      | ar h0 h h1 hf hl => exact .ar h0 (fun j hj => (h j hj).mono hle) h1 hf (ownL_run sr hr hl)
    · rename_i r' hb hr
      split at h
      · rename_i b hb'
        simp only [Option.some.injEq] at h; subst h
        cases hc with
        | one ha hv h hl =>
          refine .one ?_ hv (ownRow_run sr hb' h).1 (ownL_run sr hr hl)
          obtain ⟨t, xs, rfl⟩ := ownRow_vw hb'
          rfl
        | ar h0 h h1 hf hl => simp [ownRow] at hb'
      · cases h
    · cases h
theorem ownRes_run [Glob] {w0 : World} {E : Ent} {R0 : Nat → Prop} {M : Key → Option AV} {C : Ctx} (sr : SR w0 E R0 M C) {a v : AV} (h : ownRes M a = some v) {X : Value} (hv : VR C a X) : VR (baseC C.w (plusR C)) v X := by
  unfold ownRes at h
  split at h
  · split at h
    · rename_i r hr
      simp only [Option.some.injEq] at h; subst h
      cases hv with
      | agg hc => exact .agg (ownL_run sr hr hc)
    · cases h
  · exact (ownRow_run sr h hv).1
theorem oneRes_run [Glob] (hT : TyOk P T) {w0 : World} {E : Ent} {R0 : Nat → Prop} {nt : Nat} {st : St} {a : Act} {C : Ctx} (inv : CInv w0 E R0 nt st a C) {rv : ResultVar} {v : AV} (h : oneRes T st rv = some v) :
    ∃ u, (resSem a.tmps rv).run P C.w = .ok u C.w ∧ VR (baseC C.w (plusR C)) v u := by
  cases rv with
  | tmp t =>
    simp only [oneRes] at h
    split at h
    · rename_i x hx
      split at h
      · rename_i hb
        simp only [Option.some.injEq] at h; subst h
        exact ⟨_, rfl, bareV_VR (inv.env t _ hx) hb (fun b hb => ⟨.inl hb, rfl⟩)⟩
      · exact ⟨_, rfl, ownRes_run inv.sr h (inv.env t _ hx)⟩
    · simp at h
  | cell ad t =>
    simp only [oneRes] at h
    split at h
    · rename_i p hp
      split at h
      · rename_i r hr
        obtain ⟨⟨u, h1, h2⟩, _⟩ := evLoad_run hT inv.sr.mr hr (inv.env ad p hp)
        refine ⟨u, ?_, ?_⟩
        · have hv := inv.env ad p hp
          obtain ⟨q, hq⟩ : ∃ q, a.tmps.getD ad undef = .pointer (some q) := by
            generalize a.tmps.getD ad undef = X at hv
            cases hv <;> simp [evLoad] at hr <;> (try (split at hr <;> simp at hr)) <;> exact ⟨_, rfl⟩
          rw [hq] at h1
          simp only [Instr.loadAt, Instr.sureAddr, Sem.run_bind, Sem.run_pure, Result.andThen_ok] at h1
          simp only [resSem, hq, asAddr, Sem.run_bind, Sem.run_pure, Result.andThen_ok]
          exact h1
        · split at h
          · rename_i hb
            simp only [Option.some.injEq] at h; subst h
            exact bareV_VR h2 hb (fun b hb => ⟨.inl hb, rfl⟩)
          · exact ownRes_run inv.sr h h2
      · simp at h
    · simp at h

theorem allRes_run [Glob] (hT : TyOk P T) {w0 : World} {E : Ent} {R0 : Nat → Prop} {nt : Nat} {st : St} {a : Act} {C : Ctx} (inv : CInv w0 E R0 nt st a C) : ∀ {rvs : List ResultVar} {vs : List AV}, allRes T st rvs = some vs →
    ∃ us, (rvs.mapM (resSem a.tmps)).run P C.w = .ok us C.w ∧ TR (baseC C.w (plusR C)) vs us
  | [], vs, h => by
    simp only [allRes, Option.some.injEq] at h; subst h
    exact ⟨[], by simp, .nil⟩
  | rv :: rvs, vs, h => by
    simp only [allRes] at h
    split at h
    · rename_i v vs' h1 h2
      simp only [Option.some.injEq] at h; subst h
      obtain ⟨u, k1, k2⟩ := oneRes_run hT inv h1
      obtain ⟨us, k3, k4⟩ := allRes_run hT inv h2
      refine ⟨u :: us, ?_, .cons k2 k4⟩
      simp only [List.mapM_cons, Sem.run_bind, k1, Result.andThen_ok, k3, Sem.run_pure]
    · simp at h

theorem results_run [Glob] (hT : TyOk P T) {w0 : World} {E : Ent} {R0 : Nat → Prop} {nt : Nat} {st : St} {a : Act} {C : Ctx} (inv : CInv w0 E R0 nt st a C) {fn : Func} {vs : List AV} (h : allRes T st fn.results.toList = some vs) :
    ∃ u, (results fn a.tmps).run P C.w = .ok u C.w ∧ VR (baseC C.w (plusR C)) (resAV vs) u := by
  obtain ⟨us, h1, h2⟩ := allRes_run hT inv h
  have hl := TR_length h2
  rw [results_eq, Array.mapM_eq_mapM_toList]
  have key : (List.toArray <$> fn.results.toList.mapM (resSem a.tmps)).run P C.w = .ok us.toArray C.w := by
    rw [map_eq_pure_bind]
    simp only [Sem.run_bind, h1, Result.andThen_ok, Sem.run_pure]
  match vs, us, h2, hl with
  | [], us, h2, hl =>
    cases h2
    refine ⟨.tuple #[], ?_, .tup .nil⟩
    simp only [Sem.run_bind, key, Result.andThen_ok]
    rfl
  | [v], us, h2, hl =>
    cases h2 with
    | cons h hn => cases hn; refine ⟨_, ?_, h⟩; simp only [Sem.run_bind, key, Result.andThen_ok]; rfl
  | v :: v' :: vs, us, h2, hl =>
    refine ⟨.tuple us.toArray, ?_, .tup h2⟩
    simp only [Sem.run_bind, key, Result.andThen_ok]
    have hne : ¬ us.toArray.size = 1 := by simp at hl ⊢; omega
    simp only [hne, dif_neg, not_false_eq_true, Sem.run_pure]

theorem Tr.run_of_bind {α β : Type} {t : Tr α} {k : α → Tr β} {a : α} (h : t.run = some a) : (t.bind k).run = (k a).run := by
  induction t with
  | fail => cases h
  | leaf x => simp only [Tr.run, Option.some.injEq] at h; subst h; rfl
  | ite c x y ihx ihy =>
    simp only [Tr.run, Tr.bind] at h ⊢
    split at h
    · rename_i hc; rw [if_pos hc]; exact ihx h
    · rename_i hc; rw [if_neg hc]; exact ihy h
  | need c x ih =>
    simp only [Tr.run, Tr.bind] at h ⊢
    split at h
    · rename_i hc; rw [if_pos hc]; exact ih h
    · cases h

/-- The loops of a function keep what is said of them. -/
def FnLoops (T : TypeId → Option TyI) (S : FuncId → CSpec) (L : Nat → Live) (N : Nat) (fn : Func) : Prop := ∀ c, fn.body = some c → LoopsOk T S L fn.ntmps N c

/-- **A function is what its evaluation says.** -/
theorem calls_ev [Glob] (hT : TyOk P T) (hS : ∀ f, FnOk P f (S f)) (hm : P.follows .mixedOrders = true) {L : Nat → Live} {N : Nat} {f : FuncId} {fn : Func} (hf : P.funcs[f]? = some fn) (hL : FnLoops T S L N fn) {as : List AV} {res : AV}
    (hev : (evFn T S L N fn as).run = some res) {w : World} {R : Nat → Prop} {vs : List Value} (hR : ∀ b, R b → b < w.heap.size) (hG : Glob.G w R) (hvs : TR (baseC w R) as vs) :
    Calls P f vs.toArray w fun e w' => ∃ v, e = .returned v ∧ ∃ R', Done w R res v w' R' := by
  unfold evFn at hev
  split at hev
  · simp [Tr.run] at hev
  · rename_i c hb
    split at hev
    · simp [Tr.run] at hev
    · rename_i hlen
      have hlen' := Nat.le_of_ble_eq_true hlen
      obtain ⟨⟨e, st⟩, h1, h2⟩ := Tr.run_bind hev
      have hvl := TR_length hvs
      refine calls_of_wp hf hb ?_
      have inv0 : CInv w Ent.no R fn.ntmps ⟨argEnv 0 as, [], [], 0⟩ { tmps := vs.toArray ++ Array.replicate (fn.ntmps - vs.toArray.size) undef, defers := [] } (baseC w R) := by
        refine ⟨by simp; omega, rfl, ?_, ⟨⟨fun id off a h => by simp [look] at h, fun id off a h => by simp [look] at h, fun id o1 o2 a1 a2 h => by simp [look] at h⟩, ⟨fun _ h => (no_blk h).elim, fun _ h => (no_blk h).elim, fun _ h => (no_blk h).elim, fun _ _ h => (no_blk h).elim, hR, fun _ h => h.elim, fun _ h => h.elim, fun _ h => h.elim, fun _ h => h.elim, fun _ _ h => h.elim⟩, .refl w _, fun _ h => (no_blk h).elim, ⟨fun _ h => h, fun _ h => .inl h⟩, fun _ _ _ h => h.elim, hG, fun _ h => h.elim⟩, (fun _ _ _ h => h.elim), fun _ h => (no_has h).elim⟩
        intro t v hv
        obtain ⟨j, u, e1, e2, e3⟩ := argEnv_look hvs hv
        have hj := lt_of_getElem? e2
        have : t = j := by omega
        subst this
        rw [Array.getD_eq_getD_getElem?, Array.getElem?_append_left (by simpa using hj)]
        simp only [List.getElem?_toArray, e2, Option.getD_some]
        exact e3
      refine evCode_wp hT hS hm c (hL c hb) _ e st _ _ (baseC w R) h1 inv0 ?_
      intro a' C' inv
      have hfin : ∀ {vs'}, allRes T st fn.results.toList = some vs' → resAV vs' = res → a'.defers = [] ∧ ∃ v, (results fn a'.tmps).run P C'.w = .ok v C'.w ∧ ∃ v', Ending.returned v = .returned v' ∧ ∃ R', Done w R res v' C'.w R' := by
        intro vs' hr he
        obtain ⟨u, k1, k2⟩ := results_run (P := P) hT inv hr
        subst he
        refine ⟨inv.defers, u, k1, u, rfl, plusR C', fun b hb => .inl (inv.sr.rr.1 b hb), ?_, ?_, inv.sr.fr, k2⟩
        · rintro b (hb | ⟨i, hl, rfl⟩)
          · exact inv.sr.rr.2 b hb
          · exact .inr (inv.sr.rnew hl.1 hl.2)
        · rintro b (hb | ⟨i, hl, rfl⟩)
          · exact inv.sr.own.R_lt b hb
          · exact inv.sr.own.lt i (.inr hl.1)
      cases e with
      | exit id => simp [Tr.run] at h2
      | normal =>
        simp only at h2
        split at h2
        · rename_i vs' hr
          simp only [Tr.run, Option.some.injEq] at h2
          exact hfin hr h2
        · simp [Tr.run] at h2
      | ret =>
        simp only at h2
        split at h2
        · rename_i vs' hr
          simp only [Tr.run, Option.some.injEq] at h2
          exact hfin hr h2
        · simp [Tr.run] at h2

theorem FnOkV.of [Glob] (hT : TyOk P T) (hS : ∀ f, FnOk P f (S f)) (hm : P.follows .mixedOrders = true) {L : Nat → Live} {f : FuncId} {fn : Func} (hf : P.funcs[f]? = some fn) (hname : (fn.name == "runtime.NumGoroutine") = false) (hbody : fn.body.isNone = false) {s : CSpec}
    (h : ∀ as r, s as = some r → (∀ c ∈ r.pre, c = true) → ∀ w R vs, TR (baseC w R) as vs → ∃ N, FnLoops T S L N fn ∧ (evFn T S L N fn as).run = some r.res) : FnOkV P f s := by
  intro as r hs hp w R vs hR hG hvs
  right
  obtain ⟨N, hL, hN⟩ := h as r hs hp w R vs hvs
  refine ⟨?_, calls_ev hT hS hm hf hL hN hR hG hvs⟩
  have hn : ¬ fn.name = "runtime.NumGoroutine" := by simpa using hname
  have hb : ¬ fn.body = Option.none := by intro e; rw [e] at hbody; simp at hbody
  simp [callFunc, hf, hn, hb]
theorem FnOk.of [Glob] (hT : TyOk P T) (hS : ∀ f, FnOk P f (S f)) (hm : P.follows .mixedOrders = true) {L : Nat → Live} {f : FuncId} {fn : Func} (hf : P.funcs[f]? = some fn) (hname : (fn.name == "runtime.NumGoroutine") = false) (hbody : fn.body.isNone = false) {s : CSpec}
    (h : ∀ as r, s as = some r → (∀ c ∈ r.pre, c = true) → ∀ w R vs, TR (baseC w R) as vs → ∃ N, FnLoops T S L N fn ∧ (evFn T S L N fn as).run = some r.res) (hlt : f < offO := by decide) : FnOk P f s :=
  ⟨fun _ => FnOkV.of hT hS hm hf hname hbody h, fun h' => absurd hlt (Nat.not_lt.2 h')⟩

def loopsIn : Code → List Code
  | .seq a b => loopsIn a ++ loopsIn b
  | .cond _ a b => loopsIn a ++ loopsIn b
  | .block _ a => loopsIn a
  | .scope a => loopsIn a
  | .loop a => a :: loopsIn a
  | _ => []

def loopsOf (fn : Func) : List Code := match fn.body with
  | some c => loopsIn c
  | none => []
def loopOf (fn : Func) (j : Nat) : Code := (loopsOf fn).getD j .skip

theorem loopsOk_of {L : Nat → Live} {nt N : Nat} : ∀ (c : Code), (∀ a ∈ loopsIn c, LoopOk T S L nt N a) → LoopsOk T S L nt N c
  | .seq a b, h => ⟨loopsOk_of a fun x hx => h x (List.mem_append_left _ hx), loopsOk_of b fun x hx => h x (List.mem_append_right _ hx)⟩
  | .cond _ a b, h => ⟨loopsOk_of a fun x hx => h x (List.mem_append_left _ hx), loopsOk_of b fun x hx => h x (List.mem_append_right _ hx)⟩
  | .block _ a, h => loopsOk_of a h
  | .scope a, h => loopsOk_of a h
  | .loop a, h => ⟨h a (List.mem_cons_self ..), loopsOk_of a fun x hx => h x (List.mem_cons_of_mem _ hx)⟩
  | .skip, h => trivial
  | .label _, h => trivial
  | .ret, h => trivial
  | .exit _, h => trivial
  | .region _ _ _, h => trivial
  | .rangeFunc _ _ _ _, h => trivial
  | .goto _, h => trivial
  | .refuse _, h => trivial

def noSum (L : Nat → Live) (fn : Func) : Bool := (loopsOf fn).all fun a => (L (firstR a)).sum.isNone

theorem loopOk_none {L : Nat → Live} {nt N : Nat} {a : Code} (h : (L (firstR a)).sum.isNone = true) : LoopOk T S L nt N a := by
  intro q hq
  rw [hq] at h; cases h

theorem FnLoops.no {L : Nat → Live} {N : Nat} {fn : Func} (h : noSum L fn = true) : FnLoops T S L N fn := by
  intro c hc
  refine loopsOk_of c fun a ha => loopOk_none ?_
  simp only [noSum, loopsOf, hc, List.all_eq_true] at h
  exact h a ha

theorem FnLoops.of {L : Nat → Live} {N : Nat} {fn : Func} (n : Nat) (hn : (loopsOf fn).length = n) (h : ∀ j, j < n → LoopOk T S L fn.ntmps N (loopOf fn j)) : FnLoops T S L N fn := by
  intro c hc
  refine loopsOk_of c fun a ha => ?_
  have e : loopsOf fn = loopsIn c := by simp only [loopsOf, hc]
  obtain ⟨j, hj, rfl⟩ := List.mem_iff_getElem.1 ha
  have := h j (by rw [← hn, e]; exact hj)
  rw [loopOf, e, List.getD_eq_getElem?_getD, List.getElem?_eq_getElem hj] at this
  exact this

theorem FnLoops.one {L : Nat → Live} {N : Nat} {fn : Func} (hn : (loopsOf fn).length = 1) (h0 : LoopOk T S L fn.ntmps N (loopOf fn 0)) : FnLoops T S L N fn :=
  .of 1 hn fun j hj => by
    match j with
    | 0 => exact h0

theorem FnLoops.two {L : Nat → Live} {N : Nat} {fn : Func} (hn : (loopsOf fn).length = 2) (h0 : LoopOk T S L fn.ntmps N (loopOf fn 0)) (h1 : LoopOk T S L fn.ntmps N (loopOf fn 1)) : FnLoops T S L N fn :=
  .of 2 hn fun j hj => by
    match j with
    | 0 => exact h0
    | 1 => exact h1

/-- A loop that goes from head to head, and then out. -/
theorem iter_for {g : St → Tr (Ex × St)} (τ : Nat → St) (n : Nat) {e : Ex} {st' : St} (hs : ∀ j, j < n → (g (τ j)).run = some (.normal, τ (j + 1))) (he : (g (τ n)).run = some (e, st')) (hne : e ≠ .normal) :
    (iter g (n + 1) (τ 0)).run = some (e, st') := by
  have key : ∀ k j, j + k = n → (iter g (k + 1) (τ j)).run = some (e, st') := by
    intro k
    induction k with
    | zero =>
      intro j hj
      have : j = n := by omega
      subst this
      unfold iter
      rw [Tr.run_of_bind he]
      cases e with
      | normal => exact absurd rfl hne
      | exit _ => rfl
      | ret => rfl
    | succ k ih =>
      intro j hj
      unfold iter
      rw [Tr.run_of_bind (hs j (by omega))]
      exact ih (j + 1) (by omega)
  exact key n 0 (by omega)

/-- Nothing is said of it. -/
theorem FnOk.none [Glob] (f : FuncId) : FnOk P f (fun _ => none) := ⟨fun _ as r h => (by cases h), fun _ => ⟨fun _ as r h => (by cases h), fun _ => ⟨fun _ as r h => (by cases h), fun _ as fr r h => (by cases h)⟩⟩⟩

end
end Go.Proofs.YtcdnbdphakhilaaGreatDoor.Ev
namespace Go.Proofs.YtcdnbdphakhilaaGreatDoor.Ev
section
variable {P : Program}

theorem TyOk1.scal {t : TypeId} {d : TyI} {D : TypeDesc} (hu : P.underlying t = some D) (hd : tdOf D = d.desc) (ha : isAggD d.desc = false) {z : Value} {a : AV} (hi : (P.info? t).map (fun i => (i.size, i.zero, decide (i.bytes ≤ 1048576))) = some (d.size, some z, true)) (hz : z.cells.toList = [z])
    (hs : a.single = true) (hc : z.oneCell' = true) (hv : ∀ C, VR C a z) (hd0 : d.zero = [a]) : TyOk1 P t d := by
  obtain ⟨i, h1, h2⟩ := Option.map_eq_some_iff.1 hi
  simp only [Prod.mk.injEq, decide_eq_true_eq] at h2
  refine ⟨⟨D, hu, hd⟩, ⟨i, h1, h2.1, z, h2.2.1, fun C => by rw [hz, hd0]; exact .one hs hc (hv C) .nil⟩, fun j hj => ?_, (fun _ h => by rw [ha] at h; cases h), ?_⟩
  · rw [h1] at hj; cases hj; exact h2.2.2
  · intro fs hf
    rw [hu] at hf
    simp only [Option.some.injEq] at hf
    subst hf
    simp only [tdOf] at hd
    rw [← hd] at ha
    simp [isAggD] at ha

theorem TyOk1.i {t : TypeId} {k : IntKind} (hk : isU k = none) (h0 : k.has 0) (hu : P.underlying t = some (.int k)) (hi : (P.info? t).map (fun i => (i.size, i.zero, decide (i.bytes ≤ 1048576))) = some (1, some (.int k 0), true)) : TyOk1 P t ⟨.int k, 1, true, [.i k 0]⟩ :=
  .scal hu rfl rfl hi rfl rfl rfl (fun C => .i hk h0) rfl
theorem TyOk1.u {t : TypeId} {k : IntKind} {w : Nat} (hk : isU k = some w) (hu : P.underlying t = some (.int k)) (hi : (P.info? t).map (fun i => (i.size, i.zero, decide (i.bytes ≤ 1048576))) = some (1, some (.int k 0), true)) : TyOk1 P t ⟨.int k, 1, true, [.u w 0#w]⟩ :=
  .scal hu rfl rfl hi rfl rfl rfl (fun C => by have := VR.u (C := C) (k := k) (w := w) (x := 0#w) hk; simpa using this) rfl
theorem TyOk1.b {t : TypeId} (hu : P.underlying t = some .bool) (hi : (P.info? t).map (fun i => (i.size, i.zero, decide (i.bytes ≤ 1048576))) = some (1, some (.bool false), true)) : TyOk1 P t ⟨.bool, 1, true, [.b false]⟩ :=
  .scal hu rfl rfl hi rfl rfl rfl (fun C => .b false) rfl
theorem TyOk1.str {t : TypeId} (hu : P.underlying t = some .string) (hi : (P.info? t).map (fun i => (i.size, i.zero, decide (i.bytes ≤ 1048576))) = some (1, some (.string ⟨#[]⟩), true)) : TyOk1 P t ⟨.string, 1, true, [.str []]⟩ :=
  .scal hu rfl rfl hi rfl rfl rfl (fun C => .str [] (by simp)) rfl
theorem TyOk1.nils {t e : TypeId} (hu : P.underlying t = some (.slice e)) (hi : (P.info? t).map (fun i => (i.size, i.zero, decide (i.bytes ≤ 1048576))) = some (1, some (.slice none 0 0), true)) : TyOk1 P t ⟨.slice e, 1, false, [.nils]⟩ :=
  .scal hu rfl rfl hi rfl rfl rfl (fun C => .nils) rfl
theorem TyOk1.nilp {t e : TypeId} (hu : P.underlying t = some (.pointer e)) (hi : (P.info? t).map (fun i => (i.size, i.zero, decide (i.bytes ≤ 1048576))) = some (1, some (.pointer none), true)) : TyOk1 P t ⟨.pointer e, 1, false, [.nilp]⟩ :=
  .scal hu rfl rfl hi rfl rfl rfl (fun C => .nilp) rfl

/-- A table as a list. -/
def tyList (l : List (Nat × TyI)) : TypeId → Option TyI := fun t => l.lookup t
theorem TyOk.nil : TyOk P (tyList []) := fun t d h => by cases h
theorem TyOk.cons {t : TypeId} {d : TyI} {l : List (Nat × TyI)} (h : TyOk1 P t d) (hl : TyOk P (tyList l)) : TyOk P (tyList ((t, d) :: l)) := by
  intro s e hs
  simp only [tyList, List.lookup] at hs
  split at hs
  · rename_i he
    have : s = t := by simpa using he
    simp only [Option.some.injEq] at hs
    subst hs; subst this; exact h
  · exact hl s e hs

/-- Specifications, one after the other. -/
def withS (S : FuncId → CSpec) (f : Nat) (s : CSpec) : FuncId → CSpec := fun g => match Nat.beq g f with
  | true => s
  | false => S g
def noS : FuncId → CSpec := fun _ _ => none
theorem noS_ok [Glob] : ∀ f, FnOk P f (noS f) := fun f => FnOk.none f
theorem withS_ok [Glob] {S : FuncId → CSpec} {f : Nat} {s : CSpec} (hS : ∀ g, FnOk P g (S g)) (h : FnOk P f s) : ∀ g, FnOk P g (withS S f s g) := by
  intro g
  unfold withS
  split
  · rename_i he
    have : g = f := Nat.eq_of_beq_eq_true he
    subst this; exact h
  · exact hS g

/-- A function without a body, that is a table's. -/
theorem FnOk.extern [Glob] {f : FuncId} {fn : Func} (hf : P.funcs[f]? = some fn) (hname : (fn.name == "runtime.NumGoroutine") = false) (hbody : fn.body.isNone = true) (hnext : (Extern.findNext fn).isNone = true) {g : Array Value → Sem Value} (hfind : Extern.find fn = some g) {s : CSpec}
    (h : ∀ as r, s as = some r → (∀ c ∈ r.pre, c = true) → ∀ (w : World) (R : Nat → Prop) (vs : List Value), TR (baseC w R) as vs → ∃ v, (g vs.toArray).run P w = .ok v w ∧ VR (baseC w R) r.res v) (hlt : f < offO := by decide) : FnOk P f s := by
  refine ⟨fun _ => ?_, fun h' => absurd hlt (Nat.not_lt.2 h')⟩
  intro as r hs hp w R vs hR hG hvs
  left
  obtain ⟨v, h1, h2⟩ := h as r hs hp w R vs hvs
  refine ⟨v, w, ?_, R, fun _ h => h, fun _ h => .inl h, hR, .refl w _, h2⟩
  have hn : ¬ fn.name = "runtime.NumGoroutine" := by simpa using hname
  have hx : Extern.findNext fn = Option.none := by simpa using hnext
  simp only [callFunc, Sem.run_bind, run_program, Result.andThen_ok, hf]
  simp [hn, hbody, hx, hfind, h1, Sem.run_bind]

/-- A function with a body, by what is shown of its calls. -/
theorem FnOk.contract [Glob] {f : FuncId} {fn : Func} (hf : P.funcs[f]? = some fn) (hname : (fn.name == "runtime.NumGoroutine") = false) (hbody : fn.body.isNone = false) {s : CSpec}
    (h : ∀ as r, s as = some r → (∀ c ∈ r.pre, c = true) → ∀ (w : World) (R : Nat → Prop) (vs : List Value), (∀ b, R b → b < w.heap.size) → Glob.G w R → TR (baseC w R) as vs → Calls P f vs.toArray w fun e w' => ∃ v, e = .returned v ∧ ∃ R', Done w R r.res v w' R') (hlt : f < offO := by decide) : FnOk P f s := by
  refine ⟨fun _ => ?_, fun h' => absurd hlt (Nat.not_lt.2 h')⟩
  intro as r hs hp w R vs hR hG hvs
  right
  refine ⟨?_, h as r hs hp w R vs hR hG hvs⟩
  have hn : ¬ fn.name = "runtime.NumGoroutine" := by simpa using hname
  have hb : ¬ fn.body = Option.none := by intro e; rw [e] at hbody; simp at hbody
  simp [callFunc, hf, hn, hb]
/-- What is shown of a function, as its calls. -/
theorem FnOk.calls [Glob] {f : FuncId} {fn : Func} (hf : P.funcs[f]? = some fn) (hname : (fn.name == "runtime.NumGoroutine") = false) (hbody : fn.body.isNone = false) {s : CSpec} (ok : FnOk P f s) (hlt : f < offO := by decide) {as : List AV} {r : CallRes} (hs : s as = some r) (hp : ∀ c ∈ r.pre, c = true)
    {w : World} {R : Nat → Prop} {vs : List Value} (hR : ∀ b, R b → b < w.heap.size) (hG : Glob.G w R) (hvs : TR (baseC w R) as vs) : Calls P f vs.toArray w fun e w' => ∃ v, e = .returned v ∧ ∃ R', Done w R r.res v w' R' := by
  rcases ok.1 hlt as r hs hp w R vs hR hG hvs with ⟨v, w', h1, h2⟩ | ⟨h1, h2⟩
  · exfalso
    have hn : ¬ fn.name = "runtime.NumGoroutine" := by simpa using hname
    have hb : ¬ fn.body = Option.none := by intro e; rw [e] at hbody; simp at hbody
    simp [callFunc, hf, hn, hb] at h1
  · exact h2

end
end Go.Proofs.YtcdnbdphakhilaaGreatDoor.Ev
namespace Go.Proofs.YtcdnbdphakhilaaGreatDoor.Ev
/- What is handed over, as abstract values. -/
/-- The shape of a type that is read as data. -/
inductive Sh where
  | i (k : IntKind)
  | w (n : Nat)
  | b
  | str
  | row (t : Nat)
  | st (fs : List Sh)
  | ar (n : Nat) (e : Sh)

mutual
/-- What a value of a shape is told by. -/
def Sh.Val : Sh → Type
  | .i _ => Int
  | .w n => BitVec n
  | .b => Bool
  | .str => List UInt8
  | .row t => List (Dat t)
  | .st fs => Sh.Vals fs
  | .ar _ e => Nat → e.Val
def Sh.Vals : List Sh → Type
  | [] => Unit
  | s :: fs => s.Val × Sh.Vals fs
end

/-- A scalar. -/
def Sh.one : (s : Sh) → s.Val → AV
  | .i k, x => .i k x
  | .w n, x => .u n x
  | .b, x => .b x
  | .str, x => .str x
  | .row t, xs => .vw t xs
  | .st _, _ => .poison
  | .ar _ _, _ => .poison
mutual
def Sh.cells : (s : Sh) → s.Val → List AV
  | .i k, x => [.i k x]
  | .w n, x => [.u n x]
  | .b, x => [.b x]
  | .str, x => [.str x]
  | .row t, xs => [.vw t xs]
  | .st fs, x => Sh.cellsL fs x
  | .ar n e, f => [.ar n fun j => e.one (f j)]
def Sh.cellsL : (fs : List Sh) → Sh.Vals fs → List AV
  | [], _ => []
  | s :: fs, x => s.cells x.1 ++ Sh.cellsL fs x.2
end
def Sh.av : (s : Sh) → s.Val → AV
  | .i k, x => .i k x
  | .w n, x => .u n x
  | .b, x => .b x
  | .str, x => .str x
  | .row t, xs => .vw t xs
  | .st fs, x => .agg (Sh.cellsL fs x)
  | .ar n e, f => .agg [.ar n fun j => e.one (f j)]

/-- The shapes of what slices hold. -/
def datSh : Nat → Sh
  | 0 => .w 64
  | 1 => .w 32
  | 2 => .i .i64
  | 3 => .b
  | 4 => .w 8
  | 5 => .str
  | 10 => .st [.i .i64, .i .i64, .i .i64, .i .i64, .i .i64, .i .i64, .w 64, .i .i64, .i .i64, .i .i64, .i .i64]
  | 11 => .st [.i .i64, .i .i64, .i .i64, .i .i64, .i .i64, .i .i64, .w 64, .b, .i .i64]
  | 12 => .st [.i .i64, .i .i64, .i .i64, .st [.i .i64, .i .i64, .i .i64, .i .i64, .i .i64, .i .i64], .st [.i .i64, .i .i64, .i .i64, .i .i64, .i .i64, .i .i64], .i .i64, .i .i64, .b, .b, .i .i64]
  | _ => .st []
def datOf : (t : Nat) → (datSh t).Val → Dat t
  | 0, x => x
  | 1, x => x
  | 2, x => x
  | 3, x => x
  | 4, x => x
  | 5, x => x
  | 6, _ => () | 7, _ => () | 8, _ => () | 9, _ => ()
  | 10, (a, b, c, d, e, f, g, h, i, j, k, _) => (⟨a, b, c, d, e, f, g, h, i, j, k⟩ : AInst)
  | 11, (a0, a1, a2, a3, a4, a5, a6, a7, a8, _) => (⟨a0, a1, a2, a3, a4, a5, a6, a7, a8⟩ : IOp)
  | 12, (a0, a1, a2, (a3, a4, a5, a6, a7, a8, _), (a9, a10, a11, a12, a13, a14, _), a15, a16, a17, a18, a19, _) => (⟨a0, a1, a2, a3, a4, a5, a6, a7, a8, a9, a10, a11, a12, a13, a14, a15, a16, a17, a18, a19⟩ : XInst)
  | _ + 13, _ => ()
/-- which of them are in use -/
def datUsed (t : Nat) : Bool := t < 6 || t == 10 || t == 11 || t == 12
theorem enc_datOf : ∀ (t : Nat), datUsed t = true → ∀ x, enc t (datOf t x) = (datSh t).cells x
  | 0, _, x | 1, _, x | 2, _, x | 3, _, x | 4, _, x | 5, _, x => rfl
  | 6, h, _ | 7, h, _ | 8, h, _ | 9, h, _ => by cases h
  | 10, _, x | 11, _, x | 12, _, x => rfl
  | n + 13, h, _ => by simp [datUsed] at h; omega

def Sh.scalar : Sh → Bool
  | .st _ | .ar _ _ | .row _ => false
  | _ => true

mutual
/-- A type has a shape. -/
inductive ShOk (P : Program) : TypeId → Sh → Nat → Prop
  | i {t : TypeId} {k : IntKind} (hk : isU k = none) (hu : P.underlying t = some (.int k)) : ShOk P t (.i k) 1
  | w {t : TypeId} {k : IntKind} {n : Nat} (hk : isU k = some n) (hu : P.underlying t = some (.int k)) : ShOk P t (.w n) 1
  | b {t : TypeId} (hu : P.underlying t = some .bool) : ShOk P t .b 1
  | str {t : TypeId} (hu : P.underlying t = some .string) : ShOk P t .str 1
  | row {t e : TypeId} {k n : Nat} (hu : P.underlying t = some (.slice e)) (hd : datUsed k = true) (hs : ShOk P e (datSh k) n) (hn : datSize k = n) (hc : P.cellsOf e = n) (h0 : 0 < n) : ShOk P t (.row k) 1
  | st {t : TypeId} {Fs : Array Field} {fs : List Sh} {n : Nat} (hu : P.underlying t = some (.struct Fs)) (hf : ShsOk P Fs.toList 0 fs n) (hc : P.cellsOf t = n) : ShOk P t (.st fs) n
  | ar {t e : TypeId} {n : Nat} {s : Sh} (hu : P.underlying t = some (.array n e)) (he : ShOk P e s 1) (hs : s.scalar = true) (hc : P.cellsOf e = 1) (hc2 : P.cellsOf t = n) (h0 : 0 < n) : ShOk P t (.ar n s) n
inductive ShsOk (P : Program) : List Field → Nat → List Sh → Nat → Prop
  | nil {o : Nat} : ShsOk P [] o [] o
  | cons {F : Field} {Fs : List Field} {o n m : Nat} {s : Sh} {fs : List Sh} (hs : ShOk P F.type s n) (ho : F.offset = o) (hc : P.cellsOf F.type = n) (hl : ShsOk P Fs (o + n) fs m) : ShsOk P (F :: Fs) o (s :: fs) m
end

theorem scalar_open {P : Program} {t : TypeId} {s : Sh} {n : Nat} (hs : s.scalar = true) (h : ShOk P t s n) {H : Type} {ench : TypeId × Value → H} {W : World} {base : Nat} {spare : Nat → Bool} {held : Bool} {fuel : Nat} {cs : List Value} {x : DataW H × List MemPlace}
    (ht : DataW.trod ench P W base spare held fuel t cs = some x) (C : Ctx) : ∃ (val : s.Val) (v : Value), cs = [v] ∧ VR C (s.one val) v ∧ v.oneCell' = true := by
  cases h with
  | @i _ k hk hu =>
    obtain ⟨n, rfl, _, hw⟩ := DataW.trod_int hu ht
    have hw' : k.has n := by simpa [Lit.wf, IntKind.has] using hw
    exact ⟨n, _, rfl, .i hk hw', rfl⟩
  | @w _ k m hk hu =>
    obtain ⟨n, rfl, _, hw⟩ := DataW.trod_int hu ht
    refine ⟨(BitVec.ofInt m n : BitVec m), _, rfl, ?_, rfl⟩
    have hn : ((BitVec.ofInt m n).toNat : Int) = n := by
      rw [BitVec.toNat_ofInt]
      cases k <;> simp [isU] at hk <;> subst hk <;> simp [Lit.wf, IntKind.min, IntKind.max, IntKind.signed, IntKind.bits] at hw <;> omega
    have := VR.u (C := C) (k := k) (x := BitVec.ofInt m n) hk
    rw [hn] at this; exact this
  | b hu =>
    obtain ⟨b, rfl, _⟩ := DataW.trod_bool hu ht
    exact ⟨b, _, rfl, .b b, rfl⟩
  | str hu =>
    obtain ⟨s, rfl, _, hl⟩ := DataW.trod_string hu ht
    exact ⟨s.data.toList, _, rfl, by
      have : s = ⟨s.data.toList.toArray⟩ := by cases s; simp
      conv => arg 3; rw [this]
      exact .str _ (by have : s.data.toList.length = s.size := rfl; rw [this]; exact hl), rfl⟩
  | row _ _ _ _ _ _ => cases hs
  | st _ _ _ => cases hs
  | ar _ _ _ _ _ _ => cases hs

theorem cells_at {W : World} {a : Addr} {n : Nat} {cs : List Value} (h : W.cells? 0 a n = some cs) : cs.length = n ∧ ∀ j, j < n → W.cell? (a.add j) = cs[j]? := by
  unfold World.cells? at h
  rw [if_pos (Nat.zero_le _)] at h
  refine ⟨by simpa using mapM_some_length h, fun j hj => ?_⟩
  exact mapM_some_get h j j (by simp [hj])

theorem spot_none {W : World} {a : Addr} {v : Value} (h : W.cell? a = some v) : a = ⟨a.block, a.off, none⟩ := by
  unfold World.cell? at h
  split at h
  · split at h
    · cases h
    · rename_i hs
      cases a with
      | mk b o s => cases s with
        | none => rfl
        | some x => simp at hs
  · cases h

theorem take_drop_next {α : Type} (l : List α) (o n : Nat) : (l.drop o) = (l.drop o).take n ++ l.drop (o + n) := by
  rw [← List.drop_drop]; exact (List.take_append_drop n (l.drop o)).symm

section
variable {P : Program} {H : Type} {ench : TypeId × Value → H} {W : World} {spare : Nat → Bool} {held : Bool} {C : Ctx}

theorem CR_vals {s : Sh} (hs : s.scalar = true) {n : Nat} (h0 : 0 < n) {cs : List Value} (hl : cs.length = n) (h : ∀ i, i < n → ∃ (val : s.Val) (v : Value), cs[i]? = some v ∧ VR C.bare (s.one val) v ∧ v.oneCell' = true) :
    ∃ f : Nat → s.Val, CR C [.ar n fun j => s.one (f j)] cs := by
  obtain ⟨x0, _⟩ := h 0 h0
  have h' : ∀ i, ∃ val : s.Val, i < n → ∃ v, cs[i]? = some v ∧ VR C.bare (s.one val) v ∧ v.oneCell' = true := by
    intro i
    by_cases hi : i < n
    · obtain ⟨val, v, hv⟩ := h i hi
      exact ⟨val, fun _ => ⟨v, hv⟩⟩
    · exact ⟨x0, fun h => absurd h hi⟩
  let f := fun i => Classical.choose (h' i)
  have hf : ∀ i, i < n → ∃ v, cs[i]? = some v ∧ VR C.bare (s.one (f i)) v ∧ v.oneCell' = true := fun i hi => Classical.choose_spec (h' i) hi
  refine ⟨f, ?_⟩
  have e : cs = (List.range n).map (fun i => cs.getD i undef) ++ [] := by
    rw [List.append_nil]
    apply List.ext_getElem?
    intro i
    rw [List.getElem?_map]
    by_cases hi : i < n
    · rw [List.getElem?_range hi]; simp [hl, hi]
    · rw [List.getElem?_eq_none (by omega), List.getElem?_eq_none (by simp; omega)]; rfl
  rw [e]
  refine .ar h0 (fun j hj => ?_) (fun j hj => ?_) (fun j hj => by cases s <;> first | rfl | cases hs) .nil
  · obtain ⟨v, h1, h2, h3⟩ := hf j hj
    rw [List.getD_eq_getElem?_getD, h1]; exact h2
  · obtain ⟨v, h1, h2, h3⟩ := hf j hj
    rw [List.getD_eq_getElem?_getD, h1]; exact h3

theorem open_CR : ∀ (fuel : Nat) (C : Ctx) (hw : C.w = W) (t : TypeId) (s : Sh) (n : Nat) (cs : List Value) (x : DataW H × List MemPlace), ShOk P t s n → DataW.trod ench P W 0 spare held fuel t cs = some x → (∀ p ∈ x.2, C.R p.block) →
    ∃ val : s.Val, CR C (s.cells val) cs := by
  intro fuel
  induction fuel with
  | zero => intro C hw t s n cs x _ h; simp [DataW.trod] at h
  | succ fuel ih =>
  intro C hw t s n cs x hok ht hR
  have sc : ∀ {s : Sh} {n : Nat}, s.scalar = true → ShOk P t s n → ∃ (val : s.Val) (v : Value), cs = [v] ∧ VR C (s.one val) v ∧ v.oneCell' = true := fun hs h => scalar_open hs h ht C
  cases hok with
  | i hk hu =>
    obtain ⟨val, v, rfl, h1, h2⟩ := sc rfl (ShOk.i hk hu)
    exact ⟨val, .one rfl h2 h1 .nil⟩
  | w hk hu =>
    obtain ⟨val, v, rfl, h1, h2⟩ := sc rfl (ShOk.w hk hu)
    exact ⟨val, .one rfl h2 h1 .nil⟩
  | b hu =>
    obtain ⟨val, v, rfl, h1, h2⟩ := sc rfl (ShOk.b hu)
    exact ⟨val, .one rfl h2 h1 .nil⟩
  | str hu =>
    obtain ⟨val, v, rfl, h1, h2⟩ := sc rfl (ShOk.str hu)
    exact ⟨val, .one rfl h2 h1 .nil⟩
  | @ar _ e m s hu he hs hc hc2 h0 =>
    obtain ⟨xs, m', hm, rfl, hl, hlen, hel⟩ := DataW.trod_array hu ht
    obtain rfl : fuel = m' := by omega
    rw [hc2] at hl
    have : ∀ i, i < n → ∃ (val : s.Val) (v : Value), cs[i]? = some v ∧ VR C.bare (s.one val) v ∧ v.oneCell' = true := by
      intro i hi
      have h1 := hel i hi
      rw [hc, Nat.mul_one] at h1
      obtain ⟨y, hy⟩ : ∃ y, xs[i]? = some y := ⟨xs[i]'(by omega), List.getElem?_eq_getElem (by omega)⟩
      rw [hy] at h1
      obtain ⟨val, v, hv, h2, h3⟩ := scalar_open hs he h1 C.bare
      refine ⟨val, v, ?_, h2, h3⟩
      have := congrArg (fun l => l[0]?) hv
      simpa using this
    obtain ⟨f, hf⟩ := CR_vals hs h0 hl this
    exact ⟨f, hf⟩
  | @st _ Fs fs _ hu hf hc =>
    obtain ⟨xs, m', hm, rfl, hl, hlen, hel⟩ := DataW.trod_struct hu ht
    obtain rfl : fuel = m' := by omega
    rw [hc] at hl
    have key : ∀ (Fl : List Field) (o : Nat) (fs : List Sh) (m k : Nat), ShsOk P Fl o fs m → (∀ i F, Fl[i]? = some F → Fs[k + i]? = some F) → m = cs.length → ∃ val : Sh.Vals fs, CR C (Sh.cellsL fs val) (cs.drop o) := by
      intro Fl
      induction Fl with
      | nil =>
        intro o fs m k hs _ hm
        cases hs
        refine ⟨(), ?_⟩
        rw [hm, List.drop_length]; exact .nil
      | cons F Fl ihF =>
        intro o fs m k hs hF hm
        cases hs with
        | @cons _ _ _ n' _ s' fs' hs' ho hcF hrest =>
        have hFk := hF 0 F rfl
        have h1 := hel (k + 0) F hFk
        obtain ⟨y, hy⟩ : ∃ y, xs[k + 0]? = some y := by
          have hk : k + 0 < Fs.size := by
            rw [Array.getElem?_eq_some_iff] at hFk; exact hFk.1
          exact ⟨xs[k + 0]'(by omega), List.getElem?_eq_getElem (by omega)⟩
        rw [hy, ho, hcF] at h1
        obtain ⟨val, hval⟩ := ih C hw _ s' _ _ _ hs' h1 (fun p hp => hR p (by
          simp only [List.mem_flatMap]
          exact ⟨y, List.mem_of_getElem? hy, hp⟩))
        obtain ⟨vals, hvals⟩ := ihF (o + n') fs' m (k + 1) hrest (fun i F' hi => by rw [show k + 1 + i = k + (i + 1) by omega]; exact hF (i + 1) F' (by simpa using hi)) hm
        refine ⟨(val, vals), ?_⟩
        rw [take_drop_next cs o n']
        exact CR_app hval hvals
    obtain ⟨val, hval⟩ := key Fs.toList 0 fs n 0 hf (fun i F h => by simpa using h) hl.symm
    exact ⟨val, by rw [List.drop_zero] at hval; exact hval⟩
  | @row _ e k n' hu hd hs hn hc h0 =>
    rcases DataW.trod_slice hu ht with ⟨rfl, _⟩ | ⟨a, len, cap, elems, rest, m', hm, rfl, rfl, hb, hlc, hmx, hlen, hel, _, _⟩
    · exact ⟨([] : List (Dat k)), .one rfl rfl (.vw .ro0) .nil⟩
    · obtain rfl : fuel = m' := by omega
      have each : ∀ i, i < len → ∃ (dat : Dat k) (cv : List Value), CR C.bare (enc k dat) cv ∧ cv.length = n' ∧ ∀ j, j < n' → W.cell? ((a.add (i * n')).add j) = cv[j]? := by
        intro i hi
        have h1 := hel i hi
        obtain ⟨y, hy⟩ : ∃ y, elems[i]? = some y := ⟨elems[i]'(by omega), List.getElem?_eq_getElem (by omega)⟩
        rw [hy, hc] at h1
        obtain ⟨cv, h2, h3⟩ := Option.bind_eq_some_iff.1 h1
        obtain ⟨h4, h5⟩ := cells_at h2
        obtain ⟨val, hval⟩ := ih C.bare hw _ (datSh k) _ _ _ hs h3 (fun p hp => hR p (by
          simp only [List.mem_append, List.mem_flatMap]
          exact .inr ⟨y, .inl (List.mem_of_getElem? hy), hp⟩))
        have hbare : CR C.bare (enc k (datOf k val)) cv := by
          rw [enc_datOf k hd]
          exact hval
        exact ⟨datOf k val, cv, hbare, h4, h5⟩
      have hcap : cap ≤ 9223372036854775807 := by
        have : maxLen = 9223372036854775807 := by decide
        omega
      by_cases hz : len = 0
      · subst hz
        exact ⟨([] : List (Dat k)), .one rfl rfl (.vw .roE) .nil⟩
      · have each' : ∀ i, ∃ q : Dat k × List Value, i < len → CR C.bare (enc k q.1) q.2 ∧ q.2.length = n' ∧ ∀ j, j < n' → W.cell? ((a.add (i * n')).add j) = q.2[j]? := by
          intro i
          by_cases hi : i < len
          · obtain ⟨d, cv, h⟩ := each i hi
            exact ⟨(d, cv), fun _ => h⟩
          · exact ⟨(dat0 k, []), fun h => absurd h hi⟩
        let g := fun i => Classical.choose (each' i)
        have hg : ∀ i, i < len → CR C.bare (enc k (g i).1) (g i).2 ∧ (g i).2.length = n' ∧ ∀ j, j < n' → W.cell? ((a.add (i * n')).add j) = (g i).2[j]? := fun i => Classical.choose_spec (each' i)
        have ha : a = ⟨a.block, a.off, none⟩ := by
          obtain ⟨_, h1, h2⟩ := hg 0 (by omega)
          have h3 := h2 0 h0
          rw [List.getElem?_eq_getElem (by omega)] at h3
          have h4 : (a.add (0 * n')).add 0 = a := by simp [Addr.add]
          rw [h4] at h3
          exact spot_none h3
        have hlen' : ((List.range len).map fun i => (g i).1).length = len := by simp
        have hget : ∀ i, i < len → encAt k ((List.range len).map fun i => (g i).1) i = enc k (g i).1 := by
          intro i hi
          unfold encAt
          congr 1
          rw [List.getD_eq_getElem?_getD, List.getElem?_map, List.getElem?_range hi]; rfl
        refine ⟨(List.range len).map fun i => (g i).1, .one rfl rfl (.vw ?_) .nil⟩
        rw [hlen', ha]
        refine .ro (cs := fun i => (g i).2) (hR (.cell a.block a.off) ?_) (fun i hi => by rw [hget i hi]; exact (hg i hi).1) (fun i hi => by rw [hn]; exact (hg i hi).2.1) ?_ hlc (by omega)
        · have : MemPlace.cell a.block a.off ∈ MemPlace.row a ((elems.length + rest.length) * P.cellsOf e) := by
            unfold MemPlace.row
            refine List.mem_map.2 ⟨0, ?_, rfl⟩
            rw [List.mem_range, hc]
            exact Nat.mul_pos (by omega) h0
          exact List.mem_append_left _ this
        · intro i j hi hj
          rw [hn] at hj ⊢
          rw [← (hg i hi).2.2 j hj, hw]
          congr 1
          rw [ha, addr_add, addr_add]
theorem val_ok {r : Reach} {b0 : Nat} {t : TypeId} {s : Sh} {n : Nat} {v : Value} (hok : ShOk P t s n) (hval : Value.okWide P W r b0 t v) : (∃ cs, v = .agg cs ∧ ((∃ fs, s = .st fs) ∨ ∃ m e, s = .ar m e)) ∨ ((∀ fs, s ≠ .st fs) ∧ (∀ m e, s ≠ .ar m e) ∧ v.cells = #[v]) := by
  unfold Value.okWide at hval
  cases hok with
  | st hu _ _ => rw [hu] at hval; obtain ⟨cs, h, _⟩ := hval; exact .inl ⟨cs, h, .inl ⟨_, rfl⟩⟩
  | ar hu _ _ _ _ _ => rw [hu] at hval; obtain ⟨cs, h, _⟩ := hval; exact .inl ⟨cs, h, .inr ⟨_, _, rfl⟩⟩
  | i hk hu => rw [hu] at hval; refine .inr ⟨(fun _ h => by cases h), (fun _ _ h => by cases h), ?_⟩; simp only [Cell.okWide, hu] at hval; cases v <;> first | rfl | simp [Cell.ok, hu] at hval
  | w hk hu => rw [hu] at hval; refine .inr ⟨(fun _ h => by cases h), (fun _ _ h => by cases h), ?_⟩; simp only [Cell.okWide, hu] at hval; cases v <;> first | rfl | simp [Cell.ok, hu] at hval
  | b hu => rw [hu] at hval; refine .inr ⟨(fun _ h => by cases h), (fun _ _ h => by cases h), ?_⟩; simp only [Cell.okWide, hu] at hval; cases v <;> first | rfl | simp [Cell.ok, hu] at hval
  | str hu => rw [hu] at hval; refine .inr ⟨(fun _ h => by cases h), (fun _ _ h => by cases h), ?_⟩; simp only [Cell.okWide, hu] at hval; cases v <;> first | rfl | simp [Cell.ok, hu] at hval
  | row hu _ _ _ _ _ => rw [hu] at hval; refine .inr ⟨(fun _ h => by cases h), (fun _ _ h => by cases h), ?_⟩; simp only [Cell.okWide, hu] at hval; cases v <;> first | rfl | simp [Cell.ok, hu] at hval

/-- **What is handed over is told by a value of its shape.** -/
theorem open_VR {r : Reach} {b0 : Nat} {t : TypeId} {s : Sh} {n : Nat} {v : Value} {d : DataW H} {ps : List MemPlace} (hok : ShOk P t s n) (hval : Value.okWide P W r b0 t v) (hd : DataW.Trod ench P W 0 spare held t v d ps) (C : Ctx) (hw : C.w = W) (hR : ∀ b, b < W.heap.size → C.R b) :
    ∃ val : s.Val, VR C (s.av val) v := by
  obtain ⟨fuel, hf⟩ := hd
  obtain ⟨val, hval'⟩ := open_CR fuel C hw t s n _ _ hok hf (fun p hp => hR _ (DataW.trod_lt _ _ _ _ hf p hp))
  refine ⟨val, ?_⟩
  rcases val_ok hok hval with ⟨cs, rfl, hs | hs⟩ | ⟨h1, h2, h3⟩
  · obtain ⟨fs, rfl⟩ := hs
    have := VR.agg hval'
    rw [show (Value.agg cs).cells.toList.toArray = cs by simp [Value.cells]] at this
    exact this
  · obtain ⟨m, e, rfl⟩ := hs
    have := VR.agg hval'
    rw [show (Value.agg cs).cells.toList.toArray = cs by simp [Value.cells]] at this
    exact this
  · rw [h3] at hval'
    cases s with
    | st fs => exact (h1 fs rfl).elim
    | ar m e => exact (h2 m e rfl).elim
    | i k => cases hval' with | one _ _ h _ => exact h
    | w n => cases hval' with | one _ _ h _ => exact h
    | b => cases hval' with | one _ _ h _ => exact h
    | str => cases hval' with | one _ _ h _ => exact h
    | row k => cases hval' with | one _ _ h _ => exact h
end
end Go.Proofs.YtcdnbdphakhilaaGreatDoor.Ev
