/- Lemmas: a symbolic evaluator of loaded code: functions that are led to objects with rows inside. No condition. -/
import Derived.Test.YtcdnbdphakhilaaGreatDoorEvR
import Derived.Laws.RangeString
set_option linter.unusedVariables false
set_option linter.unusedSimpArgs false
namespace Go.Proofs.YtcdnbdphakhilaaGreatDoor.Ev
/-! What is handed over with all that it leads to: by the numbers of the one that is called. -/
section
variable {P : Program} {T : TypeId → Option TyI} {S : FuncId → CSpec} {w0 : World} {E : Ent} {R0 : Nat → Prop} {M : Key → Option AV} {C : Ctx}

def nth (σ : List (Nat × AV)) (i : Nat) : Option (Nat × AV) := match Nat.ble big i with
  | true => σ[i - big]?
  | false => none
theorem nth_at {σ : List (Nat × AV)} (k : Nat) : nth σ (big + k) = σ[k]? := by
  unfold nth
  rw [show Nat.ble big (big + k) = true from Nat.ble_eq_true_of_le (Nat.le_add_right ..), Nat.add_sub_cancel_left]
theorem nth_le {σ : List (Nat × AV)} {i : Nat} {x : Nat × AV} (h : nth σ i = some x) : big ≤ i ∧ σ[i - big]? = some x := by
  unfold nth at h
  split at h
  · rename_i hb; exact ⟨Nat.le_of_ble_eq_true hb, h⟩
  · cases h
def Ctx.sub (C : Ctx) (σ : List (Nat × AV)) : Ctx := { C with
  ρ := fun i => match nth σ i with | some x => C.ρ x.1 | none => 0
  dom := fun i => ∃ x, nth σ i = some x ∧ C.dom x.1
  sz := fun i => match nth σ i with | some x => C.sz x.1 | none => 0
  liv := fun i => ∃ x, nth σ i = some x ∧ C.liv x.1
  row := fun i => ∃ x, nth σ i = some x ∧ C.row x.1
  hok := fun i v => v = 0 ∧ ∃ (id e t : Nat) (xs : List (Dat t)) (w : Nat), nth σ i = some (id, .row e t xs w) ∧ C.row id
  hd := fun i _ => match nth σ i with | some (id, .row _ _ _ w) => C.hd id w | _ => .bool false }
theorem sub_ρ {σ : List (Nat × AV)} {i : Nat} {x : Nat × AV} (h : nth σ i = some x) : (C.sub σ).ρ i = C.ρ x.1 := by show (match nth σ i with | some x => C.ρ x.1 | none => 0) = _; rw [h]
theorem sub_sz {σ : List (Nat × AV)} {i : Nat} {x : Nat × AV} (h : nth σ i = some x) : (C.sub σ).sz i = C.sz x.1 := by show (match nth σ i with | some x => C.sz x.1 | none => 0) = _; rw [h]
theorem sub_hd {σ : List (Nat × AV)} {i v id e t w : Nat} {xs : List (Dat t)} (h : nth σ i = some (id, .row e t xs w)) : (C.sub σ).hd i v = C.hd id w := by show (match nth σ i with | some (id, .row _ _ _ w) => C.hd id w | _ => .bool false) = _; rw [h]
theorem sub_bare {σ : List (Nat × AV)} : C.bare.Le (C.sub σ).bare := ⟨fun _ h => h.elim, fun b hb => ⟨hb, rfl⟩, fun _ _ h => h.elim⟩
theorem base_sub {σ : List (Nat × AV)} : (baseC C.w C.R).Le (C.sub σ) := ⟨fun _ h => h.elim, fun b hb => ⟨hb, rfl⟩, fun _ _ h => h.elim⟩

theorem posOf_at : ∀ {σ : List (Nat × AV)} {id k : Nat}, posOf σ id = some k → ∃ c, σ[k]? = some (id, c)
  | [], id, k, h => by simp [posOf] at h
  | x :: l, id, k, h => by
    simp only [posOf] at h
    cases e : x.1 == id with
    | true =>
      simp only [e, Option.some.injEq] at h; subst h
      have : x.1 = id := by simpa using e
      exact ⟨x.2, by rw [← this]; rfl⟩
    | false =>
      simp only [e] at h
      split at h
      · rename_i j hj
        simp only [Option.some.injEq] at h; subst h
        obtain ⟨c, hc⟩ := posOf_at hj
        exact ⟨c, by simpa using hc⟩
      · cases h

/-- What stands in the memory under the numbers of a list. -/
structure Held (M : Key → Option AV) (C : Ctx) (σ : List (Nat × AV)) : Prop where
  obj : ∀ id l, (id, AV.obj l) ∈ σ → C.dom id ∧ 0 < widthC l ∧ C.sz id = widthC l ∧ readC M id (widthC l) 0 (widthC l) = some l
  row : ∀ (id e t : Nat) (xs : List (Dat t)) (w : Nat), (id, AV.row e t xs w) ∈ σ → RowR C id e t xs w ∧ M (id, 0) = some (.row e t xs w) ∧ e ≠ fz
  only : ∀ x ∈ σ, isFrag x.2 = true
  nodup : (σ.map (·.1)).Nodup

theorem ren1_VR {σ : List (Nat × AV)} (hσ : Held M C σ) {a b : AV} {v : Value} (h : VR C a v) (hr : ren1 σ a = some b) : VR (C.sub σ) b v ∧ (a.single = true → b.single = true) ∧ b.width = a.width := by
  have other : (match bare1 a with | true => some a | false => none) = some b → VR (C.sub σ) b v ∧ (a.single = true → b.single = true) ∧ b.width = a.width := by
    intro hr
    split at hr
    · rename_i hb
      simp only [Option.some.injEq] at hr; subst hr
      exact ⟨(bare1_VR h hb (R := C.R) (w' := C.w) (fun b hb => ⟨hb, rfl⟩)).mono base_sub, id, rfl⟩
    · cases hr
  cases a with
  | ptr id off =>
    simp only [ren1] at hr
    split at hr
    · rename_i k hk
      simp only [Option.some.injEq] at hr; subst hr
      obtain ⟨c, hc⟩ := posOf_at hk
      have hn : nth σ (big + k) = some (id, c) := (nth_at k).trans hc
      cases h with
      | ptr _ hd =>
        refine ⟨?_, fun _ => rfl, rfl⟩
        have := VR.ptr (C := C.sub σ) (id := big + k) off ⟨_, hn, hd⟩
        rwa [sub_ρ hn] at this
    · cases hr
  | gs id w =>
    simp only [ren1] at hr
    split at hr
    · rename_i k hk
      split at hr
      · rename_i id' e t xs ver hs
        split at hr
        · rename_i hw
          simp only [Option.some.injEq] at hr; subst hr
          have hw : w = ver := by simpa using hw
          subst hw
          obtain ⟨c, hc⟩ := posOf_at hk
          rw [hs] at hc
          simp only [Option.some.injEq, Prod.mk.injEq] at hc
          obtain ⟨rfl, rfl⟩ := hc
          have hn : nth σ (big + k) = some (id', .row e t xs w) := (nth_at k).trans hs
          obtain ⟨hrow, _⟩ := hσ.row _ _ _ _ _ (List.mem_of_getElem? hs)
          cases h with
          | gs hk he =>
            exact ⟨.gs ⟨rfl, id', e, t, xs, w, hn, hrow.row⟩ ((sub_hd hn).trans he), fun _ => rfl, rfl⟩
        · cases hr
      · cases hr
    · cases hr
  | _ => exact other hr

theorem renL_CR {σ : List (Nat × AV)} (hσ : Held M C σ) : ∀ {l r : List AV} {vs : List Value}, CR C l vs → renL σ l = some r → CR (C.sub σ) r vs ∧ widthC r = widthC l ∧ r.map AV.width = l.map AV.width
  | [], r, vs, h, hr => by
    simp only [renL, Option.some.injEq] at hr; subst hr
    cases h; exact ⟨.nil, rfl, rfl⟩
  | a :: l, r, vs, h, hr => by
    simp only [renL] at hr
    split at hr
    · rename_i b r' h1 h2
      simp only [Option.some.injEq] at hr; subst hr
      cases h with
      | one ha hv h hl =>
        obtain ⟨k1, k2, k3⟩ := ren1_VR hσ h h1
        obtain ⟨m1, m2, m3⟩ := renL_CR hσ hl h2
        exact ⟨.one (k2 ha) hv k1 m1, by simp [widthC, k3, m2], by simp [k3, m3]⟩
      | ar h0 h h1' hf hl =>
        simp only [ren1, bare1, bareS, Option.some.injEq] at h1
        subst h1
        obtain ⟨m1, m2, m3⟩ := renL_CR hσ hl h2
        exact ⟨.ar h0 (fun j hj => (h j hj).mono sub_bare) h1' hf m1, by simp [widthC, m2], by simp [m3]⟩
    · cases hr

theorem renAs_TR {σ : List (Nat × AV)} (hσ : Held M C σ) : ∀ {l r : List AV} {vs : List Value}, TR C l vs → renAs σ l = some r → TR (C.sub σ) r vs ∧ r.all (fun a => !isFrag a) = true
  | [], r, vs, h, hr => by
    simp only [renAs, Option.some.injEq] at hr; subst hr
    cases h; exact ⟨.nil, rfl⟩
  | a :: l, r, vs, h, hr => by
    simp only [renAs] at hr
    split at hr
    · rename_i b r' h1 h2
      simp only [Option.some.injEq] at hr; subst hr
      cases h with
      | @cons _ _ V _ _ h hl =>
        obtain ⟨m1, m2⟩ := renAs_TR hσ hl h2
        have nf : ∀ {b : AV} {v : Value} {C : Ctx}, VR C b v → isFrag b = false := fun h => by cases h <;> rfl
        have key : VR (C.sub σ) b V := by
          cases a with
          | agg cs =>
            simp only [renA] at h1
            split at h1
            · rename_i r hr
              simp only [Option.some.injEq] at h1; subst h1
              cases h with
              | agg h => exact .agg (renL_CR hσ h hr).1
            · cases h1
          | _ => exact (ren1_VR hσ h h1).1
        exact ⟨.cons key m1, by simp [nf key, m2]⟩
    · cases hr

theorem renCs_len {σ τ : List (Nat × AV)} : ∀ {fr : List AV}, renCs σ τ = some fr → fr.length = τ.length := by
  induction τ with
  | nil => intro fr h; simp only [renCs, Option.some.injEq] at h; subst h; rfl
  | cons x l ih =>
    intro fr h
    simp only [renCs] at h
    split at h
    · rename_i b r h1 h2
      simp only [Option.some.injEq] at h; subst h
      simp [ih h2]
    · cases h
theorem renCs_at {σ τ : List (Nat × AV)} : ∀ {fr : List AV} {k : Nat} {x : Nat × AV}, renCs σ τ = some fr → τ[k]? = some x → ∃ b, fr[k]? = some b ∧ renC σ x.2 = some b := by
  induction τ with
  | nil => intro fr k x h hk; simp at hk
  | cons y l ih =>
    intro fr k x h hk
    simp only [renCs] at h
    split at h
    · rename_i b r h1 h2
      simp only [Option.some.injEq] at h; subst h
      cases k with
      | zero =>
        simp only [List.getElem?_cons_zero, Option.some.injEq] at hk; subst hk
        exact ⟨b, rfl, h1⟩
      | succ k => exact ih (fr := r) (k := k) h2 (by simpa using hk)
    · cases h
theorem renC_frag {σ : List (Nat × AV)} {a b : AV} (h : renC σ a = some b) : isFrag b = true := by
  cases a <;> simp only [renC] at h <;> first | (cases h; done) | (cases h; rfl) | (split at h <;> cases h; rfl)
theorem renCs_frag {σ τ : List (Nat × AV)} {fr : List AV} (h : renCs σ τ = some fr) : fr.all isFrag = true := by
  induction τ generalizing fr with
  | nil => simp only [renCs, Option.some.injEq] at h; subst h; rfl
  | cons y l ih =>
    simp only [renCs] at h
    split at h
    · rename_i b r h1 h2
      simp only [Option.some.injEq] at h; subst h
      simp [renC_frag h1, ih h2]
    · cases h

theorem fragMem_look {i off : Nat} {a : AV} : ∀ {fr : List AV} {k0 : Nat}, fr.all isFrag = true → look (fragMem k0 fr) (i, off) = some a → ∃ k, i = k0 + k ∧
    ((∃ l p q, fr[k]? = some (.obj l) ∧ l = p ++ a :: q ∧ off = widthC p) ∨ ∃ (e t : Nat) (xs : List (Dat t)) (w : Nat), a = .row e t xs w ∧ off = 0 ∧ fr[k]? = some (.row e t xs w))
  | [], k0, _, h => by simp [fragMem, look] at h
  | x :: r, k0, hf, h => by
    simp only [List.all_cons, Bool.and_eq_true] at hf
    have rest : look (fragMem (k0 + 1) r) (i, off) = some a → ∃ k, i = k0 + k ∧
        ((∃ l p q, (x :: r)[k]? = some (.obj l) ∧ l = p ++ a :: q ∧ off = widthC p) ∨ ∃ (e t : Nat) (xs : List (Dat t)) (w : Nat), a = .row e t xs w ∧ off = 0 ∧ (x :: r)[k]? = some (.row e t xs w)) := fun h => by
      obtain ⟨k, h1, h2⟩ := fragMem_look hf.2 h
      exact ⟨k + 1, by omega, by simpa using h2⟩
    cases x with
    | obj l =>
      simp only [fragMem] at h
      rcases look_keysAcc h with ⟨p, q, e, hk⟩ | h'
      · simp only [Prod.mk.injEq, Nat.zero_add] at hk
        exact ⟨0, hk.1, .inl ⟨l, p, q, rfl, e, hk.2⟩⟩
      · exact rest h'
    | row e t xs w =>
      simp only [fragMem, look] at h
      cases he : (((k0, 0) : Key) == (i, off)) with
      | true =>
        rw [he] at h
        simp only [Option.some.injEq] at h; subst h
        have := beq_iff_eq.1 he
        simp only [Prod.mk.injEq] at this
        exact ⟨0, this.1.symm, .inr ⟨e, t, xs, w, rfl, this.2.symm, rfl⟩⟩
      | false => rw [he] at h; exact rest h
    | _ => cases hf.1

theorem fragIds_at : ∀ {fr : List AV} {k0 k : Nat} {a : AV}, fr.all isFrag = true → fr[k]? = some a → (k0 + k, match a with | .obj l => widthC l | _ => 0) ∈ fragIds k0 fr
  | [], k0, k, a, _, h => by simp at h
  | x :: r, k0, k, a, hf, h => by
    simp only [List.all_cons, Bool.and_eq_true] at hf
    cases k with
    | zero =>
      simp only [List.getElem?_cons_zero, Option.some.injEq] at h; subst h
      cases x with
      | obj l => exact List.mem_cons_self ..
      | row e t xs w => exact List.mem_cons_self ..
      | _ => cases hf.1
    | succ k =>
      have := fragIds_at (k0 := k0 + 1) (k := k) hf.2 (by simpa using h)
      rw [show k0 + 1 + k = k0 + (k + 1) by omega] at this
      cases x with
      | obj l => exact List.mem_cons_of_mem _ this
      | row e t xs w => exact List.mem_cons_of_mem _ this
      | _ => cases hf.1

theorem sub_has {σ : List (Nat × AV)} : ∀ i, (C.sub σ).has i → big ≤ i := fun i hi => by
  rcases hi with ⟨x, hx, _⟩ | ⟨x, hx, _⟩ <;> exact (nth_le hx).1

theorem nth_inj {σ : List (Nat × AV)} (hn : (σ.map (·.1)).Nodup) {i j : Nat} {x y : Nat × AV} (hi : nth σ i = some x) (hj : nth σ j = some y) (e : x.1 = y.1) : i = j := by
  obtain ⟨b1, h1⟩ := nth_le hi
  obtain ⟨b2, h2⟩ := nth_le hj
  have l1 := (List.getElem?_eq_some_iff.1 h1).1
  have l2 := (List.getElem?_eq_some_iff.1 h2).1
  have e1 : (σ.map (·.1))[i - big]? = some x.1 := by rw [List.getElem?_map, h1]; rfl
  have e2 : (σ.map (·.1))[j - big]? = some y.1 := by rw [List.getElem?_map, h2]; rfl
  have := (List.getElem?_inj (by simpa using l1) hn).1 (e1.trans (by rw [e]; exact e2.symm))
  omega

/-- How the one that is called starts. -/
theorem entM_of [Glob] (h : SR w0 E R0 M C) {σ : List (Nat × AV)} (hσ : Held M C σ) {fr : List AV} (hfr : renCs σ σ = some fr) : EntM (C.sub σ) fr sub_has := by
  have hall := renCs_frag hfr
  have at_ : ∀ (k : Nat) (b : AV), fr[k]? = some b → ∃ x : Nat × AV, σ[k]? = some x ∧ renC σ x.2 = some b := fun k b hb => by
    have hl : k < σ.length := by rw [← renCs_len hfr]; exact (List.getElem?_eq_some_iff.1 hb).1
    obtain ⟨b', h1, h2⟩ := renCs_at hfr (List.getElem?_eq_getElem hl)
    rw [hb] at h1
    simp only [Option.some.injEq] at h1; subst h1
    exact ⟨_, List.getElem?_eq_getElem hl, h2⟩
  have objAt : ∀ (k : Nat) (l : List AV), fr[k]? = some (.obj l) → ∃ (id : Nat) (l0 : List AV), σ[k]? = some (id, .obj l0) ∧ renL σ l0 = some l := fun k l hb => by
    obtain ⟨⟨id, c⟩, h1, h2⟩ := at_ k _ hb
    cases c <;> simp only [renC] at h2 <;> first | (cases h2; done) | skip
    split at h2
    · rename_i l0 _ r hr
      simp only [Option.some.injEq, AV.obj.injEq] at h2; subst h2
      exact ⟨id, l0, h1, hr⟩
    · cases h2
  have rowAt : ∀ (k e t : Nat) (xs : List (Dat t)) (w : Nat), fr[k]? = some (.row e t xs w) → w = 0 ∧ ∃ id w1, σ[k]? = some (id, .row e t xs w1) := fun k e t xs w hb => by
    obtain ⟨⟨id, c⟩, h1, h2⟩ := at_ k _ hb
    cases c <;> simp only [renC] at h2 <;> first | (cases h2; done) | skip
    · split at h2 <;> cases h2
    · cases h2; exact ⟨rfl, id, _, h1⟩
  have hb1 : ∀ i, (C.sub σ).blk i → ∃ x, nth σ i = some x ∧ C.blk x.1 := fun i hi => by
    rcases hi with ⟨x, hx, hd⟩ | ⟨x, hx, hd⟩
    · exact ⟨x, hx, .inl hd⟩
    · exact ⟨x, hx, .inr hd⟩
  refine ⟨⟨⟨?_, ?_, ?_⟩, ⟨?_, ?_, ?_, ?_, h.own.R_lt, ?_, ?_, ?_, ?_, ?_⟩, .refl _ _, ?_, ⟨fun b hb => hb, fun b hb => .inl hb⟩, ?_, h.gl, ?_⟩, ?_⟩
  · intro i off a ha hs
    obtain ⟨k, rfl, ⟨l, p, q, h1, h2, h3⟩ | ⟨e, t, xs, w, h1, _⟩⟩ := fragMem_look hall ha
    · obtain ⟨id, l0, g1, g2⟩ := objAt k l h1
      have hn : nth σ (big + k) = some (id, .obj l0) := (nth_at k).trans g1
      obtain ⟨o1, o2, o3, o4⟩ := hσ.obj id l0 (List.mem_of_getElem? g1)
      obtain ⟨us, u1, u2, u3⟩ := readC_run h.mr (Nat.le_refl _) o4
      have u1 := (renL_CR hσ u1 g2).1
      rw [h2] at u1
      obtain ⟨v1, v2, rfl, m1, m2⟩ := CR_split u1
      obtain ⟨v3, v4, rfl, m3, m4, m5, m6⟩ := CR_uncons m2
      refine ⟨⟨_, hn, o1⟩, v3, m3, ?_⟩
      intro j u hj
      have hjl := lt_of_getElem? hj
      have := u3 (v1.length + j) u (by rw [List.getElem?_append_right (by omega), List.getElem?_append_left (by omega)]; simpa using hj)
      rw [sub_ρ hn, h3]
      rw [CR_length m1] at this
      show C.w.cell? _ = _
      simpa using this
    · subst h1; cases hs
  · intro i off a ha hs
    obtain ⟨k, rfl, ⟨l, p, q, h1, h2, h3⟩ | ⟨e, t, xs, w, h1, h2, h3⟩⟩ := fragMem_look hall ha
    · exfalso
      obtain ⟨id, l0, g1, g2⟩ := objAt k l h1
      obtain ⟨o1, o2, o3, o4⟩ := hσ.obj id l0 (List.mem_of_getElem? g1)
      obtain ⟨us, u1, u2, u3⟩ := readC_run h.mr (Nat.le_refl _) o4
      have u1 := (renL_CR hσ u1 g2).1
      rw [h2] at u1
      obtain ⟨v1, v2, rfl, m1, m2⟩ := CR_split u1
      rw [CR_spec m2] at hs
      cases hs
    · subst h1; subst h2
      obtain ⟨rfl, id, w1, g1⟩ := rowAt k e t xs w h3
      have hn : nth σ (big + k) = some (id, .row e t xs w1) := (nth_at k).trans g1
      obtain ⟨hrow, _, hne⟩ := hσ.row _ _ _ _ _ (List.mem_of_getElem? g1)
      have hliv : (C.sub σ).liv (big + k) ↔ C.liv id := ⟨fun ⟨x, hx, hl⟩ => by rw [hn] at hx; cases hx; exact hl, fun hl => ⟨_, hn, hl⟩⟩
      refine ⟨rfl, ⟨_, hn, hrow.row⟩, fun v hv => by rw [hv.1]; exact Nat.le_refl _, ⟨rfl, id, e, t, xs, w1, hn, hrow.row⟩, ?_⟩
      rcases hrow.at_ with ⟨k1, k2, k3⟩ | ⟨k1, cap, cur, k2, k3, k4, k5, k6, k7⟩ | ⟨k0, _⟩
      · exact .inl ⟨fun hl => k1 (hliv.1 hl), k2, (sub_hd hn).trans k3⟩
      · exact .inr (.inl ⟨hliv.2 k1, cap, cur, by rw [sub_hd hn, sub_ρ hn]; exact k2, by rw [sub_ρ hn]; exact k3, k4, k5, k6, fun i hi => (k7 i hi).mono sub_bare⟩)
      · exact absurd k0 hne
  · intro i o1 o2 a1 a2 h1 h2 hlt
    obtain ⟨k, rfl, ⟨l, p, q, g1, g2, g3⟩ | ⟨e, t, xs, w, g1, g2, g3⟩⟩ := fragMem_look hall h1
    · obtain ⟨k', e', ⟨l', p', q', g1', g2', g3'⟩ | ⟨e, t, xs, w, _, g2', g3'⟩⟩ := fragMem_look hall h2
      · have : k' = k := by omega
        subst this
        rw [g1] at g1'
        simp only [Option.some.injEq, AV.obj.injEq] at g1'; subst g1'
        rw [g3, g3'] at hlt ⊢
        exact split_apart (g2.symm.trans g2') hlt
      · omega
    · obtain ⟨k', e', ⟨l', p', q', g1', g2', g3'⟩ | ⟨e, t, xs, w, _, g2', g3'⟩⟩ := fragMem_look hall h2
      · have : k' = k := by omega
        subst this
        rw [g3] at g1'
        cases g1'
      · omega
  · intro i hi
    obtain ⟨x, hx, hb⟩ := hb1 i hi
    rw [sub_ρ hx]; exact h.own.lt _ hb
  · intro i hi o
    obtain ⟨x, hx, hb⟩ := hb1 i hi
    rw [sub_ρ hx]; exact h.own.unfrozen _ hb o
  · intro i hi
    obtain ⟨x, hx, hb⟩ := hb1 i hi
    rw [sub_ρ hx]; exact h.own.apart _ hb
  · intro i j hi hj e
    obtain ⟨x, hx, hb⟩ := hb1 i hi
    obtain ⟨y, hy, hb'⟩ := hb1 j hj
    rw [sub_ρ hx, sub_ρ hy] at e
    exact nth_inj hσ.nodup hx hy (h.own.inj _ _ hb hb' e)
  · rintro i ⟨x, hx, hd⟩
    rw [sub_ρ hx, sub_sz hx]; exact h.own.sized _ hd
  · rintro i ⟨x, hx, hd⟩ ⟨y, hy, hr⟩
    rw [hx] at hy; cases hy
    exact h.own.dis _ hd hr
  · rintro i ⟨x, hx, hl⟩
    exact ⟨x, hx, h.own.liv _ hl⟩
  · rintro i ⟨x, hx, hr⟩
    rw [sub_sz hx]; exact h.own.rsz _ hr
  · rintro i v ⟨_, id, e, t, xs, w, hn, hr⟩
    exact ⟨_, hn, hr⟩
  · intro i hi
    exact .inr ⟨i, hi, rfl⟩
  · intro i b n hk hd
    exact ⟨hk.2.1, hk.2.2⟩
  · intro i hl
    obtain ⟨x, hx, hl⟩ := hl
    exact .inr ⟨⟨⟨x, hx, hl⟩, x, hx, h.own.liv _ hl⟩, rfl⟩
  · intro i hi
    have key : ∀ x, nth σ i = some x → (C.dom x.1 ∨ C.row x.1) → (i, (C.sub σ).sz i) ∈ fragIds big fr := by
      intro x hx hor
      obtain ⟨b1, h1⟩ := nth_le hx
      obtain ⟨b, h2, h3⟩ := renCs_at hfr h1
      have := fragIds_at (k0 := big) hall h2
      rw [show big + (i - big) = i by omega] at this
      rw [sub_sz hx]
      obtain ⟨id, c⟩ := x
      have hf := hσ.only _ (List.mem_of_getElem? h1)
      cases c with
      | obj l0 =>
        obtain ⟨o1, o2, o3, o4⟩ := hσ.obj id l0 (List.mem_of_getElem? h1)
        simp only [renC] at h3
        split at h3
        · rename_i r hr
          simp only [Option.some.injEq] at h3; subst h3
          obtain ⟨us, u1, _⟩ := readC_run h.mr (Nat.le_refl _) o4
          rw [show C.sz id = widthC r by rw [o3, (renL_CR hσ u1 hr).2.1]]
          exact this
        · cases h3
      | row e t xs w =>
        simp only [renC, Option.some.injEq] at h3; subst h3
        obtain ⟨hrow, _⟩ := hσ.row _ _ _ _ _ (List.mem_of_getElem? h1)
        rw [show C.sz id = 0 from h.own.rsz _ hrow.row]
        exact this
      | _ => cases hf
    rcases hi with ⟨x, hx, hd⟩ | ⟨x, hx, hd⟩
    · exact key x hx (.inl hd)
    · exact key x hx (.inr hd)
end
end Go.Proofs.YtcdnbdphakhilaaGreatDoor.Ev
namespace Go.Proofs.YtcdnbdphakhilaaGreatDoor.Ev
/-! Back from a function that was handed objects and rows. -/
section
variable {P : Program} {T : TypeId → Option TyI} {S : FuncId → CSpec} {w0 : World} {E : Ent} {R0 : Nat → Prop} {M : Key → Option AV} {C : Ctx}

theorem posOf_of : ∀ {σ : List (Nat × AV)} {k : Nat} {id : Nat} {c : AV}, (σ.map (·.1)).Nodup → σ[k]? = some (id, c) → posOf σ id = some k
  | [], k, id, c, _, h => by simp at h
  | x :: l, 0, id, c, hn, h => by
    simp only [List.getElem?_cons_zero, Option.some.injEq] at h; subst h
    simp [posOf]
  | x :: l, k + 1, id, c, hn, h => by
    have h : l[k]? = some (id, c) := by simpa using h
    simp only [List.map_cons, List.nodup_cons] at hn
    have hne : (x.1 == id) = false := by
      rw [beq_eq_false_iff_ne]
      intro e
      exact hn.1 (e ▸ List.mem_map.2 ⟨_, List.mem_of_getElem? h, rfl⟩)
    simp only [posOf, hne, posOf_of hn.2 h]
theorem posOf_none {σ : List (Nat × AV)} {id : Nat} (h : ∀ x ∈ σ, x.1 ≠ id) : posOf σ id = none := by
  cases e : posOf σ id with
  | none => rfl
  | some k =>
    obtain ⟨c, hc⟩ := posOf_at e
    exact absurd rfl (h _ (List.mem_of_getElem? hc))
/-- The place of a row, and its newest number. -/
def rowPos (σ : List (Nat × AV)) (id : Nat) : Option (Nat × Nat) := match posOf σ id with
  | some k => match σ[k]? with
    | some (_, .row _ _ _ w) => some (k, w)
    | _ => none
  | none => none
theorem rowPos_at {σ : List (Nat × AV)} {id k w : Nat} (h : rowPos σ id = some (k, w)) : ∃ (e t : Nat) (xs : List (Dat t)), σ[k]? = some (id, .row e t xs w) := by
  unfold rowPos at h
  split at h
  · rename_i k' hk
    obtain ⟨c, hc⟩ := posOf_at hk
    split at h
    · rename_i i e t xs w' hs
      simp only [Option.some.injEq, Prod.mk.injEq] at h
      obtain ⟨rfl, rfl⟩ := h
      rw [hc] at hs
      simp only [Option.some.injEq, Prod.mk.injEq] at hs
      exact ⟨e, t, xs, by rw [hc, hs.2]⟩
    · cases h
  · cases h
theorem rowPos_of {σ : List (Nat × AV)} (hn : (σ.map (·.1)).Nodup) {id k e t w : Nat} {xs : List (Dat t)} (h : σ[k]? = some (id, .row e t xs w)) : rowPos σ id = some (k, w) := by
  unfold rowPos
  rw [posOf_of hn h]
  simp only [h]
theorem rowPos_none {σ : List (Nat × AV)} {id : Nat} (h : ∀ x ∈ σ, x.1 ≠ id) : rowPos σ id = none := by
  unfold rowPos; rw [posOf_none h]
theorem rowPos_obj {σ : List (Nat × AV)} (hn : (σ.map (·.1)).Nodup) {id k : Nat} {l : List AV} (h : σ[k]? = some (id, .obj l)) : rowPos σ id = none := by
  unfold rowPos
  rw [posOf_of hn h]
  simp only [h]
/-- Behind the call. -/
def Ctx.back (C : Ctx) (σ : List (Nat × AV)) (D : Ctx) : Ctx := { C with
  w := D.w
  R := D.R
  ρ := fun id => match rowPos σ id with | some x => D.ρ (big + x.1) | none => C.ρ id
  liv := fun id => match rowPos σ id with | some x => D.liv (big + x.1) | none => C.liv id
  hok := fun id v => C.hok id v ∨ ∃ x, rowPos σ id = some x ∧ v = x.2 + 1
  hd := fun id v => match rowPos σ id with | some x => if v = x.2 + 1 then D.hd (big + x.1) 0 else C.hd id v | none => C.hd id v }
theorem back_ρ {σ : List (Nat × AV)} {D : Ctx} {id : Nat} {x : Nat × Nat} (h : rowPos σ id = some x) : (C.back σ D).ρ id = D.ρ (big + x.1) := by show (match rowPos σ id with | some x => D.ρ (big + x.1) | none => C.ρ id) = _; rw [h]
theorem back_ρ0 {σ : List (Nat × AV)} {D : Ctx} {id : Nat} (h : rowPos σ id = none) : (C.back σ D).ρ id = C.ρ id := by show (match rowPos σ id with | some x => D.ρ (big + x.1) | none => C.ρ id) = _; rw [h]
theorem back_liv {σ : List (Nat × AV)} {D : Ctx} {id : Nat} {x : Nat × Nat} (h : rowPos σ id = some x) : (C.back σ D).liv id ↔ D.liv (big + x.1) := by show (match rowPos σ id with | some x => D.liv (big + x.1) | none => C.liv id) ↔ _; rw [h]
theorem back_liv0 {σ : List (Nat × AV)} {D : Ctx} {id : Nat} (h : rowPos σ id = none) : (C.back σ D).liv id ↔ C.liv id := by show (match rowPos σ id with | some x => D.liv (big + x.1) | none => C.liv id) ↔ _; rw [h]
theorem back_hd {σ : List (Nat × AV)} {D : Ctx} {id : Nat} {x : Nat × Nat} (h : rowPos σ id = some x) : (C.back σ D).hd id (x.2 + 1) = D.hd (big + x.1) 0 := by
  show (match rowPos σ id with | some x => if _ = x.2 + 1 then D.hd (big + x.1) 0 else _ | none => _) = _
  rw [h]; exact if_pos rfl
theorem back_hd0 {σ : List (Nat × AV)} {D : Ctx} {id v : Nat} (h : ∀ x, rowPos σ id = some x → v ≠ x.2 + 1) : (C.back σ D).hd id v = C.hd id v := by
  show (match rowPos σ id with | some x => if v = x.2 + 1 then D.hd (big + x.1) 0 else C.hd id v | none => C.hd id v) = _
  cases e : rowPos σ id with
  | none => rfl
  | some x => exact if_neg (h x e)

/-- What is known behind a call, of the one that calls. -/
structure Came [Glob] (C : Ctx) (σ : List (Nat × AV)) (D : Ctx) : Prop where
  sr : ∃ M, SR C.w (entE (C.sub σ) sub_has) C.R M D
  hok : ∀ i v, D.hok i v → v = 0
  obj : ∀ (k : Nat) id l, σ[k]? = some (id, AV.obj l) → D.dom (big + k) ∧ C.dom id
  row : ∀ (k id e t w : Nat) (xs : List (Dat t)), σ[k]? = some (id, AV.row e t xs w) → D.row (big + k) ∧ RowR C id e t xs w ∧ D.hok (big + k) 0
  nodup : (σ.map (·.1)).Nodup
  only : ∀ x ∈ σ, isFrag x.2 = true

theorem Came.ρ_obj [Glob] {σ : List (Nat × AV)} {D : Ctx} (h : Came C σ D) {k id : Nat} {l : List AV} (hk : σ[k]? = some (id, .obj l)) : D.ρ (big + k) = C.ρ id ∧ D.sz (big + k) = C.sz id := by
  obtain ⟨N, s⟩ := h.sr
  have hn : nth σ (big + k) = some (id, .obj l) := (nth_at k).trans hk
  obtain ⟨d1, d2⟩ := h.obj k id l hk
  obtain ⟨e1, e2⟩ := s.keep (big + k) ((C.sub σ).ρ (big + k)) ((C.sub σ).sz (big + k)) ⟨⟨_, hn, d2⟩, rfl, rfl⟩ d1
  exact ⟨e1.trans (sub_ρ hn), e2.trans (sub_sz hn)⟩

/-- Blocks of what was not handed over are as they were. -/
theorem Came.same [Glob] {σ : List (Nat × AV)} {D : Ctx} (h : Came C σ D) (o : Own C) {id : Nat} (hb : C.blk id) (hn : ∀ x ∈ σ, x.1 ≠ id) : D.w.heap[C.ρ id]? = C.w.heap[C.ρ id]? := by
  obtain ⟨N, s⟩ := h.sr
  refine s.fr.block _ (o.lt id hb) ?_
  rintro ⟨i, hi, e⟩
  have : ∃ x, nth σ i = some x ∧ C.blk x.1 := by
    rcases hi with ⟨x, hx, hd⟩ | ⟨x, hx, hd⟩
    · exact ⟨x, hx, .inl hd⟩
    · exact ⟨x, hx, .inr hd⟩
  obtain ⟨x, hx, hbx⟩ := this
  rw [sub_ρ hx] at e
  exact hn x (List.mem_of_getElem? (nth_le hx).2) (o.inj _ _ hbx hb e)
theorem Came.sameR [Glob] {σ : List (Nat × AV)} {D : Ctx} (h : Came C σ D) (o : Own C) {b : Nat} (hb : C.R b) : D.R b ∧ D.w.heap[b]? = C.w.heap[b]? := by
  obtain ⟨N, s⟩ := h.sr
  refine ⟨s.rr.1 b hb, s.fr.block _ (o.R_lt b hb) ?_⟩
  rintro ⟨i, hi, e⟩
  have : ∃ x, nth σ i = some x ∧ C.blk x.1 := by
    rcases hi with ⟨x, hx, hd⟩ | ⟨x, hx, hd⟩
    · exact ⟨x, hx, .inl hd⟩
    · exact ⟨x, hx, .inr hd⟩
  obtain ⟨x, hx, hbx⟩ := this
  rw [sub_ρ hx] at e
  exact o.apart _ hbx (e ▸ hb)
theorem Came.le [Glob] {σ : List (Nat × AV)} {D : Ctx} (h : Came C σ D) (o : Own C) : C.Le (C.back σ D) := by
  refine ⟨fun id hd => ⟨hd, ?_⟩, fun b hb => h.sameR o hb, fun id v hv => ⟨.inl hv, ?_⟩⟩
  · cases e : rowPos σ id with
    | none => exact back_ρ0 e
    | some x =>
      obtain ⟨e1, t, xs, hk⟩ := rowPos_at (k := x.1) (w := x.2) e
      exact absurd (h.row _ _ _ _ _ _ hk).2.1.row (o.dis id hd)
  · refine back_hd0 fun x hx e => ?_
    obtain ⟨e1, t, xs, hk⟩ := rowPos_at (k := x.1) (w := x.2) hx
    have := (h.row _ _ _ _ _ _ hk).2.1.top v hv
    omega
/-- Where a block of one's own lies behind the call. -/
theorem Came.blk [Glob] {σ : List (Nat × AV)} {D : Ctx} (h : Came C σ D) (o : Own C) {id : Nat} (hb : (C.back σ D).blk id) :
    (∃ k c, σ[k]? = some (id, c) ∧ D.blk (big + k) ∧ (C.back σ D).ρ id = D.ρ (big + k)) ∨ (C.blk id ∧ (∀ x ∈ σ, x.1 ≠ id) ∧ (C.back σ D).ρ id = C.ρ id) := by
  cases e : rowPos σ id with
  | some x =>
    obtain ⟨e1, t, xs, hk⟩ := rowPos_at (k := x.1) (w := x.2) e
    left
    refine ⟨x.1, _, hk, ?_, back_ρ e⟩
    rcases hb with hd | hl
    · exact absurd (h.row _ _ _ _ _ _ hk).2.1.row (o.dis id hd)
    · exact .inr ((back_liv e).1 hl)
  | none =>
    have hb' : C.blk id := by
      rcases hb with hd | hl
      · exact .inl hd
      · exact .inr ((back_liv0 e).1 hl)
    cases hp : posOf σ id with
    | some k =>
      obtain ⟨c, hc⟩ := posOf_at hp
      have hf := h.only _ (List.mem_of_getElem? hc)
      cases c with
      | obj l =>
        left
        exact ⟨k, _, hc, .inl (h.obj _ _ _ hc).1, (back_ρ0 e).trans (h.ρ_obj hc).1.symm⟩
      | row e1 t xs w => rw [rowPos_of h.nodup hc] at e; cases e
      | _ => cases hf
    | none =>
      right
      refine ⟨hb', fun x hx ex => ?_, back_ρ0 e⟩
      obtain ⟨k, hk, hkx⟩ := List.mem_iff_getElem.1 hx
      have : σ[k]? = some (id, x.2) := by rw [List.getElem?_eq_getElem hk, hkx, ← ex]
      rw [posOf_of h.nodup this] at hp; cases hp

theorem Came.own [Glob] {σ : List (Nat × AV)} {D : Ctx} (h : Came C σ D) (o : Own C) : Own (C.back σ D) := by
  obtain ⟨N, s⟩ := h.sr
  have hsz : C.w.heap.size ≤ D.w.heap.size := s.fr.size
  refine ⟨?_, ?_, ?_, ?_, s.own.R_lt, ?_, o.dis, ?_, o.rsz, ?_⟩
  · intro id hb
    rcases h.blk o hb with ⟨k, c, _, h1, h2⟩ | ⟨h1, h2, h3⟩
    · rw [h2]; exact s.own.lt _ h1
    · rw [h3]; exact Nat.lt_of_lt_of_le (o.lt _ h1) hsz
  · intro id hb off
    show D.w.frozen? _ = _
    rcases h.blk o hb with ⟨k, c, _, h1, h2⟩ | ⟨h1, h2, h3⟩
    · rw [h2]; exact s.own.unfrozen _ h1 off
    · rw [h3]
      have := o.unfrozen _ h1 off
      unfold World.frozen? at this ⊢
      rw [show D.w.heap[C.ρ id]? = C.w.heap[C.ρ id]? from h.same o h1 h2]; exact this
  · intro id hb hR
    rcases h.blk o hb with ⟨k, c, _, h1, h2⟩ | ⟨h1, h2, h3⟩
    · rw [h2] at hR; exact s.own.apart _ h1 hR
    · rw [h3] at hR
      rcases s.rr.2 _ hR with h4 | h4
      · exact o.apart _ h1 h4
      · exact absurd (o.lt _ h1) (Nat.not_lt.2 h4)
  · intro a b ha hb e
    rcases h.blk o ha with ⟨k, c, k1, h1, h2⟩ | ⟨h1, h2, h3⟩ <;> rcases h.blk o hb with ⟨k', c', k1', h1', h2'⟩ | ⟨h1', h2', h3'⟩
    · rw [h2, h2'] at e
      have := s.own.inj _ _ h1 h1' e
      have : k = k' := by omega
      subst this
      rw [k1] at k1'; cases k1'; rfl
    · exfalso
      rw [h2, h3'] at e
      rcases s.mine _ h1 with h4 | ⟨i, hi, h5⟩
      · rw [e] at h4; exact absurd (o.lt _ h1') (Nat.not_lt.2 h4)
      · have : ∃ x, nth σ i = some x ∧ C.blk x.1 := by
          rcases hi with ⟨x, hx, hd⟩ | ⟨x, hx, hd⟩
          · exact ⟨x, hx, .inl hd⟩
          · exact ⟨x, hx, .inr hd⟩
        obtain ⟨x, hx, hbx⟩ := this
        rw [sub_ρ hx, e] at h5
        exact h2' x (List.mem_of_getElem? (nth_le hx).2) (o.inj _ _ hbx h1' h5)
    · exfalso
      rw [h3, h2'] at e
      rcases s.mine _ h1' with h4 | ⟨i, hi, h5⟩
      · rw [← e] at h4; exact absurd (o.lt _ h1) (Nat.not_lt.2 h4)
      · have : ∃ x, nth σ i = some x ∧ C.blk x.1 := by
          rcases hi with ⟨x, hx, hd⟩ | ⟨x, hx, hd⟩
          · exact ⟨x, hx, .inl hd⟩
          · exact ⟨x, hx, .inr hd⟩
        obtain ⟨x, hx, hbx⟩ := this
        rw [sub_ρ hx, ← e] at h5
        exact h2 x (List.mem_of_getElem? (nth_le hx).2) (o.inj _ _ hbx h1 h5)
    · rw [h3, h3'] at e
      exact o.inj _ _ h1 h1' e
  · intro id hd
    have hd' : C.dom id := hd
    show objSize D.w _ = C.sz id
    rcases h.blk o (.inl hd) with ⟨k, c, k1, h1, h2⟩ | ⟨h1, h2, h3⟩
    · have hf := h.only _ (List.mem_of_getElem? k1)
      cases c with
      | obj l =>
        rw [h2, ← (h.ρ_obj k1).2]
        exact s.own.sized _ (h.obj _ _ _ k1).1
      | row e1 t xs w => exact absurd (h.row _ _ _ _ _ _ k1).2.1.row (o.dis id hd')
      | _ => cases hf
    · rw [h3]
      have : objSize D.w (C.ρ id) = objSize C.w (C.ρ id) := by unfold objSize; rw [h.same o h1 h2]
      rw [this]; exact o.sized id hd'
  · intro id hl
    show C.row id
    cases e : rowPos σ id with
    | some x =>
      obtain ⟨e1, t, xs, hk⟩ := rowPos_at (k := x.1) (w := x.2) e
      exact (h.row _ _ _ _ _ _ hk).2.1.row
    | none => exact o.liv id ((back_liv0 e).1 hl)
  · rintro id v (hv | ⟨x, hx, _⟩)
    · exact o.hokr id v hv
    · obtain ⟨e1, t, xs, hk⟩ := rowPos_at (k := x.1) (w := x.2) hx
      exact (h.row _ _ _ _ _ _ hk).2.1.row

/-- As it was, what was not handed over. -/
theorem Came.sameAt [Glob] {σ : List (Nat × AV)} {D : Ctx} (h : Came C σ D) (o : Own C) {id : Nat} (hn : ∀ x ∈ σ, x.1 ≠ id) : C.SameAt (C.back σ D) id := by
  have e := rowPos_none hn
  refine ⟨.rfl, back_liv0 e, .rfl, fun _ => back_ρ0 e, fun v => ⟨fun hv => ?_, .inl⟩, fun v hv => back_hd0 fun x hx => (by rw [e] at hx; cases hx), fun hb => h.same o hb hn⟩
  rcases hv with hv | ⟨x, hx, _⟩
  · exact hv
  · rw [e] at hx; cases hx

theorem back1_VR [Glob] {σ : List (Nat × AV)} {D : Ctx} (h : Came C σ D) {a b : AV} {v : Value} (hv : VR D a v) (hb : back1 σ a = some b) : VR (C.back σ D) b v ∧ (a.single = true → b.single = true) ∧ b.width = a.width := by
  have other : (match bare1 a with | true => some a | false => none) = some b → VR (C.back σ D) b v ∧ (a.single = true → b.single = true) ∧ b.width = a.width := by
    intro hr
    split at hr
    · rename_i hbr
      simp only [Option.some.injEq] at hr; subst hr
      have := bare1_VR hv hbr (R := D.R) (w' := D.w) (fun b hb => ⟨hb, rfl⟩)
      exact ⟨VR.mono (C := baseC D.w D.R) (C' := C.back σ D) ⟨fun _ h => h.elim, fun b hb => ⟨hb, rfl⟩, fun _ _ h => h.elim⟩ this, id, rfl⟩
    · cases hr
  cases a with
  | ptr i off =>
    simp only [back1] at hb
    split at hb
    · rename_i id l hbig hk
      simp only [Option.some.injEq] at hb; subst hb
      have hi := Nat.le_of_ble_eq_true hbig
      cases hv with
      | ptr _ hd =>
        refine ⟨?_, fun _ => rfl, rfl⟩
        have e1 := (h.ρ_obj hk).1
        rw [show big + (i - big) = i by omega] at e1
        have := VR.ptr (C := C.back σ D) (id := id) off (h.obj _ _ _ hk).2
        rwa [back_ρ0 (rowPos_obj h.nodup hk), ← e1] at this
    · cases hb
  | gs i w =>
    simp only [back1] at hb
    split at hb
    · rename_i id e t xs ver hbig hk
      split at hb
      · rename_i hw
        simp only [Option.some.injEq] at hb; subst hb
        have hw : w = 0 := by simpa using hw
        subst hw
        have hi := Nat.le_of_ble_eq_true hbig
        have hp := rowPos_of h.nodup hk
        cases hv with
        | gs hok he =>
          refine ⟨.gs (.inr ⟨_, hp, rfl⟩) ?_, fun _ => rfl, rfl⟩
          have := back_hd (C := C) (D := D) hp
          rw [show big + (i - big) = i by omega] at this
          exact this.trans he
      · cases hb
    · cases hb
  | _ => exact other hb

theorem backL_CR [Glob] {σ : List (Nat × AV)} {D : Ctx} (h : Came C σ D) : ∀ {l r : List AV} {vs : List Value}, CR D l vs → backL σ l = some r → CR (C.back σ D) r vs
  | [], r, vs, hc, hr => by
    simp only [backL, Option.some.injEq] at hr; subst hr
    cases hc; exact .nil
  | a :: l, r, vs, hc, hr => by
    simp only [backL] at hr
    split at hr
    · rename_i b r' h1 h2
      simp only [Option.some.injEq] at hr; subst hr
      cases hc with
      | one ha hv hx hl =>
        obtain ⟨k1, k2, k3⟩ := back1_VR h hx h1
        exact .one (k2 ha) hv k1 (backL_CR h hl h2)
      | ar h0 hx h1' hf hl =>
        simp only [back1, bare1, bareS, Option.some.injEq] at h1
        subst h1
        exact .ar h0 (fun j hj => VR.mono (C := D.bare) (C' := (C.back σ D).bare) ⟨fun _ h => h.elim, fun b hb => ⟨hb, rfl⟩, fun _ _ h => h.elim⟩ (hx j hj)) h1' hf (backL_CR h hl h2)
    · cases hr

/-- What is written. -/
theorem backW_look {σ : List (Nat × AV)} {i off : Nat} {a : AV} : ∀ {τ : List (Nat × AV)} {cs : List (List AV)} {ws : List (Key × AV)}, backW σ τ cs = some ws → look ws (i, off) = some a → ∃ (k : Nat) (c : AV) (d : List AV), τ[k]? = some (i, c) ∧ cs[k]? = some d ∧
    ((∃ l d' p q, c = .obj l ∧ backL σ d = some d' ∧ l.map AV.width = d'.map AV.width ∧ d' = p ++ a :: q ∧ off = widthC p) ∨ (∃ (e t w u : Nat) (xs ys : List (Dat t)), c = .row e t xs w ∧ d = [.row e t ys u] ∧ a = .row e t ys (w + 1) ∧ off = 0))
  | [], cs, ws, h, hl => by
    cases cs with
    | nil => simp only [backW, Option.some.injEq] at h; subst h; simp [look] at hl
    | cons c cs => simp [backW] at h
  | (id, .obj l) :: r, cs, ws, h, hl => by
    cases cs with
    | nil => simp [backW] at h
    | cons c cs =>
      simp only [backW] at h
      split at h
      · rename_i d ws' h1 h2
        split at h
        · rename_i hw
          simp only [Option.some.injEq] at h; subst h
          rcases look_keysAcc hl with ⟨p, q, e, hk⟩ | h'
          · simp only [Prod.mk.injEq, Nat.zero_add] at hk
            obtain ⟨rfl, rfl⟩ := hk
            exact ⟨0, _, c, rfl, rfl, .inl ⟨l, d, p, q, rfl, h1, by simpa using hw, e, rfl⟩⟩
          · obtain ⟨k, c', d', g1, g2, g3⟩ := backW_look h2 h'
            exact ⟨k + 1, c', d', by simpa using g1, by simpa using g2, g3⟩
        · cases h
      · cases h
  | (id, .row e t xs w) :: r, cs, ws, h, hl => by
    match cs, h with
    | [.row e' t' ys u] :: cs, h =>
      simp only [backW] at h
      split at h
      · rename_i ws' h2 he
        simp only [Option.some.injEq] at h; subst h
        simp only [Bool.and_eq_true, beq_iff_eq] at he
        obtain ⟨rfl, rfl⟩ := he
        simp only [look] at hl
        cases hk : (((id, 0) : Key) == (i, off)) with
        | true =>
          rw [hk] at hl
          simp only [Option.some.injEq] at hl; subst hl
          have := beq_iff_eq.1 hk
          simp only [Prod.mk.injEq] at this
          obtain ⟨rfl, rfl⟩ := this
          exact ⟨0, _, _, rfl, rfl, .inr ⟨e', t', w, u, xs, ys, rfl, rfl, rfl, rfl⟩⟩
        | false =>
          rw [hk] at hl
          obtain ⟨k, c', d', g1, g2, g3⟩ := backW_look h2 hl
          exact ⟨k + 1, c', d', by simpa using g1, by simpa using g2, g3⟩
      · cases h
  | (id, .poison) :: r, cs, ws, h, hl => by simp [backW] at h
  | (id, .i _ _) :: r, cs, ws, h, hl => by simp [backW] at h
  | (id, .u _ _) :: r, cs, ws, h, hl => by simp [backW] at h
  | (id, .b _) :: r, cs, ws, h, hl => by simp [backW] at h
  | (id, .str _) :: r, cs, ws, h, hl => by simp [backW] at h
  | (id, .nilp) :: r, cs, ws, h, hl => by simp [backW] at h
  | (id, .nils) :: r, cs, ws, h, hl => by simp [backW] at h
  | (id, .ptr _ _) :: r, cs, ws, h, hl => by simp [backW] at h
  | (id, .px _ _ _ _) :: r, cs, ws, h, hl => by simp [backW] at h
  | (id, .agg _) :: r, cs, ws, h, hl => by simp [backW] at h
  | (id, .tup _) :: r, cs, ws, h, hl => by simp [backW] at h
  | (id, .ar _ _) :: r, cs, ws, h, hl => by simp [backW] at h
  | (id, .ro _ _ _) :: r, cs, ws, h, hl => by simp [backW] at h
  | (id, .vw _ _) :: r, cs, ws, h, hl => by simp [backW] at h
  | (id, .rp _ _) :: r, cs, ws, h, hl => by simp [backW] at h
  | (id, .fin _ _) :: r, cs, ws, h, hl => by simp [backW] at h
  | (id, .sit _ _) :: r, cs, ws, h, hl => by simp [backW] at h
  | (id, .dead) :: r, cs, ws, h, hl => by simp [backW] at h
  | (id, .gs _ _) :: r, cs, ws, h, hl => by simp [backW] at h
  | (id, .pg _ _ _ _ _) :: r, cs, ws, h, hl => by simp [backW] at h

/-- All that was handed over is written. -/
theorem backW_has {σ : List (Nat × AV)} {k id : Nat} {c : AV} : ∀ {τ : List (Nat × AV)} {cs : List (List AV)} {ws : List (Key × AV)} , backW σ τ cs = some ws → τ[k]? = some (id, c) →
    (∀ l p q a, c = .obj l → l = p ++ a :: q → (look ws (id, widthC p)).isSome = true) ∧ (∀ (e t w : Nat) (xs : List (Dat t)), c = .row e t xs w → (look ws (id, 0)).isSome = true)
  | [], cs, ws, h, hk => by simp at hk
  | x :: r, cs, ws, h, hk => by
    have step : ∀ {ws' : List (Key × AV)} {cs' : List (List AV)} {k' : Nat}, backW σ r cs' = some ws' → r[k']? = some (id, c) → (∀ key, (look ws' key).isSome = true → (look ws key).isSome = true) →
        (∀ l p q a, c = .obj l → l = p ++ a :: q → (look ws (id, widthC p)).isSome = true) ∧ (∀ (e t w : Nat) (xs : List (Dat t)), c = .row e t xs w → (look ws (id, 0)).isSome = true) := fun h1 h2 h3 => by
      obtain ⟨g1, g2⟩ := backW_has h1 h2
      exact ⟨fun l p q a e1 e2 => h3 _ (g1 l p q a e1 e2), fun e t w xs e1 => h3 _ (g2 e t w xs e1)⟩
    obtain ⟨xi, xc⟩ := x
    cases xc with
    | obj l =>
      cases cs with
      | nil => simp [backW] at h
      | cons d cs =>
        simp only [backW] at h
        split at h
        · rename_i d' ws' h1 h2
          split at h
          · rename_i hw
            simp only [Option.some.injEq] at h; subst h
            cases k with
            | zero =>
              simp only [List.getElem?_cons_zero, Option.some.injEq, Prod.mk.injEq] at hk
              obtain ⟨rfl, rfl⟩ := hk
              refine ⟨fun l' p q a e1 e2 => ?_, fun e t w xs e1 => by cases e1⟩
              simp only [AV.obj.injEq] at e1; subst e1
              obtain ⟨p', a', q', f1, f2, f3⟩ := widths_split (by simpa using (show l.map AV.width = d'.map AV.width by simpa using hw).symm) e2
              have := keysAcc_has (id := xi) (off := 0) (acc := ws') f1
              rw [Nat.zero_add, f2] at this
              exact this
            | succ k => exact step (k' := k) h2 (by simpa using hk) fun key hk => keysAcc_acc hk
          · cases h
        · cases h
    | row e t xs w =>
      match cs, h with
      | [.row e' t' ys u] :: cs, h =>
        simp only [backW] at h
        split at h
        · rename_i ws' h2 he
          simp only [Option.some.injEq] at h; subst h
          cases k with
          | zero =>
            simp only [List.getElem?_cons_zero, Option.some.injEq, Prod.mk.injEq] at hk
            obtain ⟨rfl, rfl⟩ := hk
            refine ⟨fun l' p q a e1 e2 => (by cases e1), fun e t w xs e1 => ?_⟩
            simp [look]
          | succ k =>
            refine step (k' := k) h2 (by simpa using hk) fun key hk => ?_
            simp only [look]
            split
            · rfl
            · exact hk
        · cases h
    | _ => simp [backW] at h
end
end Go.Proofs.YtcdnbdphakhilaaGreatDoor.Ev
namespace Go.Proofs.YtcdnbdphakhilaaGreatDoor.Ev
/-! A call that is handed objects and rows. -/
section
variable {P : Program} {T : TypeId → Option TyI} {S : FuncId → CSpec} {w0 : World} {E : Ent} {R0 : Nat → Prop} {M : Key → Option AV} {C : Ctx}

theorem came_of [Glob] {σ : List (Nat × AV)} (hσ : Held M C σ) {fr : List AV} (hfr : renCs σ σ = some fr) {val : AV} {outs : List (List AV)} {v : Value} {D : Ctx} (hd : DoneM (C.sub σ) sub_has fr val outs v D) : Came C σ D := by
  refine ⟨hd.sr, hd.hok, ?_, ?_, hσ.nodup, hσ.only⟩
  · intro k id l hk
    obtain ⟨b, h1, h2⟩ := renCs_at hfr hk
    simp only [renC] at h2
    split at h2
    · rename_i r hr
      simp only [Option.some.injEq] at h2; subst h2
      obtain ⟨c, us, _, h3, _⟩ := hd.obj k r h1
      exact ⟨h3, (hσ.obj id l (List.mem_of_getElem? hk)).1⟩
    · cases h2
  · intro k id e t w xs hk
    obtain ⟨b, h1, h2⟩ := renCs_at hfr hk
    simp only [renC, Option.some.injEq] at h2; subst h2
    obtain ⟨ys, _, h3⟩ := hd.row k e t xs 0 h1
    exact ⟨h3.row, (hσ.row _ _ _ _ _ (List.mem_of_getElem? hk)).1, h3.ok⟩

theorem after_m [Glob] (h : SR w0 E R0 M C) {σ : List (Nat × AV)} (hσ : Held M C σ) {fr : List AV} (hfr : renCs σ σ = some fr) {val : AV} {outs : List (List AV)} {v : Value} {D : Ctx} (hd : DoneM (C.sub σ) sub_has fr val outs v D)
    {ws : List (Key × AV)} (hws : backW σ σ outs = some ws) (hb : bareR val = true) (pre : List Bool) (rd : List Key) : After w0 E R0 M C ⟨pre, val, rd, ws, []⟩ v (C.back σ D) := by
  have cm := came_of hσ hfr hd
  have o := h.own
  have hle := cm.le o
  obtain ⟨N, s⟩ := hd.sr
  have inσ : ∀ {k : Nat} {id : Nat} {c : AV}, σ[k]? = some (id, c) → (id, c) ∈ σ := fun hk => List.mem_of_getElem? hk
  -- what is written at an object's place
  have objW : ∀ {k id : Nat} {l d d' : List AV}, σ[k]? = some (id, .obj l) → outs[k]? = some d → backL σ d = some d' → l.map AV.width = d'.map AV.width → C.dom id ∧ ∃ us, CR (C.back σ D) d' us ∧ cellsAt D.w (C.ρ id) 0 us := by
    intro k id l d d' hk hout hbk hwid
    obtain ⟨b, h1, h2⟩ := renCs_at hfr hk
    simp only [renC] at h2
    split at h2
    · rename_i r hr
      simp only [Option.some.injEq] at h2; subst h2
      obtain ⟨c, us, g1, g2, g3, g4, g5⟩ := hd.obj k r h1
      rw [hout] at g1
      simp only [Option.some.injEq] at g1; subst g1
      rw [(cm.ρ_obj hk).1] at g5
      exact ⟨(hσ.obj id l (inσ hk)).1, us, backL_CR cm g3 hbk, g5⟩
    · cases h2
  have rowW : ∀ {k id e t w u : Nat} {xs ys : List (Dat t)}, σ[k]? = some (id, .row e t xs w) → outs[k]? = some [.row e t ys u] → RowR (C.back σ D) id e t ys (w + 1) := by
    intro k id e t w u xs ys hk hout
    obtain ⟨b, h1, h2⟩ := renCs_at hfr hk
    simp only [renC, Option.some.injEq] at h2; subst h2
    obtain ⟨zs, g1, g2⟩ := hd.row k e t xs 0 h1
    rw [hout] at g1
    simp only [Option.some.injEq, List.cons.injEq, AV.row.injEq, heq_eq_eq, and_true, true_and] at g1
    obtain ⟨rfl, rfl⟩ := g1
    obtain ⟨hr, _, hne⟩ := hσ.row _ _ _ _ _ (inσ hk)
    have hp := rowPos_of hσ.nodup hk
    have hhd : (C.back σ D).hd id (w + 1) = D.hd (big + k) 0 := back_hd (x := (k, w)) hp
    have hel : ∀ {l : List AV} {us : List Value}, CR D.bare l us → CR (C.back σ D).bare l us := fun hc => CR.mono (C := D.bare) (C' := (C.back σ D).bare) ⟨fun _ h => False.elim h, fun b hb => ⟨hb, rfl⟩, fun _ _ h => False.elim h⟩ hc
    refine ⟨hr.row, ?_, .inr ⟨_, hp, rfl⟩, ?_⟩
    · rintro v (hv | ⟨x, hx, rfl⟩)
      · exact Nat.le_succ_of_le (hr.top v hv)
      · rw [hp] at hx; cases hx; exact Nat.le_refl _
    · rcases g2.at_ with ⟨k1, k2, k3⟩ | ⟨k1, cap, cur, k2, k3, k4, k5, k6, k7⟩ | ⟨k0, _⟩
      · exact .inl ⟨fun hl => k1 ((back_liv (x := (k, w)) hp).1 hl), k2, hhd.trans k3⟩
      · exact .inr (.inl ⟨(back_liv (x := (k, w)) hp).2 k1, cap, cur, by rw [hhd, back_ρ (x := (k, w)) hp]; exact k2, by rw [back_ρ (x := (k, w)) hp]; exact k3, k4, k5, k6, fun i hi => hel (k7 i hi)⟩)
      · exact absurd k0 hne
  -- what is not written was not handed over
  have notIn : ∀ {id off : Nat} {a : AV}, M (id, off) = some a → look ws (id, off) = none → (a.spec = false → off < C.sz id) → (∀ s0 p0, a = .sit s0 p0 → off = 0) → a ≠ .dead → (∀ (e t : Nat) (xs : List (Dat t)) (w : Nat), a = .row e t xs w → off = 0) → ∀ x ∈ σ, x.1 ≠ id := by
    intro id off a hm hno hlt hsit hdead hrow x hx e
    subst e
    obtain ⟨k, hk, hkx⟩ := List.mem_iff_getElem.1 hx
    have hk' : σ[k]? = some (x.1, x.2) := by rw [List.getElem?_eq_getElem hk, hkx]
    have hf := hσ.only _ hx
    obtain ⟨w1, w2⟩ := backW_has hws hk'
    cases hc : x.2 with
    | obj l =>
      rw [hc] at hk'
      obtain ⟨o1, o2, o3, o4⟩ := hσ.obj _ _ (inσ hk')
      cases hsp : a.spec with
      | false =>
        have hl := hlt hsp
        rw [o3] at hl
        obtain ⟨p, q, e1, e2⟩ := readC_cover h.mr (Nat.le_refl _) o4 hm (Nat.zero_le _) (by omega)
        have := w1 l p q a hc e1
        rw [show widthC p = off by omega, hno] at this
        cases this
      | true =>
        have h0 : off = 0 := by
          cases a with
          | sit s0 p0 => exact hsit _ _ rfl
          | row e t xs w => exact hrow _ _ _ _ rfl
          | dead => exact absurd rfl hdead
          | _ => cases hsp
        subst h0
        obtain ⟨n, hn⟩ : ∃ n, widthC l = n + 1 := ⟨widthC l - 1, by omega⟩
        rw [hn] at o4
        simp only [readC] at o4
        rw [hm] at o4
        simp only [hsp, Bool.not_true, Bool.and_false] at o4
        cases o4
    | row e t xs w =>
      rw [hc] at hk'
      have hr := (hσ.row _ _ _ _ _ (inσ hk')).1
      have h2 := w2 e t w xs hc
      cases hsp : a.spec with
      | false => exact o.dis _ (h.mr.at_ _ _ _ hm hsp).1 hr.row
      | true =>
        have h0 : off = 0 := by
          cases a with
          | sit s0 p0 => exact hsit _ _ rfl
          | row e t xs w => exact hrow _ _ _ _ rfl
          | dead => exact absurd rfl hdead
          | _ => cases hsp
        subst h0
        rw [hno] at h2; cases h2
    | _ => rw [hc] at hf; cases hf
  have hwid : ∀ k, (updK M ws k).map AV.width = (M k).map AV.width := by
    rintro ⟨i, off⟩
    unfold updK
    split
    · rename_i x hx
      obtain ⟨k, c, d, e1, e2, e3⟩ := backW_look hws hx
      rcases e3 with ⟨l, d', p, q, rfl, g1, g2, g3, rfl⟩ | ⟨e, t, w, u, xs, ys, rfl, rfl, rfl, rfl⟩
      · obtain ⟨p', a', q', f1, f2, f3⟩ := widths_split g2 g3
        have hm := readC_has (hσ.obj i l (inσ e1)).2.2.2 f1
        simp only [Nat.zero_add, f2] at hm
        rw [hm]; simp [f3]
      · rw [(hσ.row _ _ _ _ _ (inσ e1)).2.1]; rfl
    · rfl
  refine ⟨hle, ?_, ⟨⟨?_, ?_, ?_⟩, cm.own o, ?_, ?_, ⟨fun b hb' => s.rr.1 b (h.rr.1 b hb'), ?_⟩, ?_, s.gl, ?_⟩, fun i hi => .inl ⟨hi, rfl⟩⟩
  · exact VR.mono (C := baseC D.w D.R) (C' := C.back σ D) ⟨fun _ h => h.elim, fun b hb => ⟨hb, rfl⟩, fun _ _ h => h.elim⟩ (hd.res hb)
  · intro id off x hx hsx
    unfold updK at hx
    split at hx
    · rename_i y hy
      simp only [Option.some.injEq] at hx; subst hx
      obtain ⟨k, c, d, e1, e2, e3⟩ := backW_look hws hy
      rcases e3 with ⟨l, d', p, q, rfl, g1, g2, g3, rfl⟩ | ⟨e, t, w, u, xs, ys, rfl, rfl, rfl, rfl⟩
      · obtain ⟨hdm, us, u1, u2⟩ := objW e1 e2 g1 g2
        refine ⟨hdm, ?_⟩
        rw [g3] at u1
        obtain ⟨v1, v2, rfl, m1, m2⟩ := CR_split u1
        obtain ⟨v3, v4, rfl, m3, m4, m5, m6⟩ := CR_uncons m2
        refine ⟨v3, m3, ?_⟩
        rw [back_ρ0 (rowPos_obj hσ.nodup e1)]
        intro j u hj
        have hjl := lt_of_getElem? hj
        have := u2 (v1.length + j) u (by rw [List.getElem?_append_right (by omega), List.getElem?_append_left (by omega)]; simpa using hj)
        rw [CR_length m1] at this
        show D.w.cell? _ = _
        simpa using this
      · cases hsx
    · rename_i hnone
      obtain ⟨hdm, us, u1, u2⟩ := h.mr.at_ id off x hx hsx
      have hno := notIn hx hnone (fun _ => by
        obtain ⟨_, _, _, _, _, ul, upos⟩ := CR_uncons u1
        have hul : 0 < us.length := by have := CR_length u1; simp [widthC] at this; omega
        have hcell := u2 0 us[0] (List.getElem?_eq_getElem hul)
        rw [← o.sized _ hdm]
        unfold World.cell? at hcell
        unfold objSize
        split at hcell
        · rename_i cc ee ff hbk
          rw [hbk]
          simp only [Option.isSome_none, Bool.false_eq_true, if_false, Nat.add_zero] at hcell
          rcases Nat.lt_or_ge off cc.size with hh | hh
          · exact hh
          · rw [Array.getElem?_eq_none hh] at hcell; cases hcell
        · cases hcell) (fun s0 p0 e => by rw [e] at hsx; cases hsx) (fun e => by rw [e] at hsx; cases hsx) (fun e t xs w e' => by rw [e'] at hsx; cases hsx)
      refine ⟨hdm, us, u1.mono hle, ?_⟩
      rw [back_ρ0 (rowPos_none hno)]
      intro j u hj
      exact (cell_of_block (cm.same o (.inl hdm) hno) _ _).trans (u2 j u hj)
  · intro id off x hx hsx
    unfold updK at hx
    split at hx
    · rename_i y hy
      simp only [Option.some.injEq] at hx; subst hx
      obtain ⟨k, c, d, e1, e2, e3⟩ := backW_look hws hy
      rcases e3 with ⟨l, d', p, q, rfl, g1, g2, g3, rfl⟩ | ⟨e, t, w, u, xs, ys, rfl, rfl, rfl, rfl⟩
      · exfalso
        obtain ⟨hdm, us, u1, u2⟩ := objW e1 e2 g1 g2
        rw [g3] at u1
        obtain ⟨v1, v2, rfl, m1, m2⟩ := CR_split u1
        rw [CR_spec m2] at hsx; cases hsx
      · exact ⟨rfl, rowW e1 e2⟩
    · rename_i hnone
      have hsp := h.mr.sp id off x hx hsx
      cases x with
      | dead => exact hsp
      | sit s0 p0 =>
        have hno := notIn hx hnone (fun e => by cases e) (fun _ _ _ => hsp.2.1) (fun e => by cases e) (fun e t xs w e' => by cases e')
        exact hsp.congr (cm.sameAt o hno) hle.R
      | row e t xs w =>
        have hno := notIn hx hnone (fun e => by cases e) (fun _ _ e => by cases e) (fun e => by cases e) (fun _ _ _ _ _ => hsp.1)
        exact hsp.congr (cm.sameAt o hno) hle.R
      | _ => cases hsx
  · intro id o1 o2 a1 a2 g1 g2 hlt'
    have w1 := hwid (id, o1)
    have w2 := hwid (id, o2)
    simp only at g1 g2
    rw [g1] at w1; rw [g2] at w2
    cases m1 : M (id, o1) with
    | none => rw [m1] at w1; cases w1
    | some b1 =>
      cases m2 : M (id, o2) with
      | none => rw [m2] at w2; cases w2
      | some b2 =>
        rw [m1] at w1
        simp only [Option.map_some, Option.some.injEq] at w1
        rw [w1]; exact h.mr.apart _ _ _ _ _ m1 m2 hlt'
  · refine ⟨s.fr.os.trans h.fr.os, s.fr.tape.trans h.fr.tape, s.fr.output.trans h.fr.output, Nat.le_trans h.fr.size s.fr.size, fun b hb' hE => ?_⟩
    show D.w.heap[b]? = _
    rw [s.fr.block b (Nat.lt_of_lt_of_le hb' h.fr.size) ?_]
    · exact h.fr.block b hb' hE
    · rintro ⟨i, hi, e⟩
      have : ∃ x, nth σ i = some x ∧ C.blk x.1 := by
        rcases hi with ⟨x, hx, hd⟩ | ⟨x, hx, hd⟩
        · exact ⟨x, hx, .inl hd⟩
        · exact ⟨x, hx, .inr hd⟩
      obtain ⟨x, hx, hbx⟩ := this
      rw [sub_ρ hx] at e
      subst e
      rcases h.mine _ hbx with h6 | h6
      · omega
      · exact hE h6
  · intro id hbk
    rcases cm.blk o hbk with ⟨k, c, k1, h1, h2⟩ | ⟨h1, h2, h3⟩
    · rw [h2]
      rcases s.mine _ h1 with h4 | ⟨i, hi, h5⟩
      · exact .inl (Nat.le_trans h.fr.size h4)
      · have : ∃ x, nth σ i = some x ∧ C.blk x.1 := by
          rcases hi with ⟨x, hx, hd⟩ | ⟨x, hx, hd⟩
          · exact ⟨x, hx, .inl hd⟩
          · exact ⟨x, hx, .inr hd⟩
        obtain ⟨x, hx, hbx⟩ := this
        rw [sub_ρ hx] at h5
        rw [← h5]
        exact h.mine _ hbx
    · rw [h3]; exact h.mine _ h1
  · intro b hb'
    rcases s.rr.2 b hb' with h4 | h4
    · exact h.rr.2 b h4
    · exact .inr (Nat.le_trans h.fr.size h4)
  · intro id b n hk hdm
    have := h.keep id b n hk hdm
    cases e : rowPos σ id with
    | none => rw [back_ρ0 e]; exact this
    | some x =>
      obtain ⟨e1, t, xs, hk'⟩ := rowPos_at (k := x.1) (w := x.2) e
      exact absurd (cm.row _ _ _ _ _ _ hk').2.1.row (o.dis id hdm)
  · intro id hl
    cases e : rowPos σ id with
    | none => rw [back_ρ0 e]; exact h.rown id ((back_liv0 e).1 hl)
    | some x =>
      rw [back_ρ e]
      have hl' := (back_liv e).1 hl
      obtain ⟨e1, t, xs, hk'⟩ := rowPos_at (k := x.1) (w := x.2) e
      rcases s.rown _ hl' with h4 | ⟨⟨⟨y, hy, hlv⟩, _⟩, h5⟩
      · exact .inl (Nat.le_trans h.fr.size h4)
      · have hn : nth σ (big + x.1) = some (id, .row e1 t xs x.2) := (nth_at _).trans hk'
        rw [sub_ρ hn] at h5
        rw [← h5]
        rw [hn] at hy
        cases hy
        exact h.rown id hlv
end
end Go.Proofs.YtcdnbdphakhilaaGreatDoor.Ev
namespace Go.Proofs.YtcdnbdphakhilaaGreatDoor.Ev
/-! The operation. -/
section
variable {P : Program} {T : TypeId → Option TyI} {S : FuncId → CSpec} {w0 : World} {E : Ent} {R0 : Nat → Prop} {M : Key → Option AV} {C : Ctx}

/-- Some rows are read alone from now on. -/
def frzC (C : Ctx) (G : List Nat) : Ctx := { C with R := addR C G, liv := fun i => C.liv i ∧ i ∉ G }
theorem frzC_le (C : Ctx) (G : List Nat) : C.Le (frzC C G) := ⟨fun _ h => ⟨h, rfl⟩, fun b hb => ⟨.inl hb, rfl⟩, fun _ _ h => ⟨h, rfl⟩⟩
/-- What is told of the frozen ones. -/
def FrzOk (M : Key → Option AV) (gs : List (Nat × AV)) : Prop := ∀ x ∈ gs, x.1 < big ∧ ∃ (e t : Nat) (xs : List (Dat t)) (w : Nat), M (x.1, 0) = some (.row e t xs w) ∧ x.2 = .row fz t xs w

theorem frz_gs (hM : MR C M) {G : List Nat} {id v e t w : Nat} {xs : List (Dat t)} {V : Value} (hm : M (id, 0) = some (.row e t xs w)) (hw : v = w) (hg : id ∈ G) (hv : VR C (.gs id v) V) : VR (frzC C G) (.vw t xs) V := by
  subst hw
  have hr := (hM.sp id 0 _ hm rfl).2
  cases hv with
  | gs hk he =>
    rw [← he]
    have := row_vw (R := addR C G) hr (fun b hb => .inl hb) (fun hl => .inr ⟨id, hg, hl, rfl⟩)
    exact VR.mono (C := baseC C.w (addR C G)) (C' := frzC C G) ⟨fun _ h => h.elim, fun b hb => ⟨hb, rfl⟩, fun _ _ h => h.elim⟩ this

theorem frzL_CR (hM : MR C M) {G : List Nat} : ∀ {l bs : List AV} {gs : List (Nat × AV)} {us : List Value}, frzL M l = some (bs, gs) → CR C l us → (∀ x ∈ gs, x.1 ∈ G) → CR (frzC C G) bs us
  | [], bs, gs, us, h, hc, hg => by
    simp only [frzL, Option.some.injEq, Prod.mk.injEq] at h
    obtain ⟨rfl, rfl⟩ := h
    cases hc; exact .nil
  | a :: l, bs, gs, us, h, hc, hg => by
    simp only [frzL] at h
    split at h
    · rename_i bs' gs' h1
      split at h
      · rename_i id v
        split at h
        · rename_i e t xs w hm
          split at h
          · rename_i hb
            simp only [Option.some.injEq, Prod.mk.injEq] at h
            obtain ⟨rfl, rfl⟩ := h
            simp only [Bool.and_eq_true] at hb
            cases hc with
            | one ha hv hx hl =>
              exact .one rfl hv (frz_gs hM hm (by simpa using hb.1) (hg _ (List.mem_cons_self ..)) hx) (frzL_CR hM h1 hl (fun x hx => hg x (List.mem_cons_of_mem _ hx)))
          · cases h
        · cases h
      · simp only [Option.some.injEq, Prod.mk.injEq] at h
        obtain ⟨rfl, rfl⟩ := h
        cases hc with
        | one ha hv hx hl => exact .one ha hv (hx.mono (frzC_le C G)) (frzL_CR hM h1 hl hg)
        | ar h0 hx h1' hf hl => exact .ar h0 (fun j hj => (hx j hj).mono (frzC_le C G).bare) h1' hf (frzL_CR hM h1 hl hg)
    · cases h
theorem frzL_ok {l bs : List AV} {gs : List (Nat × AV)} (h : frzL M l = some (bs, gs)) : FrzOk M gs := by
  induction l generalizing bs gs with
  | nil =>
    simp only [frzL, Option.some.injEq, Prod.mk.injEq] at h
    obtain ⟨rfl, rfl⟩ := h
    intro x hx; cases hx
  | cons a l ih =>
    simp only [frzL] at h
    split at h
    · rename_i bs' gs' h1
      split at h
      · rename_i id v
        split at h
        · rename_i e t xs w hm
          split at h
          · rename_i hb
            simp only [Option.some.injEq, Prod.mk.injEq] at h
            obtain ⟨rfl, rfl⟩ := h
            simp only [Bool.and_eq_true] at hb
            intro x hx
            rcases List.mem_cons.1 hx with rfl | hx
            · exact ⟨Nat.le_of_ble_eq_true hb.2, e, t, xs, w, hm, rfl⟩
            · exact ih h1 x hx
          · cases h
        · cases h
      · simp only [Option.some.injEq, Prod.mk.injEq] at h
        obtain ⟨rfl, rfl⟩ := h
        exact ih h1
    · cases h
theorem frzL_one (hM : MR C M) {G : List Nat} {a d : AV} {hs : List (Nat × AV)} {V : Value} (h : frzL M [a] = some ([d], hs)) (hv : VR C a V) (hg : ∀ x ∈ hs, x.1 ∈ G) : VR (frzC C G) d V := by
  simp only [frzL] at h
  split at h
  · rename_i id v
    split at h
    · rename_i e t xs w hm
      split at h
      · rename_i hb
        simp only [Option.some.injEq, Prod.mk.injEq, List.cons.injEq, and_true] at h
        obtain ⟨rfl, rfl⟩ := h
        simp only [Bool.and_eq_true] at hb
        exact frz_gs hM hm (by simpa using hb.1) (hg _ (List.mem_cons_self ..)) hv
      · cases h
    · cases h
  · simp only [Option.some.injEq, Prod.mk.injEq, List.cons.injEq, and_true] at h
    obtain ⟨rfl, rfl⟩ := h
    exact hv.mono (frzC_le C G)
theorem frzA_TR (hM : MR C M) {G : List Nat} : ∀ {l bs : List AV} {gs : List (Nat × AV)} {us : List Value}, frzA M l = some (bs, gs) → TR C l us → (∀ x ∈ gs, x.1 ∈ G) → TR (frzC C G) bs us ∧ FrzOk M gs
  | [], bs, gs, us, h, hc, hg => by
    simp only [frzA, Option.some.injEq, Prod.mk.injEq] at h
    obtain ⟨rfl, rfl⟩ := h
    cases hc; exact ⟨.nil, fun x hx => by cases hx⟩
  | a :: l, bs, gs, us, h, hc, hg => by
    simp only [frzA] at h
    split at h
    · rename_i bs' gs' h1
      cases hc with
      | cons hx hl =>
      split at h
      · rename_i cs
        split at h
        · rename_i ds hs h2
          simp only [Option.some.injEq, Prod.mk.injEq] at h
          obtain ⟨rfl, rfl⟩ := h
          obtain ⟨k1, k2⟩ := frzA_TR hM h1 hl (fun x hx => hg x (List.mem_append_right _ hx))
          refine ⟨.cons ?_ k1, fun x hx => (List.mem_append.1 hx).elim (frzL_ok h2 x) (k2 x)⟩
          cases hx with
          | agg hx => exact .agg (frzL_CR hM h2 hx (fun x hx => hg x (List.mem_append_left _ hx)))
        · cases h
      · split at h
        · rename_i d hs h2
          simp only [Option.some.injEq, Prod.mk.injEq] at h
          obtain ⟨rfl, rfl⟩ := h
          obtain ⟨k1, k2⟩ := frzA_TR hM h1 hl (fun x hx => hg x (List.mem_append_right _ hx))
          exact ⟨.cons (frzL_one hM h2 hx (fun x hx => hg x (List.mem_append_left _ hx))) k1, fun x hx => (List.mem_append.1 hx).elim (frzL_ok h2 x) (k2 x)⟩
        · cases h
    · cases h

theorem readC_same {M M' : Key → Option AV} {id : Nat} : ∀ {fuel off n : Nat}, (∀ j, j < n → M (id, off + j) = M' (id, off + j)) → readC M id fuel off n = readC M' id fuel off n
  | 0, off, n, h => by simp [readC]
  | fuel + 1, off, 0, h => by simp [readC]
  | fuel + 1, off, n + 1, h => by
    simp only [readC]
    have h0 := h 0 (by omega)
    rw [Nat.add_zero] at h0
    rw [← h0]
    cases M (id, off) with
    | none => rfl
    | some x =>
      cases hb : Nat.ble x.width (n + 1) with
      | false => simp [hb]
      | true =>
        have hle := Nat.le_of_ble_eq_true hb
        simp only [hb]
        rw [readC_same (M := M) (M' := M') (fun j hj => by have := h (x.width + j) (by omega); rwa [show off + (x.width + j) = off + x.width + j by omega] at this)]

/-- What is reached. -/
theorem reach_spec {ids : List (Nat × Nat)} : ∀ {n : Nat} {todo : List Nat} {acc σ : List (Nat × AV)}, reach ids M n todo acc = some σ → (∀ x ∈ acc, contOf ids M x.1 = some x.2) → (acc.map (·.1)).Nodup → (∀ x ∈ σ, contOf ids M x.1 = some x.2) ∧ (σ.map (·.1)).Nodup
  | 0, todo, acc, σ, h, _, _ => by simp [reach] at h
  | n + 1, [], acc, σ, h, h1, h2 => by
    simp only [reach, Option.some.injEq] at h; subst h
    exact ⟨h1, h2⟩
  | n + 1, id :: rest, acc, σ, h, h1, h2 => by
    simp only [reach] at h
    split at h
    · exact reach_spec h h1 h2
    · rename_i hno
      split at h
      · rename_i c hc
        refine reach_spec h ?_ ?_
        · intro x hx
          rcases List.mem_append.1 hx with hx | hx
          · exact h1 x hx
          · simp only [List.mem_singleton] at hx; subst hx; exact hc
        · rw [List.map_append, List.nodup_append]
          refine ⟨h2, by simp, ?_⟩
          intro a ha b hb e
          simp only [List.map_cons, List.map_nil, List.mem_singleton] at hb
          subst hb; subst e
          obtain ⟨x, hx, rfl⟩ := List.mem_map.1 ha
          have : acc.any (fun y => y.1 == x.1) = true := List.any_eq_true.2 ⟨x, hx, by simp⟩
          rw [this] at hno; cases hno
      · cases h

theorem contOf_is [Glob] (h : SR w0 E R0 M C) {ids : List (Nat × Nat)} (hz : Sized ids C) {id : Nat} {c : AV} (hc : contOf ids M id = some c) :
    (∃ l, c = .obj l ∧ C.dom id ∧ 0 < widthC l ∧ C.sz id = widthC l ∧ readC M id (widthC l) 0 (widthC l) = some l) ∨
    (∃ (e t : Nat) (xs : List (Dat t)) (w : Nat), c = .row e t xs w ∧ RowR C id e t xs w ∧ M (id, 0) = some (.row e t xs w) ∧ e ≠ fz) := by
  have obj : (match sizeIn ids id with
      | some n => match ids.all (fun x => !(x.1 == id) || x.2 == n) && Nat.blt 0 n, readC M id n 0 n with
        | true, some l => match widthC l == n with
          | true => some (AV.obj l)
          | false => none
        | _, _ => none
      | none => none) = some c → ∃ l, c = .obj l ∧ C.dom id ∧ 0 < widthC l ∧ C.sz id = widthC l ∧ readC M id (widthC l) 0 (widthC l) = some l := by
    intro hc
    split at hc
    · rename_i n hn
      split at hc
      · rename_i l hall hr
        split at hc
        case h_2 => cases hc
        simp only [Option.some.injEq] at hc; subst hc
        simp only [Bool.and_eq_true] at hall
        have hpos : 0 < n := Nat.le_of_ble_eq_true hall.2
        obtain ⟨us, u1, u2, u3⟩ := readC_run h.mr (Nat.le_refl _) hr
        have hw : widthC l = n := by rw [← CR_length u1]; exact u2
        have hd : C.dom id := by
          obtain ⟨m, hm⟩ : ∃ m, n = m + 1 := ⟨n - 1, by omega⟩
          rw [hm] at hr
          simp only [readC] at hr
          split at hr
          · rename_i x hx
            split at hr
            · rename_i hb
              simp only [Bool.and_eq_true, Bool.not_eq_true'] at hb
              exact (h.mr.at_ _ _ x hx hb.2).1
            · cases hr
          · cases hr
        refine ⟨l, rfl, hd, by omega, ?_, by rw [hw]; exact hr⟩
        rw [hz id n hn hall.1 hd, hw]
      · cases hc
    · cases hc
  unfold contOf at hc
  split at hc
  · rename_i e t xs ver hm
    split at hc
    · cases hc
    · rename_i hne
      simp only [Option.some.injEq] at hc; subst hc
      exact .inr ⟨e, t, xs, ver, rfl, (h.mr.sp id 0 _ hm rfl).2, hm, by simpa using hne⟩
  · exact .inl (obj hc)

theorem updK_app (M : Key → Option AV) (a b : List (Key × AV)) : updK M (a ++ b) = updK (updK M b) a := by
  funext k
  unfold updK
  induction a with
  | nil => simp [look]
  | cons x a ih =>
    simp only [List.cons_append, look]
    cases e : x.1 == k with
    | true => rfl
    | false => exact ih

/-- Rows may be read alone from now on, at any time. -/
theorem frz_after [Glob] {gs : List (Nat × AV)} (h : SR w0 E R0 M C) (t2 : FrzOk M gs) : After w0 E R0 M C ⟨[], .poison, [], gs.map fun x => ((x.1, 0), x.2), []⟩ (.bool false) (frzC C (gs.map (·.1))) := by
  refine after_frz' (R' := addR C (gs.map (·.1))) h (fun x hx => (t2 x hx).2) (fun i hi => ?_) ⟨fun b hb => hb, fun b hb => .inl hb, ?_, .refl _ _, .poison _⟩
  · obtain ⟨x, hx, rfl⟩ := List.mem_map.1 hi
    exact (t2 x hx).1
  · rintro b (hb | ⟨i, _, hl, rfl⟩)
    · exact h.own.R_lt b hb
    · exact h.own.lt i (.inr hl)
theorem frzA_ok : ∀ {vs bs : List AV} {gs : List (Nat × AV)}, frzA M vs = some (bs, gs) → FrzOk M gs
  | [], bs, gs, h => by
    simp only [frzA, Option.some.injEq, Prod.mk.injEq] at h
    obtain ⟨rfl, rfl⟩ := h
    intro x hx; cases hx
  | a :: l, bs, gs, h => by
    simp only [frzA] at h
    split at h
    · rename_i bs' gs' h1
      have ih := frzA_ok h1
      split at h
      · split at h
        · rename_i ds hs h2
          simp only [Option.some.injEq, Prod.mk.injEq] at h
          obtain ⟨rfl, rfl⟩ := h
          exact fun x hx => (List.mem_append.1 hx).elim (frzL_ok h2 x) (ih x)
        · cases h
      · split at h
        · rename_i d hs h2
          simp only [Option.some.injEq, Prod.mk.injEq] at h
          obtain ⟨rfl, rfl⟩ := h
          exact fun x hx => (List.mem_append.1 hx).elim (frzL_ok h2 x) (ih x)
        · cases h
    · cases h
/-- Writes that tell of rows that are read alone from then on. -/
def FrzW (M : Key → Option AV) (wr : List (Key × AV)) : Prop := ∃ gs : List (Nat × AV), wr = gs.map (fun x => ((x.1, 0), x.2)) ∧ FrzOk M gs
theorem quiet_frz {ids : List (Nat × Nat)} {Ev : Operand → Option AV} {Ep : Bool → Operand → Operand → Option AV} {o : Oper} {r : OpR} (h : evOp T S ids Ev Ep M o = some r) (hq : quietM S M Ev o = true) : FrzW M r.wr := by
  unfold quietM at hq
  split at hq
  case h_2 => cases hq
  rename_i c hop
  split at hq
  case h_2 => cases hq
  rename_i vs f hvs hf
  simp only [Bool.and_eq_true] at hq
  obtain ⟨hm, hq⟩ := hq
  split at hq
  case h_2 => cases hq
  rename_i bs gs0 hfrz
  unfold evOp at h
  simp only [hop, hvs, hf, hm] at h
  unfold evCallM at h
  rw [hfrz] at h
  split at h
  case h_2 => cases h
  rename_i bs2 gs hlt heq
  cases heq
  have hemp : bs.flatMap leadP = [] := List.isEmpty_iff.1 hq
  rw [hemp] at h
  have hr : reach ids M 64 [] [] = some [] := rfl
  rw [hr] at h
  simp only at h
  split at h
  case h_2 => cases h
  split at h
  case h_2 => cases h
  rename_i res hres
  split at h
  case h_2 => cases h
  rename_i wr hwr hbare
  simp only [Option.some.injEq] at h; subst h
  have hw : wr = [] := by
    cases ho : res.outs with
    | nil => rw [ho] at hwr; simpa [backW] using hwr.symm
    | cons x l => rw [ho] at hwr; simp [backW] at hwr
  subst hw
  exact ⟨gs0, rfl, frzA_ok hfrz⟩
theorem evCallM_wp [Glob] (hS : ∀ f, FnOk P f (S f)) {ids : List (Nat × Nat)} {o : Oper} (hz : Sized ids C) {a : Act} {c : Call} {f : FuncId} {vs : List AV} {Vs : List Value} {r : OpR} {Q : Exit → Act → World → Prop} {K : Act → World → Prop} (h : SR w0 E R0 M C) (hop : o.op = .call c) (hc : c.callee = .value (.func f)) (hr : evCallM S ids M f vs = some r) (hp : ∀ c ∈ r.pre, c = true)
    (hargs : (c.args.map a.eval).toList = Vs) (hv : TR C vs Vs) (hK : ∀ v C', After w0 E R0 M C r v C' → K (a.put o.dst v) C'.w) : o.wp P a C.w K Q := by
  unfold evCallM at hr
  split at hr
  case h_2 => cases hr
  rename_i bs gs hlt hfrz
  split at hr
  case h_2 => cases hr
  rename_i σ hσ
  split at hr
  case h_2 => cases hr
  rename_i as_ fr hdis has hfr
  split at hr
  case h_2 => cases hr
  rename_i res hres
  split at hr
  case h_2 => cases hr
  rename_i wr hwr hbare
  simp only [Option.some.injEq] at hr; subst hr
  obtain ⟨t1, t2⟩ := frzA_TR h.mr (G := gs.map (·.1)) hfrz hv (fun x hx => List.mem_map.2 ⟨x, hx, rfl⟩)
  -- the frozen rows
  have fz1 := frz_after h (fun x hx => (t2 x hx))
  obtain ⟨s1, s2⟩ := reach_spec hσ (fun x hx => by cases hx) (by simp)
  have hno : ∀ x ∈ σ, x.1 ∉ gs.map (·.1) := by
    intro x hx hg
    obtain ⟨y, hy, e⟩ := List.mem_map.1 hg
    have := List.all_eq_true.1 hdis y hy
    have h2 : σ.any (fun z => z.1 == y.1) = true := List.any_eq_true.2 ⟨x, hx, by simp [e]⟩
    rw [h2] at this; cases this
  have hM1 : ∀ id j, id ∉ gs.map (·.1) → updK M (gs.map fun x => (((x.1, 0) : Key), x.2)) (id, j) = M (id, j) := by
    intro id j hn
    unfold updK
    cases e : look (gs.map fun x => (((x.1, 0) : Key), x.2)) (id, j) with
    | none => rfl
    | some b =>
      obtain ⟨x, hx, e1, _⟩ := look_frz e
      simp only [Prod.mk.injEq] at e1
      exact absurd (List.mem_map.2 ⟨x, hx, e1.1.symm⟩) hn
  have held : Held (updK M (gs.map fun x => (((x.1, 0) : Key), x.2))) (frzC C (gs.map (·.1))) σ := by
    refine ⟨?_, ?_, ?_, s2⟩
    · intro id l hx
      rcases contOf_is h hz (s1 _ hx) with ⟨l', e, k1, k2, k3, k4⟩ | ⟨e, t, xs, w, e', _⟩
      · cases e
        refine ⟨k1, k2, k3, ?_⟩
        rw [readC_same (M' := M) (fun j hj => hM1 id _ (hno _ hx))]
        exact k4
      · cases e'
    · intro id e t xs w hx
      rcases contOf_is h hz (s1 _ hx) with ⟨l', e, k1, k2, k3, k4⟩ | ⟨e', t', xs', w', e'', k1, k2, k3⟩
      · cases e
      · cases e''
        refine ⟨?_, by rw [hM1 id 0 (hno _ hx)]; exact k2, k3⟩
        have hm1 : updK M (gs.map fun x => (((x.1, 0) : Key), x.2)) (id, 0) = some (.row e t xs w) := by rw [hM1 id 0 (hno _ hx)]; exact k2
        exact (fz1.sr.mr.sp id 0 _ hm1 rfl).2
    · intro x hx
      rcases contOf_is h hz (s1 _ hx) with ⟨l', e, _⟩ | ⟨e', t', xs', w', e'', _⟩
      · rw [e]; rfl
      · rw [e'']; rfl
  obtain ⟨a1, a2⟩ := renAs_TR held t1 has
  have ent := entM_of fz1.sr held hfr
  have hF := (((hS (3000000 + f)).2 (Nat.le_trans (by decide) (Nat.le_add_right 3000000 f))).2 (Nat.le_trans (by decide) (Nat.le_add_right 3000000 f))).2 (Nat.le_add_right _ _)
  rw [show 3000000 + f - offM = f from Nat.add_sub_cancel_left ..] at hF
  have hinv := hF as_ fr res hres a2 (renCs_frag hfr) hp _ _ Vs ent a1
  refine invokes_wp hop hc hargs hinv ?_
  rintro v w' ⟨D, rfl, hd⟩
  have haft := after_m fz1.sr held hfr hd hwr hbare res.pre []
  refine hK v ((frzC C (gs.map (·.1))).back σ D) ⟨fz1.le.trans haft.le, haft.res, ?_, ?_⟩
  · have := haft.sr
    rw [show updK M (wr ++ gs.map fun x => ((x.1, 0), x.2)) = updK (updK M (gs.map fun x => ((x.1, 0), x.2))) wr from updK_app ..]
    exact this
  · intro i hi
    rcases haft.dom i hi with ⟨h1, h2⟩ | h1
    · rcases fz1.dom i h1 with ⟨h3, h4⟩ | h3
      · exact .inl ⟨h3, h2.trans h4⟩
      · cases h3
    · cases h1
end
end Go.Proofs.YtcdnbdphakhilaaGreatDoor.Ev
namespace Go.Proofs.YtcdnbdphakhilaaGreatDoor.Ev
/-! Rows that are born with an object. -/
section
variable {P : Program} {T : TypeId → Option TyI} {S : FuncId → CSpec} {w0 : World} {E : Ent} {R0 : Nat → Prop} {M : Key → Option AV} {C : Ctx}

/-- A nil slice, told as a row without a block. -/
theorem SR_retell [Glob] (h : SR w0 E R0 M C) {id off rid ver : Nat} (hm : M (id, off) = some .nils) (hv : VR C (.gs rid ver) (.slice none 0 0)) : SR w0 E R0 (updK M [((id, off), .gs rid ver)]) C := by
  have up : ∀ {k : Key} {a : AV}, updK M [((id, off), .gs rid ver)] k = some a → (k = (id, off) ∧ a = .gs rid ver) ∨ M k = some a := by
    intro k a hk
    unfold updK look at hk
    cases e : (((id, off) : Key) == k) with
    | true =>
      simp only [e, Option.some.injEq] at hk
      exact .inl ⟨(beq_iff_eq.1 e).symm, hk.symm⟩
    | false =>
      simp only [e, look] at hk
      exact .inr hk
  refine ⟨⟨?_, ?_, ?_⟩, h.own, h.fr, h.mine, h.rr, h.keep, h.gl, h.rown⟩
  · intro id' off' a ha hs
    rcases up ha with ⟨e, rfl⟩ | ha
    · cases e
      obtain ⟨hd, vs, hc, hat⟩ := h.mr.at_ id off .nils hm rfl
      cases hc with
      | one _ _ hx hl =>
        cases hl
        cases hx
        exact ⟨hd, _, .one rfl rfl hv .nil, hat⟩
    · exact h.mr.at_ id' off' a ha hs
  · intro id' off' a ha hs
    rcases up ha with ⟨e, rfl⟩ | ha
    · cases hs
    · exact h.mr.sp id' off' a ha hs
  · intro i o1 o2 a1 a2 h1 h2 hlt
    have key : ∀ {o : Nat} {a : AV}, updK M [((id, off), .gs rid ver)] (i, o) = some a → ∃ b, M (i, o) = some b ∧ b.width = a.width := by
      intro o a ha
      rcases up ha with ⟨e, rfl⟩ | ha
      · cases e; exact ⟨.nils, hm, rfl⟩
      · exact ⟨a, ha, rfl⟩
    obtain ⟨b1, k1, w1⟩ := key h1
    obtain ⟨b2, k2, _⟩ := key h2
    rw [← w1]; exact h.mr.apart _ _ _ _ _ k1 k2 hlt

theorem bornAll_al {ids : List (Nat × Nat)} {id : Nat} {g : Nat → Nat} : ∀ {bs : List (Nat × Nat × Nat)} {base : List (Key × AV)} {x : Nat × Nat}, x ∈ (bornAll ids id g bs base).2 → (∃ off, x.1 = g off) ∧ sizeIn ids x.1 = none ∧ x.2 = 0
  | [], base, x, h => by cases h
  | (off, e, k) :: r, base, x, h => by
    simp only [bornAll] at h
    split at h
    · rename_i h1 h2 h3
      rcases List.mem_cons.1 h with rfl | h
      · exact ⟨⟨off, rfl⟩, h2, rfl⟩
      · exact bornAll_al h
    · exact bornAll_al h

theorem subN_pos : 0 < subN := of_decide_eq_true (by decide +kernel)
theorem ridOf_ne {s id off : Nat} (h : 0 < s) : ridOf s id off ≠ id := by
  unfold ridOf
  have : 0 < s * (off + 1) := Nat.mul_pos h (Nat.succ_pos _)
  omega
theorem ridOf_mod {s id off : Nat} : ridOf s id off % s = id % s := by
  unfold ridOf
  exact Nat.add_mul_mod_self_left ..
/-- All of them. -/
theorem SR_born [Glob] {ids : List (Nat × Nat)} {id : Nat} {g : Nat → Nat} (hg : ∀ off, g off ≠ id) {base : List (Key × AV)} (h : SR w0 E R0 (updK M base) C) (hids : ∀ off, sizeIn ids (g off) = none → ¬ C.has (g off)) : ∀ (bs : List (Nat × Nat × Nat)),
    ∃ C' : Ctx, C'.w = C.w ∧ C.Le C' ∧ (∀ i, C'.has i ↔ C.has i ∨ i ∈ (bornAll ids id g bs base).2.map (·.1)) ∧ (∀ i, C.has i → C'.sz i = C.sz i) ∧ (∀ i, i ∈ (bornAll ids id g bs base).2.map (·.1) → C'.sz i = 0) ∧ SR w0 E R0 (updK M (bornAll ids id g bs base).1) C'
  | [] => ⟨C, rfl, .refl C, fun i => by simp [bornAll], fun _ _ => rfl, fun i hi => by simp [bornAll] at hi, h⟩
  | (off, e, k) :: r => by
    obtain ⟨C1, e1, e2, e3, e4, e5, e6⟩ := SR_born hg h hids r
    simp only [bornAll]
    split
    · rename_i hl hs ha
      have hne : g off ≠ id := hg off
      have hfresh : ¬ C1.has (g off) := by
        intro hh
        rcases (e3 _).1 hh with hh | hh
        · exact hids off hs hh
        · obtain ⟨x, hx, ex⟩ := List.mem_map.1 hh
          have : (bornAll ids id g r base).2.any (fun x => x.1 == g off) = true := List.any_eq_true.2 ⟨x, hx, by simpa using ex⟩
          rw [this] at ha; cases ha
      obtain ⟨C2, f1, f2, f3, f4, f5, f6⟩ := SR_birth e6 hfresh e k
      have hm : updK (updK M (bornAll ids id g r base).1) [((g off, 0), .row e k [] 0)] (id, off) = some .nils := by
        unfold updK
        have : look [(((g off, 0) : Key), AV.row e k [] 0)] (id, off) = none := by
          have hb : (((g off, 0) : Key) == (id, off)) = false := by
            rw [beq_eq_false_iff_ne]
            intro h
            exact hne (congrArg Prod.fst h)
          simp only [look, hb]
        rw [this, hl]
      have gg := SR_retell f6 hm f5
      refine ⟨C2, f1.trans e1, e2.trans f2, ?_, ?_, ?_, ?_⟩
      · intro i
        rw [f3 i, e3 i]
        simp only [List.map_cons, List.mem_cons]
        constructor
        · rintro ((h | h) | h)
          · exact .inl h
          · exact .inr (.inr h)
          · exact .inr (.inl h)
        · rintro (h | h | h)
          · exact .inl (.inl h)
          · exact .inr h
          · exact .inl (.inr h)
      · intro i hi
        have : i ≠ g off := fun e => hfresh (e ▸ (e3 i).2 (.inl hi))
        rw [f4.2 i this, e4 i hi]
      · intro i hi
        simp only [List.map_cons, List.mem_cons] at hi
        by_cases hx : i = g off
        · subst hx; exact f4.1
        · rw [f4.2 i hx]; exact e5 i (hi.resolve_left hx)
      · rw [← updK_app, ← updK_app] at gg
        exact gg
    · exact ⟨C1, e1, e2, e3, e4, e5, e6⟩

/-- Rows that begin again. -/
theorem SR_againAll [Glob] {id : Nat} {g : Nat → Nat} (hg : ∀ off, g off ≠ id) {base : List (Key × AV)} (h : SR w0 E R0 (updK M base) C) : ∀ (bs : List (Nat × Nat × Nat)),
    ∃ C' : Ctx, C'.w = C.w ∧ C.Le C' ∧ (∀ i, C'.has i ↔ C.has i) ∧ C'.sz = C.sz ∧ SR w0 E R0 (updK M (againAll M id g bs base).1) C'
  | [] => ⟨C, rfl, .refl C, fun i => .rfl, rfl, h⟩
  | (off, e, k) :: r => by
    obtain ⟨C1, e1, e2, e3, e4, e5⟩ := SR_againAll hg h r
    simp only [againAll]
    split
    · rename_i hl
      split
      · rename_i e' t' xs w hn hm
        have hm1 : updK M (againAll M id g r base).1 (g off, 0) = some (.row e' t' xs w) := by
          unfold updK; rw [hn]; exact hm
        obtain ⟨C2, f1, f2, f3, f4, f5, f6⟩ := SR_again e5 hm1 e k
        have hm2 : updK (updK M (againAll M id g r base).1) [((g off, 0), .row e k [] (w + 1))] (id, off) = some .nils := by
          unfold updK
          have : look [(((g off, 0) : Key), AV.row e k [] (w + 1))] (id, off) = none := by
            have hb : (((g off, 0) : Key) == (id, off)) = false := by
              rw [beq_eq_false_iff_ne]
              intro h
              exact hg off (congrArg Prod.fst h)
            simp only [look, hb]
          rw [this, hl]
        have gg := SR_retell f6 hm2 f5
        refine ⟨C2, f1.trans e1, e2.trans f2, fun i => (f3 i).trans (e3 i), f4.trans e4, ?_⟩
        rw [← updK_app, ← updK_app] at gg
        exact gg
      · exact ⟨C1, e1, e2, e3, e4, e5⟩
    · exact ⟨C1, e1, e2, e3, e4, e5⟩
theorem again_after [Glob] {t : TypeId} {p : AV} {r : OpR} {v : Value} {C' : Ctx} (h : After w0 E R0 M C r v C') : ∃ C2 : Ctx, C2.w = C'.w ∧ After w0 E R0 M C (again T M t p r) v C2 := by
  unfold again
  split
  · rename_i id off
    obtain ⟨C2, e1, e2, e3, e4, e5⟩ := SR_againAll (id := id) (g := ridOf subN id) (fun off => ridOf_ne subN_pos) h.sr (sliceOff T 4 t off)
    exact ⟨C2, e1, h.le.trans e2, VR.mono e2 h.res, e5, fun i hi => by rw [e4]; exact h.dom i ((e3 i).1 hi)⟩
  · exact ⟨C', rfl, h⟩
theorem againAll_sub {m : Key → Option AV} {id : Nat} {g : Nat → Nat} {base : List (Key × AV)} {k : Key} (hk : k ∈ base.map (·.1)) : ∀ (bs : List (Nat × Nat × Nat)), k ∈ (againAll m id g bs base).1.map (·.1)
  | [] => hk
  | (off, e, kk) :: r => by
    have := againAll_sub (m := m) (id := id) (g := g) hk r
    simp only [againAll]
    split
    · split
      · simp only [List.map_cons, List.mem_cons]; exact .inr (.inr this)
      · exact this
    · exact this
theorem againAll_congr {M' : Key → Option AV} {id : Nat} {g : Nat → Nat} {base : List (Key × AV)} : ∀ {bs : List (Nat × Nat × Nat)}, (∀ k, k ∈ (againAll M id g bs base).2 → M k = M' k) → againAll M' id g bs base = againAll M id g bs base
  | [], _ => rfl
  | (off, e, kk) :: r, h => by
    have hs : ∀ k, k ∈ (againAll M id g r base).2 → M k = M' k := by
      intro k hk
      refine h k ?_
      simp only [againAll]
      split
      · split
        · exact List.mem_cons_of_mem _ hk
        · exact List.mem_cons_of_mem _ hk
      · exact hk
    have ih := againAll_congr hs
    simp only [againAll] at h ⊢
    rw [ih]
    cases hl : look (againAll M id g r base).1 (id, off) with
    | none => rfl
    | some x =>
      cases x with
      | nils =>
        have : M (g off, 0) = M' (g off, 0) := by
          refine h _ ?_
          rw [hl]
          simp only
          split
          · exact List.mem_cons_self ..
          · exact List.mem_cons_self ..
        rw [this]
      | _ => rfl
theorem again_al {m : Key → Option AV} {t : TypeId} {p : AV} {r : OpR} : (again T m t p r).al = r.al := by
  unfold again; split <;> rfl
theorem again_rd {m : Key → Option AV} {t : TypeId} {p : AV} {r : OpR} {k : Key} (hk : k ∈ r.rd ∨ k ∈ r.wr.map (·.1)) : k ∈ (again T m t p r).rd ∨ k ∈ (again T m t p r).wr.map (·.1) := by
  unfold again
  split
  · rcases hk with hk | hk
    · exact .inl (List.mem_append.2 (.inr hk))
    · exact .inr (againAll_sub hk _)
  · exact hk
theorem again_congr {M' : Key → Option AV} {t : TypeId} {p : AV} {r : OpR} (h : ∀ k, k ∈ (again T M t p r).rd ∨ k ∈ (again T M t p r).wr.map (·.1) → M k = M' k) : again T M' t p r = again T M t p r := by
  unfold again at h ⊢
  split
  · rw [againAll_congr (M := M) (M' := M') fun k hk => h k (.inl (List.mem_append.2 (.inl hk)))]
  · rfl
end
end Go.Proofs.YtcdnbdphakhilaaGreatDoor.Ev
namespace Go.Proofs.YtcdnbdphakhilaaGreatDoor.Ev
/-! Closures. -/
section
variable {P : Program} {T : TypeId → Option TyI} {S : FuncId → CSpec} {w0 : World} {E : Ent} {R0 : Nat → Prop} {M : Key → Option AV} {C : Ctx}

/-- What is read alone, and one's own objects. -/
def objR (C : Ctx) : Nat → Prop := fun b => C.R b ∨ ∃ id, C.dom id ∧ b = C.ρ id

theorem capRo_TR [Glob] (h : SR w0 E R0 M C) {ids : List (Nat × Nat)} (hz : Sized ids C) : ∀ {l bs : List AV} {ks : List Key} {us : List Value}, capRo ids M l = some (bs, ks) → TR C l us → TR (baseC C.w (objR C)) bs us
  | [], bs, ks, us, hc, hl => by
    simp only [capRo, Option.some.injEq, Prod.mk.injEq] at hc
    obtain ⟨rfl, rfl⟩ := hc
    cases hl; exact .nil
  | a :: l, bs, ks, us, hc, hl => by
    simp only [capRo] at hc
    split at hc
    · rename_i bs' ks' h1
      cases hl with
      | cons hx hl =>
      split at hc
      · rename_i id off
        split at hc
        · rename_i c hco
          split at hc
          · rename_i hbare
            simp only [Option.some.injEq, Prod.mk.injEq] at hc
            obtain ⟨rfl, rfl⟩ := hc
            rcases contOf_is h hz hco with ⟨l', e, k1, k2, k3, k4⟩ | ⟨e, t, xs, w, e', _⟩
            · cases e
              obtain ⟨cs, c1, c2, c3⟩ := readC_run h.mr (Nat.le_refl _) k4
              refine .cons ?_ (capRo_TR h hz h1 hl)
              cases hx with
              | ptr _ hd =>
                have hb1 : c.all bare1 = true := List.all_eq_true.2 fun x hx => by
                  have := List.all_eq_true.1 hbare x hx
                  cases x <;> first | exact this | cases this
                have := VR.rp (C := baseC C.w (objR C)) (off := off) (o := 0) (b := C.ρ id) (show objR C (C.ρ id) from .inr ⟨id, hd, rfl⟩) (bare_CR c1 hb1 (R := objR C) (w' := C.w) (fun b hb => ⟨.inl hb, rfl⟩)) (fun j hj => by
                  rw [List.getElem?_eq_getElem hj]; exact c3 j _ (List.getElem?_eq_getElem hj))
                rwa [Nat.zero_add] at this
            · cases e'
          · cases hc
        · cases hc
      · split at hc
        · rename_i hbare
          simp only [Option.some.injEq, Prod.mk.injEq] at hc
          obtain ⟨rfl, rfl⟩ := hc
          exact .cons (bareS_VR hx hbare (fun b hb => ⟨.inl hb, rfl⟩)) (capRo_TR h hz h1 hl)
        · cases hc
    · cases hc
theorem cloArgs_TR [Glob] (h : SR w0 E R0 M C) {ids : List (Nat × Nat)} (hz : Sized ids C) : ∀ {l bs : List AV} {ks : List Key} {us : List Value}, cloArgs ids M l = some (bs, ks) → TR C l us → TR (baseC C.w (objR C)) bs us
  | [], bs, ks, us, hc, hl => by
    simp only [cloArgs, Option.some.injEq, Prod.mk.injEq] at hc
    obtain ⟨rfl, rfl⟩ := hc
    cases hl; exact .nil
  | a :: l, bs, ks, us, hc, hl => by
    simp only [cloArgs] at hc
    split at hc
    · rename_i bs' ks' h1
      cases hl with
      | cons hx hl =>
      split at hc
      · rename_i f caps
        split at hc
        · rename_i cs hs h2
          simp only [Option.some.injEq, Prod.mk.injEq] at hc
          obtain ⟨rfl, rfl⟩ := hc
          cases hx with
          | clo hx => exact .cons (.clo (capRo_TR h hz h2 hx)) (cloArgs_TR h hz h1 hl)
        · cases hc
      · split at hc
        · rename_i hbare
          simp only [Option.some.injEq, Prod.mk.injEq] at hc
          obtain ⟨rfl, rfl⟩ := hc
          exact .cons (bareV_VR hx hbare (fun b hb => ⟨.inl hb, rfl⟩)) (cloArgs_TR h hz h1 hl)
        · cases hc
    · cases hc

theorem evCallK_wp [Glob] (hS : ∀ f, FnOk P f (S f)) {ids : List (Nat × Nat)} {o : Oper} (hz : Sized ids C) {a : Act} {c : Call} {f : FuncId} {vs : List AV} {Vs : List Value} {r : OpR} {Q : Exit → Act → World → Prop} {K : Act → World → Prop} (h : SR w0 E R0 M C) (hop : o.op = .call c) (hc : c.callee = .value (.func f)) (hr : evCallK S ids M f vs = some r) (hp : ∀ c ∈ r.pre, c = true)
    (hargs : (c.args.map a.eval).toList = Vs) (hv : TR C vs Vs) (hK : ∀ v C', After w0 E R0 M C r v C' → K (a.put o.dst v) C'.w) : o.wp P a C.w K Q := by
  unfold evCallK at hr
  split at hr
  case h_2 => cases hr
  rename_i as_ ks hlt hcl
  have hlt : f < offO := Nat.le_of_ble_eq_true hlt
  split at hr
  case h_2 => cases hr
  rename_i res hres
  split at hr
  case h_2 => cases hr
  rename_i hout hflat
  simp only [Option.some.injEq] at hr; subst hr
  have t := cloArgs_TR h hz hcl hv
  refine invokes_wp hop hc hargs ((hS f).1 hlt _ res hres hp C.w (objR C) Vs ?_ (Glob.mono h.gl fun b hb => ⟨.inl hb, rfl⟩) t) ?_
  · rintro b (hb | ⟨id, hd, rfl⟩)
    · exact h.own.R_lt b hb
    · exact h.own.lt id (.inl hd)
  · rintro v w' ⟨R', hd⟩
    have hd' : Done C.w C.R res.res v w' C.R := ⟨fun b hb => hb, fun b hb => .inl hb, fun b hb => Nat.lt_of_lt_of_le (h.own.R_lt b hb) hd.fr.size, hd.fr, flatR_VR hd.res hflat⟩
    obtain ⟨C', e, haft⟩ := after_of_done (r := ⟨res.pre, res.res, ks, [], []⟩) h rfl rfl ⟨C.R, hd'⟩
    rw [← e]; exact hK v C' haft

theorem clo_invokes_wp {o : Oper} {a : Act} {c : Call} {x : Operand} {f : FuncId} {Vs Cs : List Value} {Q : Exit → Act → World → Prop} {K : Act → World → Prop} {D : Value → World → Prop} (hop : o.op = .call c) (hc : c.callee = .value x) (hx : a.eval x = .func (.func f) #[] Cs.toArray)
    (hargs : (c.args.map a.eval).toList = Vs) {w : World} (hi : Invokes P f (Vs ++ Cs).toArray w D) (hK : ∀ v w', D v w' → K (a.put o.dst v) w') : o.wp P a w K Q := by
  have harr : c.args.map a.eval = Vs.toArray := Array.toList_inj.1 (by simpa using hargs)
  have hrun : ∀ {r : Result Next}, (callFunc f (Vs ++ Cs).toArray).run P w = r → (execOp a.eval o).run P w = r := by
    intro r hr
    rw [← hr]
    simp only [execOp, hop, resolve, hc, Deferred.ofValue, hx, harr, invoke, Sem.run_bind, Sem.run_pure, Result.andThen_ok]
    simp
  unfold Oper.wp
  rcases hi with ⟨v, w', h1, h2⟩ | ⟨h1, h2⟩
  · rw [hrun h1, Oper.upon_value]
    exact hK v w' h2
  · rw [hrun h1, Oper.upon_enter]
    refine h2.mono ?_
    rintro e w' ⟨v, rfl, hd⟩
    exact hK v w' hd

theorem TR_app {C : Ctx} {a b : List AV} {u v : List Value} (h : TR C a u) (k : TR C b v) : TR C (a ++ b) (u ++ v) := by
  match h with
  | .nil => exact k
  | .cons h hl => exact .cons h (TR_app hl k)

theorem evCloCall_wp [Glob] (hS : ∀ f, FnOk P f (S f)) {o : Oper} {a : Act} {c : Call} {x : Operand} {f : FuncId} {vs caps : List AV} {Vs : List Value} {r : OpR} {Q : Exit → Act → World → Prop} {K : Act → World → Prop} (h : SR w0 E R0 M C) (hop : o.op = .call c) (hc : c.callee = .value x) (hx : VR C (.clo f caps) (a.eval x)) (hr : evCloCall S caps vs f = some r) (hp : ∀ c ∈ r.pre, c = true)
    (hargs : (c.args.map a.eval).toList = Vs) (hv : TR C vs Vs) (hK : ∀ v C', After w0 E R0 M C r v C' → K (a.put o.dst v) C'.w) : o.wp P a C.w K Q := by
  unfold evCloCall at hr
  split at hr
  case h_2 => cases hr
  rename_i hb
  simp only [Bool.and_eq_true] at hb
  obtain ⟨hlt, hb1, hb2⟩ := hb
  have hlt : f < offO := Nat.le_of_ble_eq_true hlt
  split at hr
  case h_2 => cases hr
  rename_i res hres
  split at hr
  case h_2 => cases hr
  simp only [Option.some.injEq] at hr; subst hr
  generalize hX : a.eval x = X at hx
  cases hx with
  | @clo _ _ _ Cs hcs =>
  have t : TR (baseC C.w C.R) (vs ++ caps) (Vs ++ Cs) := TR_app (bareV_TR hv hb1 (fun b hb => ⟨hb, rfl⟩)) (bareS_TR hcs hb2 (fun b hb => ⟨hb, rfl⟩))
  refine clo_invokes_wp hop hc hX hargs ((hS f).1 hlt _ res hres hp C.w C.R _ h.own.R_lt h.gl t) ?_
  intro v w' hd
  obtain ⟨C', e, haft⟩ := after_of_done (r := ⟨res.pre, res.res, [], [], []⟩) h rfl rfl hd
  rw [← e]; exact hK v C' haft
end
end Go.Proofs.YtcdnbdphakhilaaGreatDoor.Ev
namespace Go.Proofs.YtcdnbdphakhilaaGreatDoor.Ev
section
variable {P : Program} {T : TypeId → Option TyI} {S : FuncId → CSpec} {w0 : World} {E : Ent} {R0 : Nat → Prop} {M : Key → Option AV} {C : Ctx}

theorem SR_iter [Glob] (h : SR w0 E R0 M C) {id : Nat} (hid : ¬ C.has id) (hK : ∀ b n, ¬ E.K id b n) (s : List UInt8) (hs : s.length ≤ 9223372036854775807) :
    ∃ C' : Ctx, C'.w = C.w.alloc (.stringIter ⟨s.toArray⟩ 0) ∧ C.Le C' ∧ (∀ i, C'.dom i ↔ C.dom i ∨ i = id) ∧ C'.ρ id = C.w.heap.size ∧ (C'.R = C.R ∧ C'.sz id = 0 ∧ (∀ i, i ≠ id → C'.sz i = C.sz i) ∧ C'.row = C.row) ∧ SR w0 E R0 (updK M [((id, 0), .sit s 0)]) C' := by
  have hrow : ¬ C.row id := fun h => hid (.inr h)
  have hle : C.Le { C with w := C.w.alloc (.stringIter ⟨s.toArray⟩ 0), ρ := fun i => if i = id then C.w.heap.size else C.ρ i, dom := fun i => C.dom i ∨ i = id, sz := fun i => if i = id then 0 else C.sz i } := by
    refine ⟨fun i hi => ⟨.inl hi, ?_⟩, fun b hb => ⟨hb, RowKit.Below.heap_alloc _ _ _ (h.own.R_lt b hb)⟩, fun _ _ h => ⟨h, rfl⟩⟩
    have : i ≠ id := fun e => hid (e ▸ .inl hi)
    simp [this]
  have hnone : ∀ o, M (id, o) = none := fun o => by
    cases hm : M (id, o) with
    | none => rfl
    | some a => exact (hid (h.mr.has hm)).elim
  have hnew : (C.w.alloc (.stringIter ⟨s.toArray⟩ 0)).heap[C.w.heap.size]? = some (.stringIter ⟨s.toArray⟩ 0) := Array.getElem?_push_size ..
  have hne : ∀ i, C.dom i → i ≠ id := fun i hi e => hid (e ▸ .inl hi)
  have hup : ∀ k a, updK M [((id, 0), .sit s 0)] k = some a → (k = (id, 0) ∧ a = .sit s 0) ∨ M k = some a := by
    intro k a hk
    unfold updK at hk
    split at hk
    · rename_i x hx
      simp only [look] at hx
      split at hx
      · rename_i e
        simp only [Option.some.injEq] at hx hk; subst hx; subst hk
        exact .inl ⟨(beq_iff_eq.1 e).symm, rfl⟩
      · cases hx
    · exact .inr hk
  refine ⟨_, rfl, hle, fun i => Iff.rfl, by simp, ⟨rfl, by simp, fun i hi => by simp [hi], rfl⟩, ⟨⟨?_, ?_, ?_⟩, ⟨?_, ?_, ?_, ?_, ?_, ?_, ?_, h.own.liv, ?_, h.own.hokr⟩, ⟨h.fr.os, h.fr.tape, h.fr.output, ?_, ?_⟩, ?_, h.rr, ?_, Glob.mono h.gl hle.R, (fun i hi => by have hn : i ≠ id := fun e => hrow (e ▸ h.own.liv i hi); simpa only [hn, if_false] using h.rown i hi)⟩⟩
  · intro id' o' a ha hsa
    rcases hup _ _ ha with ⟨e, rfl⟩ | ha
    · cases hsa
    · obtain ⟨hd', us, hu, huc⟩ := h.mr.at_ id' o' a ha hsa
      refine ⟨.inl hd', us, hu.mono hle, ?_⟩
      intro j v hj
      simp only [hne id' hd', if_false]
      rw [cell_of_block (RowKit.Below.heap_alloc _ _ _ (h.own.lt _ (.inl hd')))]
      exact huc j v hj
  · intro id' o' a ha hsa
    rcases hup _ _ ha with ⟨e, rfl⟩ | ha
    · cases e
      exact ⟨.inr rfl, rfl, hs, by simp only [if_true]; exact hnew⟩
    · have hsp := h.mr.sp id' o' a ha hsa
      have hn : id' ≠ id := fun e => hid (e ▸ hsp.has)
      exact hsp.congr ⟨by simp [hn], .rfl, .rfl, fun _ => by simp [hn], fun _ => .rfl, fun _ _ => rfl, fun hb => RowKit.Below.heap_alloc _ _ _ (h.own.lt _ hb)⟩ hle.R
  · intro id' o1 o2 a1 a2 h1 h2 hlt
    rcases hup _ _ h1 with ⟨e1, rfl⟩ | h1 <;> rcases hup _ _ h2 with ⟨e2, rfl⟩ | h2
    · cases e1; cases e2; omega
    · cases e1; rw [hnone] at h2; cases h2
    · cases e2; rw [hnone] at h1; cases h1
    · exact h.mr.apart _ _ _ _ _ h1 h2 hlt
  · intro i hi
    replace hi := or_swap3 hi
    simp only [World.size_alloc]
    split
    · omega
    · rename_i hn
      have := h.own.lt i (hi.resolve_right hn); omega
  · intro i hi o
    replace hi := or_swap3 hi
    by_cases hn : i = id
    · simp only [hn, if_true]
      unfold World.frozen?
      rw [hnew]
    · simp only [hn, if_false]
      have := h.own.unfrozen i (hi.resolve_right hn) o
      unfold World.frozen? at this ⊢
      rw [RowKit.Below.heap_alloc _ _ _ (h.own.lt _ (hi.resolve_right hn))]; exact this
  · intro i hi
    replace hi := or_swap3 hi
    by_cases hn : i = id
    · simp only [hn, if_true]; intro hR; exact Nat.lt_irrefl _ (h.own.R_lt _ hR)
    · simp only [hn, if_false]; exact h.own.apart i (hi.resolve_right hn)
  · intro a b ha hb hab
    replace ha := or_swap3 ha
    replace hb := or_swap3 hb
    by_cases ha' : a = id <;> by_cases hb' : b = id
    · rw [ha', hb']
    · simp only [ha', hb', if_true, if_false] at hab
      have := h.own.lt b (hb.resolve_right hb'); omega
    · simp only [ha', hb', if_true, if_false] at hab
      have := h.own.lt a (ha.resolve_right ha'); omega
    · simp only [ha', hb', if_false] at hab
      exact h.own.inj a b (ha.resolve_right ha') (hb.resolve_right hb') hab
  · intro b hb; simp only [World.size_alloc]; have := h.own.R_lt b hb; omega
  · intro i hi
    by_cases hn : i = id
    · simp only [hn, if_true]
      unfold objSize
      rw [hnew]
    · simp only [hn, if_false]
      rw [objSize_of (RowKit.Below.heap_alloc _ _ _ (h.own.lt i (.inl (hi.resolve_right hn))))]; exact h.own.sized i (hi.resolve_right hn)
  · intro i hi
    rcases hi with hi | hi
    · exact h.own.dis i hi
    · exact hi ▸ hrow
  · intro i hi
    have hn : i ≠ id := fun e => hrow (e ▸ hi)
    simp only [hn, if_false]
    exact h.own.rsz i hi
  · simp only [World.size_alloc]; have := h.fr.size; omega
  · intro b hb hE
    have := h.fr.size
    rw [RowKit.Below.heap_alloc _ _ _ (by omega)]
    exact h.fr.block b hb hE
  · intro i hi
    replace hi := or_swap3 hi
    by_cases hn : i = id
    · simp only [hn, if_true]; left; exact h.fr.size
    · simp only [hn, if_false]; exact h.mine i (hi.resolve_right hn)
  · intro i b n hk hi
    by_cases hn : i = id
    · subst hn; exact (hK b n hk).elim
    · simp only [hn, if_false]; exact h.keep i b n hk (hi.resolve_right hn)

theorem SR_next [Glob] (h : SR w0 E R0 M C) {id : Nat} {s : List UInt8} {pos : Nat} (hm : M (id, 0) = some (.sit s pos)) (pos' : Nat) :
    ∃ C' : Ctx, C'.w = { C.w with heap := C.w.heap.setIfInBounds (C.ρ id) (.stringIter ⟨s.toArray⟩ pos') } ∧ C.Le C' ∧ C'.dom = C.dom ∧ C'.ρ = C.ρ ∧ (C'.R = C.R ∧ C'.sz = C.sz ∧ C'.row = C.row) ∧ SR w0 E R0 (updK M [((id, 0), .sit s pos')]) C' := by
  obtain ⟨hd, _, hs, hobj⟩ := h.mr.sp id 0 _ hm rfl
  have hoth : ∀ b, b ≠ C.ρ id → (C.w.heap.setIfInBounds (C.ρ id) (.stringIter ⟨s.toArray⟩ pos'))[b]? = C.w.heap[b]? := fun b hb => by
    rw [Array.getElem?_setIfInBounds]; simp [Ne.symm hb]
  have hown : (C.w.heap.setIfInBounds (C.ρ id) (.stringIter ⟨s.toArray⟩ pos'))[C.ρ id]? = some (.stringIter ⟨s.toArray⟩ pos') := by
    rw [Array.getElem?_setIfInBounds]; simp [h.own.lt id (.inl hd)]
  have hle : C.Le { C with w := { C.w with heap := C.w.heap.setIfInBounds (C.ρ id) (.stringIter ⟨s.toArray⟩ pos') } } :=
    ⟨fun i hi => ⟨hi, rfl⟩, fun b hb => ⟨hb, hoth _ (fun e => h.own.apart id (.inl hd) (e ▸ hb))⟩, fun _ _ h => ⟨h, rfl⟩⟩
  have hsame : ∀ i, C.blk i → i ≠ id → (C.w.heap.setIfInBounds (C.ρ id) (.stringIter ⟨s.toArray⟩ pos'))[C.ρ i]? = C.w.heap[C.ρ i]? := fun i hi hne => hoth _ (fun e => hne (h.own.inj _ _ hi (.inl hd) e))
  have hup : ∀ k a, updK M [((id, 0), .sit s pos')] k = some a → (k = (id, 0) ∧ a = .sit s pos') ∨ (k ≠ (id, 0) ∧ M k = some a) := by
    intro k a hk
    unfold updK at hk
    split at hk
    · rename_i x hx
      simp only [look] at hx
      split at hx
      · rename_i e
        simp only [Option.some.injEq] at hx hk; subst hx; subst hk
        exact .inl ⟨(beq_iff_eq.1 e).symm, rfl⟩
      · cases hx
    · rename_i hx
      refine .inr ⟨?_, hk⟩
      rintro rfl
      simp [look] at hx
  refine ⟨_, rfl, hle, rfl, rfl, ⟨rfl, rfl, rfl⟩, ⟨⟨?_, ?_, ?_⟩, ⟨?_, ?_, h.own.apart, h.own.inj, ?_, ?_, h.own.dis, h.own.liv, h.own.rsz, h.own.hokr⟩, ⟨h.fr.os, h.fr.tape, h.fr.output, ?_, ?_⟩, h.mine, h.rr, h.keep, Glob.mono h.gl hle.R, h.rown⟩⟩
  · intro id' o' a ha hsa
    rcases hup _ _ ha with ⟨e, rfl⟩ | ⟨_, ha⟩
    · cases hsa
    · obtain ⟨hd', us, hu, huc⟩ := h.mr.at_ id' o' a ha hsa
      have hul : us.length = a.width := by have := CR_length hu; simpa [widthC] using this
      have hpos : 0 < us.length := by rw [hul]; obtain ⟨_, _, _, _, _, _, hpos⟩ := CR_uncons hu; exact hpos
      have hne : id' ≠ id := fun e => by subst e; exact cell_notIter (huc 0 us[0] (by simp [hpos])) _ _ hobj
      refine ⟨hd', us, hu.mono hle, ?_⟩
      intro j v hj
      rw [cell_of_block (hsame id' (.inl hd') hne)]
      exact huc j v hj
  · intro id' o' a ha hsa
    rcases hup _ _ ha with ⟨e, rfl⟩ | ⟨hk, ha⟩
    · cases e
      exact ⟨hd, rfl, hs, hown⟩
    · have hsp := h.mr.sp id' o' a ha hsa
      by_cases e : id' = id
      · subst e
        cases a <;> first | exact hsp | exact absurd (by rw [hsp.2.1]) hk | exact absurd (by rw [hsp.1]) hk
      · exact hsp.congr ⟨.rfl, .rfl, .rfl, fun _ => rfl, fun _ => .rfl, fun _ _ => rfl, fun hb => hsame id' hb e⟩ hle.R
  · intro id' o1 o2 a1 a2 h1 h2 hlt
    have hw : ∀ k a, updK M [((id, 0), .sit s pos')] k = some a → ∃ a', M k = some a' ∧ a'.width = a.width := by
      intro k a hk
      rcases hup _ _ hk with ⟨rfl, rfl⟩ | ⟨_, hk⟩
      · exact ⟨_, hm, rfl⟩
      · exact ⟨a, hk, rfl⟩
    obtain ⟨b1, k1, w1⟩ := hw _ _ h1
    obtain ⟨b2, k2, w2⟩ := hw _ _ h2
    rw [← w1]; exact h.mr.apart _ _ _ _ _ k1 k2 hlt
  · intro i hi; show C.ρ i < (C.w.heap.setIfInBounds _ _).size; rw [Array.size_setIfInBounds]; exact h.own.lt i hi
  · intro i hi o
    by_cases e : i = id
    · subst e
      show World.frozen? _ _ = _
      unfold World.frozen?
      show (match (C.w.heap.setIfInBounds (C.ρ i) (.stringIter ⟨s.toArray⟩ pos'))[C.ρ i]? with | _ => _) = _
      rw [hown]
    · have := h.own.unfrozen i hi o
      unfold World.frozen? at this ⊢
      rw [hsame i hi e]; exact this
  · intro b hb; show b < (C.w.heap.setIfInBounds _ _).size; rw [Array.size_setIfInBounds]; exact h.own.R_lt b hb
  · intro i hi
    by_cases e : i = id
    · subst e
      rw [← h.own.sized i hi]
      unfold objSize
      rw [hobj]
      show (match (C.w.heap.setIfInBounds (C.ρ i) (.stringIter ⟨s.toArray⟩ pos'))[C.ρ i]? with | some (.cells cs _ _) => cs.size | _ => 0) = _
      rw [hown]
    · rw [objSize_of (hsame i (.inl hi) e)]; exact h.own.sized i hi
  · show _ ≤ (C.w.heap.setIfInBounds _ _).size; rw [Array.size_setIfInBounds]; exact h.fr.size
  · intro b hb hE
    show (C.w.heap.setIfInBounds _ _)[b]? = _
    rw [hoth _ (fun e => ?_)]
    · exact h.fr.block b hb hE
    · rcases h.mine id (.inl hd) with h1 | h1
      · omega
      · exact hE (e ▸ h1)
theorem run_next_at {w : World} {b : Nat} {s : List UInt8} {pos : Nat} {c : UInt8} (ty : TypeId) (hb : w.heap[b]? = some (.stringIter ⟨s.toArray⟩ pos)) (hc : s[pos]? = some c) (ha : c.toNat < 128) :
    (Instr.next (.pointer (some ⟨b, 0, none⟩)) true ty).run P w = .ok (.tuple #[.bool true, .int .i64 (pos : Int), .int .i32 (c.toNat : Int)]) { w with heap := w.heap.setIfInBounds b (.stringIter ⟨s.toArray⟩ (pos + 1)) } := by
  have hlt : pos < s.length := by
    rcases Nat.lt_or_ge pos s.length with h | h
    · exact h
    · rw [List.getElem?_eq_none h] at hc; cases hc
  have hsz : pos < (⟨s.toArray⟩ : ByteArray).size := by simpa [ByteArray.size] using hlt
  have hg : (⟨s.toArray⟩ : ByteArray)[pos]'hsz = c := by
    rw [List.getElem?_eq_getElem hlt] at hc
    simp only [Option.some.injEq] at hc
    rw [← hc]; rfl
  have hd := decode_ascii ⟨s.toArray⟩ pos hsz (by rw [hg]; exact ha)
  rw [hg] at hd
  simp only [Instr.next, getObj, setObj, Sem.run_bind, Sem.run, hb, Result.andThen, hsz, if_true, hd]
  simp [goInt, Sem.run, hb]
theorem run_next_over {w : World} {b : Nat} {s : List UInt8} {pos : Nat} (ty : TypeId) (hb : w.heap[b]? = some (.stringIter ⟨s.toArray⟩ pos)) (hc : s[pos]? = none) :
    (Instr.next (.pointer (some ⟨b, 0, none⟩)) true ty).run P w = .ok (.tuple #[.bool false]) w := by
  have hlt : ¬ pos < (⟨s.toArray⟩ : ByteArray).size := by
    have := List.getElem?_eq_none_iff.1 hc
    simp [ByteArray.size]; exact this
  simp [Instr.next, getObj, Sem.run, hb, hlt]

theorem evOp_wp [Glob] (hT : TyOk P T) (hS : ∀ f, FnOk P f (S f)) {ids : List (Nat × Nat)} {Ev : Operand → Option AV} {Ep : Bool → Operand → Operand → Option AV} {o : Oper} {a : Act} {r : OpR} {Q : Exit → Act → World → Prop} {K : Act → World → Prop}
    (hids2 : ∀ d x, o.dst = some d → x % subN = d % subN → sizeIn ids x = none → ¬ C.has x) (hkd : ∀ id, o.dst = some id → ∀ b n, ¬ E.K id b n) (hz : Sized ids C) (hE' : ∀ x v, x ∈ o.op.operands → Ev x = some v → VR C v (a.eval x))
    (hEp : ∀ c A B, o.op = .pick c A B → ∀ x, Ev c = some (.b x) → (x = true → ∀ va, Ep true c A = some va → VR C va (a.eval A)) ∧ (x = false → ∀ vb, Ep false c B = some vb → VR C vb (a.eval B)))
    (h : SR w0 E R0 M C) (hr : evOp T S ids Ev Ep M o = some r) (hp : ∀ c ∈ r.pre, c = true) (hK : ∀ v C', After w0 E R0 M C r v C' → K (a.put o.dst v) C'.w) : o.wp P a C.w K Q := by
  have hids : ∀ id, o.dst = some id → sizeIn ids id = none → ¬ C.has id := fun id hd => hids2 id id hd rfl
  have hE : ∀ x v, Ev x = some v → x ∈ o.op.operands → VR C v (a.eval x) := fun x v h1 h2 => hE' x v h2 h1
  unfold evOp at hr
  have hval : ∀ {v : AV} {V : Value}, val v = some r → (execOp a.eval o).run P C.w = .ok (.value V) C.w → VR C v V → o.wp P a C.w K Q := by
    intro v V h1 h2 h3
    simp only [val, Option.some.injEq] at h1; subst h1
    exact wp_val h h2 h3 rfl rfl hK
  split at hr
  · rename_i x hop
    split at hr
    · rename_i v hv
      exact hval hr (by simp [execOp, hop]) (hE x v hv (by simp [hop, Op.operands]))
    · simp at hr
  · rename_i x hop
    split at hr
    · rename_i r' hn hb
      simp only [Option.some.injEq] at hr; subst hr
      exact wp_birth hids h hop hn hb hK
    · split at hr
      · rename_i v hv
        exact hval hr (by simp [execOp, hop]) (hE x v hv (by simp [hop, Op.operands]))
      · simp at hr
  · rename_i c A B hop
    split at hr
    · rename_i x va vb hc ha hb
      obtain ⟨h1, h2⟩ := hEp c A B hop x hc
      have hcv := hE c _ hc (by simp [hop, Op.operands])
      generalize hcV : a.eval c = cV at hcv
      cases hcv
      refine hval (V := if x = true then a.eval A else a.eval B) hr ?_ (merge_VR (fun e => ?_) (fun e => ?_))
      · simp only [execOp, hop, hcV, asBool, Sem.run_bind, Sem.run_pure, Result.andThen_ok]
      · rw [if_pos e]; exact h1 e va ha
      · rw [if_neg (by simp [e])]; exact h2 e vb hb
    · simp at hr
  · rename_i op t x y yt hop
    split at hr
    · rename_i p q hx hy
      split at hr
      · rename_i c v hv
        simp only [valN, Option.some.injEq] at hr; subst hr
        obtain ⟨V, hV, hr⟩ := evBin_run (P := P) (w := C.w) (xo := x) (yo := y) hT hv hp (hE x p hx (by simp [hop, Op.operands])) (hE y q hy (by simp [hop, Op.operands]))
        refine wp_val h (v := V) ?_ hr rfl rfl hK
        have : (execOp a.eval o).run P C.w = ((eqRun op t x y (a.eval x) (a.eval y)).run P C.w).andThen fun v w => .ok (.value v) w := by
          simp only [execOp, hop, eqRun, Sem.run_bind, Sem.run_pure]
        rw [this, hV]; rfl
      · simp at hr
    · simp at hr
  · rename_i op t x hop
    split at hr
    · rename_i p hx
      split at hr
      · rename_i v hv
        obtain ⟨V, hV, hvr⟩ := evUn_run (P := P) (w := C.w) hv (hE x p hx (by simp [hop, Op.operands]))
        exact hval hr (by simp only [execOp, hop, Sem.run_bind, Sem.run_pure, hV, Result.andThen_ok]) hvr
      · simp at hr
    · simp at hr
  · rename_i s d x hop
    split at hr
    · rename_i i si p hd hs hx
      split at hr
      · rename_i v hv
        obtain ⟨V, hV, hvr⟩ := evConv_run (P := P) (w := C.w) hT hd hs hv (hE x p hx (by simp [hop, Op.operands]))
        exact hval hr (by simp only [execOp, hop, Sem.run_bind, Sem.run_pure, hV, Result.andThen_ok]) hvr
      · simp at hr
    · simp at hr
  · rename_i x hop
    split at hr
    · rename_i id off hx
      have hxv := hE x _ hx (by simp [hop, Op.operands])
      generalize hX : a.eval x = X at hxv
      cases hxv with
      | ptr _ hd => exact hval hr (by simp [execOp, hop, hX]) (.ptr _ hd)
    · rename_i l off hx
      have hxv := hE x _ hx (by simp [hop, Op.operands])
      generalize hX : a.eval x = X at hxv
      cases hxv with
      | rp hb h hc => exact hval hr (by simp [execOp, hop, hX]) (.rp hb h hc)
    · simp at hr
  · rename_i t x hop
    split at hr
    · rename_i p hx
      split at hr
      · obtain ⟨⟨v, h1, h2⟩, h3, h4, h5⟩ := evOwnLoad_run hT h.mr hr (hE x p hx (by simp [hop, Op.operands]))
        exact wp_val h (v := v) (by simp only [execOp, hop, Sem.run_bind, Sem.run_pure, h1, Result.andThen_ok]) h2 h4 h5 hK
      · obtain ⟨⟨v, h1, h2⟩, h3, h4, h5⟩ := evLoad_run hT h.mr hr (hE x p hx (by simp [hop, Op.operands]))
        exact wp_val h (v := v) (by simp only [execOp, hop, Sem.run_bind, Sem.run_pure, h1, Result.andThen_ok]) h2 h4 h5 hK
    · simp at hr
  · rename_i t x y hop
    split at hr
    · rename_i p v hx hy
      split at hr
      · rename_i r0 hr0
        simp only [Option.some.injEq] at hr; subst hr
        refine evStore_wp hT h hop hr0 (hE x p hx (by simp [hop, Op.operands])) (hE y v hy (by simp [hop, Op.operands])) ?_
        intro v C' haf
        obtain ⟨C2, e, haf2⟩ := again_after (T := T) (t := t) (p := p) haf
        rw [← e]; exact hK v C2 haf2
      · simp at hr
    · simp at hr
  · rename_i t x f hop
    split at hr
    · rename_i p hx
      obtain ⟨v, h1, h2, h3, h4, h5⟩ := evFieldAddr_run hT hr (hE x p hx (by simp [hop, Op.operands]))
      exact wp_val h (v := v) (by simp only [execOp, hop, Sem.run_bind, Sem.run_pure, h1, Result.andThen_ok]) h2 h4 h5 hK
    · simp at hr
  · rename_i t x f hop
    split at hr
    · rename_i p hx
      obtain ⟨v, h1, h2, h3, h4, h5⟩ := evField_run hT hr (hE x p hx (by simp [hop, Op.operands]))
      exact wp_val h (v := v) (by simp only [execOp, hop, Sem.run_bind, Sem.run_pure, h1, Result.andThen_ok]) h2 h4 h5 hK
    · simp at hr
  · rename_i t x ix hop
    split at hr
    · rename_i p j hx hj
      split at hr
      · obtain ⟨v, h1, h2, h4, h5⟩ := evOwnAddr_run hT h.mr hr hp (hE x p hx (by simp [hop, Op.operands])) (hE ix j hj (by simp [hop, Op.operands]))
        exact wp_val h (v := v) (by simp only [execOp, hop, Sem.run_bind, Sem.run_pure, h1, Result.andThen_ok]) h2 h4 h5 hK
      · obtain ⟨v, h1, h2, h4, h5⟩ := evIndexAddr_run hT hr hp (hE x p hx (by simp [hop, Op.operands])) (hE ix j hj (by simp [hop, Op.operands]))
        exact wp_val h (v := v) (by simp only [execOp, hop, Sem.run_bind, Sem.run_pure, h1, Result.andThen_ok]) h2 h4 h5 hK
    · simp at hr
  · rename_i t x ix hop
    split at hr
    · rename_i p j hx hj
      obtain ⟨v, h1, h2, h4, h5⟩ := evIndex_run hT hr hp (hE x p hx (by simp [hop, Op.operands])) (hE ix j hj (by simp [hop, Op.operands]))
      exact wp_val h (v := v) (by simp only [execOp, hop, Sem.run_bind, Sem.run_pure, h1, Result.andThen_ok]) h2 h4 h5 hK
    · simp at hr
  · rename_i x ix hop
    split at hr
    · rename_i vs hx
      have hxv := hE x _ hx (by simp [hop, Op.operands])
      generalize hX : a.eval x = X at hxv
      cases hxv with
      | @tup _ _ Vs hl =>
      split at hr
      · rename_i v hv
        obtain ⟨V, h1, h2⟩ := TR_get hl hv
        exact hval hr (by simp [execOp, hop, hX, Instr.extract, h1]) h2
      · simp at hr
    · simp at hr
  · rename_i t parts hop
    split at hr
    · rename_i ps hps
      have hpr := lookParts_PR (fun x v hx hv => hE x v hv (by simp only [hop, Op.operands]; simpa using hx)) hps
      obtain ⟨v, h1, h2, h3, h4, h5⟩ := evBuild_run (P := P) (w := C.w) (pvs := parts.map fun (i, x) => (i, a.eval x)) hT hr (by simpa using hpr)
      exact wp_val h (v := v) (by simp only [execOp, hop, Sem.run_bind, Sem.run_pure, h1, Result.andThen_ok]) h2 h4 h5 hK
    · simp at hr
  · rename_i t hop
    split at hr
    · rename_i d id hd hdst
      split at hr
      · rename_i hsz
        simp only [Option.some.injEq] at hr; subst hr
        obtain ⟨z, hz1, hz2⟩ := run_zeroValue (w := C.w) (hT t d hd)
        have hzc := hz2 C
        obtain ⟨C', e1, e2, e3, e4, e5, e6⟩ := SR_alloc h (hids id hdst hsz) (hkd id hdst) z.cells t hzc
        have hrun : (execOp a.eval o).run P C.w = .ok (.value (.pointer (some ⟨C.w.heap.size, 0, none⟩))) (C.w.alloc (.cells z.cells t)) := by
          simp only [execOp, hop, Instr.alloc, Sem.run_bind, hz1, Result.andThen_ok]
          rfl
        have hold : ∀ i, C'.has i → (C.has i ∧ C'.sz i = C.sz i) ∨ i = id := fun i hi => by
          by_cases hne : i = id
          · exact .inr hne
          · exact .inl ⟨by rcases hi with hi | hi; exact .inl (((e3 i).1 hi).resolve_right hne); exact .inr (e5.2.2.2 ▸ hi), e5.2.2.1 i hne⟩
        obtain ⟨C2, f1, f2, f3, f4, f5, f6⟩ := SR_born (ids := ids) (id := id) (g := ridOf subN id) (fun off => ridOf_ne subN_pos) (base := keysAcc id 0 d.zero []) e6 (fun off hs hh => by
          rcases hold _ hh with h1 | h1
          · exact hids2 id _ hdst ridOf_mod hs h1.1
          · exact ridOf_ne subN_pos h1) (sliceOff T 4 t 0)
        unfold Oper.wp
        rw [hrun, Oper.upon_value, ← e1, ← f1, ← e4]
        refine hK _ C2 ⟨e2.trans f2, VR.mono f2 (.ptr 0 ((e3 id).2 (.inr rfl))), f6, fun i hi => ?_⟩
        rcases (f3 i).1 hi with h1 | h1
        · rw [f4 i h1]
          rcases hold i h1 with h2 | rfl
          · exact .inl h2
          · right; rw [e5.2.1]; exact List.mem_cons.2 (.inl (by rw [← Array.length_toList, CR_length ‹CR C _ _›]))
        · right
          obtain ⟨x, hx, rfl⟩ := List.mem_map.1 h1
          refine List.mem_cons_of_mem _ ?_
          rw [f5 x.1 h1]
          have e : (x.1, 0) = x := Prod.ext rfl (bornAll_al hx).2.2.symm
          exact e ▸ hx
      · simp at hr
    · simp at hr
  · rename_i t x hop
    split at hr
    · rename_i v id hx hdst
      split at hr
      · rename_i hsz hcl
        simp only [Option.some.injEq] at hr; subst hr
        have hcr := cellable_CR (hE x v hx (by simp [hop, Op.operands])) hcl
        obtain ⟨C', e1, e2, e3, e4, e5, e6⟩ := SR_alloc h (hids id hdst hsz) (hkd id hdst) (a.eval x).cells t hcr
        have hrun : (execOp a.eval o).run P C.w = .ok (.value (.pointer (some ⟨C.w.heap.size, 0, none⟩))) (C.w.alloc (.cells (a.eval x).cells t)) := by
          simp only [execOp, hop, Instr.box, Sem.run_bind, Result.andThen_ok]
          rfl
        have hold : ∀ i, C'.has i → (C.has i ∧ C'.sz i = C.sz i) ∨ i = id := fun i hi => by
          by_cases hne : i = id
          · exact .inr hne
          · exact .inl ⟨by rcases hi with hi | hi; exact .inl (((e3 i).1 hi).resolve_right hne); exact .inr (e5.2.2.2 ▸ hi), e5.2.2.1 i hne⟩
        obtain ⟨C2, f1, f2, f3, f4, f5, f6⟩ := SR_born (ids := ids) (id := id) (g := ridOf subN id) (fun off => ridOf_ne subN_pos) (base := keysAcc id 0 v.cells []) e6 (fun off hs hh => by
          rcases hold _ hh with h1 | h1
          · exact hids2 id _ hdst ridOf_mod hs h1.1
          · exact ridOf_ne subN_pos h1) (sliceOff T 4 t 0)
        unfold Oper.wp
        rw [hrun, Oper.upon_value, ← e1, ← f1, ← e4]
        refine hK _ C2 ⟨e2.trans f2, VR.mono f2 (.ptr 0 ((e3 id).2 (.inr rfl))), f6, fun i hi => ?_⟩
        rcases (f3 i).1 hi with h1 | h1
        · rw [f4 i h1]
          rcases hold i h1 with h2 | rfl
          · exact .inl h2
          · right; rw [e5.2.1]; exact List.mem_cons.2 (.inl (by rw [← Array.length_toList, CR_length ‹CR C _ _›]))
        · right
          obtain ⟨x, hx, rfl⟩ := List.mem_map.1 h1
          refine List.mem_cons_of_mem _ ?_
          rw [f5 x.1 h1]
          have e : (x.1, 0) = x := Prod.ext rfl (bornAll_al hx).2.2.symm
          exact e ▸ hx
      · simp at hr
    · simp at hr
  · rename_i c hop
    split at hr
    · rename_i vs hvs
      have htr := lookAll_TR (fun x v hx hv => hE x v hv (by simp [hop, Op.operands, Call.operands]; right; simpa using hx)) hvs
      split at hr
      · rename_i f hcal
        split at hr
        · exact evCallM_wp (Vs := c.args.toList.map a.eval) hS hz h hop hcal hr hp (Array.toList_map ..) htr hK
        split at hr
        · exact evCallK_wp (Vs := c.args.toList.map a.eval) hS hz h hop hcal hr hp (Array.toList_map ..) htr hK
        split at hr
        · exact evCallR_wp (Vs := c.args.toList.map a.eval) hS h hop hcal hr hp (Array.toList_map ..) htr hK
        · exact evCall_wp (Vs := c.args.toList.map a.eval) hS hids hkd hz h hop hcal hr hp (Array.toList_map ..) htr hK
      · rename_i x hnf hcal
        split at hr
        · rename_i f caps hx
          exact evCloCall_wp (Vs := c.args.toList.map a.eval) hS h hop hcal (hE x _ hx (by simp [hop, Op.operands, Call.operands, hcal])) hr hp (Array.toList_map ..) htr hK
        · cases hr
      · rename_i b hcal
        have harg : (List.map a.eval c.args.toList).toArray = c.args.map a.eval := by rw [← Array.toList_map]
        split at hr
        · unfold evOwnBuiltin at hr
          split at hr
          · exact wp_append hT h hop hcal hr hp htr hK
          · obtain ⟨v, h1, h2, h3, h4, h5⟩ := evOwnLen_run (P := P) (ty := o.type) (cs := c.args.map fun | .const _ => true | _ => false) hT h.mr hr htr
            rw [harg] at h1
            refine wp_val h (v := v) ?_ h2 h4 h5 hK
            simp only [execOp, hop, resolve, hcal, invoke, Sem.run_bind, Sem.run_pure, Result.andThen_ok]
            exact h1
          · cases hr
        obtain ⟨v, h1, h2, h3, h4, h5⟩ := evBuiltin_run (P := P) (ty := o.type) (cs := c.args.map fun | .const _ => true | _ => false) hT hr htr
        rw [harg] at h1
        refine wp_val h (v := v) ?_ h2 h4 h5 hK
        simp only [execOp, hop, resolve, hcal, invoke, Sem.run_bind, Sem.run_pure, Result.andThen_ok]
        exact h1
      · simp at hr
    · simp at hr
  · rename_i t n parts hop
    split at hr
    · rename_i ps hps
      have hpr := lookParts_PR (fun x v hx hv => hE x v hv (by simp only [hop, Op.operands]; simpa using hx)) hps
      split at hr
      · obtain ⟨id, e, cs, hdst, hsz, rfl, hcr, hlen, hmax, hrunB⟩ := evBuildPtrs_run (P := P) (n := n) (pvs := parts.map fun (i, x) => (i, a.eval x)) hT hr (by simpa using hpr)
        obtain ⟨C', e1, e2, e3, e4, e5, e6⟩ := SR_alloc h (hids id hdst hsz) (hkd id hdst) cs.toArray e hcr
        have hrun : (execOp a.eval o).run P C.w = .ok (.value (.slice (some ⟨C.w.heap.size, 0, none⟩) n n)) (C.w.alloc (.cells cs.toArray e)) := by
          simp only [execOp, hop, Sem.run_bind, Sem.run_pure, hrunB, Result.andThen_ok]
        unfold Oper.wp
        rw [hrun, Oper.upon_value, ← e1, ← e4]
        exact hK _ C' ⟨e2, .osl 0 ((e3 id).2 (.inr rfl)) (Nat.le_refl _) (Nat.le_trans hmax (by decide)), e6, fun i hi => by
          by_cases hne : i = id
          · subst hne; right; rw [e5.2.1]; exact List.mem_singleton.2 (by simp only [← CR_length hcr]; simp)
          · exact .inl ⟨by rcases hi with hi | hi; exact .inl (((e3 i).1 hi).resolve_right hne); exact .inr (e5.2.2.2 ▸ hi), e5.2.2.1 i hne⟩⟩
      split at hr
      case h_2 => cases hr
      rename_i r0 hr0
      simp only [Option.some.injEq] at hr; subst hr
      obtain ⟨h1, h2, h3, v, w', h4, R', hd5⟩ := evBuildSlice_done (P := P) (n := n) (pvs := parts.map fun (i, x) => (i, a.eval x)) hT h.own.R_lt hr0 (by simpa using hpr)
      have h5 : ∃ R', Done C.w C.R (packR T t r0).v v w' R' := ⟨R', hd5.more, hd5.new, hd5.lt, hd5.fr, packV_VR hd5.res⟩
      obtain ⟨C', e, haft⟩ := after_of_done (r := packR T t r0) h h2 h3 h5
      have hrun : (execOp a.eval o).run P C.w = .ok (.value v) w' := by
        simp only [execOp, hop, Sem.run_bind, Sem.run_pure, h4, Result.andThen_ok]
      unfold Oper.wp
      rw [hrun, Oper.upon_value, ← e]
      exact hK v C' haft
    · simp at hr
  · rename_i t x hop
    split at hr
    · rename_i d s id hd hx hdst
      split at hr
      · rename_i hdesc hsz
        simp only [Option.some.injEq] at hr; subst hr
        have hv := hE x _ hx (by simp [hop, Op.operands])
        generalize hX : a.eval x = X at hv
        cases hv with
        | str s hs =>
        obtain ⟨C', e1, e2, e3, e4, e5, e6⟩ := SR_iter h (hids id hdst hsz) (hkd id hdst) s hs
        have hrun : (execOp a.eval o).run P C.w = .ok (.value (.pointer (some ⟨C.w.heap.size, 0, none⟩))) (C.w.alloc (.stringIter ⟨s.toArray⟩ 0)) := by
          have := run_range_string (P := P) C.w t ⟨s.toArray⟩ (und_string (hT t d hd) hdesc)
          simp only [execOp, hop, hX, Sem.run_bind, this, Result.andThen_ok]
          rfl
        unfold Oper.wp
        rw [hrun, Oper.upon_value, ← e1, ← e4]
        exact hK _ C' ⟨e2, .ptr 0 ((e3 id).2 (.inr rfl)), e6, fun i hi => by
          by_cases hne : i = id
          · subst hne; right; rw [e5.2.1]; exact List.mem_singleton.2 rfl
          · exact .inl ⟨by rcases hi with hi | hi; exact .inl (((e3 i).1 hi).resolve_right hne); exact .inr (e5.2.2.2 ▸ hi), e5.2.2.1 i hne⟩⟩
      · simp at hr
    · simp at hr
  · rename_i x str hop
    split at hr
    · rename_i id hx
      have hv := hE x _ hx (by simp [hop, Op.operands])
      generalize hX : a.eval x = X at hv
      cases hv with
      | ptr off hdom =>
      split at hr
      · rename_i s pos hm
        obtain ⟨hd, _, hs, hobj⟩ := h.mr.sp _ _ _ hm rfl
        split at hr
        · rename_i c hc
          split at hr
          · rename_i hlt
            simp only [Option.some.injEq] at hr; subst hr
            have ha : c.toNat < 128 := by simpa using hlt
            obtain ⟨C', e1, e2, e3, e4, e5, e6⟩ := SR_next h hm (pos + 1)
            have hrun : (execOp a.eval o).run P C.w = .ok (.value (.tuple #[.bool true, .int .i64 (pos : Int), .int .i32 (c.toNat : Int)])) { C.w with heap := C.w.heap.setIfInBounds (C.ρ id) (.stringIter ⟨s.toArray⟩ (pos + 1)) } := by
              simp only [execOp, hop, hX, Sem.run_bind, run_next_at (P := P) o.type hobj hc ha, Result.andThen_ok]
              rfl
            have hpl : pos < s.length := by
              rcases Nat.lt_or_ge pos s.length with h | h
              · exact h
              · rw [List.getElem?_eq_none h] at hc; cases hc
            unfold Oper.wp
            rw [hrun, Oper.upon_value, ← e1]
            refine hK _ C' ⟨e2, ?_, e6, fun i hi => .inl ⟨by unfold Ctx.has at hi ⊢; rw [e3, e5.2.2] at hi; exact hi, by rw [e5.2.1]⟩⟩
            exact VR.tup (vs := [.bool true, .int .i64 (pos : Int), .int .i32 (c.toNat : Int)]) (.cons (.b true) (.cons (.i rfl ⟨by simp [IntKind.min, IntKind.signed, IntKind.bits] <;> omega, by simp [IntKind.max, IntKind.signed, IntKind.bits]; omega⟩) (.cons (.i rfl ⟨by simp [IntKind.min, IntKind.signed, IntKind.bits] <;> omega, by simp [IntKind.max, IntKind.signed, IntKind.bits]; omega⟩) .nil)))
          · simp at hr
        · rename_i hc
          simp only [Option.some.injEq] at hr; subst hr
          refine wp_val h (v := .tuple #[.bool false]) ?_ (.tup (vs := [.bool false]) (.cons (.b false) .nil)) rfl rfl hK
          simp only [execOp, hop, hX, Sem.run_bind, run_next_over (P := P) o.type hobj hc, Result.andThen_ok]
          rfl
      · simp at hr
    · simp at hr
  · rename_i fn first captured hop
    split at hr
    · rename_i f vs hfirst hvs
      have htr := lookAll_TR (fun x v hx hv => hE x v hv (by simp [hop, Op.operands]; right; simpa using hx)) hvs
      have hf : first = #[] := Array.toList_inj.1 (by simpa using hfirst)
      have hcap : captured.map a.eval = (captured.toList.map a.eval).toArray := by rw [← Array.toList_map]
      refine hval hr (V := .func (.func f) #[] (captured.toList.map a.eval).toArray) ?_ (.clo htr)
      simp only [execOp, hop, Instr.makeFunc, hf, hcap, Array.map_empty, Sem.run_bind, Sem.run_pure, Result.andThen_ok]
    · cases hr
  · rename_i t x lo hi mx hop
    split at hr
    · split at hr
      · rename_i v l u hv hl hu
        have hopt : ∀ (y : Option Operand) (z : Option AV), (∀ o', y = some o' → o' ∈ o.op.operands) → lookOpt Ev y = some z → OptVR C z (y.map a.eval) := by
          intro y z hm hz
          cases y with
          | none => simp only [lookOpt, Option.some.injEq] at hz; subst hz; exact .none
          | some o' =>
            simp only [lookOpt] at hz
            split at hz
            · rename_i w hw
              simp only [Option.some.injEq] at hz; subst hz
              exact .some (hE o' w hw (hm o' rfl))
            · cases hz
        split at hr
        · obtain ⟨V, h1, C', e1, e2⟩ := evOwnSlice_wp (P := P) hT h hr hp (hE x v hv (by simp [hop, Op.operands])) (hopt lo l (fun o' e => by subst e; simp [hop, Op.operands]) hl) (hopt hi u (fun o' e => by subst e; simp [hop, Op.operands]) hu)
          have hrun : (execOp a.eval o).run P C.w = .ok (.value V) C.w := by simp only [execOp, hop, Sem.run_bind, Sem.run_pure, Option.map_none, h1, Result.andThen_ok]
          unfold Oper.wp
          rw [hrun, Oper.upon_value, ← e1]
          exact hK V C' e2
        obtain ⟨V, h1, h2, h3, h4⟩ := evSlice_run (P := P) hT hr hp (hE x v hv (by simp [hop, Op.operands])) (hopt lo l (fun o' e => by subst e; simp [hop, Op.operands]) hl) (hopt hi u (fun o' e => by subst e; simp [hop, Op.operands]) hu)
        exact wp_val h (v := V) (by simp only [execOp, hop, Sem.run_bind, Sem.run_pure, Option.map_none, h1, Result.andThen_ok]) h2 h3 h4 hK
      · simp at hr
    · simp at hr
  · simp at hr

end
end Go.Proofs.YtcdnbdphakhilaaGreatDoor.Ev
