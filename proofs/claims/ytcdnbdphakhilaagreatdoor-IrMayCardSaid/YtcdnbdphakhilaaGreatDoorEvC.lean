/- Lemmas: the symbolic evaluator, third part: objects handed over and handed back, equality of structs and arrays. No condition. -/
import Derived.Test.YtcdnbdphakhilaaGreatDoorEvB
import Derived.Laws.StructEq
import Derived.ChangeKeysEq
set_option linter.unusedVariables false
set_option linter.unusedSimpArgs false
namespace Go.Proofs.YtcdnbdphakhilaaGreatDoor.Ev
section
variable {P : Program} {T : TypeId → Option TyI} {S : FuncId → CSpec}

theorem objMem_look {nt : Nat} {id off : Nat} {a : AV} : ∀ {cs : List (List AV)} {k : Nat}, look (objMem nt k cs) (id, off) = some a → ∃ j c p q, cs[j]? = some c ∧ id = nt + (k + j) ∧ c = p ++ a :: q ∧ off = widthC p
  | [], k, h => by simp [objMem, look] at h
  | c :: cs, k, h => by
    rcases look_keysAcc h with ⟨p, q, e, hk⟩ | h'
    · simp only [Prod.mk.injEq, Nat.zero_add] at hk
      exact ⟨0, c, p, q, rfl, hk.1, e, hk.2⟩
    · obtain ⟨j, c', p, q, h1, h2, h3⟩ := objMem_look h'
      exact ⟨j + 1, c', p, q, by simpa using h1, by omega, h3⟩

theorem AR_objs {w : World} {R : Nat → Prop} : ∀ {as : List AV} {vs : List Value} {os : List (Nat × List AV)}, AR w R as vs os → objsO as = os.map (·.2)
  | _, _, _, .nil => rfl
  | _, _, _, .val (a := a) (as := as) h hl => by
    have : objsO (a :: as) = objsO as := by
      cases h <;> rfl
    rw [this]; exact AR_objs hl
  | _, _, _, .obj h hl => by simp [objsO, AR_objs hl]

theorem AR_length {w : World} {R : Nat → Prop} : ∀ {as : List AV} {vs : List Value} {os : List (Nat × List AV)}, AR w R as vs os → vs.length = as.length
  | _, _, _, .nil => rfl
  | _, _, _, .val h hl => by simp [AR_length hl]
  | _, _, _, .obj h hl => by simp [AR_length hl]

theorem AR_obj {w : World} {R : Nat → Prop} : ∀ {as : List AV} {vs : List Value} {os : List (Nat × List AV)} {j : Nat} {b : Nat} {l : List AV}, AR w R as vs os → os[j]? = some (b, l) → ObjR w R b l
  | _, _, _, _, _, _, .nil, h => by simp at h
  | _, _, _, j, b, l, .val h hl, hj => AR_obj hl hj
  | _, _, _, 0, b, l, .obj h hl, hj => by
    simp only [List.getElem?_cons_zero, Option.some.injEq, Prod.mk.injEq] at hj
    obtain ⟨rfl, rfl⟩ := hj; exact h
  | _, _, _, j + 1, b, l, .obj h hl, hj => AR_obj hl (by simpa using hj)

/-- The context of a function that is handed objects. -/
def objC (w : World) (R : Nat → Prop) (nt : Nat) (os : List (Nat × List AV)) : Ctx :=
  ⟨w, fun id => (os.getD (id - nt) (0, [])).1, fun id => nt ≤ id ∧ id - nt < os.length, R, fun id => widthC (os.getD (id - nt) (0, [])).2, fun _ => False, fun _ => False, fun _ _ => False, fun _ _ => .bool false⟩
def objE (nt : Nat) (os : List (Nat × List AV)) : Ent := ⟨fun b => b ∈ os.map (·.1), fun id b n => nt ≤ id ∧ ∃ l, os[id - nt]? = some (b, l) ∧ n = widthC l, fun _ _ => False, fun _ _ h => h.elim⟩

theorem base_le (w : World) (R : Nat → Prop) (nt : Nat) (os : List (Nat × List AV)) : (baseC w R).Le (objC w R nt os) := ⟨fun _ h => h.elim, fun b hb => ⟨hb, rfl⟩, fun _ _ h => h.elim⟩

theorem argEnvO_look {w : World} {R : Nat → Prop} {nt : Nat} {os0 : List (Nat × List AV)} : ∀ {as : List AV} {vs : List Value} {os : List (Nat × List AV)} {i k t : Nat} {v : AV}, AR w R as vs os → os0.drop k = os → look (argEnvO nt i k as) t = some v →
    ∃ j u, t = i + j ∧ vs[j]? = some u ∧ VR (objC w R nt os0) v u
  | _, _, _, i, k, t, v, .nil, ho, hl => by simp [argEnvO, look] at hl
  | _, _, _, i, k, t, v, .val (a := a) (v := u0) (as := as) h hrest, ho, hl => by
    have e : argEnvO nt i k (a :: as) = (i, a) :: argEnvO nt (i + 1) k as := by cases h <;> rfl
    rw [e] at hl
    simp only [look] at hl
    cases e : i == t with
    | true =>
      simp only [e, Option.some.injEq] at hl; subst hl
      exact ⟨0, u0, by have : i = t := by simpa using e
                       omega, rfl, h.mono (base_le ..)⟩
    | false =>
      simp only [e] at hl
      obtain ⟨j, u', h1, h2, h3⟩ := argEnvO_look hrest ho hl
      exact ⟨j + 1, u', by omega, by simpa using h2, h3⟩
  | _, _, _, i, k, t, v, .obj (b := b) (l := l) (os := os) h hrest, ho, hl => by
    simp only [argEnvO, look] at hl
    have hk : os0[k]? = some (b, l) := by
      have := congrArg (fun x => x[0]?) ho
      simpa using this
    cases e : i == t with
    | true =>
      simp only [e, Option.some.injEq] at hl; subst hl
      refine ⟨0, _, by have : i = t := by simpa using e
                       omega, rfl, ?_⟩
      have hlt : k < os0.length := by
        rcases Nat.lt_or_ge k os0.length with h | h
        · exact h
        · rw [List.getElem?_eq_none h] at hk; cases hk
      have := VR.ptr (C := objC w R nt os0) (id := nt + k) 0 ⟨by omega, by omega⟩
      have e1 : (objC w R nt os0).ρ (nt + k) = b := by
        show (os0.getD (nt + k - nt) (0, [])).1 = b
        rw [Nat.add_sub_cancel_left, List.getD_eq_getElem?_getD, hk]; rfl
      rw [e1] at this; exact this
    | false =>
      simp only [e] at hl
      have hd : os0.drop (k + 1) = os := by
        have := congrArg List.tail ho
        simpa using this
      obtain ⟨j, u', h1, h2, h3⟩ := argEnvO_look hrest hd hl
      exact ⟨j + 1, u', by omega, by simpa using h2, h3⟩

theorem objIds_mem {nt : Nat} : ∀ {cs : List (List AV)} {k j : Nat} {c : List AV}, cs[j]? = some c → (nt + (k + j), widthC c) ∈ objIds nt k cs
  | [], k, j, c, h => by simp at h
  | d :: cs, k, 0, c, h => by
    simp only [List.getElem?_cons_zero, Option.some.injEq] at h; subst h
    exact List.mem_cons_self ..
  | d :: cs, k, j + 1, c, h => by
    have := objIds_mem (nt := nt) (k := k + 1) (j := j) (c := c) (cs := cs) (by simpa using h)
    rw [show k + 1 + j = k + (j + 1) by omega] at this
    exact List.mem_cons_of_mem _ this

theorem objOut_run [Glob] {w0 : World} {E : Ent} {R0 : Nat → Prop} {nt : Nat} {st : St} {a : Act} {C : Ctx} (inv : CInv w0 E R0 nt st a C) : ∀ {os : List (Nat × List AV)} {k : Nat} {cs : List (List AV)}, objOut st nt k (os.map (·.2)) = some cs → (∀ j b l, os[j]? = some (b, l) → E.K (nt + (k + j)) b (widthC l)) →
    OutR C.w (plusR C) os cs
  | [], k, cs, h, hK => by
    simp only [List.map_nil, objOut, Option.some.injEq] at h; subst h
    exact .nil
  | (b, l) :: os, k, cs, h, hK => by
    simp only [List.map_cons, objOut] at h
    split at h
    · rename_i d r hr hpos hrest
      split at h
      · rename_i hb
        simp only [Option.some.injEq] at h; subst h
        have hpos : 0 < widthC l := Nat.le_of_ble_eq_true hpos
        have hdom : C.dom (nt + k) := by
          cases hd : d with
          | nil =>
            obtain ⟨vs, h1, h2, _⟩ := readC_run inv.sr.mr (Nat.le_refl _) hr
            subst hd; cases h1; simp at h2; omega
          | cons x d' =>
            have := readC_has (p := []) hr hd
            obtain ⟨vs, h1, h2, _⟩ := readC_run inv.sr.mr (Nat.le_refl _) hr
            subst hd
            exact (inv.sr.mr.at_ _ _ _ this (CR_spec h1)).1
        obtain ⟨e1, e2⟩ := inv.sr.keep _ b (widthC l) (hK 0 b l rfl) hdom
        obtain ⟨vs, h1, h2, h3⟩ := readC_run inv.sr.mr (Nat.le_refl _) hr
        have e1 : C.ρ (nt + k) = b := e1
        have e2 : C.sz (nt + k) = widthC l := e2
        refine .cons ⟨?_, ?_, ?_, vs, bare_CR h1 hb (fun b hb => ⟨.inl hb, rfl⟩), by rw [← e1]; exact h3, ?_⟩ (objOut_run inv hrest (fun j b' l' hj => ?_))
        · rw [← e1]; exact inv.sr.own.lt _ (.inl hdom)
        · rw [← e1]
          rintro (hR | ⟨i, hl, e⟩)
          · exact inv.sr.own.apart _ (.inl hdom) hR
          · have := inv.sr.own.inj i _ (.inr hl.1) (.inl hdom) e
            subst this
            exact inv.sr.own.dis _ hdom (inv.sr.own.liv _ hl.1)
        · intro o; rw [← e1]; exact inv.sr.own.unfrozen _ (.inl hdom) o
        · rw [← e1, inv.sr.own.sized _ hdom, e2, h2]
        · have := hK (j + 1) b' l' (by simpa using hj)
          rwa [show k + (j + 1) = k + 1 + j by omega] at this
      · cases h
    · cases h

/-- **A function that is handed objects is what its evaluation says.** -/
theorem callsO_ev [Glob] (hT : TyOk P T) (hS : ∀ f, FnOk P f (S f)) (hm : P.follows .mixedOrders = true) {L : Nat → Live} {N : Nat} {f : FuncId} {fn : Func} (hf : P.funcs[f]? = some fn) (hL : FnLoops T S L N fn) {as : List AV} {res : AV} {outs : List (List AV)}
    (hev : (evFnO T S L N fn as).run = some (res, outs)) {w : World} {R : Nat → Prop} {vs : List Value} {os : List (Nat × List AV)} (hR : ∀ b, R b → b < w.heap.size) (hG : Glob.G w R) (har : AR w R as vs os) (hn : (os.map (·.1)).Nodup) :
    Calls P f vs.toArray w fun e w' => ∃ v, e = .returned v ∧ ∃ R', DoneO w R os ⟨[], .fin res outs⟩ v w' R' := by
  unfold evFnO at hev
  split at hev
  · simp [Tr.run] at hev
  · rename_i c hb
    split at hev
    · simp [Tr.run] at hev
    · rename_i hlen
      have hlen' := Nat.le_of_ble_eq_true hlen
      obtain ⟨⟨e, st⟩, h1, h2⟩ := Tr.run_bind hev
      have hvl := AR_length har
      have hobjs := AR_objs har
      rw [hobjs] at h1 h2
      refine calls_of_wp hf hb ?_
      have nb : ∀ {id : Nat}, (objC w R fn.ntmps os).blk id → fn.ntmps ≤ id ∧ id - fn.ntmps < os.length := fun h => by
        rcases h with h | h
        · exact h
        · exact h.elim
      have nh : ∀ {id : Nat}, (objC w R fn.ntmps os).has id → fn.ntmps ≤ id ∧ id - fn.ntmps < os.length := fun h => by
        rcases h with h | h
        · exact h
        · exact h.elim
      have at_ : ∀ {id : Nat}, fn.ntmps ≤ id ∧ id - fn.ntmps < os.length → ∃ b l, os[id - fn.ntmps]? = some (b, l) ∧ (objC w R fn.ntmps os).ρ id = b ∧ (objC w R fn.ntmps os).sz id = widthC l ∧ ObjR w R b l := by
        intro id hd
        have hj : os[id - fn.ntmps]? = some os[id - fn.ntmps] := List.getElem?_eq_getElem hd.2
        refine ⟨os[id - fn.ntmps].1, os[id - fn.ntmps].2, hj, ?_, ?_, AR_obj har hj⟩
        · show (os.getD (id - fn.ntmps) (0, [])).1 = _
          rw [List.getD_eq_getElem?_getD, hj]; rfl
        · show widthC (os.getD (id - fn.ntmps) (0, [])).2 = _
          rw [List.getD_eq_getElem?_getD, hj]; rfl
      have inv0 : CInv w (objE fn.ntmps os) R fn.ntmps ⟨argEnvO fn.ntmps 0 0 as, objMem fn.ntmps 0 (os.map (·.2)), objIds fn.ntmps 0 (os.map (·.2)), 0⟩ { tmps := vs.toArray ++ Array.replicate (fn.ntmps - vs.toArray.size) undef, defers := [] } (objC w R fn.ntmps os) := by
        refine ⟨by simp; omega, rfl, ?_, ⟨⟨?_, ?_, ?_⟩, ⟨?_, ?_, ?_, ?_, hR, ?_, fun _ _ h => h, fun _ h => h.elim, fun _ h => h.elim, fun _ _ h => h.elim⟩, .refl w _, ?_, ⟨fun _ h => h, fun _ h => .inl h⟩, ?_, hG, fun _ h => h.elim⟩, fun id b n h => h.1, ?_⟩
        · intro t v hv
          obtain ⟨j, u, e1, e2, e3⟩ := argEnvO_look (os0 := os) har rfl hv
          have hj := lt_of_getElem? e2
          have : t = j := by omega
          subst this
          rw [Array.getD_eq_getD_getElem?, Array.getElem?_append_left (by simpa using hj)]
          simp only [List.getElem?_toArray, e2, Option.getD_some]
          exact e3
        · intro id off a ha hsa
          obtain ⟨j, c', p, q, k1, k2, k3, k4⟩ := objMem_look ha
          rw [List.getElem?_map] at k1
          obtain ⟨⟨b, l⟩, k5, k6⟩ := Option.map_eq_some_iff.1 k1
          simp only at k6; subst k6
          have hj : j < os.length := by
            rcases Nat.lt_or_ge j os.length with h | h
            · exact h
            · rw [List.getElem?_eq_none h] at k5; cases k5
          have hd : (objC w R fn.ntmps os).dom id := ⟨by omega, by omega⟩
          refine ⟨hd, ?_⟩
          obtain ⟨b', l', m1, m2, m3, m4⟩ := at_ hd
          rw [show id - fn.ntmps = j by omega, k5] at m1
          simp only [Option.some.injEq, Prod.mk.injEq] at m1
          obtain ⟨rfl, rfl⟩ := m1
          obtain ⟨us, u1, u2, u3⟩ := m4.cells
          rw [k3] at u1
          obtain ⟨v1, v2, rfl, n1, n2⟩ := CR_split u1
          obtain ⟨v3, v4, rfl, n3, n4, n5, n6⟩ := CR_uncons n2
          refine ⟨v3, n3.mono (base_le ..), ?_⟩
          rw [m2, k4]
          intro i u hi
          have hil := lt_of_getElem? hi
          have := u2 (v1.length + i) u (by rw [List.getElem?_append_right (by omega), List.getElem?_append_left (by omega)]; simpa using hi)
          rw [CR_length n1, Nat.zero_add] at this
          exact this
        · intro id off a ha hsa
          obtain ⟨j, c', p, q, k1, k2, k3, k4⟩ := objMem_look ha
          rw [List.getElem?_map] at k1
          obtain ⟨⟨b, l⟩, k5, k6⟩ := Option.map_eq_some_iff.1 k1
          simp only at k6; subst k6
          have hj : j < os.length := by
            rcases Nat.lt_or_ge j os.length with h | h
            · exact h
            · rw [List.getElem?_eq_none h] at k5; cases k5
          have hd : (objC w R fn.ntmps os).dom id := ⟨by omega, by omega⟩
          obtain ⟨b', l', m1, m2, m3, m4⟩ := at_ hd
          rw [show id - fn.ntmps = j by omega, k5] at m1
          simp only [Option.some.injEq, Prod.mk.injEq] at m1
          obtain ⟨rfl, rfl⟩ := m1
          obtain ⟨us, u1, u2, u3⟩ := m4.cells
          rw [k3] at u1
          obtain ⟨v1, v2, rfl, n1, n2⟩ := CR_split u1
          obtain ⟨v3, v4, rfl, n3, n4, n5, n6⟩ := CR_uncons n2
          rw [CR_spec n2] at hsa; cases hsa
        · intro id o1 o2 a1 a2 g1 g2 hlt
          obtain ⟨j1, c1, p1, q1, k1, k2, k3, k4⟩ := objMem_look g1
          obtain ⟨j2, c2, p2, q2, m1, m2, m3, m4⟩ := objMem_look g2
          have : j1 = j2 := by omega
          subst this
          rw [k1] at m1
          simp only [Option.some.injEq] at m1; subst m1
          rw [k4, m4] at hlt ⊢
          exact split_apart (k3.symm.trans m3) hlt
        · intro id hd; obtain ⟨b, l, m1, m2, m3, m4⟩ := at_ (nb hd); rw [m2]; exact m4.lt
        · intro id hd o; obtain ⟨b, l, m1, m2, m3, m4⟩ := at_ (nb hd); rw [m2]; exact m4.unfrozen o
        · intro id hd; obtain ⟨b, l, m1, m2, m3, m4⟩ := at_ (nb hd); rw [m2]; exact m4.apart
        · intro x y hx hy hxy
          replace hx := nb hx
          replace hy := nb hy
          obtain ⟨b, l, m1, m2, m3, m4⟩ := at_ hx
          obtain ⟨b', l', n1, n2, n3, n4⟩ := at_ hy
          rw [m2, n2] at hxy
          subst hxy
          have hx1 : (os.map (·.1))[x - fn.ntmps]? = some b := by rw [List.getElem?_map, m1]; rfl
          have hy1 : (os.map (·.1))[y - fn.ntmps]? = some b := by rw [List.getElem?_map, n1]; rfl
          have := (List.getElem?_inj (i := x - fn.ntmps) (j := y - fn.ntmps) (by simpa using hx.2) hn).1 (hx1.trans hy1.symm)
          have := hx.1; have := hy.1
          omega
        · intro id hd; obtain ⟨b, l, m1, m2, m3, m4⟩ := at_ hd
          rw [m2, m3]
          obtain ⟨us, u1, u2, u3⟩ := m4.cells
          show objSize w b = _
          rw [u3, CR_length u1]
        · intro id hd; obtain ⟨b, l, m1, m2, m3, m4⟩ := at_ (nb hd)
          right; rw [m2]
          exact List.mem_map.2 ⟨(b, l), List.mem_of_getElem? m1, rfl⟩
        · rintro id b n ⟨h1, l, h2, rfl⟩ hd
          obtain ⟨b', l', m1, m2, m3, m4⟩ := at_ hd
          rw [h2] at m1
          simp only [Option.some.injEq, Prod.mk.injEq] at m1
          obtain ⟨rfl, rfl⟩ := m1
          exact ⟨m2, m3⟩
        · intro id hd; replace hd := nh hd; obtain ⟨b, l, m1, m2, m3, m4⟩ := at_ hd
          rw [m3]
          have := objIds_mem (nt := fn.ntmps) (k := 0) (j := id - fn.ntmps) (c := l) (cs := os.map (·.2)) (by rw [List.getElem?_map, m1]; rfl)
          have h := hd.1
          rwa [show fn.ntmps + (0 + (id - fn.ntmps)) = id by omega] at this
      refine evCode_wp hT hS hm c (hL c hb) _ e st _ _ (objC w R fn.ntmps os) h1 inv0 ?_
      intro a' C' inv
      have hfin : ∀ {vs' : List AV} {cs : List (List AV)}, allRes T st fn.results.toList = some vs' → objOut st fn.ntmps 0 (os.map (·.2)) = some cs → (resAV vs', cs) = (res, outs) → a'.defers = [] ∧ ∃ v, (results fn a'.tmps).run P C'.w = .ok v C'.w ∧ ∃ v', Ending.returned v = .returned v' ∧ ∃ R', DoneO w R os ⟨[], .fin res outs⟩ v' C'.w R' := by
        intro vs' cs hr ho he
        simp only [Prod.mk.injEq] at he
        obtain ⟨e1, rfl⟩ := he
        obtain ⟨u, k1, k2⟩ := results_run (P := P) hT inv hr
        subst e1
        have hout := objOut_run inv ho (fun j b l hj => ⟨by omega, l, by rw [show fn.ntmps + (0 + j) - fn.ntmps = j by omega]; exact hj, rfl⟩)
        refine ⟨inv.defers, u, k1, u, rfl, plusR C', fun b hb => .inl (inv.sr.rr.1 b hb), (by
          rintro b (hb | ⟨i, hl, rfl⟩)
          · exact inv.sr.rr.2 b hb
          · exact .inr (inv.sr.rnew hl.1 hl.2)), (by
          rintro b (hb | ⟨i, hl, rfl⟩)
          · exact inv.sr.own.R_lt b hb
          · exact inv.sr.own.lt i (.inr hl.1)), inv.sr.fr, k2, hout, ?_⟩
        intro b hb
        by_cases hE : b ∈ os.map (·.1)
        · obtain ⟨⟨b', l⟩, hm, rfl⟩ := List.mem_map.1 hE
          obtain ⟨j, hj, hjx⟩ := List.mem_iff_getElem.1 hm
          have hj' : os[j]? = some (b', l) := by rw [List.getElem?_eq_getElem hj, hjx]
          obtain ⟨us, u1, u2, u3⟩ := (AR_obj har hj').cells
          have hco : ∃ c, cs[j]? = some c ∧ widthC c = widthC l := by
            have : ∀ {xs : List (Nat × List AV)} {k : Nat} {ds : List (List AV)} {i : Nat} {b l}, objOut st fn.ntmps k (xs.map (·.2)) = some ds → xs[i]? = some (b, l) → ∃ c, ds[i]? = some c ∧ widthC c = widthC l := by
              intro xs
              induction xs with
              | nil => intro k ds i b l h h'; simp at h'
              | cons x xs ih =>
                intro k ds i b l h h'
                simp only [List.map_cons, objOut] at h
                split at h
                · rename_i d r hr' _ hrest
                  split at h
                  · simp only [Option.some.injEq] at h; subst h
                    cases i with
                    | zero =>
                      simp only [List.getElem?_cons_zero, Option.some.injEq] at h'; subst h'
                      obtain ⟨ws, w1, w2, _⟩ := readC_run inv.sr.mr (Nat.le_refl _) hr'
                      exact ⟨d, rfl, by rw [← CR_length w1, w2]⟩
                    | succ i => simpa using ih hrest (by simpa using h')
                  · cases h
                · cases h
            exact this ho hj'
          obtain ⟨c, hc1, hc2⟩ := hco
          obtain ⟨ws, w1, w2, w3⟩ := (OutR_at (l := l) hout hj' hc1).cells
          rw [w3, u3, CR_length w1, CR_length u1, hc2]
        · exact objSize_of (inv.sr.fr.block b hb hE)
      cases e with
      | exit id => simp [Tr.run] at h2
      | normal =>
        simp only at h2
        split at h2
        · rename_i vs' cs hr ho
          simp only [Tr.run, Option.some.injEq] at h2
          exact hfin hr ho h2
        · simp [Tr.run] at h2
      | ret =>
        simp only at h2
        split at h2
        · rename_i vs' cs hr ho
          simp only [Tr.run, Option.some.injEq] at h2
          exact hfin hr ho h2
        · simp [Tr.run] at h2

theorem FnOk.ofO [Glob] (hT : TyOk P T) (hS : ∀ f, FnOk P f (S f)) (hm : P.follows .mixedOrders = true) {L : Nat → Live} {f : FuncId} {fn : Func} (hf : P.funcs[f]? = some fn) (hname : (fn.name == "runtime.NumGoroutine") = false) (hbody : fn.body.isNone = false) {s : CSpec}
    (h : ∀ as r, s as = some r → (∀ c ∈ r.pre, c = true) → ∀ w R vs os, AR w R as vs os → ∃ N, FnLoops T S L N fn ∧ (evFnO T S L N fn as).run = some (r.val, r.outs)) (hlt : f < offO := by decide) : FnOk P (1000000 + f) s := by
  refine ⟨fun h' => absurd h' (Nat.not_lt.2 (Nat.le_add_right _ _)), fun _ => ⟨fun _ => ?_, fun h' => absurd h' (Nat.not_le.2 (Nat.add_lt_add_left hlt 1000000))⟩⟩
  rw [show 1000000 + f - offO = f from Nat.add_sub_cancel_left ..]
  intro as r hs hp w R vs os hR hG har hn
  right
  obtain ⟨N, hL, hN⟩ := h as r hs hp w R vs os har
  refine ⟨?_, (callsO_ev hT hS hm hf hL hN hR hG har hn).mono ?_⟩
  · have hn : ¬ fn.name = "runtime.NumGoroutine" := by simpa using hname
    have hb : ¬ fn.body = Option.none := by intro e; rw [e] at hbody; simp at hbody
    simp [callFunc, hf, hn, hb]
  · rintro e w' ⟨v, rfl, R', hd⟩
    exact ⟨v, rfl, R', hd.more, hd.new, hd.lt, hd.fr, hd.res, hd.outs, hd.size⟩
/-- **A function that hands back a new object is what its evaluation says.** -/
theorem callsP_ev [Glob] (hT : TyOk P T) (hS : ∀ f, FnOk P f (S f)) (hm : P.follows .mixedOrders = true) {L : Nat → Live} {N : Nat} {f : FuncId} {fn : Func} (hf : P.funcs[f]? = some fn) (hL : FnLoops T S L N fn) {as : List AV} {res : AV}
    (hev : (evFnP T S L N fn as).run = some res) {w : World} {R : Nat → Prop} {vs : List Value} (hR : ∀ b, R b → b < w.heap.size) (hG : Glob.G w R) (hvs : TR (baseC w R) as vs) :
    ∃ l, res = .obj l ∧ Calls P f vs.toArray w fun e w' => ∃ v, e = .returned v ∧ ∃ R', DoneP w R l v w' R' := by
  unfold evFnP at hev
  split at hev
  · rename_i c t hb hres
    split at hev
    · simp [Tr.run] at hev
    · rename_i hlen
      have hlen' := Nat.le_of_ble_eq_true hlen
      obtain ⟨⟨e, st⟩, h1, h2⟩ := Tr.run_bind hev
      have hvl := TR_length hvs
      have inv0 : CInv w Ent.no R fn.ntmps ⟨argEnv 0 as, [], [], 0⟩ { tmps := vs.toArray ++ Array.replicate (fn.ntmps - vs.toArray.size) undef, defers := [] } (baseC w R) := by
        refine ⟨by simp; omega, rfl, ?_, ⟨⟨fun id off a h => by simp [look] at h, fun id off a h => by simp [look] at h, fun id o1 o2 a1 a2 h => by simp [look] at h⟩, ⟨fun _ h => (no_blk h).elim, fun _ h => (no_blk h).elim, fun _ h => (no_blk h).elim, fun _ _ h => (no_blk h).elim, hR, fun _ h => h.elim, fun _ h => h.elim, fun _ h => h.elim, fun _ h => h.elim, fun _ _ h => h.elim⟩, .refl w _, fun _ h => (no_blk h).elim, ⟨fun _ h => h, fun _ h => .inl h⟩, fun _ _ _ h => h.elim, hG, fun _ h => h.elim⟩, (fun _ _ _ h => h.elim), fun _ h => (no_has h).elim⟩
        intro t v hv
        obtain ⟨j, u, e1, e2, e3⟩ := argEnv_look hvs hv
        have hj := lt_of_getElem? e2
        have : t = j := by omega
        subst this
        rw [Array.getD_eq_getD_getElem?, Array.getElem?_append_left (by simpa using hj)]
        simp only [List.getElem?_toArray, e2, Option.getD_some]
        exact e3
      have key : ∃ id n l, look st.env t = some (.ptr id 0) ∧ st.ids.all (fun x => !(x.1 == id) || x.2 == n) = true ∧ readC (look st.mem) id n 0 n = some l ∧ l.all bare1 = true ∧ res = .obj l ∧ ∀ x, e ≠ .exit x := by
        have main : ∀ {X : Option AV}, look st.env t = X → (match X with
            | some (.ptr id off) => match off, sizeIn st.ids id with
              | 0, some n => match st.ids.all (fun x => !(x.1 == id) || x.2 == n), readC (look st.mem) id n 0 n with
                | true, some l => match l.all bare1 with
                  | true => Tr.leaf (AV.obj l)
                  | false => .fail
                | _, _ => .fail
              | _, _ => .fail
            | _ => .fail).run = some res → ∃ id n l, look st.env t = some (.ptr id 0) ∧ st.ids.all (fun x => !(x.1 == id) || x.2 == n) = true ∧ readC (look st.mem) id n 0 n = some l ∧ l.all bare1 = true ∧ res = .obj l := by
          intro X hX h
          split at h
          · rename_i id off
            split at h
            · rename_i n hz
              split at h
              · rename_i l ha hr
                split at h
                · rename_i hbl
                  simp only [Tr.run, Option.some.injEq] at h
                  exact ⟨id, n, l, hX, ha, hr, hbl, h.symm⟩
                · simp [Tr.run] at h
              · simp [Tr.run] at h
            · simp [Tr.run] at h
          · simp [Tr.run] at h
        cases e with
        | exit x => simp [Tr.run] at h2
        | normal =>
          obtain ⟨id, n, l, k1, k2, k3, k4, k5⟩ := main rfl h2
          exact ⟨id, n, l, k1, k2, k3, k4, k5, fun x => by simp⟩
        | ret =>
          obtain ⟨id, n, l, k1, k2, k3, k4, k5⟩ := main rfl h2
          exact ⟨id, n, l, k1, k2, k3, k4, k5, fun x => by simp⟩
      obtain ⟨id, n, l, k1, k2, k3, k4, k5, k6⟩ := key
      refine ⟨l, k5, ?_⟩
      refine calls_of_wp hf hb ?_
      refine evCode_wp hT hS hm c (hL c hb) _ e st _ _ (baseC w R) h1 inv0 ?_
      intro a' C' inv
      have hfin : a'.defers = [] ∧ ∃ v, (results fn a'.tmps).run P C'.w = .ok v C'.w ∧ ∃ v', Ending.returned v = .returned v' ∧ ∃ R', DoneP w R l v' C'.w R' := by
        have hv := inv.env t _ k1
        generalize hX : a'.tmps.getD t undef = X at hv
        have hrun : (results fn a'.tmps).run P C'.w = .ok X C'.w := by
          rw [results_eq, Array.mapM_eq_mapM_toList, hres]
          subst hX
          rfl
        cases hv with
        | ptr _ hd =>
          refine ⟨inv.defers, _, hrun, _, rfl, C'.R, inv.sr.rr.1, inv.sr.rr.2, inv.sr.own.R_lt, inv.sr.fr, C'.ρ id, rfl, ?_, ?_⟩
          · exact (inv.sr.mine id (.inl hd)).resolve_right (fun h => h)
          · obtain ⟨us, u1, u2, u3⟩ := readC_run inv.sr.mr (Nat.le_refl _) k3
            refine ⟨inv.sr.own.lt id (.inl hd), inv.sr.own.apart id (.inl hd), inv.sr.own.unfrozen id (.inl hd), us, bare_CR u1 k4 (fun b hb => ⟨hb, rfl⟩), u3, ?_⟩
            rw [inv.sr.own.sized id hd, entry_eq k2 (inv.ids id (.inl hd)), u2]
      cases e with
      | exit x => exact absurd rfl (k6 x)
      | normal => exact hfin
      | ret => exact hfin
  · simp [Tr.run] at hev

theorem FnOk.ofP [Glob] (hT : TyOk P T) (hS : ∀ f, FnOk P f (S f)) (hm : P.follows .mixedOrders = true) {L : Nat → Live} {f : FuncId} {fn : Func} (hf : P.funcs[f]? = some fn) (hname : (fn.name == "runtime.NumGoroutine") = false) (hbody : fn.body.isNone = false) {s : CSpec}
    (h : ∀ as r, s as = some r → (∀ c ∈ r.pre, c = true) → ∀ w R vs, TR (baseC w R) as vs → ∃ N, FnLoops T S L N fn ∧ (evFnP T S L N fn as).run = some r.res) (hlt : f < offO := by decide) : FnOk P (2000000 + f) s := by
  refine ⟨fun h' => absurd h' (Nat.not_lt.2 (Nat.le_trans (by decide) (Nat.le_add_right 2000000 f))), fun _ => ⟨fun h' => absurd h' (Nat.not_lt.2 (Nat.le_add_right _ _)), fun _ => ⟨fun _ => ?_, fun h' => absurd h' (Nat.not_le.2 (Nat.add_lt_add_left hlt 2000000))⟩⟩⟩
  rw [show 2000000 + f - offP = f from Nat.add_sub_cancel_left ..]
  intro as r hs hp w R vs hR hG hvs
  obtain ⟨N, hL, hN⟩ := h as r hs hp w R vs hvs
  obtain ⟨l, hl, hc⟩ := callsP_ev hT hS hm hf hL hN hR hG hvs
  refine ⟨l, hl, .inr ⟨?_, hc⟩⟩
  have hn : ¬ fn.name = "runtime.NumGoroutine" := by simpa using hname
  have hb : ¬ fn.body = Option.none := by intro e; rw [e] at hbody; simp at hbody
  simp [callFunc, hf, hn, hb]
end
end Go.Proofs.YtcdnbdphakhilaaGreatDoor.Ev
namespace Go.Proofs.YtcdnbdphakhilaaGreatDoor.Ev
section
variable {P : Program} {T : TypeId → Option TyI} {S : FuncId → CSpec}

theorem renumM_row {M : Key → Option AV} {u : AV} {e t : Nat} {xs : List (Dat t)} {v : Nat} (h : renumM M u = .row e t xs v) : v = 0 := by
  cases u with
  | row => simp only [renumM, AV.row.injEq] at h; exact h.2.2.2.symm
  | gs i w =>
    simp only [renumM, renum1] at h
    split at h
    · split at h <;> cases h
    · cases h
  | _ => simp only [renumM, renum1] at h; cases h
theorem fragOut_spec {C : Ctx} {M : Key → Option AV} (hM : MR C M) (hv : ∀ i e t (xs : List (Dat t)) v, M (i, 0) = some (.row e t xs v) → v = 0) : ∀ {fr : List AV} {k0 : Nat} {outs : List (List AV)}, fragOut M k0 fr = some outs → ∀ k,
    (∀ l, fr[k]? = some (.obj l) → ∃ c us, outs[k]? = some c ∧ C.dom (k0 + k) ∧ CR C c us ∧ us.length = widthC l ∧ cellsAt C.w (C.ρ (k0 + k)) 0 us) ∧
    (∀ (e t : Nat) (xs : List (Dat t)) (w : Nat), fr[k]? = some (.row e t xs w) → ∃ ys : List (Dat t), outs[k]? = some [.row e t ys 0] ∧ RowR C (k0 + k) e t ys 0)
  | [], k0, outs, h, k => ⟨fun l hl => by simp at hl, fun e t xs w hl => by simp at hl⟩
  | a :: r, k0, outs, h, k => by
    cases a with
    | obj l =>
      simp only [fragOut] at h
      split at h
      · rename_i d o h1 h2
        split at h
        · rename_i hw
          simp only [Option.some.injEq] at h; subst h
          simp only [Bool.and_eq_true] at hw
          have hpos : 0 < widthC l := Nat.le_of_ble_eq_true hw.2
          cases k with
          | zero =>
            refine ⟨fun l' hl => ?_, fun e t xs w hl => by simp at hl⟩
            simp only [List.getElem?_cons_zero, Option.some.injEq, AV.obj.injEq] at hl
            subst hl
            obtain ⟨us, u1, u2, u3⟩ := readC_run hM (Nat.le_refl _) h1
            refine ⟨d, us, rfl, ?_, u1, u2, u3⟩
            obtain ⟨n, hn⟩ : ∃ n, widthC l = n + 1 := ⟨widthC l - 1, by omega⟩
            rw [hn] at h1
            simp only [readC] at h1
            split at h1
            · rename_i x hx
              split at h1
              · rename_i hb
                simp only [Bool.and_eq_true, Bool.not_eq_true'] at hb
                exact (hM.at_ _ _ x hx hb.2).1
              · cases h1
            · cases h1
          | succ k =>
            have := fragOut_spec hM hv h2 k
            simp only [List.getElem?_cons_succ]
            rwa [show k0 + (k + 1) = k0 + 1 + k by omega]
        · cases h
      · cases h
    | row e t xs w =>
      simp only [fragOut] at h
      split at h
      · rename_i e' t' ys v o h1 h2
        split at h
        · rename_i he
          simp only [Option.some.injEq] at h; subst h
          simp only [Bool.and_eq_true, beq_iff_eq] at he
          obtain ⟨rfl, rfl⟩ := he
          cases k with
          | zero =>
            refine ⟨fun l' hl => by simp at hl, fun e t xs w hl => ?_⟩
            simp only [List.getElem?_cons_zero, Option.some.injEq, AV.row.injEq] at hl
            obtain ⟨rfl, rfl, _, _⟩ := hl
            obtain rfl := hv _ _ _ _ _ h1
            exact ⟨ys, rfl, (hM.sp _ _ _ h1 rfl).2⟩
          | succ k =>
            have := fragOut_spec hM hv h2 k
            simp only [List.getElem?_cons_succ]
            rwa [show k0 + (k + 1) = k0 + 1 + k by omega]
        · cases h
      · cases h
    | _ => simp [fragOut] at h

/-- **A function that is handed objects and rows is what its evaluation says.** -/
theorem callsM_ev [Glob] (hT : TyOk P T) (hS : ∀ f, FnOk P f (S f)) (hm : P.follows .mixedOrders = true) {L : Nat → Live} {N : Nat} {f : FuncId} {fn : Func} (hf : P.funcs[f]? = some fn) (hL : FnLoops T S L N fn) {as fr : List AV} {res : AV} {outs : List (List AV)}
    (hev : (evFnM T S L N fn as fr).run = some (res, outs)) {C : Ctx} {h : ∀ i, C.has i → big ≤ i} {vs : List Value} (ent : EntM C fr h) (hvs : TR C as vs) :
    Calls P f vs.toArray C.w fun e w' => ∃ v, e = .returned v ∧ ∃ C', C'.w = w' ∧ DoneM C h fr res outs v C' := by
  unfold evFnM at hev
  split at hev
  · simp [Tr.run] at hev
  · rename_i c hb
    split at hev
    · simp [Tr.run] at hev
    · rename_i hlen
      simp only [Bool.and_eq_true] at hlen
      have hlen' := Nat.le_of_ble_eq_true hlen.1
      have hbig := Nat.le_of_ble_eq_true hlen.2
      obtain ⟨⟨e, st⟩, h1, h2⟩ := Tr.run_bind hev
      have hvl := TR_length hvs
      refine calls_of_wp hf hb ?_
      have inv0 : CInv C.w (entE C h) C.R fn.ntmps ⟨argEnv 0 as, fragMem big fr, fragIds big fr, 0⟩ { tmps := vs.toArray ++ Array.replicate (fn.ntmps - vs.toArray.size) undef, defers := [] } C := by
        refine ⟨by simp; omega, rfl, ?_, ent.sr, fun id b n hk => Nat.le_trans hbig (h id (.inl hk.1)), ent.ids⟩
        intro t v hv
        obtain ⟨j, u, e1, e2, e3⟩ := argEnv_look hvs hv
        have hj := lt_of_getElem? e2
        have : t = j := by omega
        subst this
        rw [Array.getD_eq_getD_getElem?, Array.getElem?_append_left (by simpa using hj)]
        simp only [List.getElem?_toArray, e2, Option.getD_some]
        exact e3
      refine evCode_wp hT hS hm c (hL c hb) _ e st _ _ C h1 inv0 ?_
      intro a' C2 inv
      have inv2 := forget_inv (L := ⟨[], fragLive big fr, (fragIds big fr).map (·.1), none⟩) inv
      have hfin : ∀ {vs' cs}, allRes T st fn.results.toList = some vs' → fragOut (look (pickM ((fragIds big fr).map (·.1)) (look st.mem) st.mem (fragLive big fr))) big fr = some cs → resAV vs' = res ∧ cs = outs →
          a'.defers = [] ∧ ∃ v, (results fn a'.tmps).run P C2.w = .ok v C2.w ∧ ∃ v', Ending.returned v = .returned v' ∧ ∃ C', C'.w = C2.w ∧ DoneM C h fr res outs v' C' := by
        rintro vs' cs hr ho ⟨he, rfl⟩
        obtain ⟨u, k1, k2⟩ := results_run (P := P) hT inv hr
        subst he
        generalize hC1 : C2.only (look st.mem) ((fragIds big fr).map (·.1)) = C1 at inv2
        have hw1 : C1.w = C2.w := by rw [← hC1]; rfl
        have hR1 : C1.R = C2.R := by rw [← hC1]; rfl
        have hblk : ∀ i, C1.blk i → C2.blk i ∧ big ≤ i → C1.ρ i = C2.ρ i := fun i _ _ => by rw [← hC1]; rfl
        have hρ : C1.ρ = C2.ρ := by rw [← hC1]; rfl
        have hb1 : ∀ i, C1.blk i → C2.blk i := fun i hi => by rw [← hC1] at hi; exact only_blk hi
        have hlow : ∀ i, i ∈ (fragIds big fr).map (·.1) → big ≤ i := by
          intro i hi
          obtain ⟨x, hx, rfl⟩ := List.mem_map.1 hi
          have : ∀ (fr : List AV) (k : Nat), x ∈ fragIds k fr → k ≤ x.1 := by
            intro fr
            induction fr with
            | nil => intro k hx; cases hx
            | cons a r ih =>
              intro k hx
              have key : x = (k, x.2) ∨ x ∈ fragIds (k + 1) r := by
                cases a <;> (simp only [fragIds, List.mem_cons] at hx; rcases hx with rfl | hx; exact .inl rfl; exact .inr hx)
              rcases key with e | hx
              · rw [e]; exact Nat.le_refl _
              · exact Nat.le_trans (Nat.le_succ _) (ih _ hx)
          exact this fr big hx
        have hbg : ∀ i, C1.blk i → big ≤ i := fun i hi => by
          rw [← hC1] at hi
          rcases hi with hi | hi
          · exact hlow i hi.2
          · exact hlow i hi.2
        let C' : Ctx := { C1 with R := plusR C2 }
        have hle : C1.Le C' := ⟨fun _ h => ⟨h, rfl⟩, fun b hb => ⟨.inl (hR1 ▸ hb), rfl⟩, fun _ _ h => ⟨h, rfl⟩⟩
        have hap : ∀ i, C1.blk i → ¬ plusR C2 (C1.ρ i) := by
          rintro i hi (hb | ⟨j, ⟨hl, hlt⟩, e⟩)
          · exact inv.sr.own.apart i (hb1 i hi) (hρ ▸ hb)
          · have := inv.sr.own.inj j i (.inr hl) (hb1 i hi) (hρ ▸ e)
            subst this
            exact absurd (hbg _ hi) (Nat.not_le.2 hlt)
        have hsr : SR C.w (entE C h) C.R (look (pickM ((fragIds big fr).map (·.1)) (look st.mem) st.mem (fragLive big fr))) C' := by
          have k := inv2.sr
          refine ⟨⟨fun id off x hx hs => ?_, fun id off x hx hs => ?_, k.mr.apart⟩, ⟨k.own.lt, k.own.unfrozen, hap, k.own.inj, ?_, k.own.sized, k.own.dis, k.own.liv, k.own.rsz, k.own.hokr⟩, k.fr, k.mine, ⟨fun b hb => .inl (inv.sr.rr.1 b hb), ?_⟩, k.keep, ?_, k.rown⟩
          · obtain ⟨m1, us, m2, m3⟩ := k.mr.at_ id off x hx hs
            exact ⟨m1, us, m2.mono hle, m3⟩
          · exact (k.mr.sp id off x hx hs).congr ⟨.rfl, .rfl, .rfl, fun _ => rfl, fun _ => .rfl, fun _ _ => rfl, fun _ => rfl⟩ hle.R
          · rintro b (hb | ⟨i, hl, rfl⟩)
            · show b < C1.w.heap.size
              rw [hw1]; exact inv.sr.own.R_lt b hb
            · show C2.ρ i < C1.w.heap.size
              rw [hw1]; exact inv.sr.own.lt i (.inr hl.1)
          · rintro b (hb | ⟨i, hl, rfl⟩)
            · exact inv.sr.rr.2 b hb
            · exact .inr (inv.sr.rnew hl.1 hl.2)
          · exact Glob.mono k.gl hle.R
        refine ⟨inv.defers, u, k1, u, rfl, C', hw1, ⟨_, hsr⟩, ?_, ?_, ?_, ?_⟩
        · intro i v hv
          have hv : C1.hok i v := hv
          rw [← hC1] at hv
          exact hv.1
        · intro _
          show VR (baseC C1.w (plusR C2)) _ _
          rw [hw1]; exact k2
        · intro k l hl
          exact (fragOut_spec hsr.mr (fun i e t xs v hx => by
            obtain ⟨u, hu, _⟩ := pickM_look hx
            exact renumM_row hu.symm) ho k).1 l hl
        · intro k e t xs w hl
          exact (fragOut_spec hsr.mr (fun i e t xs v hx => by
            obtain ⟨u, hu, _⟩ := pickM_look hx
            exact renumM_row hu.symm) ho k).2 e t xs w hl
      have fin : (match allRes T st fn.results.toList, fragOut (look (pickM (List.map (fun x : Nat × Nat => x.1) (fragIds big fr)) (look st.mem) st.mem (fragLive big fr))) big fr with
          | some vs, some cs => Tr.leaf (resAV vs, cs)
          | _, _ => .fail).run = some (res, outs) → a'.defers = [] ∧ ∃ v, (results fn a'.tmps).run P C2.w = .ok v C2.w ∧ ∃ v', Ending.returned v = .returned v' ∧ ∃ C', C'.w = C2.w ∧ DoneM C h fr res outs v' C' := by
        intro h2
        split at h2
        · rename_i vs' cs hr ho
          simp only [Tr.run, Option.some.injEq, Prod.mk.injEq] at h2
          exact hfin hr ho h2
        · cases h2
      cases e with
      | exit id => simp [Tr.run] at h2
      | normal => exact fin h2
      | ret => exact fin h2

theorem FnOk.ofM [Glob] (hT : TyOk P T) (hS : ∀ f, FnOk P f (S f)) (hm : P.follows .mixedOrders = true) {L : Nat → Live} {f : FuncId} {fn : Func} (hf : P.funcs[f]? = some fn) (hname : (fn.name == "runtime.NumGoroutine") = false) (hbody : fn.body.isNone = false) {s : CSpec}
    (h : ∀ as fr r, s (as ++ fr) = some r → as.all (fun a => !isFrag a) = true → fr.all isFrag = true → (∀ c ∈ r.pre, c = true) → ∀ C vs, TR C as vs → ∃ N, FnLoops T S L N fn ∧ (evFnM T S L N fn as fr).run = some (r.val, r.outs)) : FnOk P (3000000 + f) (mSpec s) := by
  refine ⟨fun h' => absurd h' (Nat.not_lt.2 (Nat.le_trans (by decide) (Nat.le_add_right 3000000 f))), fun _ => ⟨fun h' => absurd h' (Nat.not_lt.2 (Nat.le_trans (by decide) (Nat.le_add_right 3000000 f))), fun _ => ⟨fun h' => absurd h' (Nat.not_lt.2 (Nat.le_add_right _ _)), fun _ => ?_⟩⟩⟩
  rw [show 3000000 + f - offM = f from Nat.add_sub_cancel_left ..]
  intro as fr r hs ha hfr hp C hb vs ent hvs
  have hs : s (as ++ fr) = some r := by
    unfold mSpec at hs
    split at hs
    · rename_i e
      exfalso
      cases as with
      | nil =>
        rw [List.nil_append] at e
        rw [e] at hfr
        cases hfr
      | cons a l =>
        simp only [List.cons_append, List.cons.injEq] at e
        rw [e.1] at hvs
        cases hvs with
        | cons h _ => cases h
    · exact hs
  right
  obtain ⟨N, hL, hN⟩ := h as fr r hs ha hfr hp C vs hvs
  refine ⟨?_, callsM_ev hT hS hm hf hL hN ent hvs⟩
  have hn : ¬ fn.name = "runtime.NumGoroutine" := by simpa using hname
  have hb : ¬ fn.body = Option.none := by intro e; rw [e] at hbody; simp at hbody
  simp [callFunc, hf, hn, hb]
end
end Go.Proofs.YtcdnbdphakhilaaGreatDoor.Ev
namespace Go.Proofs.YtcdnbdphakhilaaGreatDoor.Ev
/- '==' of structs and arrays. -/
section
variable {P : Program}
def valOf (a : Bool) (X : List Value) : Value := match a with
  | true => .agg X.toArray
  | false => X.headD undef

mutual
inductive EqT (P : Program) : TypeId → List AV → Nat → Bool → Prop
  | i {t : TypeId} {k : IntKind} (hk : isU k = none) (hu : P.underlying t = some (.int k)) : EqT P t [.i k 0] 1 false
  | u {t : TypeId} {k : IntKind} {w : Nat} (hk : isU k = some w) (hu : P.underlying t = some (.int k)) : EqT P t [.u w 0#w] 1 false
  | b {t : TypeId} (hu : P.underlying t = some .bool) : EqT P t [.b false] 1 false
  | str {t : TypeId} (hu : P.underlying t = some .string) : EqT P t [.str []] 1 false
  | ar {t e : TypeId} {n : Nat} {z : AV} (hu : P.underlying t = some (.array n e)) (he : EqT P e [z] 1 false) (hs : (P.info? e).map (·.size) = some 1) : EqT P t [.ar n fun _ => z] 2 true
  | st {t : TypeId} {Fs : Array Field} {zs : List AV} {d : Nat} (hu : P.underlying t = some (.struct Fs)) (hh : P.stoodInHeld t = false) (hf : EqTs P Fs.toList 0 zs d) : EqT P t zs (d + 1) true
inductive EqTs (P : Program) : List Field → Nat → List AV → Nat → Prop
  | nil {o d : Nat} : EqTs P [] o [] d
  | cons {F : Field} {Fs : List Field} {o d d' n : Nat} {z zs : List AV} {a : Bool} (hn : F.name ≠ "_") (ho : F.offset = o) (h : EqT P F.type z d' a) (hd : d' ≤ d) (hw : widthC z = n) (hs : (P.info? F.type).map (·.size) = some n) (hl : EqTs P Fs (o + n) zs d) : EqTs P (F :: Fs) o (z ++ zs) d
end

theorem eqZ_VR {C : Ctx} {z x y : AV} {X Y : Value} {e : Bool} (h : eqZ z x y = some e) (hx : VR C x X) (hy : VR C y Y) :
    (∃ k a b n, z = .i k n ∧ isU k = none ∧ X = .int k a ∧ Y = .int k b ∧ e = (a == b)) ∨ (∃ (w : Nat) (k1 k2 : IntKind) (a b : BitVec w) (c : BitVec w), z = .u w c ∧ isU k1 = some w ∧ isU k2 = some w ∧ X = .int k1 (a.toNat : Int) ∧ Y = .int k2 (b.toNat : Int) ∧ e = (a == b)) ∨
    (∃ a b c, z = .b c ∧ X = .bool a ∧ Y = .bool b ∧ e = (a == b)) ∨ (∃ a b c : List UInt8, z = .str c ∧ X = .string ⟨a.toArray⟩ ∧ Y = .string ⟨b.toArray⟩ ∧ e = (a == b)) := by
  unfold eqZ at h
  split at h
  · split at h
    · rename_i hk
      obtain ⟨rfl, rfl⟩ := hk
      simp only [Option.some.injEq] at h; subst h
      cases hx with | i h1 _ => cases hy with | i h2 _ =>
      exact .inl ⟨_, _, _, _, rfl, h1, rfl, rfl, rfl⟩
    · cases h
  · split at h
    · rename_i h1; subst h1
      split at h
      · rename_i h2; subst h2
        simp only [Option.some.injEq] at h; subst h
        cases hx with | u h1 => cases hy with | u h2 =>
        exact .inr (.inl ⟨_, _, _, _, _, _, rfl, h1, h2, rfl, rfl, rfl⟩)
      · cases h
    · cases h
  · simp only [Option.some.injEq] at h; subst h
    cases hx; cases hy
    exact .inr (.inr (.inl ⟨_, _, _, rfl, rfl, rfl, rfl⟩))
  · simp only [Option.some.injEq] at h; subst h
    cases hx; cases hy
    exact .inr (.inr (.inr ⟨_, _, _, rfl, rfl, rfl, rfl⟩))
  · cases h

theorem scalar_eq {t : TypeId} {z : AV} {n : Nat} (ht : EqT P t [z] n false) {C : Ctx} {x y : AV} {X Y : Value} {e : Bool} (h : eqZ z x y = some e) (hx : VR C x X) (hy : VR C y Y) (d : Nat) (w : World) : (Op.equalIn (d + 1) t X Y).run P w = .ok e w := by
  rcases eqZ_VR h hx hy with ⟨k, a, b, n, rfl, hk, rfl, rfl, rfl⟩ | ⟨wd, k1, k2, a, b, c, rfl, h1, h2, rfl, rfl, rfl⟩ | ⟨a, b, c, rfl, rfl, rfl, rfl⟩ | ⟨a, b, c, rfl, rfl, rfl, rfl⟩
  · cases ht with | i _ hu => exact run_equalIn_int w d t _ _ _ _ hu
  · cases ht with | u hk hu =>
    have : k1 = k2 := by cases k1 <;> simp [isU] at h1 <;> cases k2 <;> simp [isU] at h2 <;> first | rfl | omega
    subst this
    rw [run_equalIn_int w d t _ _ _ _ hu]
    congr 1
    rw [Bool.eq_iff_iff, beq_iff_eq, beq_iff_eq]
    constructor
    · intro h; exact BitVec.eq_of_toNat_eq (by omega)
    · intro h; rw [h]
  · cases ht with | b hu => exact run_equalIn_bool w d t _ _ hu
  · cases ht with | str hu =>
    rw [run_equalIn_string w d t _ _ hu]
    simp [ByteArray.toList_eq]

theorem eqCells_split {zs : List AV} : ∀ {z : List AV} {xs ys : List AV} {e : Bool}, eqCells (z ++ zs) xs ys = some e → ∃ x1 x2 y1 y2 e1 e2, xs = x1 ++ x2 ∧ ys = y1 ++ y2 ∧ eqCells z x1 y1 = some e1 ∧ eqCells zs x2 y2 = some e2 ∧ e = (e1 && e2) ∧ widthC x1 = widthC z ∧ widthC y1 = widthC z
  | [], xs, ys, e, h => ⟨[], xs, [], ys, true, e, rfl, rfl, rfl, h, by simp, rfl, rfl⟩
  | c :: z, xs, ys, e, h => by
    have sc : ∀ {c x y : AV} {xs ys : List AV}, (∀ n f, c ≠ .ar n f) → (match eqZ c x y, eqCells (z ++ zs) xs ys with | some p, some q => some (p && q) | _, _ => none) = some e →
        ∃ x1 x2 y1 y2 e1 e2, x :: xs = x1 ++ x2 ∧ y :: ys = y1 ++ y2 ∧ eqCells (c :: z) x1 y1 = some e1 ∧ eqCells zs x2 y2 = some e2 ∧ e = (e1 && e2) ∧ widthC x1 = widthC (c :: z) ∧ widthC y1 = widthC (c :: z) := by
      intro c x y xs ys hne h
      split at h
      · rename_i p q hp hq
        simp only [Option.some.injEq] at h; subst h
        obtain ⟨x1, x2, y1, y2, e1, e2, rfl, rfl, h3, h4, rfl, h5, h6⟩ := eqCells_split hq
        refine ⟨x :: x1, x2, y :: y1, y2, p && e1, e2, rfl, rfl, ?_, h4, by rw [Bool.and_assoc], ?_, ?_⟩
        · cases c <;> first | (simp only [eqCells, hp, h3]; done) | exact (hne _ _ rfl).elim
        · have : x.width = c.width := by
            unfold eqZ at hp
            split at hp <;> first | rfl | cases hp
          simp [widthC, this, h5]
        · have : y.width = c.width := by
            unfold eqZ at hp
            split at hp <;> first | rfl | cases hp
          simp [widthC, this, h6]
      · cases h
    cases c with
    | ar n zf =>
      cases xs with
      | nil => simp [eqCells] at h
      | cons x xs =>
        cases ys with
        | nil => cases x <;> simp [eqCells] at h
        | cons y ys =>
          cases x <;> cases y <;> simp only [List.cons_append, eqCells, reduceCtorEq] at h
          rename_i n1 f n2 g
          split at h
          · rename_i p q hn hp hq
            simp only [Option.some.injEq] at h; subst h
            obtain ⟨x1, x2, y1, y2, e1, e2, rfl, rfl, h3, h4, rfl, h5, h6⟩ := eqCells_split hq
            simp only [Bool.and_eq_true, beq_iff_eq] at hn
            refine ⟨.ar n1 f :: x1, x2, .ar n2 g :: y1, y2, p && e1, e2, rfl, rfl, ?_, h4, by rw [Bool.and_assoc], by simp [widthC, AV.width, hn.1, h5], by simp [widthC, AV.width, hn.2, h6]⟩
            simp only [eqCells, hn.1, hn.2, beq_self_eq_true, Bool.and_self, hp, h3]
          · cases h
    | _ =>
      cases xs with
      | nil => simp [eqCells] at h
      | cons x xs =>
        cases ys with
        | nil => simp [eqCells] at h
        | cons y ys =>
          simp only [List.cons_append, eqCells] at h
          exact sc (fun n f e => by cases e) h

theorem allB_run {n : Nat} {f : Nat → Option Bool} : ∀ {m : Nat} {e : Bool}, allB m f = some e → (∀ j, j < m → ∃ p, f j = some p) ∧ (e = true ↔ ∀ j, j < m → f j = some true)
  | 0, e, h => by simp [allB] at h; subst h; simp
  | m + 1, e, h => by
    simp only [allB] at h
    split at h
    · rename_i p q hp hq
      simp only [Option.some.injEq] at h; subst h
      obtain ⟨h1, h2⟩ := allB_run (n := n) hp
      refine ⟨fun j hj => ?_, ?_⟩
      · by_cases e : j = m
        · subst e; exact ⟨q, hq⟩
        · exact h1 j (by omega)
      · rw [Bool.and_eq_true, h2]
        constructor
        · rintro ⟨a, b⟩ j hj
          by_cases e : j = m
          · subst e; rw [hq, b]
          · exact a j (by omega)
        · intro a
          refine ⟨fun j hj => a j (by omega), ?_⟩
          have := a m (by omega)
          rw [hq] at this; simpa using this
    · cases h
theorem eqT_agg {t : TypeId} {zs : List AV} {d : Nat} {a : Bool} (h : EqT P t zs d a) (w : World) : (isAgg t).run P w = .ok a w := by
  cases h with
  | i _ hu => simp [isAgg, run_underlying hu]
  | u _ hu => simp [isAgg, run_underlying hu]
  | b hu => simp [isAgg, run_underlying hu]
  | str hu => simp [isAgg, run_underlying hu]
  | ar hu _ _ => simp [isAgg, run_underlying hu]
  | st hu _ _ => simp [isAgg, run_underlying hu]
theorem eqT_one {t : TypeId} {zs : List AV} {d : Nat} (h : EqT P t zs d false) : ∃ z, zs = [z] ∧ z.width = 1 ∧ ∀ n f, z ≠ .ar n f := by
  cases h <;> exact ⟨_, rfl, rfl, fun n f e => by cases e⟩

theorem part_run {t : TypeId} {z : List AV} {d n : Nat} {a : Bool} (h : EqT P t z d a) (hs : (P.info? t).map (·.size) = some n) (hw : widthC z = n) {A B D : List Value} {X : Array Value} (hX : X = (A ++ B ++ D).toArray) (hB : B.length = n) (w : World) :
    (part t X A.length).run P w = .ok (valOf a B) w := by
  obtain ⟨inf, hi, hin⟩ := Option.map_eq_some_iff.1 hs
  subst hX
  cases a with
  | true =>
    simp only [part, Sem.run_bind, eqT_agg h, Result.andThen_ok, if_true]
    have hz : (sizeOf t).run P w = .ok n w := by
      unfold Go.sizeOf
      simp only [typeInfo, Sem.run_bind, run_program, Result.andThen_ok, hi, Sem.run_pure, hin]
    simp only [hz, Result.andThen_ok, Sem.run_pure, valOf]
    congr 2
    apply Array.ext'
    simp [List.extract_eq_take_drop, hB, List.append_assoc]
  | false =>
    obtain ⟨z', rfl, hz, _⟩ := eqT_one h
    have h1 : B.length = 1 := by rw [hB, ← hw]; simp [widthC, hz]
    obtain ⟨b, rfl⟩ := List.length_eq_one_iff.1 h1
    simp only [part, Sem.run_bind, eqT_agg h, Result.andThen_ok, Bool.false_eq_true, if_false]
    have : (A ++ [b] ++ D).toArray[A.length]? = some b := by simp
    rw [this]; rfl

theorem CR_part {C : Ctx} {x1 x2 : List AV} {X : List Value} (h : CR C (x1 ++ x2) X) : ∃ B D, X = B ++ D ∧ CR C x1 B ∧ CR C x2 D ∧ B.length = widthC x1 := by
  obtain ⟨v1, v2, rfl, h1, h2⟩ := CR_split h
  exact ⟨v1, v2, rfl, h1, h2, CR_length h1⟩

theorem eqT_run : ∀ (dd : Nat) {t : TypeId} {zs : List AV} {d : Nat} {a : Bool}, EqT P t zs d a → d ≤ dd → ∀ {C : Ctx} {xs ys : List AV} {X Y : List Value} {e : Bool}, eqCells zs xs ys = some e → CR C xs X → CR C ys Y → ∀ w,
    (Op.equalIn dd t (valOf a X) (valOf a Y)).run P w = .ok e w
  | 0, t, zs, d, a, h, hd, C, xs, ys, X, Y, e, he, hx, hy, w => by
    cases h <;> omega
  | dd + 1, t, zs, d, a, h, hd, C, xs, ys, X, Y, e, he, hx, hy, w => by
    have scal : ∀ {z : AV} {n : Nat}, EqT P t [z] n false → eqCells [z] xs ys = some e → (Op.equalIn (dd + 1) t (valOf false X) (valOf false Y)).run P w = .ok e w := by
      intro z n hz he
      obtain ⟨z', hz', hw, hne⟩ := eqT_one hz
      simp only [List.cons.injEq, and_true] at hz'; subst hz'
      have : ∃ x y p, xs = [x] ∧ ys = [y] ∧ eqZ z x y = some p ∧ e = p := by
        cases xs with
        | nil => cases z <;> simp [eqCells] at he
        | cons x xs => cases ys with
          | nil => cases z <;> simp [eqCells] at he
          | cons y ys =>
            have he' : (match eqZ z x y, eqCells [] xs ys with | some p, some q => some (p && q) | _, _ => none) = some e := by
              cases z <;> first | exact he | exact (hne _ _ rfl).elim
            split at he'
            · rename_i p q hp hq
              cases xs with
              | nil => cases ys with
                | nil => simp [eqCells] at hq; subst hq; simp at he'; exact ⟨x, y, p, rfl, rfl, hp, he'.symm⟩
                | cons _ _ => simp [eqCells] at hq
              | cons _ _ => cases ys <;> simp [eqCells] at hq
            · cases he'
      obtain ⟨x, y, p, rfl, rfl, hp, rfl⟩ := this
      have sx : ∀ {x : AV} {X : List Value}, CR C [x] X → (∀ n f, x ≠ .ar n f) → ∃ v, X = [v] ∧ VR C x v := by
        intro x X hx hn
        cases hx with
        | one _ _ h hl => cases hl; exact ⟨_, rfl, h⟩
        | ar _ _ _ _ _ => exact (hn _ _ rfl).elim
      have nx : (∀ n f, x ≠ .ar n f) ∧ (∀ n f, y ≠ .ar n f) := by
        unfold eqZ at hp
        split at hp <;> first | (cases hp; done) | exact ⟨(fun _ _ e => by cases e), (fun _ _ e => by cases e)⟩
      obtain ⟨v, rfl, hv⟩ := sx hx nx.1
      obtain ⟨u, rfl, hu⟩ := sx hy nx.2
      exact scalar_eq hz hp hv hu dd w
    cases h with
    | i hk hu => exact scal (.i hk hu) he
    | u hk hu => exact scal (.u hk hu) he
    | b hu => exact scal (.b hu) he
    | str hu => exact scal (.str hu) he
    | @ar _ el n z hu hz hs =>
      obtain ⟨inf, hi, hin⟩ := Option.map_eq_some_iff.1 hs
      have : ∃ f g p, xs = [.ar n f] ∧ ys = [.ar n g] ∧ allB n (fun j => eqZ z (f j) (g j)) = some p ∧ e = p := by
        cases xs with
        | nil => simp [eqCells] at he
        | cons x xs => cases ys with
          | nil => cases x <;> simp [eqCells] at he
          | cons y ys =>
            cases x <;> cases y <;> simp only [eqCells, reduceCtorEq] at he
            rename_i n1 f n2 g
            split at he
            · rename_i p q hn hp hq
              simp only [Bool.and_eq_true, beq_iff_eq] at hn
              obtain ⟨rfl, rfl⟩ := hn
              cases xs with
              | nil => cases ys with
                | nil => simp [eqCells] at hq; subst hq; simp at he; exact ⟨f, g, p, rfl, rfl, hp, he.symm⟩
                | cons _ _ => simp [eqCells] at hq
              | cons _ _ => cases ys <;> simp [eqCells] at hq
            · cases he
      obtain ⟨f, g, p, rfl, rfl, hp, rfl⟩ := this
      obtain ⟨fv, rfl, h0, f1, f2, f3⟩ := CR_ar hx
      obtain ⟨gv, rfl, _, g1, g2, g3⟩ := CR_ar hy
      obtain ⟨a1, a2⟩ := allB_run (n := n) hp
      have hc1 : P.cellsOf el = 1 := by unfold Program.cellsOf; rw [hi]; exact hin
      show (Op.equalIn (dd + 1) t (.agg _) (.agg _)).run P w = _
      rw [run_equalIn_array w dd _ _ hu hi, hc1]
      have hdd : 1 ≤ dd := by omega
      obtain ⟨dd', rfl⟩ : ∃ k, dd = k + 1 := ⟨dd - 1, by omega⟩
      have key : ∀ (is : List Nat) (w : World), (∀ i ∈ is, i < n) → (Op.eqItems (dd' + 1) el 1 ((List.range n).map fv).toArray ((List.range n).map gv).toArray is).run P w = .ok (is.all fun j => eqZ z (f j) (g j) == some true) w := by
        intro is
        induction is with
        | nil => intro w _; simp [Op.eqItems]
        | cons i is ih =>
          intro w hi'
          have hin' := hi' i (List.mem_cons_self ..)
          obtain ⟨p', hp'⟩ := a1 i hin'
          have px : ∀ (h : Nat → Value) (w : World), (part el ((List.range n).map h).toArray (i * 1)).run P w = .ok (h i) w := by
            intro h w
            simp only [part, Sem.run_bind, eqT_agg hz, Result.andThen_ok, Bool.false_eq_true, if_false]
            have : ((List.range n).map h).toArray[i * 1]? = some (h i) := by simp [hin']
            rw [this]; rfl
          simp only [Op.eqItems, Sem.run_bind, px, Result.andThen_ok, scalar_eq hz hp' (f1 i hin') (g1 i hin') dd']
          cases p' with
          | false => simp [hp']
          | true =>
            simp only [Bool.not_true, Bool.false_eq_true, if_false]
            rw [ih w (fun j hj => hi' j (List.mem_cons_of_mem _ hj))]
            simp [hp']
      rw [key _ w (fun i hi => List.mem_range.1 hi)]
      congr 1
      rw [Bool.eq_iff_iff, a2, List.all_eq_true]
      simp only [List.mem_range, beq_iff_eq]
    | @st _ Fs _ d' hu hh hf =>
      have hFs : P.fieldsOf t = Fs := by unfold Program.fieldsOf; rw [hu]
      show (Op.equalIn (dd + 1) t (.agg _) (.agg _)).run P w = _
      rw [run_equalIn_struct w dd t _ _ (by rw [hFs]; exact hu) hh, hFs]
      have key : ∀ (Fl : List Field) (o : Nat) (zs xs ys : List AV) (X' Y' A B : List Value) (e : Bool) (w : World), EqTs P Fl o zs d' → eqCells zs xs ys = some e → CR C xs X' → CR C ys Y' → X = A ++ X' → Y = B ++ Y' → A.length = o → B.length = o →
          (Op.eqFields dd X.toArray Y.toArray Fl).run P w = .ok e w := by
        intro Fl
        induction Fl with
        | nil =>
          intro o zs xs ys X' Y' A B e w ht he hx hy _ _ _ _
          cases ht
          cases xs <;> cases ys <;> simp [eqCells] at he
          subst he
          simp [Op.eqFields]
        | cons F Fl ihF =>
          intro o zs xs ys X' Y' A B e w ht he hx hy hX hY hA hB
          cases ht with
          | @cons _ _ _ _ d'' n z zs' a' hn ho hz hd'' hw hs hl =>
          obtain ⟨x1, x2, y1, y2, e1, e2, rfl, rfl, h3, h4, rfl, h5, h6⟩ := eqCells_split he
          obtain ⟨X1, X2, rfl, hx1, hx2, lx⟩ := CR_part hx
          obtain ⟨Y1, Y2, rfl, hy1, hy2, ly⟩ := CR_part hy
          simp only [Op.eqFields]
          rw [if_pos hn]
          have p1 := part_run (P := P) hz hs hw (A := A) (B := X1) (D := X2) (X := X.toArray) (by rw [hX]; simp) (by rw [lx, h5, hw]) w
          have p2 := part_run (P := P) hz hs hw (A := B) (B := Y1) (D := Y2) (X := Y.toArray) (by rw [hY]; simp) (by rw [ly, h6, hw]) w
          rw [hA] at p1; rw [hB] at p2
          rw [ho]
          simp only [Sem.run_bind, p1, p2, Result.andThen_ok, eqT_run dd hz (by omega) h3 hx1 hy1]
          cases e1 with
          | false => simp
          | true =>
            simp only [Bool.not_true, Bool.false_eq_true, if_false, Bool.true_and]
            exact ihF (o + n) zs' x2 y2 X2 Y2 (A ++ X1) (B ++ Y1) e2 w hl h4 hx2 hy2 (by rw [hX]; simp) (by rw [hY]; simp) (by simp [hA, lx, h5, hw]) (by simp [hB, ly, h6, hw])
      exact key Fs.toList 0 zs xs ys X Y [] [] e w hf he hx hy rfl rfl rfl rfl

theorem EqRuns.of {t : TypeId} {zs : List AV} {d : Nat} (h : EqT P t zs d true) (hd : d ≤ 10000) (hg : P.eqGuardType P.depth t = false) : EqRuns P t zs := by
  intro C xs ys X Y e he hx hy w op xo yo
  exact ⟨run_eqGuard_agg w op t xo yo _ _ hg, eqT_run 10000 h hd he hx hy w⟩

/-- A struct's or an array's row in the table. -/
theorem TyOk1.agg {t : TypeId} {d : TyI} {D : TypeDesc} (hu : P.underlying t = some D) (hd : tdOf D = d.desc) (hz : ∃ z, (P.info? t).map (fun i => (i.size, i.zero, decide (i.bytes ≤ 1048576))) = some (d.size, some z, true) ∧ ∀ C, CR C d.zero z.cells.toList)
    (he : d.eq = true → EqRuns P t d.zero) (hf : ∀ fs, D = .struct fs → fs.toList.all (fun f => (P.info? f.type).isSome) = true) : TyOk1 P t d := by
  obtain ⟨z, hi, hzz⟩ := hz
  obtain ⟨i, h1, h2⟩ := Option.map_eq_some_iff.1 hi
  simp only [Prod.mk.injEq, decide_eq_true_eq] at h2
  refine ⟨⟨D, hu, hd⟩, ⟨i, h1, h2.1, z, h2.2.1, hzz⟩, fun j hj => ?_, fun h _ => he h, ?_⟩
  · rw [h1] at hj; cases hj; exact h2.2.2
  · intro fs hfs f hm
    rw [hu] at hfs
    simp only [Option.some.injEq] at hfs
    exact List.all_eq_true.1 (hf fs hfs) f hm
theorem vz_u {C : Ctx} {k : IntKind} {w : Nat} (hk : isU k = some w) : VR C (.u w 0#w) (.int k 0) := by
  have := VR.u (C := C) (k := k) (w := w) (x := 0#w) hk
  simpa using this
theorem vz_str {C : Ctx} : VR C (.str []) (.string ⟨#[]⟩) := .str [] (by simp)
theorem crz_ar {C : Ctx} {n : Nat} {a : AV} {v : Value} {l : List AV} {vs : List Value} (h0 : 0 < n) (h : VR C.bare a v) (h1 : v.oneCell' = true) (hf : a.flat = true) (hl : CR C l vs) : CR C (.ar n (fun _ => a) :: l) (List.replicate n v ++ vs) := by
  have := CR.ar (C := C) (n := n) (f := fun _ => a) (g := fun _ => v) h0 (fun _ _ => h) (fun _ _ => h1) (fun _ _ => hf) hl
  rwa [show (List.range n).map (fun _ => v) = List.replicate n v by apply List.ext_getElem <;> simp] at this
end
end Go.Proofs.YtcdnbdphakhilaaGreatDoor.Ev
