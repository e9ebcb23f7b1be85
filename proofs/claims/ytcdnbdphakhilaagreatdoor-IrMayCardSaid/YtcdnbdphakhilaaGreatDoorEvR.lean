/- Lemmas: a symbolic evaluator of loaded code: slices, and rows that grow. No condition. -/
import Derived.Test.YtcdnbdphakhilaaGreatDoorEvA
import Derived.Laws.Slices
import Derived.Laws.AppendOwn
import Derived.Laws.OwnMore
set_option linter.unusedVariables false
set_option linter.unusedSimpArgs false
namespace Go.Proofs.YtcdnbdphakhilaaGreatDoor.Ev
section
variable {P : Program} {T : TypeId → Option TyI} {w0 : World} {E : Ent} {R0 : Nat → Prop} {M : Key → Option AV} {C : Ctx}

theorem bareV_PR {l : List (Nat × AV)} {vs : List (Nat × Value)} (h : PR C l vs) (hb : l.all (fun p => bareV p.2) = true) {R : Nat → Prop} {w' : World} (hR : ∀ b, C.R b → R b ∧ w'.heap[b]? = C.w.heap[b]?) : PR (baseC w' R) l vs := by
  match h with
  | .nil => exact .nil
  | .cons h hl =>
    simp only [List.all_cons, Bool.and_eq_true] at hb
    exact .cons (bareV_VR h hb.1 hR) (bareV_PR hl hb.2 hR)

theorem evRow_fill {sz : Nat} : ∀ {parts : List (Nat × AV)} {pvs : List (Nat × Value)} {rows : List (List AV)} {k : Nat} {A B : List Value}, evRow sz k parts = some rows → PR C parts pvs → A.length = k * sz → B.length = rows.length * sz →
    ∃ css : List (List Value), css.length = rows.length ∧ (∀ i, i < rows.length → CR C (rows.getD i []) (css.getD i []) ∧ (css.getD i []).length = sz) ∧ Instr.fill (fun i => some (i * sz, sz)) (A ++ B).toArray pvs = some (A ++ css.flatten).toArray
  | [], pvs, rows, k, A, B, h, hp, hA, hB => by
    cases hp
    simp only [evRow, Option.some.injEq] at h; subst h
    have : B = [] := List.eq_nil_of_length_eq_zero (by simpa using hB)
    subst this
    exact ⟨[], rfl, fun i hi => by simp at hi, rfl⟩
  | (i, a) :: parts, pvs, rows, k, A, B, h, hp, hA, hB => by
    cases hp with
    | @cons _ _ v _ vs hv hl =>
    simp only [evRow] at h
    split at h
    · rename_i hc
      simp only [Bool.and_eq_true, beq_iff_eq] at hc
      obtain ⟨rfl, hce, hsz⟩ := hc
      split at h
      · rename_i l hrow
        simp only [Option.some.injEq] at h; subst h
        have hvc := cellable_CR hv hce
        have hvl : v.cells.size = sz := by rw [← hsz, ← CR_length hvc]; simp
        have hB' : B.length = l.length * sz + sz := by rw [hB, List.length_cons, Nat.succ_mul]
        have hfill := fill_one (place := fun x => some (x * sz, sz)) (cells := (A ++ B).toArray) (i := i) (off := i * sz) (size := sz) (v := v) (rest := vs) rfl hvl (by simp; omega)
        rw [hfill]
        have e1 : (A ++ B).toArray.toList.take (i * sz) = A := by rw [← hA]; simp
        have e2 : (A ++ B).toArray.toList.drop (i * sz + sz) = B.drop sz := by rw [← hA]; simp [List.drop_append]
        rw [e1, e2]
        obtain ⟨css, h1, h2, h3⟩ := evRow_fill (A := A ++ v.cells.toList) (B := B.drop sz) hrow hl (by rw [List.length_append, hA, Array.length_toList, hvl, Nat.succ_mul]) (by rw [List.length_drop, hB']; omega)
        refine ⟨v.cells.toList :: css, by simp [h1], ?_, ?_⟩
        · intro j hj
          match j with
          | 0 => exact ⟨hvc, by simpa using hvl⟩
          | j + 1 => simpa using h2 j (by simpa using hj)
        · rw [h3]; simp
      · simp at h
    · simp at h

theorem flatten_get {sz : Nat} : ∀ {css : List (List Value)} {i j : Nat}, (∀ i, i < css.length → (css.getD i []).length = sz) → i < css.length → j < sz → css.flatten[i * sz + j]? = (css.getD i [])[j]?
  | [], i, j, h, hi, hj => by simp at hi
  | c :: css, 0, j, h, hi, hj => by
    have h0 := h 0 (by simp)
    simp only [List.getD_cons_zero] at h0
    simp only [Nat.zero_mul, Nat.zero_add, List.flatten_cons, List.getD_cons_zero]
    rw [List.getElem?_append_left (by omega)]
  | c :: css, i + 1, j, h, hi, hj => by
    have h0 := h 0 (by simp)
    simp only [List.getD_cons_zero] at h0
    simp only [List.flatten_cons, List.getD_cons_succ]
    rw [List.getElem?_append_right (by rw [h0, Nat.succ_mul]; omega), h0, show (i + 1) * sz + j - sz = i * sz + j by rw [Nat.succ_mul]; omega]
    exact flatten_get (fun i hi => by simpa using h (i + 1) (by simpa using hi)) (by simpa using hi) hj

theorem flatten_len {sz : Nat} : ∀ {css : List (List Value)}, (∀ i, i < css.length → (css.getD i []).length = sz) → css.flatten.length = css.length * sz
  | [], h => by simp
  | c :: css, h => by
    have h0 := h 0 (by simp)
    simp only [List.getD_cons_zero] at h0
    rw [List.flatten_cons, List.length_append, h0, flatten_len (fun i hi => by simpa using h (i + 1) (by simpa using hi)), List.length_cons, Nat.succ_mul]; omega

theorem rowFn_eq {rows : List (List AV)} {j : Nat} (hj : j < rows.length) : rowFn rows j = rows.getD j [] := by
  have hg : rows.getD j [] = rows[j] := by simp [List.getD, hj]
  have hm : rows[j] ∈ rows := List.getElem_mem hj
  unfold rowFn
  cases h1 : rows.all isR64 with
  | false => rfl
  | true =>
    have := List.all_eq_true.1 h1 _ hm
    have e : (rows.map unR64).getD j 0 = unR64 rows[j] := by simp [List.getD, hj]
    show [AV.i .i64 ((rows.map unR64).getD j 0)] = _
    rw [hg, e]
    generalize rows[j] = x at this
    unfold isR64 at this
    split at this
    · rfl
    · cases this
theorem evBuildSlice_done (hT : TyOk P T) (hl : ∀ b, C.R b → b < C.w.heap.size) {t : TypeId} {n : Nat} {parts : List (Nat × AV)} {pvs : Array (Nat × Value)} {r : OpR} (h : evBuildSlice T t n parts = some r) (hp : PR C parts pvs.toList) :
    r.pre = [] ∧ r.wr = [] ∧ r.al = [] ∧ ∃ v w', (Instr.buildSlice t n pvs).run P C.w = .ok v w' ∧ ∃ R', Done C.w C.R r.v v w' R' := by
  unfold evBuildSlice at h
  split at h
  · rename_i d hd
    split at h
    · rename_i e he
      split at h
      · rename_i de hde
        split at h
        · rename_i rows hrows
          split at h
          · rename_i hc
            simp only [val, Option.some.injEq] at h; subst h
            simp only [Bool.and_eq_true, beq_iff_eq] at hc
            obtain ⟨hn, h1, h2, hb⟩ := hc
            have h1 := Nat.le_of_ble_eq_true h1
            have h2 := Nat.le_of_ble_eq_true h2
            subst hn
            refine ⟨rfl, rfl, rfl, ?_⟩
            have hu := und_slice (hT t d hd) he
            have hp' := bareV_PR hp hb (R := C.R) (w' := C.w) (fun b hb => ⟨hb, rfl⟩)
            obtain ⟨z, hz1, hz2⟩ := run_zeroValue (w := C.w) (hT e de hde)
            have hz2 := CR_length (hz2 C)
            obtain ⟨css, k1, k2, k3⟩ := evRow_fill (A := []) (B := ((Array.range (rows.length * de.size)).map (z.cells[· % z.cells.size]!)).toList) hrows hp' (by simp) (by simp)
            have hlen : ∀ i, i < css.length → (css.getD i []).length = de.size := fun i hi => (k2 i (by omega)).2
            refine ⟨.slice (some ⟨C.w.heap.size, 0, none⟩) rows.length rows.length, C.w.alloc (.cells css.flatten.toArray e), ?_, fun b => C.R b ∨ b = C.w.heap.size, fun b hb => .inl hb, ?_, ?_, ?_, ?_⟩
            · have hgt : ¬ rows.length * de.size > 2 ^ 24 := by omega
              have hne : ¬ rows.length * de.size = 0 := by omega
              simp only [Instr.buildSlice, Sem.run_bind, run_underlying hu, Result.andThen_ok, run_sizeOf (hT e de hde), hgt, hne, if_false, hz1, Sem.run_pure]
              simp only [List.nil_append, Array.toArray_toList] at k3
              simp only [k3]
              rfl
            · intro b hb
              rcases hb with hb | rfl
              · exact .inl hb
              · exact .inr (Nat.le_refl _)
            · intro b hb
              have : (C.w.alloc (.cells css.flatten.toArray e)).heap.size = C.w.heap.size + 1 := Array.size_push ..
              rcases hb with hb | rfl
              · have := hl b hb; omega
              · omega
            · refine ⟨rfl, rfl, rfl, by rw [show (C.w.alloc (.cells css.flatten.toArray e)).heap.size = C.w.heap.size + 1 from Array.size_push ..]; omega, fun b hb _ => RowKit.Below.heap_alloc _ _ _ hb⟩
            · have hsz : 0 < de.size := Nat.pos_of_ne_zero fun e => by rw [e] at h1; omega
              have hle : (baseC C.w C.R).Le (baseC (C.w.alloc (.cells css.flatten.toArray e)) fun b => C.R b ∨ b = C.w.heap.size) := ⟨fun _ h => h.elim, fun b hb => ⟨.inl hb, RowKit.Below.heap_alloc _ _ _ (hl b hb)⟩, fun _ _ h => h.elim⟩
              refine VR.ro (o := 0) (cs := fun i => css.getD i []) (.inr rfl) (fun i hi => by rw [rowFn_eq hi]; exact (k2 i hi).1.mono hle) (fun i hi => (k2 i hi).2) ?_ (Nat.le_refl _) ?_
              · intro i j hi hj
                rw [← flatten_get hlen (by omega) hj, Nat.zero_add]
                show (C.w.alloc _).cell? _ = _
                rw [World.cell?_alloc_new]
                simp
              · have : rows.length * 1 ≤ rows.length * de.size := Nat.mul_le_mul_left _ hsz
                omega
          · simp at h
        · simp at h
      · simp at h
    · simp at h
  · simp at h
theorem CR_flatten : ∀ {rows : List (List AV)} {css : List (List Value)}, css.length = rows.length → (∀ i, i < rows.length → CR C (rows.getD i []) (css.getD i [])) → CR C rows.flatten css.flatten
  | [], [], _, _ => .nil
  | [], _ :: _, h, _ => by simp at h
  | _ :: _, [], h, _ => by simp at h
  | r :: rows, c :: css, h, hc => by
    have h0 := hc 0 (by simp)
    simp only [List.getD_cons_zero] at h0
    rw [List.flatten_cons, List.flatten_cons]
    exact CR_app h0 (CR_flatten (by simpa using h) (fun i hi => by simpa using hc (i + 1) (by simpa using hi)))
theorem evRow_ptrs {sz : Nat} : ∀ {parts : List (Nat × AV)} {rows : List (List AV)} {k : Nat}, evRow sz k parts = some rows → parts.all (fun p => isPtr p.2) = true → rows.flatten = parts.map (·.2) ∧ rows.length = parts.length
  | [], rows, k, h, _ => by
    simp only [evRow, Option.some.injEq] at h; subst h; exact ⟨rfl, rfl⟩
  | (i, a) :: parts, rows, k, h, hb => by
    simp only [evRow] at h
    split at h
    · split at h
      · rename_i l hl
        simp only [Option.some.injEq] at h; subst h
        simp only [List.all_cons, Bool.and_eq_true] at hb
        obtain ⟨k1, k2⟩ := evRow_ptrs hl hb.2
        have e : a.cells = [a] := by
          cases a with
          | ptr => rfl
          | _ => cases hb.1
        exact ⟨by simp [e, k1], by simp [k2]⟩
      · cases h
    · cases h
theorem evBuildPtrs_run (hT : TyOk P T) {ids : List (Nat × Nat)} {dst : Option Nat} {t : TypeId} {n : Nat} {parts : List (Nat × AV)} {pvs : Array (Nat × Value)} {r : OpR} (h : evBuildPtrs T ids dst t n parts = some r) (hp : PR C parts pvs.toList) :
    ∃ id e, ∃ cs : List Value, dst = some id ∧ ids.lookup id = none ∧ r = ⟨[], .osl id 0 n, [], keysAcc id 0 (parts.map (·.2)) [], [(id, widthC (parts.map (·.2)))]⟩ ∧ CR C (parts.map (·.2)) cs ∧ cs.length = n ∧ n ≤ 16777216 ∧
      (Instr.buildSlice t n pvs).run P C.w = .ok (.slice (some ⟨C.w.heap.size, 0, none⟩) n n) (C.w.alloc (.cells cs.toArray e)) := by
  unfold evBuildPtrs at h
  split at h
  · rename_i d id hd
    split at h
    · rename_i e he hlk
      split at h
      · rename_i de hde
        split at h
        · rename_i rows hrows
          split at h
          · rename_i hc
            simp only [Option.some.injEq] at h; subst h
            simp only [Bool.and_eq_true, beq_iff_eq] at hc
            obtain ⟨hn, hs1, h1, h2, hb⟩ := hc
            have h1 := Nat.le_of_ble_eq_true h1
            have h2 := Nat.le_of_ble_eq_true h2
            subst hn
            have hu := und_slice (hT t d hd) he
            obtain ⟨z, hz1, hz2⟩ := run_zeroValue (w := C.w) (hT e de hde)
            have hz2 := CR_length (hz2 C)
            obtain ⟨css, k1, k2, k3⟩ := evRow_fill (A := []) (B := ((Array.range (rows.length * de.size)).map (z.cells[· % z.cells.size]!)).toList) hrows hp (by simp) (by simp)
            obtain ⟨m1, m2⟩ := evRow_ptrs hrows hb
            have hcr := CR_flatten k1 (fun i hi => (k2 i hi).1)
            rw [m1] at hcr
            have hlen : css.flatten.length = rows.length := by
              rw [flatten_len (sz := de.size) (fun i hi => (k2 i (by omega)).2), k1, hs1, Nat.mul_one]
            refine ⟨id, e, css.flatten, rfl, hlk, rfl, hcr, hlen, h2, ?_⟩
            have hgt : ¬ rows.length * de.size > 2 ^ 24 := by rw [hs1]; omega
            have hne : ¬ rows.length * de.size = 0 := by rw [hs1]; omega
            simp only [Instr.buildSlice, Sem.run_bind, run_underlying hu, Result.andThen_ok, run_sizeOf (hT e de hde), hgt, hne, if_false, hz1, Sem.run_pure]
            simp only [List.nil_append, Array.toArray_toList] at k3
            simp only [k3]
            rfl
          · cases h
        · cases h
      · cases h
    · cases h
  · cases h
end
end Go.Proofs.YtcdnbdphakhilaaGreatDoor.Ev
namespace Go.Proofs.YtcdnbdphakhilaaGreatDoor.Ev
section
variable {P : Program} {T : TypeId → Option TyI} {C : Ctx}
/-- An operand that may be lacking, and its value. -/
inductive OptVR (C : Ctx) : Option AV → Option Value → Prop
  | none : OptVR C none none
  | some {a : AV} {v : Value} (h : VR C a v) : OptVR C (some a) (some v)

theorem bounds_run {lo hi : Option AV} {Lo Hi : Option Value} {w : World} {b : Bool} {n cap : Nat} {l h : Int} (hlo : OptVR C lo Lo) (hhi : OptVR C hi Hi) (hl : bnd 0 lo = some l) (hh : bnd n hi = some h) (h0 : 0 ≤ l) (h1 : l ≤ h) (h2 : h ≤ (n : Int)) (hc : n ≤ cap) :
    (Instr.sliceBounds b n cap Lo Hi none).run P w = .ok (l.toNat, h.toNat, cap) w := by
  have eh : (h.toNat : Int) = h := Int.toNat_of_nonneg (by omega)
  have hH : ∀ code, (match Hi with | some v => Instr.sliceBound v cap code | none => pure n : Sem Nat).run P w = .ok h.toNat w := by
    intro code
    cases hhi with
    | none =>
      simp only [bnd, Option.some.injEq] at hh
      subst hh; rfl
    | some hv =>
      obtain ⟨k, rfl⟩ := ixI_VR hh hv
      simp only
      exact run_sliceBound w k h cap code (by omega) (by omega)
  have hL : ∀ code, (match Lo with | some v => Instr.sliceBound v h.toNat code | none => pure 0 : Sem Nat).run P w = .ok l.toNat w := by
    intro code
    cases hlo with
    | none =>
      simp only [bnd, Option.some.injEq] at hl
      subst hl; rfl
    | some hv =>
      obtain ⟨k, rfl⟩ := ixI_VR hl hv
      simp only
      exact run_sliceBound w k l h.toNat code (by omega) (by omega)
  unfold Instr.sliceBounds
  cases hhi <;> cases hlo <;> simp only [Sem.run_bind, Sem.run_pure, Result.andThen_ok] at hH hL ⊢ <;> simp_all [Sem.run_bind, Sem.run_pure, Result.andThen_ok]

theorem sliceRo_run (hT : TyOk P T) {t e n : Nat} {de : TyI} {get : Nat → List AV} {X : Value} {lo hi : Option AV} {Lo Hi : Option Value} {l u : Int} (hu : P.underlying t = some (.slice e)) (he : T e = some de) (hlo : OptVR C lo Lo) (hhi : OptVR C hi Hi) (hl : bnd 0 lo = some l) (hh : bnd n hi = some u) (h0 : 0 ≤ l) (h1 : l ≤ u) (h2 : u ≤ (n : Int)) (hx : VR C (.ro de.size n get) X) :
    ∃ v, (Instr.sliceAt t X Lo Hi none).run P C.w = .ok v C.w ∧ VR C (.ro de.size (u.toNat - l.toNat) (fun i => get (l.toNat + i))) v ∧ ([] : List (Key × AV)) = [] ∧ ([] : List (Nat × Nat)) = [] := by
  have hsz := run_sizeOf (P := P) (w := C.w) (hT e de he)
  cases hx with
  | @ro _ _ _ _ b o cap cs hb hcr hcl hcc hcap hn =>
    have hbr := bounds_run (P := P) (w := C.w) (b := true) hlo hhi hl hh h0 h1 h2 hcap
    refine ⟨.slice (if cap = l.toNat then some ⟨b, o, none⟩ else some ⟨b, o + l.toNat * de.size, none⟩) (u.toNat - l.toNat) (cap - l.toNat), ?_, ?_, rfl, rfl⟩
    · simp only [Instr.sliceAt, Instr.slice, Sem.run_bind, run_underlying hu, Result.andThen_ok, hbr, hsz, Sem.run_pure]
      by_cases hc : cap = l.toNat <;> simp [hc, Addr.add]
    · by_cases hc : cap = l.toNat
      · have e0 : u.toNat - l.toNat = 0 := by omega
        rw [if_pos hc, e0]
        exact .ro (cs := fun _ => []) hb (fun i hi => absurd hi (Nat.not_lt_zero i)) (fun i hi => absurd hi (Nat.not_lt_zero i)) (fun i j hi => absurd hi (Nat.not_lt_zero i)) (Nat.zero_le _) (by decide)
      · rw [if_neg hc]
        refine .ro (cs := fun i => cs (l.toNat + i)) hb (fun i hi => hcr _ (by omega)) (fun i hi => hcl _ (by omega)) ?_ (by omega) (by omega)
        intro i j hi hj
        rw [← hcc (l.toNat + i) j (by omega) hj]
        congr 2
        rw [Nat.add_mul]; omega
  | ro0 =>
    have hbr := bounds_run (P := P) (w := C.w) (b := true) (cap := 0) hlo hhi hl hh h0 h1 h2 (Nat.le_refl 0)
    have e1 : l.toNat = 0 := by omega
    have e2 : u.toNat = 0 := by omega
    refine ⟨.slice none 0 0, ?_, ?_, rfl, rfl⟩
    · simp only [Instr.sliceAt, Instr.slice, Sem.run_bind, run_underlying hu, Result.andThen_ok, hbr, hsz, Sem.run_pure, e1, e2]
      simp
    · rw [e1, e2]; exact .ro0
  | roE =>
    rename_i a cap
    have hbr := bounds_run (P := P) (w := C.w) (b := true) (cap := cap) hlo hhi hl hh h0 h1 h2 (Nat.zero_le cap)
    have e1 : l.toNat = 0 := by omega
    have e2 : u.toNat = 0 := by omega
    refine ⟨.slice (some a) 0 cap, ?_, ?_, rfl, rfl⟩
    · simp only [Instr.sliceAt, Instr.slice, Sem.run_bind, run_underlying hu, Result.andThen_ok, hbr, hsz, Sem.run_pure, e1, e2]
      simp [Addr.add]
    · rw [e1, e2]; exact .roE

theorem evSlice_run (hT : TyOk P T) {t : TypeId} {x : AV} {X : Value} {lo hi : Option AV} {Lo Hi : Option Value} {r : OpR} (h : evSlice T t x lo hi = some r) (hp : ∀ c ∈ r.pre, c = true) (hx : VR C x X) (hlo : OptVR C lo Lo) (hhi : OptVR C hi Hi) :
    ∃ v, (Instr.sliceAt t X Lo Hi none).run P C.w = .ok v C.w ∧ VR C r.v v ∧ r.wr = [] ∧ r.al = [] := by
  unfold evSlice at h
  split at h
  · rename_i d hd
    have ok := hT t d hd
    split at h
    · rename_i e sz n get hde
      have hu := und_slice ok hde
      split at h
      · rename_i de l u he hl hh
        split at h
        · rename_i hs
          have hs : de.size = sz := by simpa using hs
          subst hs
          simp only [valN, Option.some.injEq] at h; subst h
          simp only [List.mem_cons, List.not_mem_nil, or_false, forall_eq_or_imp, forall_eq, decide_eq_true_eq] at hp
          obtain ⟨h0, h1, h2⟩ := hp
          have hsz := run_sizeOf (P := P) (w := C.w) (hT e de he)
          exact sliceRo_run hT hu he hlo hhi hl hh h0 h1 h2 hx
        · simp at h
      · simp at h
    · rename_i e w xs hde
      have hu := und_slice ok hde
      split at h
      · rename_i de l u he hl hh
        split at h
        · rename_i hs
          have hs : de.size = datSize w := by simpa using hs
          simp only [valN, Option.some.injEq] at h; subst h
          simp only [List.mem_cons, List.not_mem_nil, or_false, forall_eq_or_imp, forall_eq, decide_eq_true_eq] at hp
          obtain ⟨h0, h1, h2⟩ := hp
          have hx := vw_inv hx
          rw [← hs] at hx
          obtain ⟨V, k1, k2, k3, k4⟩ := sliceRo_run (P := P) hT hu he hlo hhi hl hh h0 h1 h2 hx
          refine ⟨V, k1, ?_, rfl, rfl⟩
          refine .vw ?_
          have hlen : ((xs.drop l.toNat).take (u.toNat - l.toNat)).length = u.toNat - l.toNat := by
            rw [List.length_take, List.length_drop]; omega
          rw [hlen, ← hs]
          refine ro_congr (fun i hi => ?_) k2
          unfold encAt
          congr 1
          rw [List.getD_eq_getElem?_getD, List.getD_eq_getElem?_getD, List.getElem?_take, if_pos hi, List.getElem?_drop]
        · simp at h
      · simp at h
    · rename_i s hde
      have hu := und_string ok hde
      split at h
      · rename_i l u hl hh
        simp only [valN, Option.some.injEq] at h; subst h
        simp only [List.mem_cons, List.not_mem_nil, or_false, forall_eq_or_imp, forall_eq, decide_eq_true_eq] at hp
        obtain ⟨h0, h1, h2⟩ := hp
        cases hx with
        | str _ hlen =>
        have hsize : (⟨s.toArray⟩ : ByteArray).size = s.length := by simp [ByteArray.size]
        have hbr := bounds_run (P := P) (w := C.w) (b := false) (cap := s.length) hlo hhi hl hh h0 h1 h2 (Nat.le_refl _)
        refine ⟨.string ⟨((s.drop l.toNat).take (u.toNat - l.toNat)).toArray⟩, ?_, .str _ ?_, rfl, rfl⟩
        · simp only [Instr.sliceAt, Instr.slice, Sem.run_bind, run_underlying hu, Result.andThen_ok, hsize, hbr, Sem.run_pure]
          simp only [Option.isSome_none, Bool.false_eq_true, if_false, Sem.run_bind, hbr, Result.andThen_ok, Sem.run_pure]
          congr 2
          apply ByteArray.ext
          apply Array.ext'
          simp [List.extract_eq_take_drop, ByteArray.data_extract]
        · simp only [List.length_take, List.length_drop]; omega
      · simp at h
    · simp at h
  · simp at h
end
end Go.Proofs.YtcdnbdphakhilaaGreatDoor.Ev
namespace Go.Proofs.YtcdnbdphakhilaaGreatDoor.Ev
/- Rows of one's own: they are born, and grow. -/
theorem dec_enc : ∀ {t : Nat} {l : List AV} {x : Dat t}, dec t l = some x → enc t x = l := by
  intro t l x h
  unfold dec at h
  split at h <;> first | (simp only [Option.some.injEq] at h; subst h; rfl) | cases h

section
variable {P : Program} {T : TypeId → Option TyI} {w0 : World} {E : Ent} {R0 : Nat → Prop} {M : Key → Option AV} {C : Ctx}

theorem up1 {id : Nat} {x : AV} {k : Key} {a : AV} (hk : updK M [((id, 0), x)] k = some a) : (k = (id, 0) ∧ a = x) ∨ (k ≠ (id, 0) ∧ M k = some a) := by
  unfold updK at hk
  split at hk
  · rename_i y hx
    simp only [look] at hx
    split at hx
    · rename_i e
      simp only [Option.some.injEq] at hx hk; subst hx; subst hk
      exact .inl ⟨(beq_iff_eq.1 e).symm, rfl⟩
    · cases hx
  · rename_i hx
    refine .inr ⟨?_, hk⟩
    rintro rfl
    simp [look] at hx

/-- A row is born. -/
theorem SR_birth [Glob] (h : SR w0 E R0 M C) {id : Nat} (hid : ¬ C.has id) (e t : Nat) :
    ∃ C' : Ctx, C'.w = C.w ∧ C.Le C' ∧ (∀ i, C'.has i ↔ C.has i ∨ i = id) ∧ (C'.sz id = 0 ∧ ∀ i, i ≠ id → C'.sz i = C.sz i) ∧ VR C' (.gs id 0) (.slice none 0 0) ∧ SR w0 E R0 (updK M [((id, 0), .row e t [] 0)]) C' := by
  have hdom : ¬ C.dom id := fun h => hid (.inl h)
  have hrow : ¬ C.row id := fun h => hid (.inr h)
  have hliv : ¬ C.liv id := fun hl => hrow (h.own.liv id hl)
  have hok : ∀ v, ¬ C.hok id v := fun v hv => hrow (h.own.hokr id v hv)
  let C' : Ctx := { C with sz := fun i => if i = id then 0 else C.sz i, row := fun i => C.row i ∨ i = id, hok := fun i v => C.hok i v ∨ (i = id ∧ v = 0), hd := fun i v => if i = id then .slice none 0 0 else C.hd i v }
  have hle : C.Le C' := ⟨fun i hi => ⟨hi, rfl⟩, fun b hb => ⟨hb, rfl⟩, fun i v hv => ⟨.inl hv, by
    have : i ≠ id := fun e => hok v (e ▸ hv)
    simp [C', this]⟩⟩
  have hnone : ∀ o, M (id, o) = none := fun o => by
    cases hm : M (id, o) with
    | none => rfl
    | some a => exact (hid (h.mr.has hm)).elim
  refine ⟨C', rfl, hle, ?_, ⟨by simp [C'], fun i hi => by simp [C', hi]⟩, .gs (.inr ⟨rfl, rfl⟩) (by simp [C']), ⟨⟨?_, ?_, ?_⟩, ⟨h.own.lt, h.own.unfrozen, h.own.apart, h.own.inj, h.own.R_lt, ?_, ?_, ?_, ?_, ?_⟩, h.fr, h.mine, h.rr, ?_, Glob.mono h.gl hle.R, h.rown⟩⟩
  · intro i
    show (C.dom i ∨ (C.row i ∨ i = id)) ↔ (C.dom i ∨ C.row i) ∨ i = id
    rw [or_assoc]
  · intro id' o' a ha hsa
    rcases up1 ha with ⟨e, rfl⟩ | ⟨_, ha⟩
    · cases hsa
    · obtain ⟨hd', us, hu, huc⟩ := h.mr.at_ id' o' a ha hsa
      exact ⟨hd', us, hu.mono hle, huc⟩
  · intro id' o' a ha hsa
    rcases up1 ha with ⟨e, rfl⟩ | ⟨hk, ha⟩
    · cases e
      exact ⟨rfl, .inr rfl, fun v hv => by rcases hv with hv | ⟨_, rfl⟩; exact (hok v hv).elim; exact Nat.le_refl _, .inr ⟨rfl, rfl⟩, .inl ⟨hliv, rfl, by simp [C']⟩⟩
    · have hsp := h.mr.sp id' o' a ha hsa
      have hn : id' ≠ id := fun e => hid (e ▸ hsp.has)
      exact hsp.congr ⟨.rfl, .rfl, by simp [C', hn], fun _ => rfl, fun v => by simp [C', hn], fun _ _ => by simp [C', hn], fun _ => rfl⟩ hle.R
  · intro id' o1 o2 a1 a2 h1 h2 hlt
    rcases up1 h1 with ⟨e1, rfl⟩ | ⟨_, h1⟩ <;> rcases up1 h2 with ⟨e2, rfl⟩ | ⟨_, h2⟩
    · cases e1; cases e2; omega
    · cases e1; rw [hnone] at h2; cases h2
    · cases e2; rw [hnone] at h1; cases h1
    · exact h.mr.apart _ _ _ _ _ h1 h2 hlt
  · intro i hi
    have hn : i ≠ id := fun e => hdom (e ▸ hi)
    show _ = if i = id then 0 else C.sz i
    simp only [hn, if_false]
    exact h.own.sized i hi
  · intro i hi hr
    rcases hr with hr | rfl
    · exact h.own.dis i hi hr
    · exact hdom hi
  · exact fun i hi => .inl (h.own.liv i hi)
  · intro i hi
    show (if i = id then 0 else C.sz i) = 0
    rcases hi with hi | rfl
    · rw [h.own.rsz i hi]; simp
    · simp
  · intro i v hv
    rcases hv with hv | ⟨rfl, _⟩
    · exact .inl (h.own.hokr i v hv)
    · exact .inr rfl
  · intro i b n hk hi
    have hn : i ≠ id := fun e => hdom (e ▸ hi)
    show _ ∧ (if i = id then 0 else C.sz i) = n
    simp only [hn, if_false]
    exact h.keep i b n hk hi

/-- A row that has grown in a block. -/
theorem SR_row [Glob] (h : SR w0 E R0 M C) {id e t : Nat} {xs : List (Dat t)} {ver : Nat} (hm : M (id, 0) = some (.row e t xs ver)) (w' : World) (b' cap' : Nat) (cur' : Array Value) (xs' : List (Dat t))
    (hos : w'.os = C.w.os) (hta : w'.tape = C.w.tape) (hou : w'.output = C.w.output) (hsz : C.w.heap.size ≤ w'.heap.size)
    (hoth : ∀ b, b < C.w.heap.size → (C.liv id → b ≠ C.ρ id) → w'.heap[b]? = C.w.heap[b]?) (hb : (C.liv id ∧ b' = C.ρ id) ∨ b' = C.w.heap.size) (hlt : b' < w'.heap.size)
    (hcell : w'.heap[b']? = some (.cells cur' e (0, 0))) (hcap : xs'.length ≤ cap' ∧ 0 < xs'.length) (hmax : cap' ≤ maxLen) (hcur : cur'.size = cap' * datSize t)
    (hel : ∀ i, i < xs'.length → CR C.bare (encAt t xs' i) ((cur'.toList.drop (i * datSize t)).take (datSize t))) :
    ∃ C' : Ctx, C'.w = w' ∧ C.Le C' ∧ (∀ i, C'.has i ↔ C.has i) ∧ C'.sz = C.sz ∧ VR C' (.gs id (ver + 1)) (.slice (some ⟨b', 0, none⟩) xs'.length cap') ∧ SR w0 E R0 (updK M [((id, 0), .row e t xs' (ver + 1))]) C' := by
  obtain ⟨_, hrow⟩ := h.mr.sp id 0 _ hm rfl
  have hdom : ¬ C.dom id := fun hd => h.own.dis id hd hrow.row
  have hnv : ∀ v, C.hok id v → v ≠ ver + 1 := fun v hv e => by have := hrow.top v hv; omega
  let C' : Ctx := { C with w := w', ρ := fun i => if i = id then b' else C.ρ i, liv := fun i => C.liv i ∨ i = id, hok := fun i v => C.hok i v ∨ (i = id ∧ v = ver + 1), hd := fun i v => if i = id ∧ v = ver + 1 then .slice (some ⟨b', 0, none⟩) xs'.length cap' else C.hd i v }
  have hblk : ∀ i, C'.blk i → i = id ∨ (i ≠ id ∧ C.blk i) := by
    intro i hi
    by_cases e : i = id
    · exact .inl e
    · refine .inr ⟨e, ?_⟩
      rcases hi with hi | hi
      · exact .inl hi
      · exact .inr (hi.resolve_right e)
  have hoth2 : ∀ i, C.blk i → i ≠ id → w'.heap[C.ρ i]? = C.w.heap[C.ρ i]? := fun i hi hn => hoth _ (h.own.lt i hi) fun hl e => hn (h.own.inj _ _ hi (.inr hl) e)
  have hρ : ∀ i, i ≠ id → C'.ρ i = C.ρ i := fun i hn => by simp [C', hn]
  have hρid : C'.ρ id = b' := by simp [C']
  have hne : ∀ i, C.blk i → i ≠ id → C.ρ i ≠ b' := fun i hi hn e => by
    rcases hb with ⟨hl, rfl⟩ | rfl
    · exact hn (h.own.inj _ _ hi (.inr hl) e)
    · have := h.own.lt i hi; omega
  have hle : C.Le C' := ⟨fun i hi => ⟨hi, hρ i fun e => hdom (e ▸ hi)⟩, fun b hb => ⟨hb, hoth _ (h.own.R_lt b hb) fun hl e => h.own.apart id (.inr hl) (e ▸ hb)⟩, fun i v hv => ⟨.inl hv, by
    have : ¬ (i = id ∧ v = ver + 1) := fun ⟨e1, e2⟩ => hnv v (e1 ▸ hv) e2
    simp [C', this]⟩⟩
  refine ⟨C', rfl, hle, fun i => .rfl, rfl, .gs (.inr ⟨rfl, rfl⟩) (by simp [C']), ⟨⟨?_, ?_, ?_⟩, ⟨?_, ?_, ?_, ?_, ?_, ?_, h.own.dis, ?_, h.own.rsz, ?_⟩, ⟨hos.trans h.fr.os, hta.trans h.fr.tape, hou.trans h.fr.output, Nat.le_trans h.fr.size hsz, ?_⟩, ?_, h.rr, ?_, Glob.mono h.gl hle.R, ?_⟩⟩
  · intro id' o' a ha hsa
    rcases up1 ha with ⟨e, rfl⟩ | ⟨_, ha⟩
    · cases hsa
    · obtain ⟨hd', us, hu, huc⟩ := h.mr.at_ id' o' a ha hsa
      have hn : id' ≠ id := fun e => hdom (e ▸ hd')
      refine ⟨hd', us, hu.mono hle, ?_⟩
      intro j v hj
      rw [hρ id' hn]
      exact (cell_of_block (hoth2 id' (.inl hd') hn) _ _).trans (huc j v hj)
  · intro id' o' a ha hsa
    rcases up1 ha with ⟨e, rfl⟩ | ⟨hk, ha⟩
    · cases e
      refine ⟨rfl, hrow.row, fun v hv => ?_, .inr ⟨rfl, rfl⟩, .inr (.inl ⟨.inr rfl, cap', cur', ?_, ?_, hcap, hmax, hcur, fun i hi => CR.mono (C := C.bare) (C' := C'.bare) ⟨fun _ h => False.elim h, hle.R, fun _ _ h => False.elim h⟩ (hel i hi)⟩)⟩
      · rcases hv with hv | ⟨_, rfl⟩
        · have := hrow.top v hv; omega
        · exact Nat.le_refl _
      · rw [hρid]; simp [C']
      · rw [hρid]; exact hcell
    · have hsp := h.mr.sp id' o' a ha hsa
      by_cases hn : id' = id
      · subst hn
        cases a <;> first | exact hsp | exact (hdom hsp.1).elim | exact absurd (by rw [hsp.1]) hk
      · exact hsp.congr ⟨.rfl, by simp [C', hn], .rfl, fun _ => hρ id' hn, fun v => by simp [C', hn], fun _ _ => by simp [C', hn], fun hb => hoth2 id' hb hn⟩ hle.R
  · intro id' o1 o2 a1 a2 h1 h2 hlt
    have hw : ∀ k a, updK M [((id, 0), .row e t xs' (ver + 1))] k = some a → ∃ a', M k = some a' ∧ a'.width = a.width := by
      intro k a hk
      rcases up1 hk with ⟨rfl, rfl⟩ | ⟨_, hk⟩
      · exact ⟨_, hm, rfl⟩
      · exact ⟨a, hk, rfl⟩
    obtain ⟨b1, k1, w1⟩ := hw _ _ h1
    obtain ⟨b2, k2, w2⟩ := hw _ _ h2
    rw [← w1]; exact h.mr.apart _ _ _ _ _ k1 k2 hlt
  · intro i hi
    rcases hblk i hi with rfl | ⟨hn, hi⟩
    · rw [hρid]; exact hlt
    · rw [hρ i hn]; exact Nat.lt_of_lt_of_le (h.own.lt i hi) hsz
  · intro i hi o
    rcases hblk i hi with rfl | ⟨hn, hi⟩
    · rw [hρid]
      show World.frozen? w' _ = _
      unfold World.frozen?
      rw [hcell]
      simp
    · rw [hρ i hn]
      have := h.own.unfrozen i hi o
      show World.frozen? w' _ = _
      unfold World.frozen? at this ⊢
      rw [hoth2 i hi hn]; exact this
  · intro i hi
    rcases hblk i hi with rfl | ⟨hn, hi⟩
    · rw [hρid]
      rcases hb with ⟨hl, rfl⟩ | rfl
      · exact h.own.apart _ (.inr hl)
      · intro hR; exact Nat.lt_irrefl _ (h.own.R_lt _ hR)
    · rw [hρ i hn]; exact h.own.apart i hi
  · intro x y hx hy hxy
    rcases hblk x hx with rfl | ⟨hnx, kx⟩ <;> rcases hblk y hy with rfl | ⟨hny, ky⟩
    · rfl
    · rw [hρid, hρ y hny] at hxy; exact (hne y ky hny hxy.symm).elim
    · rw [hρid, hρ x hnx] at hxy; exact (hne x kx hnx hxy).elim
    · rw [hρ x hnx, hρ y hny] at hxy; exact h.own.inj x y kx ky hxy
  · intro b hb; exact Nat.lt_of_lt_of_le (h.own.R_lt b hb) hsz
  · intro i hi
    have hn : i ≠ id := fun e => hdom (e ▸ hi)
    rw [hρ i hn]
    exact (objSize_of (hoth2 i (.inl hi) hn)).trans (h.own.sized i hi)
  · intro i hi
    rcases hi with hi | rfl
    · exact h.own.liv i hi
    · exact hrow.row
  · intro i v hv
    rcases hv with hv | ⟨rfl, _⟩
    · exact h.own.hokr i v hv
    · exact hrow.row
  · intro b hb hE
    show w'.heap[b]? = _
    rw [hoth b (Nat.lt_of_lt_of_le hb h.fr.size) (fun hl e => ?_)]
    · exact h.fr.block b hb hE
    · rcases h.mine id (.inr hl) with h1 | h1
      · omega
      · exact hE (e ▸ h1)
  · intro i hi
    rcases hblk i hi with rfl | ⟨hn, hi⟩
    · rw [hρid]
      rcases hb with ⟨hl, rfl⟩ | rfl
      · exact h.mine _ (.inr hl)
      · exact .inl h.fr.size
    · rw [hρ i hn]; exact h.mine i hi
  · intro i b n hk hi
    have hn : i ≠ id := fun e => hdom (e ▸ hi)
    rw [hρ i hn]
    exact h.keep i b n hk hi
  · intro i hi
    by_cases hn : i = id
    · subst hn
      rw [hρid]
      rcases hb with ⟨hl, rfl⟩ | rfl
      · exact h.rown _ hl
      · exact .inl h.fr.size
    · rw [hρ i hn]; exact h.rown i (hi.resolve_right hn)

/-- A row without a block, to which nothing is put. -/
theorem SR_row0 [Glob] (h : SR w0 E R0 M C) {id e t : Nat} {xs : List (Dat t)} {ver : Nat} (hm : M (id, 0) = some (.row e t xs ver)) (hl : ¬ C.liv id) (xs' : List (Dat t)) (hx : xs' = []) :
    ∃ C' : Ctx, C'.w = C.w ∧ C.Le C' ∧ (∀ i, C'.has i ↔ C.has i) ∧ C'.sz = C.sz ∧ VR C' (.gs id (ver + 1)) (.slice none 0 0) ∧ SR w0 E R0 (updK M [((id, 0), .row e t xs' (ver + 1))]) C' := by
  subst hx
  obtain ⟨_, hrow⟩ := h.mr.sp id 0 _ hm rfl
  have hdom : ¬ C.dom id := fun hd => h.own.dis id hd hrow.row
  have hnv : ∀ v, C.hok id v → v ≠ ver + 1 := fun v hv e => by have := hrow.top v hv; omega
  let C' : Ctx := { C with hok := fun i v => C.hok i v ∨ (i = id ∧ v = ver + 1), hd := fun i v => if i = id ∧ v = ver + 1 then .slice none 0 0 else C.hd i v }
  have hle : C.Le C' := ⟨fun i hi => ⟨hi, rfl⟩, fun b hb => ⟨hb, rfl⟩, fun i v hv => ⟨.inl hv, by
    have : ¬ (i = id ∧ v = ver + 1) := fun ⟨e1, e2⟩ => hnv v (e1 ▸ hv) e2
    simp [C', this]⟩⟩
  refine ⟨C', rfl, hle, fun i => .rfl, rfl, .gs (.inr ⟨rfl, rfl⟩) (by simp [C']), ⟨⟨?_, ?_, ?_⟩, ⟨h.own.lt, h.own.unfrozen, h.own.apart, h.own.inj, h.own.R_lt, h.own.sized, h.own.dis, h.own.liv, h.own.rsz, ?_⟩, h.fr, h.mine, h.rr, h.keep, Glob.mono h.gl hle.R, h.rown⟩⟩
  · intro id' o' a ha hsa
    rcases up1 ha with ⟨e, rfl⟩ | ⟨_, ha⟩
    · cases hsa
    · obtain ⟨hd', us, hu, huc⟩ := h.mr.at_ id' o' a ha hsa
      exact ⟨hd', us, hu.mono hle, huc⟩
  · intro id' o' a ha hsa
    rcases up1 ha with ⟨e, rfl⟩ | ⟨hk, ha⟩
    · cases e
      refine ⟨rfl, hrow.row, fun v hv => ?_, .inr ⟨rfl, rfl⟩, .inl ⟨hl, rfl, by simp [C']⟩⟩
      rcases hv with hv | ⟨_, rfl⟩
      · have := hrow.top v hv; omega
      · exact Nat.le_refl _
    · have hsp := h.mr.sp id' o' a ha hsa
      by_cases hn : id' = id
      · subst hn
        cases a <;> first | exact hsp | exact (hdom hsp.1).elim | exact absurd (by rw [hsp.1]) hk
      · exact hsp.congr ⟨.rfl, .rfl, .rfl, fun _ => rfl, fun v => by simp [C', hn], fun _ _ => by simp [C', hn], fun _ => rfl⟩ hle.R
  · intro id' o1 o2 a1 a2 h1 h2 hlt
    have hw : ∀ k a, updK M [((id, 0), .row e t [] (ver + 1))] k = some a → ∃ a', M k = some a' ∧ a'.width = a.width := by
      intro k a hk
      rcases up1 hk with ⟨rfl, rfl⟩ | ⟨_, hk⟩
      · exact ⟨_, hm, rfl⟩
      · exact ⟨a, hk, rfl⟩
    obtain ⟨b1, k1, w1⟩ := hw _ _ h1
    obtain ⟨b2, k2, w2⟩ := hw _ _ h2
    rw [← w1]; exact h.mr.apart _ _ _ _ _ k1 k2 hlt
  · intro i v hv
    rcases hv with hv | ⟨rfl, _⟩
    · exact h.own.hokr i v hv
    · exact hrow.row

/-- A row begun again. -/
theorem SR_again [Glob] (h : SR w0 E R0 M C) {id e t : Nat} {xs : List (Dat t)} {ver : Nat} (hm : M (id, 0) = some (.row e t xs ver)) (e2 t2 : Nat) :
    ∃ C' : Ctx, C'.w = C.w ∧ C.Le C' ∧ (∀ i, C'.has i ↔ C.has i) ∧ C'.sz = C.sz ∧ VR C' (.gs id (ver + 1)) (.slice none 0 0) ∧ SR w0 E R0 (updK M [((id, 0), .row e2 t2 [] (ver + 1))]) C' := by
  obtain ⟨_, hrow⟩ := h.mr.sp id 0 _ hm rfl
  have hdom : ¬ C.dom id := fun hd => h.own.dis id hd hrow.row
  have hnv : ∀ v, C.hok id v → v ≠ ver + 1 := fun v hv e => by have := hrow.top v hv; omega
  let C' : Ctx := { C with liv := fun i => C.liv i ∧ i ≠ id, hok := fun i v => C.hok i v ∨ (i = id ∧ v = ver + 1), hd := fun i v => if i = id ∧ v = ver + 1 then .slice none 0 0 else C.hd i v }
  have hblk : ∀ i, C'.blk i → C.blk i := fun i hi => by
    rcases hi with hi | hi
    · exact .inl hi
    · exact .inr hi.1
  have hle : C.Le C' := ⟨fun i hi => ⟨hi, rfl⟩, fun b hb => ⟨hb, rfl⟩, fun i v hv => ⟨.inl hv, by
    have : ¬ (i = id ∧ v = ver + 1) := fun ⟨e1, e2⟩ => hnv v (e1 ▸ hv) e2
    simp [C', this]⟩⟩
  refine ⟨C', rfl, hle, fun i => .rfl, rfl, .gs (.inr ⟨rfl, rfl⟩) (by simp [C']), ⟨⟨?_, ?_, ?_⟩, ⟨fun i hi => h.own.lt i (hblk i hi), fun i hi => h.own.unfrozen i (hblk i hi), fun i hi => h.own.apart i (hblk i hi), fun a b ha hb => h.own.inj a b (hblk a ha) (hblk b hb), h.own.R_lt, h.own.sized, h.own.dis, fun i hi => h.own.liv i hi.1, h.own.rsz, ?_⟩, h.fr, fun i hi => h.mine i (hblk i hi), h.rr, h.keep, Glob.mono h.gl hle.R, fun i hi => h.rown i hi.1⟩⟩
  · intro id' o' a ha hsa
    rcases up1 ha with ⟨e, rfl⟩ | ⟨_, ha⟩
    · cases hsa
    · obtain ⟨hd', us, hu, huc⟩ := h.mr.at_ id' o' a ha hsa
      exact ⟨hd', us, hu.mono hle, huc⟩
  · intro id' o' a ha hsa
    rcases up1 ha with ⟨e, rfl⟩ | ⟨hk, ha⟩
    · cases e
      refine ⟨rfl, hrow.row, fun v hv => ?_, .inr ⟨rfl, rfl⟩, .inl ⟨fun hl => hl.2 rfl, rfl, by simp [C']⟩⟩
      rcases hv with hv | ⟨_, rfl⟩
      · have := hrow.top v hv; omega
      · exact Nat.le_refl _
    · have hsp := h.mr.sp id' o' a ha hsa
      by_cases hn : id' = id
      · subst hn
        cases a <;> first | exact hsp | exact (hdom hsp.1).elim | exact absurd (by rw [hsp.1]) hk
      · exact hsp.congr ⟨.rfl, by simp [C', hn], .rfl, fun _ => rfl, fun v => by simp [C', hn], fun _ _ => by simp [C', hn], fun _ => rfl⟩ hle.R
  · intro id' o1 o2 a1 a2 h1 h2 hlt
    have hw : ∀ k a, updK M [((id, 0), .row e2 t2 [] (ver + 1))] k = some a → ∃ a', M k = some a' ∧ a'.width = a.width := by
      intro k a hk
      rcases up1 hk with ⟨rfl, rfl⟩ | ⟨_, hk⟩
      · exact ⟨_, hm, rfl⟩
      · exact ⟨a, hk, rfl⟩
    obtain ⟨b1, k1, w1⟩ := hw _ _ h1
    obtain ⟨b2, k2, w2⟩ := hw _ _ h2
    rw [← w1]; exact h.mr.apart _ _ _ _ _ k1 k2 hlt
  · intro i v hv
    rcases hv with hv | ⟨rfl, _⟩
    · exact h.own.hokr i v hv
    · exact hrow.row

/-- An element's place in a row of cells. -/
abbrev slotL (sz : Nat) (l : List Value) (i : Nat) : List Value := (l.drop (i * sz)).take sz
theorem slot_left {sz : Nat} {l r : List Value} {i : Nat} (h : i * sz + sz ≤ l.length) : slotL sz (l ++ r) i = slotL sz l i := by
  unfold slotL
  rw [List.drop_append_of_le_length (by omega), List.take_append_of_le_length (by simp; omega)]
theorem slot_right {sz : Nat} {l r : List Value} {n i : Nat} (h : l.length = n * sz) : slotL sz (l ++ r) (n + i) = slotL sz r i := by
  unfold slotL
  rw [Nat.add_mul, ← h, List.drop_append, List.drop_of_length_le (by omega), List.nil_append]
  congr 2
  omega
theorem slot_take {sz : Nat} {l : List Value} {i k : Nat} (h : i * sz + sz ≤ k) : slotL sz (l.take k) i = slotL sz l i := by
  unfold slotL
  rw [List.drop_take, List.take_take]
  congr 1
  omega
theorem slot_flat {sz : Nat} {css : List (List Value)} (h : ∀ i, i < css.length → (css.getD i []).length = sz) {i : Nat} (hi : i < css.length) : slotL sz css.flatten i = css.getD i [] := by
  apply List.ext_getElem?
  intro j
  unfold slotL
  rw [List.getElem?_take, List.getElem?_drop]
  by_cases hj : j < sz
  · rw [if_pos hj]; exact flatten_get h hi hj
  · rw [if_neg hj, List.getElem?_eq_none (by rw [h i hi]; omega)]
/-- Elements that stand in a world, one behind another. -/
def News (C : Ctx) (t : Nat) (ys : List (Dat t)) (Y : Value) : Prop :=
  (Y = .slice none 0 0 ∧ ys = []) ∨ ∃ (a : Addr) (cap : Nat) (cs : List Value), Y = .slice (some a) ys.length cap ∧ cs.length = ys.length * datSize t ∧ (∀ j u, cs[j]? = some u → C.w.cell? (a.add j) = some u) ∧
    (∀ i, i < ys.length → CR C.bare (encAt t ys i) (slotL (datSize t) cs i))
theorem decN_spec {t : Nat} {get : Nat → List AV} : ∀ {n k : Nat} {ys : List (Dat t)}, decN t get n k = some ys → ys.length = n ∧ ∀ i, i < n → encAt t ys i = get (k + i)
  | 0, k, ys, h => by simp only [decN, Option.some.injEq] at h; subst h; exact ⟨rfl, fun i hi => absurd hi (Nat.not_lt_zero _)⟩
  | n + 1, k, ys, h => by
    simp only [decN] at h
    split at h
    · rename_i x l hx hl
      simp only [Option.some.injEq] at h; subst h
      obtain ⟨h1, h2⟩ := decN_spec hl
      refine ⟨by simp [h1], fun i hi => ?_⟩
      cases i with
      | zero => exact dec_enc hx
      | succ i =>
        have := h2 i (by omega)
        unfold encAt at this ⊢
        simp only [List.getD_cons_succ]
        rw [this]; congr 1; omega
    · cases h
theorem ro_news {t n sz : Nat} {get : Nat → List AV} {Y : Value} (hy : VR C (.ro sz n get) Y) (hsz : sz = datSize t) (ys : List (Dat t)) (hl : ys.length = n) (he : ∀ i, i < n → encAt t ys i = get i) : News C t ys Y := by
  subst hsz
  cases hy with
  | @ro _ _ _ _ b o cap cs hb h hlen hc hcap hn =>
    have hg : ∀ i, i < n → ((List.range n).map cs).getD i [] = cs i := fun i hi => by simp [List.getD_eq_getElem?_getD, List.getElem?_range hi, hi]
    have hlen' : ∀ i, i < ((List.range n).map cs).length → (((List.range n).map cs).getD i []).length = datSize t := fun i hi => by
      have hi : i < n := by simpa using hi
      rw [hg i hi]; exact hlen i hi
    refine .inr ⟨⟨b, o, none⟩, cap, ((List.range n).map cs).flatten, by rw [hl], by rw [flatten_len hlen', hl]; simp, ?_, ?_⟩
    · intro j u hj
      have hjl := lt_of_getElem? hj
      rw [flatten_len hlen'] at hjl
      simp only [List.length_map, List.length_range] at hjl
      have hpos : 0 < datSize t := Nat.pos_of_ne_zero fun e => by rw [e] at hjl; simp at hjl
      have hdiv : j / datSize t < n := (Nat.div_lt_iff_lt_mul hpos).2 hjl
      have hmod := Nat.mod_lt j hpos
      have e : j = j / datSize t * datSize t + j % datSize t := by rw [Nat.mul_comm]; exact (Nat.div_add_mod j _).symm
      rw [e, flatten_get hlen' (by simpa using hdiv) hmod, hg _ hdiv] at hj
      rw [addr_add, e, ← Nat.add_assoc, hc _ _ hdiv hmod]
      exact hj
    · intro i hi
      rw [hl] at hi
      rw [slot_flat hlen' (by simpa using hi), hg i hi, he i hi]
      exact h i hi
  | ro0 =>
    cases ys with
    | nil => exact .inl ⟨rfl, rfl⟩
    | cons y ys => cases hl
  | @roE _ _ _ a cap =>
    cases ys with
    | nil => exact .inr ⟨a, cap, [], rfl, by simp, fun j u hj => by simp at hj, fun i hi => absurd hi (Nat.not_lt_zero _)⟩
    | cons y ys => cases hl
theorem slot_len {sz : Nat} {l : List Value} {i : Nat} (h : i * sz + sz ≤ l.length) : (slotL sz l i).length = sz := by simp; omega
/-- A row of one's own, as elements. -/
theorem row_news {id e t ver : Nat} {ys : List (Dat t)} (hrow : RowR C id e t ys ver) : News C t ys (C.hd id ver) := by
  have hb : (C.hd id ver = .slice none 0 0 ∧ ys = []) ∨ ∃ b e0 cap cur, C.hd id ver = .slice (some ⟨b, 0, none⟩) ys.length cap ∧ C.w.heap[b]? = some (.cells cur e0 (0, 0)) ∧ (ys.length ≤ cap ∧ 0 < ys.length) ∧ cap ≤ maxLen ∧ cur.size = cap * datSize t ∧
      ∀ i, i < ys.length → CR C.bare (encAt t ys i) ((cur.toList.drop (i * datSize t)).take (datSize t)) := by
    rcases hrow.at_ with ⟨_, h1, h2⟩ | ⟨_, cap, cur, h⟩ | ⟨_, b, e0, cap, cur, _, h⟩
    · exact .inl ⟨h2, h1⟩
    · exact .inr ⟨_, _, cap, cur, h⟩
    · exact .inr ⟨b, e0, cap, cur, h⟩
  rcases hb with ⟨h2, h1⟩ | ⟨_, _, cap, cur, h1, h2, h3, h4, h5, h6⟩
  · exact .inl ⟨h2, h1⟩
  · have hle : ys.length * datSize t ≤ cur.toList.length := by rw [show cur.toList.length = cur.size from Array.length_toList .., h5]; exact Nat.mul_le_mul_right _ h3.1
    refine .inr ⟨_, cap, cur.toList.take (ys.length * datSize t), h1, by rw [List.length_take]; omega, fun j u hj => ?_, fun i hi => ?_⟩
    · rw [addr_add, Nat.zero_add]
      rw [List.getElem?_take] at hj
      split at hj
      · unfold World.cell?
        simp only [h2]
        simpa using hj
      · cases hj
    · rw [slot_take (by
        have : (i + 1) * datSize t ≤ ys.length * datSize t := Nat.mul_le_mul_right _ hi
        rw [Nat.add_mul] at this; omega)]
      exact h6 i hi
theorem news_of (hM : MR C M) {t : Nat} {y : AV} {Y : Value} {ks : List Key} {ys : List (Dat t)} (hn : evNews M t y = some (ks, ys)) (hy : VR C y Y) : News C t ys Y := by
  unfold evNews at hn
  split at hn
  · simp only [Option.some.injEq, Prod.mk.injEq] at hn
    obtain ⟨_, rfl⟩ := hn
    cases hy
    exact .inl ⟨rfl, rfl⟩
  · split at hn
    · rename_i sz n get _ l hsz hl
      simp only [Option.some.injEq, Prod.mk.injEq] at hn
      obtain ⟨_, rfl⟩ := hn
      obtain ⟨h1, h2⟩ := decN_spec hl
      exact ro_news hy (by simpa using hsz) _ h1 fun i hi => by simpa using h2 i hi
    · cases hn
  · split at hn
    · rename_i e; subst e
      simp only [Option.some.injEq, Prod.mk.injEq] at hn
      obtain ⟨_, rfl⟩ := hn
      exact ro_news (vw_inv hy) rfl _ rfl fun i hi => rfl
    · cases hn
  · rename_i id v
    split at hn
    · rename_i e' t' ys' w hm
      split at hn
      · rename_i hv
        have hv : v = w := by simpa using hv
        subst hv
        split at hn
        · rename_i e; subst e
          simp only [Option.some.injEq, Prod.mk.injEq] at hn
          obtain ⟨_, rfl⟩ := hn
          obtain ⟨_, hrow⟩ := hM.sp id 0 _ hm rfl
          cases hy with
          | gs h e => rw [← e]; exact row_news hrow
        · cases hn
      · cases hn
    · cases hn
  · cases hn
theorem packV_VR {T : TypeId → Option TyI} {C : Ctx} {t : TypeId} {x : AV} {v : Value} (h : VR C x v) : VR C (packV T t x) v := by
  unfold packV
  split
  · rename_i sz n get
    split
    · rename_i k hk
      split
      · rename_i l hs hd
        have hs : sz = datSize k := by simpa using hs
        obtain ⟨h1, h2⟩ := decN_spec hd
        refine .vw ?_
        subst hs
        rw [h1]
        cases h with
        | ro hb h hl hc hcap hn => exact .ro hb (fun i hi => by rw [h2 i hi, Nat.zero_add]; exact h i hi) hl hc hcap hn
        | ro0 => exact .ro0
        | roE => exact .roE
      · exact h
    · exact h
  · exact h
/-- What append does to a row of one's own. -/
theorem append_run {id e t ver : Nat} {xs ys : List (Dat t)} (h0 : ∀ b, C.liv id → b = C.ρ id → b < C.w.heap.size) (hrow : RowR C id e t xs ver) {Y : Value} (hy : News C t ys Y) {tt ty : TypeId} {d de : TyI} (ok : TyOk1 P tt d) (hd : d.desc = .slice e) (oke : TyOk1 P e de) (hne : e ≠ fz) (hs1 : de.size = datSize t)
    (hz1 : widthC de.zero = datSize t) (hpos : 0 < datSize t) (hfit : xs.length + ys.length ≤ 134217728) :
    ∃ v' w', (Builtin.append_ #[tt, tt] ty #[C.hd id ver, Y]).run P C.w = .ok v' w' ∧
      ((v' = .slice none 0 0 ∧ w' = C.w ∧ ¬ C.liv id ∧ xs ++ ys = []) ∨
       ∃ b' cap' cur', v' = .slice (some ⟨b', 0, none⟩) (xs ++ ys).length cap' ∧ w'.os = C.w.os ∧ w'.tape = C.w.tape ∧ w'.output = C.w.output ∧ C.w.heap.size ≤ w'.heap.size ∧
        (∀ b, b < C.w.heap.size → (C.liv id → b ≠ C.ρ id) → w'.heap[b]? = C.w.heap[b]?) ∧ ((C.liv id ∧ b' = C.ρ id) ∨ b' = C.w.heap.size) ∧ b' < w'.heap.size ∧
        w'.heap[b']? = some (.cells cur' e (0, 0)) ∧ ((xs ++ ys).length ≤ cap' ∧ 0 < (xs ++ ys).length) ∧ cap' ≤ maxLen ∧ cur'.size = cap' * datSize t ∧
        ∀ i, i < (xs ++ ys).length → CR C.bare (encAt t (xs ++ ys) i) (slotL (datSize t) cur'.toList i)) := by
  have hu := und_slice ok hd
  obtain ⟨inf, hinf, hisz, z, hzero, hzc⟩ := oke.info
  have hby := oke.bytes inf hinf
  have hz2 : z.cells.size = datSize t := by have := CR_length (hzc C); rw [hz1] at this; simpa using this
  have hisz' : inf.size = datSize t := hisz.trans hs1
  have hmax : xs.length + ys.length ≤ maxLen := by simp only [maxLen]; omega
  have hbytes : (xs.length + ys.length) * inf.bytes ≤ 140737488355328 := by
    have := Nat.mul_le_mul hfit hby
    omega
  have hxe : ∀ i, i < xs.length → encAt t (xs ++ ys) i = encAt t xs i := fun i hi => by
    unfold encAt; rw [List.getD_eq_getElem?_getD, List.getD_eq_getElem?_getD, List.getElem?_append_left hi]
  have hye : ∀ i, encAt t (xs ++ ys) (xs.length + i) = encAt t ys i := fun i => by
    unfold encAt; rw [List.getD_eq_getElem?_getD, List.getD_eq_getElem?_getD, List.getElem?_append_right (Nat.le_add_right _ _), Nat.add_sub_cancel_left]
  /- a row that begins with what was and what is new -/
  have build : ∀ (pre news rest : List Value) (N : Nat), pre.length = xs.length * datSize t → news.length = ys.length * datSize t → (∀ i, i < xs.length → CR C.bare (encAt t xs i) (slotL (datSize t) pre i)) → (∀ i, i < ys.length → CR C.bare (encAt t ys i) (slotL (datSize t) news i)) →
      ∀ i, i < (xs ++ ys).length → CR C.bare (encAt t (xs ++ ys) i) (slotL (datSize t) (pre ++ news ++ rest) i) := by
    intro pre news rest N hp hn h1 h2 i hi
    have hroom : ∀ k n, k < n → k * datSize t + datSize t ≤ n * datSize t := fun k n hk => by
      have : (k + 1) * datSize t ≤ n * datSize t := Nat.mul_le_mul_right _ hk
      rwa [Nat.add_mul, Nat.one_mul] at this
    rw [List.append_assoc]
    by_cases hx : i < xs.length
    · rw [slot_left (by rw [hp]; exact hroom _ _ hx), hxe i hx]; exact h1 i hx
    · obtain ⟨k, rfl⟩ : ∃ k, i = xs.length + k := ⟨i - xs.length, by omega⟩
      have hk : k < ys.length := by simp at hi; omega
      rw [slot_right hp, slot_left (by rw [hn]; exact hroom _ _ hk), hye]; exact h2 k hk
  rcases hrow.at_ with ⟨hl, rfl, hhd⟩ | ⟨hl, cap, cur, hhd, hcell, ⟨hcap, hxp⟩, hcmax, hcs, hel⟩ | ⟨hf, _⟩
  · rw [hhd]
    rcases hy with ⟨rfl, rfl⟩ | ⟨a, c, news, rfl, hn1, hn2, hn3⟩
    · refine ⟨.slice none 0 0, C.w, ?_, .inl ⟨rfl, rfl, hl, rfl⟩⟩
      simp [Builtin.append_, run_underlying hu, sizeOf, typeInfo, hinf, Builtin.lenOf, Builtin.firstCells]
    · by_cases hm : ys.length = 0
      · have hys : ys = [] := List.eq_nil_of_length_eq_zero hm
        subst hys
        refine ⟨.slice none 0 0, C.w, ?_, .inl ⟨rfl, rfl, hl, rfl⟩⟩
        simp [Builtin.append_, run_underlying hu, sizeOf, typeInfo, hinf, Builtin.lenOf, Builtin.firstCells, loadCells, loadCellsFrom]
      · have hr := run_append_nil (P := P) C.w tt ty e inf z hu hinf hzero a ys.length c news (by rw [hisz', hn1]) hn2 (by omega) (by simp at hfit; omega) (by simp at hbytes; omega)
        have hge := grownCap_ge C.w ys.length 0 e
        refine ⟨_, _, hr, .inr ⟨C.w.heap.size, grownCap C.w ys.length 0 e, _, by simp, rfl, rfl, rfl, by simp, fun b hb _ => RowKit.Below.heap_alloc C.w.drew _ _ hb, .inr rfl, by simp, heap_alloc_new C.w.drew _, ⟨by simpa using hge, by simp; omega⟩, grownCap_le_maxLen C.w ys.length 0 e (by simpa using hmax), ?_, ?_⟩⟩
        · simp only [Array.size_append, List.size_toArray, size_zeroCells, hz2, hn1]
          rw [← Nat.add_mul]; congr 1; omega
        · have := build [] news (Builtin.zeroCells z.cells (grownCap C.w ys.length 0 e - ys.length)).toList 0 (by simp) hn1 (fun i hi => absurd hi (Nat.not_lt_zero _)) hn3
          simpa using this
  · rw [hhd]
    have hlt : C.ρ id < C.w.heap.size := h0 _ hl rfl
    have hpl : (cur.toList.take (xs.length * datSize t)).length = xs.length * datSize t := by
      rw [List.length_take, show cur.toList.length = cur.size from Array.length_toList .., hcs]
      exact Nat.min_eq_left (Nat.mul_le_mul_right _ hcap)
    have hpre : ∀ i, i < xs.length → CR C.bare (encAt t xs i) (slotL (datSize t) (cur.toList.take (xs.length * datSize t)) i) := fun i hi => by
      rw [slot_take]
      · exact hel i hi
      · have : (i + 1) * datSize t ≤ xs.length * datSize t := Nat.mul_le_mul_right _ hi
        rwa [Nat.add_mul, Nat.one_mul] at this
    rcases hy with ⟨rfl, rfl⟩ | ⟨a, c, news, rfl, hn1, hn2, hn3⟩
    · refine ⟨.slice (some ⟨C.ρ id, 0, none⟩) xs.length cap, C.w, ?_, .inr ⟨C.ρ id, cap, cur, by simp, rfl, rfl, rfl, Nat.le_refl _, fun _ _ _ => rfl, .inl ⟨hl, rfl⟩, hlt, hcell, ⟨by simpa using hcap, by simpa using hxp⟩, hcmax, hcs, by simpa using hel⟩⟩
      simp [Builtin.append_, run_underlying hu, sizeOf, typeInfo, hinf, Builtin.lenOf, Builtin.firstCells, hcap, storeCells]
    · have h1c : ∀ u ∈ news, u.oneCell' = true := by
        intro u hu'
        obtain ⟨j, hj, rfl⟩ := List.mem_iff_getElem.1 hu'
        rw [hn1] at hj
        have hdiv : j / datSize t < ys.length := (Nat.div_lt_iff_lt_mul hpos).2 hj
        have hmod := Nat.mod_lt j hpos
        have hc := CR_oneCell (hn3 _ hdiv)
        refine hc _ (List.mem_iff_getElem?.2 ⟨j % datSize t, ?_⟩)
        unfold slotL
        rw [List.getElem?_take, if_pos hmod, List.getElem?_drop]
        have e : j / datSize t * datSize t + j % datSize t = j := by rw [Nat.mul_comm]; exact Nat.div_add_mod j _
        rw [e]
        exact List.getElem?_eq_getElem _
      by_cases hroom : xs.length + ys.length ≤ cap
      · have hr := run_append_room (P := P) C.w tt ty e inf hu hinf (C.ρ id) xs.length cap cur hcell a ys.length c news (by rw [hisz', hn1]) hn2 h1c hroom (by rw [hisz', hn1, hcs, ← Nat.add_mul]; exact Nat.mul_le_mul_right _ hroom)
        rw [hisz'] at hr
        refine ⟨_, _, hr, .inr ⟨C.ρ id, cap, _, by simp, rfl, rfl, rfl, by simp, fun b _ hb => setRow_other C.w _ b _ (hb hl), .inl ⟨hl, rfl⟩, by simpa using hlt, setRow_heap C.w _ cur _ e _ hcell, ⟨by simpa using hroom, by simp; omega⟩, hcmax, ?_, ?_⟩⟩
        · simp only [List.size_toArray, List.length_append, hpl, hn1, List.length_drop, Array.length_toList, hcs]
          have : (xs.length + ys.length) * datSize t ≤ cap * datSize t := Nat.mul_le_mul_right _ hroom
          rw [Nat.add_mul] at this
          omega
        · exact build _ news _ 0 hpl hn1 hpre hn3
      · have holds : ∀ j u, (cur.toList.take (xs.length * datSize t))[j]? = some u → C.w.cell? ((⟨C.ρ id, 0, none⟩ : Addr).add j) = some u := by
          intro j u hj
          rw [addr_add, Nat.zero_add]
          rw [List.getElem?_take] at hj
          split at hj
          · unfold World.cell?
            simp only [hcell]
            simpa using hj
          · cases hj
        have hr := run_append_grow (P := P) C.w tt ty e inf z hu hinf hzero ⟨C.ρ id, 0, none⟩ xs.length cap _ (by rw [hisz', hpl]) holds a ys.length c news (by rw [hisz', hn1]) hn2 (by omega) (by omega) (growslice_fits (by omega) hbytes)
        have hge := grownCap_ge C.w (xs.length + ys.length) cap e
        refine ⟨_, _, hr, .inr ⟨C.w.heap.size, grownCap C.w (xs.length + ys.length) cap e, _, by simp, rfl, rfl, rfl, by simp, fun b hb _ => RowKit.Below.heap_alloc C.w.drew _ _ hb, .inr rfl, by simp, heap_alloc_new C.w.drew _, ⟨by simpa using hge, by simp; omega⟩, grownCap_le_maxLen C.w _ cap e hmax, ?_, ?_⟩⟩
        · simp only [Array.size_append, List.size_toArray, size_zeroCells, hz2, hn1, hpl]
          rw [← Nat.add_mul, ← Nat.add_mul]; congr 1; omega
        · have := build _ news (Builtin.zeroCells z.cells (grownCap C.w (xs.length + ys.length) cap e - (xs.length + ys.length))).toList 0 hpl hn1 hpre hn3
          simpa using this
  · exact (hne hf).elim
end
end Go.Proofs.YtcdnbdphakhilaaGreatDoor.Ev
namespace Go.Proofs.YtcdnbdphakhilaaGreatDoor.Ev
/- Rows of one's own: questions, and what is put behind them. -/
section
variable {P : Program} {T : TypeId → Option TyI} {w0 : World} {E : Ent} {R0 : Nat → Prop} {M : Key → Option AV} {C : Ctx}
theorem row_hd {id e t ver : Nat} {xs : List (Dat t)} (h : RowR C id e t xs ver) : ∃ a cap, C.hd id ver = .slice a xs.length cap ∧ xs.length ≤ 9223372036854775807 ∧ (a = none → xs = []) ∧ ∀ ad, a = some ad → ∃ b, ad = ⟨b, 0, none⟩ := by
  rcases h.at_ with ⟨_, rfl, h2⟩ | ⟨hl, cap, cur, h1, h2, h3, h4, h5, h6⟩ | ⟨_, b, e0, cap, cur, hl, h1, h2, h3, h4, h5, h6⟩
  · exact ⟨none, 0, h2, by simp, fun _ => rfl, fun ad e => by cases e⟩
  · exact ⟨_, cap, h1, by simp only [maxLen] at h4; omega, fun e => by (cases e), fun ad e => by cases e; exact ⟨_, rfl⟩⟩
  · exact ⟨_, cap, h1, by simp only [maxLen] at h4; omega, fun e => by (cases e), fun ad e => by cases e; exact ⟨_, rfl⟩⟩
theorem evOwnLen_run (hT : TyOk P T) (hM : MR C M) {ts : Array TypeId} {ty : TypeId} {cs : Array Bool} {vs : List AV} {Vs : List Value} {r : OpR} (h : evOwnLen T M ts.toList vs = some r) (hv : TR C vs Vs) :
    ∃ v, (builtin .len ts ty cs Vs.toArray).run P C.w = .ok (.value v) C.w ∧ VR C r.v v ∧ r.pre = [] ∧ r.wr = [] ∧ r.al = [] := by
  unfold evOwnLen at h
  split at h
  · rename_i t trest id v hts
    have ht0 : ts[0]? = some t := by rw [← Array.getElem?_toList, hts]; rfl
    split at h
    · rename_i d e k xs w ht hm
      split at h
      · rename_i e' hd hvw
        have hvw : v = w := by simpa using hvw
        subst hvw
        have hu := und_slice (hT t d ht) hd
        simp only [Option.some.injEq] at h; subst h
        obtain ⟨_, hrow⟩ := hM.sp id 0 _ hm rfl
        obtain ⟨a, cap, h1, h2, _⟩ := row_hd hrow
        cases hv with
        | cons hx hnil =>
        cases hnil
        cases hx with
        | gs hk he =>
        rw [h1] at he
        cases he
        refine ⟨.int .i64 (xs.length : Int), ?_, .i rfl (by simp [IntKind.has, IntKind.min, IntKind.max, IntKind.bits, IntKind.signed]; omega), rfl, rfl, rfl⟩
        simp [builtin, Builtin.len_, ht0, run_underlying hu, goInt]
      · cases h
    · cases h
  · cases h
theorem evOwnAddr_run (hT : TyOk P T) (hM : MR C M) {t : TypeId} {x ix : AV} {X I : Value} {r : OpR} (h : evOwnAddr T t M x ix = some r) (hp : ∀ c ∈ r.pre, c = true) (hx : VR C x X) (hi : VR C ix I) :
    ∃ v, (Instr.indexAt t X I).run P C.w = .ok v C.w ∧ VR C r.v v ∧ r.wr = [] ∧ r.al = [] := by
  unfold evOwnAddr at h
  split at h
  · rename_i id v i d hix ht
    obtain ⟨k, rfl⟩ := ixI_VR hix hi
    split at h
    · rename_i e0 tk xs w e hm hd
      have hu := und_slice (hT t d ht) hd
      split at h
      · rename_i de hde
        split at h
        · rename_i hc
          simp only [Bool.and_eq_true, beq_iff_eq] at hc
          obtain ⟨rfl, hs1⟩ := hc
          simp only [Option.some.injEq] at h; subst h
          simp at hp
          obtain ⟨h0, h1⟩ := hp
          obtain ⟨_, hrow⟩ := hM.sp id 0 _ hm rfl
          obtain ⟨a, cap, k1, k2, k3, k4⟩ := row_hd hrow
          cases hx with
          | @gs _ _ _ n' cap' a' hk he =>
          rw [k1] at he
          simp only [Value.slice.injEq] at he
          obtain ⟨rfl, rfl, rfl⟩ := he
          cases a with
          | none => rw [k3 rfl] at h1; simp at h1; omega
          | some ad =>
            obtain ⟨b, rfl⟩ := k4 ad rfl
            refine ⟨.pointer (some ⟨b, i.toNat * datSize tk + 0, none⟩), ?_, .pg hk k1 (by omega), rfl, rfl⟩
            simp [Instr.indexAt, run_underlying hu, asIntOf, h0, h1, run_sizeOf (hT e de hde), hs1, addr_add]
        · cases h
      · cases h
    · cases h
  · cases h
theorem load_part {t : TypeId} {d : TyI} (ok : TyOk1 P t d) {l : List AV} {off b o : Nat} {v : AV} {vs : List Value} (hv : partC d l off = some v) (hl : CR C.bare l vs) (hc : ∀ j, j < vs.length → C.w.cell? ⟨b, o + j, none⟩ = vs[j]?) :
    ∃ u, (Instr.loadAt t (.pointer (some ⟨b, o + off, none⟩))).run P C.w = .ok u C.w ∧ VR C v u := by
  obtain ⟨k1, k2⟩ := partC_run hv hl
  simp only [Instr.loadAt, Instr.sureAddr, Sem.run_bind, Sem.run_pure, Result.andThen_ok]
  cases ha : isAggD d.desc with
  | true =>
    obtain ⟨ws, rfl, e2, e3, e4⟩ := k1 ha
    refine ⟨_, loadVar_agg ok ha ?_ e2, e3.mono C.bare_le⟩
    intro j u hj
    have hj' : j < d.size := by
      rcases Nat.lt_or_ge j d.size with h | h
      · exact h
      · rw [List.getElem?_eq_none (by omega)] at hj; cases hj
    rw [List.getElem?_take_of_lt hj', List.getElem?_drop] at hj
    have := hc (off + j) (by omega)
    rw [hj] at this
    rwa [show o + off + j = o + (off + j) by omega]
  | false =>
    obtain ⟨u, e1, e2, e3⟩ := k2 ha
    refine ⟨u, loadVar_one ok ha ?_, e2.mono C.bare_le⟩
    have hlt : off < vs.length := by
      rcases Nat.lt_or_ge off vs.length with h | h
      · exact h
      · rw [List.getElem?_eq_none h] at e1; cases e1
    rw [hc off hlt]; exact e1
theorem evOwnLoad_run (hT : TyOk P T) (hM : MR C M) {t : TypeId} {p : AV} {V : Value} {r : OpR} (h : evOwnLoad T M t p = some r) (hp : VR C p V) :
    (∃ v, (Instr.loadAt t V).run P C.w = .ok v C.w ∧ VR C r.v v) ∧ r.pre = [] ∧ r.wr = [] ∧ r.al = [] := by
  unfold evOwnLoad at h
  split at h
  · rename_i id v sz i off
    split at h
    · rename_i e k xs w d hm ht
      split at h
      · rename_i r' hc hr'
        simp only [Bool.and_eq_true, beq_iff_eq] at hc
        obtain ⟨rfl, rfl⟩ := hc
        simp only [Option.some.injEq] at h; subst h
        refine ⟨?_, rfl, rfl, rfl⟩
        obtain ⟨_, hrow⟩ := hM.sp id 0 _ hm rfl
        cases hp with
        | @pg _ _ _ _ _ _ b n cap hk he hi =>
        rcases hrow.at_ with ⟨_, rfl, h2⟩ | ⟨hl, cap', cur, h1, h2, h3, h4, h5, h6⟩ | ⟨_, _, e0, cap', cur, hl, h1, h2, h3, h4, h5, h6⟩
        · rw [h2] at he; cases he
        all_goals
          rw [h1] at he
          simp only [Value.slice.injEq, Option.some.injEq, Addr.mk.injEq, and_true] at he
          obtain ⟨rfl, rfl, rfl⟩ := he
          refine load_part (hT t d ht) hr' (h6 i hi) ?_
          intro j hj
          have hj' : j < datSize k := by
            simp only [List.length_take] at hj; omega
          rw [List.getElem?_take, if_pos hj', List.getElem?_drop]
          unfold World.cell?
          simp only [h2]
          simp
      · cases h
    · cases h
  · cases h
theorem wp_birth [Glob] {ids : List (Nat × Nat)} {o : Oper} {a : Act} {r : OpR} {x : Operand} {Q : Exit → Act → World → Prop} {K : Act → World → Prop} (hids : ∀ id, o.dst = some id → sizeIn ids id = none → ¬ C.has id) (h : SR w0 E R0 M C) (hop : o.op = .assign x) (hn : isNilC x = true) (hr : evBirth T ids M o.dst o.type = some r)
    (hK : ∀ v C', After w0 E R0 M C r v C' → K (a.put o.dst v) C'.w) : o.wp P a C.w K Q := by
  have hx : a.eval x = .slice none 0 0 := by
    unfold isNilC at hn
    split at hn
    · rfl
    · cases hn
  unfold evBirth at hr
  split at hr
  · rename_i d id hd hdst
    split at hr
    · rename_i e hde
      split at hr
      · rename_i de hte
        split at hr
        · rename_i k hk hsz
          simp only [Option.some.injEq] at hr; subst hr
          obtain ⟨C', e1, e2, e3, e4, e5, e6⟩ := SR_birth h (hids id hdst hsz) e k
          have hrun : (execOp a.eval o).run P C.w = .ok (.value (.slice none 0 0)) C.w := by
            simp only [execOp, hop, hx]
            rfl
          unfold Oper.wp
          rw [hrun, Oper.upon_value, ← e1]
          refine hK _ C' ⟨e2, e5, e6, fun i hi => ?_⟩
          by_cases hne : i = id
          · subst hne; right; rw [e4.1]; exact List.mem_singleton.2 rfl
          · exact .inl ⟨((e3 i).1 hi).resolve_right hne, e4.2 i hne⟩
        · rename_i k nn hkk hsz
          split at hr
          · rename_i e' k' xs w hm
            simp only [Option.some.injEq] at hr; subst hr
            obtain ⟨C', e1, e2, e3, e4, e5, e6⟩ := SR_again h hm e k
            have hrun : (execOp a.eval o).run P C.w = .ok (.value (.slice none 0 0)) C.w := by
              simp only [execOp, hop, hx]
              rfl
            unfold Oper.wp
            rw [hrun, Oper.upon_value, ← e1]
            exact hK _ C' ⟨e2, e5, e6, fun i hi => .inl ⟨(e3 i).1 hi, by rw [e4]⟩⟩
          · simp only [Option.some.injEq] at hr; subst hr
            have hrun : (execOp a.eval o).run P C.w = .ok (.value (.slice none 0 0)) C.w := by
              simp only [execOp, hop, hx]
              rfl
            exact wp_val h hrun .nils rfl rfl hK
        · cases hr
      · cases hr
    · cases hr
  · cases hr
theorem updK_twice (M : Key → Option AV) (k : Key) (a b : AV) : updK (updK M [(k, a)]) [(k, b)] = updK M [(k, b)] := by
  funext x
  unfold updK
  simp only [look]
  cases h : (k == x) <;> simp
theorem row_thaw {id t ver e2 : Nat} {xs : List (Dat t)} (h : RowR C id fz t xs ver) (hx : xs = []) : RowR C id e2 t [] ver := by
  subst hx
  refine ⟨h.row, h.top, h.ok, ?_⟩
  rcases h.at_ with h | ⟨_, cap, cur, _, _, ⟨_, h⟩, _⟩ | ⟨_, b, e0, cap, cur, _, _, _, ⟨_, h⟩, _⟩
  · exact .inl h
  · cases h
  · cases h
/-- A row without a block may grow again. -/
theorem SR_thaw [Glob] (h : SR w0 E R0 M C) {id t ver e2 : Nat} {xs : List (Dat t)} (hm : M (id, 0) = some (.row fz t xs ver)) (hx : xs = []) : SR w0 E R0 (updK M [((id, 0), .row e2 t [] ver)]) C := by
  refine ⟨⟨?_, ?_, ?_⟩, h.own, h.fr, h.mine, h.rr, h.keep, h.gl, h.rown⟩
  · intro id' o' a ha hsa
    rcases up1 ha with ⟨e, rfl⟩ | ⟨_, ha⟩
    · cases hsa
    · exact h.mr.at_ id' o' a ha hsa
  · intro id' o' a ha hsa
    rcases up1 ha with ⟨e, rfl⟩ | ⟨hk, ha⟩
    · cases e
      exact ⟨rfl, row_thaw (h.mr.sp id 0 _ hm rfl).2 hx⟩
    · exact h.mr.sp id' o' a ha hsa
  · intro id' o1 o2 a1 a2 h1 h2 hlt
    have hw : ∀ k a, updK M [((id, 0), .row e2 t [] ver)] k = some a → ∃ a', M k = some a' ∧ a'.width = a.width := by
      intro k a hk
      rcases up1 hk with ⟨rfl, rfl⟩ | ⟨_, hk⟩
      · exact ⟨_, hm, rfl⟩
      · exact ⟨a, hk, rfl⟩
    obtain ⟨b1, k1, w1⟩ := hw _ _ h1
    obtain ⟨b2, k2, w2⟩ := hw _ _ h2
    rw [← w1]; exact h.mr.apart _ _ _ _ _ k1 k2 hlt
theorem wp_append [Glob] (hT : TyOk P T) {o : Oper} {a : Act} {c : Call} {vs : List AV} {r : OpR} {Q : Exit → Act → World → Prop} {K : Act → World → Prop} (h : SR w0 E R0 M C) (hop : o.op = .call c) (hc : c.callee = .builtin .append) (hr : evAppend T M c.argTypes.toList vs = some r) (hp : ∀ c ∈ r.pre, c = true)
    (hv : TR C vs (c.args.toList.map a.eval)) (hK : ∀ v C', After w0 E R0 M C r v C' → K (a.put o.dst v) C'.w) : o.wp P a C.w K Q := by
  unfold evAppend at hr
  split at hr
  · rename_i tt tt' id v y hts
    split at hr
    · rename_i e t xs w hm
      have hargs0 : ∀ {X Y : Value}, c.args.toList.map a.eval = [X, Y] → c.args.map a.eval = #[X, Y] := fun hVs => Array.toList_inj.1 (by rw [Array.toList_map, hVs])
      have hat0 : c.argTypes = #[tt, tt'] := Array.toList_inj.1 (by simpa using hts)
      split at hr
      · rename_i he
        have he : e = fz := by simpa using he
        subst he
        split at hr
        · rename_i hvw
          simp only [Bool.and_eq_true, beq_iff_eq] at hvw
          obtain ⟨rfl, rfl⟩ := hvw
          unfold evAppendZ at hr
          split at hr
          · rename_i d ks ys hd hnews
            split at hr
            · rename_i e' hdesc
              split at hr
              · rename_i de hde
                split at hr
                · rename_i hcs
                  simp only [Bool.and_eq_true, beq_iff_eq, Bool.not_eq_true', beq_eq_false_iff_ne] at hcs
                  obtain ⟨hfz, hs1, hz1, hpos⟩ := hcs
                  have hpos : 0 < datSize t := Nat.le_of_ble_eq_true hpos
                  simp only [Option.some.injEq] at hr; subst hr
                  have hx0 : xs = [] := List.eq_nil_of_length_eq_zero (of_decide_eq_true (hp _ (List.mem_cons_self ..)))
                  have hfit : ([] : List (Dat t)).length + ys.length ≤ 134217728 := by
                    have := of_decide_eq_true (hp _ (List.mem_cons_of_mem _ (List.mem_cons_self ..)))
                    simpa using this
                  have hrow := row_thaw (e2 := e') (h.mr.sp id 0 _ hm rfl).2 hx0
                  have h1 := SR_thaw (e2 := e') h hm hx0
                  have hm1 : updK M [((id, 0), .row e' t [] v)] (id, 0) = some (.row e' t [] v) := by simp [updK, look]
                  generalize hVs : c.args.toList.map a.eval = Vs at hv
                  cases hv with
                  | @cons _ _ X _ _ hx hv =>
                  cases hv with
                  | @cons _ _ Y _ _ hy hv =>
                  cases hv
                  have hX : X = C.hd id v := by cases hx with | gs hk he => exact he.symm
                  have hn := news_of h.mr hnews hy
                  obtain ⟨v', w', hrun, hout⟩ := append_run (P := P) (ty := o.type) (fun b hl hb => hb ▸ h.own.lt id (.inr hl)) hrow hn (hT tt d hd) hdesc (hT e' de hde) hfz hs1 hz1 hpos hfit
                  have hargs := hargs0 (hX ▸ hVs)
                  have hrun' : (execOp a.eval o).run P C.w = .ok (.value v') w' := by
                    simp only [execOp, hop, resolve, hc, invoke, builtin, hargs, hat0, Sem.run_bind, Sem.run_pure, Result.andThen_ok, hrun]
                  unfold Oper.wp
                  rw [hrun', Oper.upon_value]
                  rcases hout with ⟨rfl, rfl, hnl, hnil⟩ | ⟨b', cap', cur', rfl, k1, k2, k3, k4, k5, k6, k7, k8, k9, k10, k11, k12⟩
                  · obtain ⟨C', e1, e2, e3, e4, e5, e6⟩ := SR_row0 h1 hm1 hnl ys hnil
                    rw [← e1]
                    rw [updK_twice] at e6
                    exact hK _ C' ⟨e2, e5, e6, fun i hi => .inl ⟨(e3 i).1 hi, by rw [e4]⟩⟩
                  · obtain ⟨C', e1, e2, e3, e4, e5, e6⟩ := SR_row h1 hm1 w' b' cap' cur' _ k1 k2 k3 k4 k5 k6 k7 k8 k9 k10 k11 k12
                    rw [← e1]
                    rw [updK_twice] at e6
                    exact hK _ C' ⟨e2, e5, e6, fun i hi => .inl ⟨(e3 i).1 hi, by rw [e4]⟩⟩
                · cases hr
              · cases hr
            · cases hr
          · cases hr
        · cases hr
      split at hr
      · rename_i d de ks ys hvw hd hde hnews
        simp only [Bool.and_eq_true, beq_iff_eq, Bool.not_eq_true', beq_eq_false_iff_ne] at hvw
        obtain ⟨rfl, rfl, hfz⟩ := hvw
        split at hr
        · rename_i e' hdesc
          split at hr
          · rename_i hcs
            simp only [Bool.and_eq_true, beq_iff_eq] at hcs
            obtain ⟨rfl, hs1, hz1, hpos⟩ := hcs
            have hpos : 0 < datSize t := Nat.le_of_ble_eq_true hpos
            simp only [Option.some.injEq] at hr; subst hr
            have hfit : xs.length + ys.length ≤ 134217728 := by simpa using hp
            obtain ⟨_, hrow⟩ := h.mr.sp id 0 _ hm rfl
            generalize hVs : c.args.toList.map a.eval = Vs at hv
            cases hv with
            | @cons _ _ X _ _ hx hv =>
            cases hv with
            | @cons _ _ Y _ _ hy hv =>
            cases hv
            have hX : X = C.hd id v := by cases hx with | gs hk he => exact he.symm
            have hn := news_of h.mr hnews hy
            obtain ⟨v', w', hrun, hout⟩ := append_run (P := P) (ty := o.type) (fun b hl hb => hb ▸ h.own.lt id (.inr hl)) hrow hn (hT tt d hd) hdesc (hT e' de hde) hfz hs1 hz1 hpos hfit
            have hargs := hargs0 (hX ▸ hVs)
            have hrun' : (execOp a.eval o).run P C.w = .ok (.value v') w' := by
              simp only [execOp, hop, resolve, hc, invoke, builtin, hargs, hat0, Sem.run_bind, Sem.run_pure, Result.andThen_ok, hrun]
            unfold Oper.wp
            rw [hrun', Oper.upon_value]
            rcases hout with ⟨rfl, rfl, hnl, hnil⟩ | ⟨b', cap', cur', rfl, k1, k2, k3, k4, k5, k6, k7, k8, k9, k10, k11, k12⟩
            · obtain ⟨C', e1, e2, e3, e4, e5, e6⟩ := SR_row0 h hm hnl _ hnil
              rw [← e1]
              exact hK _ C' ⟨e2, e5, e6, fun i hi => .inl ⟨(e3 i).1 hi, by rw [e4]⟩⟩
            · obtain ⟨C', e1, e2, e3, e4, e5, e6⟩ := SR_row h hm w' b' cap' cur' _ k1 k2 k3 k4 k5 k6 k7 k8 k9 k10 k11 k12
              rw [← e1]
              exact hK _ C' ⟨e2, e5, e6, fun i hi => .inl ⟨(e3 i).1 hi, by rw [e4]⟩⟩
          · cases hr
        · cases hr
      · cases hr
    · cases hr
  · cases hr
end
end Go.Proofs.YtcdnbdphakhilaaGreatDoor.Ev
namespace Go.Proofs.YtcdnbdphakhilaaGreatDoor.Ev
/- Rows of one's own, handed to a function that reads them. -/
section
variable {P : Program} {T : TypeId → Option TyI} {S : FuncId → CSpec} {w0 : World} {E : Ent} {R0 : Nat → Prop} {M : Key → Option AV} {C : Ctx}
theorem row_vw {C : Ctx} {id e t ver : Nat} {xs : List (Dat t)} {R : Nat → Prop} (h : RowR C id e t xs ver) (hR : ∀ b, C.R b → R b) (hl : C.liv id → R (C.ρ id)) : VR (baseC C.w R) (.vw t xs) (C.hd id ver) := by
  refine .vw ?_
  have hb : (C.hd id ver = .slice none 0 0 ∧ xs = []) ∨ ∃ b e0 cap cur, R b ∧ C.hd id ver = .slice (some ⟨b, 0, none⟩) xs.length cap ∧ C.w.heap[b]? = some (.cells cur e0 (0, 0)) ∧ (xs.length ≤ cap ∧ 0 < xs.length) ∧ cap ≤ maxLen ∧ cur.size = cap * datSize t ∧
      ∀ i, i < xs.length → CR C.bare (encAt t xs i) ((cur.toList.drop (i * datSize t)).take (datSize t)) := by
    rcases h.at_ with ⟨_, h1, h2⟩ | ⟨hk, cap, cur, h⟩ | ⟨_, b, e0, cap, cur, hk, h⟩
    · exact .inl ⟨h2, h1⟩
    · exact .inr ⟨_, _, cap, cur, hl hk, h⟩
    · exact .inr ⟨b, e0, cap, cur, hR b hk, h⟩
  rcases hb with ⟨h2, rfl⟩ | ⟨b, e0, cap, cur, hk, h1, h2, ⟨h3, h3p⟩, h4, h5, h6⟩
  · rw [h2]; exact .ro0
  · rw [h1]
    have hroom : ∀ i, i < xs.length → i * datSize t + datSize t ≤ cur.toList.length := fun i hi => by
      have : (i + 1) * datSize t ≤ cap * datSize t := Nat.mul_le_mul_right _ (by omega)
      rw [Nat.add_mul, Nat.one_mul] at this
      rw [show cur.toList.length = cur.size from Array.length_toList .., h5]; exact this
    refine VR.ro (o := 0) (cs := fun i => slotL (datSize t) cur.toList i) hk (fun i hi => CR.mono (C := C.bare) (C' := (baseC C.w R).bare) ⟨fun _ h => h.elim, fun b hb => ⟨hR b hb, rfl⟩, fun _ _ h => h.elim⟩ (h6 i hi)) (fun i hi => slot_len (hroom i hi)) (fun i j hi hj => ?_) h3 (by simp only [maxLen] at h4; omega)
    show C.w.cell? _ = _
    unfold World.cell?
    simp only [h2]
    rw [List.getElem?_take, if_pos hj, List.getElem?_drop]
    simp

/-- What is read alone, and some rows of one's own. -/
def addR (C : Ctx) (gs : List Nat) : Nat → Prop := fun b => C.R b ∨ ∃ i, i ∈ gs ∧ C.liv i ∧ C.ρ i = b
theorem frz_spec (hM : MR C M) : ∀ {vs : List AV} {Vs : List Value} {bs : List AV} {gs : List (Nat × AV)}, frzArgs M vs = some (bs, gs) → TR C vs Vs → ∀ (gs' : List Nat), (∀ x ∈ gs, x.1 ∈ gs') → TR (baseC C.w (addR C gs')) bs Vs ∧ ∀ x ∈ gs, ∃ e t, ∃ xs : List (Dat t), ∃ w, M (x.1, 0) = some (.row e t xs w) ∧ x.2 = .row fz t xs w
  | [], _, bs, gs, h, .nil, gs', hg => by
    simp only [frzArgs, Option.some.injEq, Prod.mk.injEq] at h
    obtain ⟨rfl, rfl⟩ := h
    exact ⟨.nil, fun i hi => by cases hi⟩
  | a :: as, _, bs, gs, h, .cons (v := v) ha hl, gs', hg => by
    simp only [frzArgs] at h
    split at h
    · rename_i bs1 gs1 h1
      split at h
      · rename_i id ver
        split at h
        · rename_i e t xs w hm
          split at h
          · rename_i hv
            have hv : ver = w := by simpa using hv
            subst hv
            simp only [Option.some.injEq, Prod.mk.injEq] at h
            obtain ⟨rfl, rfl⟩ := h
            obtain ⟨k1, k2⟩ := frz_spec hM h1 hl gs' (fun i hi => hg i (List.mem_cons_of_mem _ hi))
            obtain ⟨_, hrow⟩ := hM.sp id 0 _ hm rfl
            refine ⟨.cons ?_ k1, fun i hi => ?_⟩
            · cases ha with
              | gs hk he =>
              rw [← he]
              exact row_vw hrow (fun b hb => .inl hb) (fun hl => .inr ⟨id, hg _ (List.mem_cons_self ..), hl, rfl⟩)
            · rcases List.mem_cons.1 hi with rfl | hi
              · exact ⟨e, t, xs, ver, hm, rfl⟩
              · exact k2 i hi
          · cases h
        · cases h
      · split at h
        · rename_i hb
          simp only [Option.some.injEq, Prod.mk.injEq] at h
          obtain ⟨rfl, rfl⟩ := h
          obtain ⟨k1, k2⟩ := frz_spec hM h1 hl gs' hg
          exact ⟨.cons (bareV_VR ha hb (fun b hb => ⟨.inl hb, rfl⟩)) k1, k2⟩
        · cases h
    · cases h
theorem look_frz {gs : List (Nat × AV)} {k : Key} {a : AV} : look (gs.map fun x => (((x.1, 0) : Key), x.2)) k = some a → ∃ x, x ∈ gs ∧ k = (x.1, 0) ∧ a = x.2 := by
  induction gs with
  | nil => intro h; simp [look] at h
  | cons i gs ih =>
    intro h
    simp only [List.map_cons, look] at h
    split at h
    · rename_i e
      simp only [Option.some.injEq] at h
      exact ⟨i, List.mem_cons_self .., (beq_iff_eq.1 e).symm, h.symm⟩
    · obtain ⟨j, h2, h3⟩ := ih h
      exact ⟨j, List.mem_cons_of_mem _ h2, h3⟩
theorem look_frz_none {gs : List (Nat × AV)} {i : Nat} : look (gs.map fun x => (((x.1, 0) : Key), x.2)) (i, 0) = none → i ∉ gs.map (·.1) := by
  induction gs with
  | nil => intro _ h; cases h
  | cons j gs ih =>
    intro h hm
    simp only [List.map_cons, look] at h
    split at h
    · cases h
    · rename_i e
      rcases List.mem_cons.1 hm with rfl | hm
      · simp at e
      · exact ih h hm
/-- Behind a call that keeps what it was handed. -/
theorem after_frz' [Glob] {res : AV} {pre : List Bool} {rd : List Key} {v : Value} {w' : World} {gs : List (Nat × AV)} (h : SR w0 E R0 M C) (hgs : ∀ x ∈ gs, ∃ e t, ∃ xs : List (Dat t), ∃ w, M (x.1, 0) = some (.row e t xs w) ∧ x.2 = .row fz t xs w) (hbig : ∀ i ∈ gs.map (·.1), i < big) {R' : Nat → Prop} (hd : Done C.w (addR C (gs.map (·.1))) res v w' R') :
    After w0 E R0 M C ⟨pre, res, rd, gs.map fun x => ((x.1, 0), x.2), []⟩ v { C with w := w', R := R', liv := fun i => C.liv i ∧ i ∉ gs.map (·.1) } := by
  have hrow : ∀ i ∈ gs.map (·.1), C.row i := fun i hi => by
    obtain ⟨x, hx, rfl⟩ := List.mem_map.1 hi
    obtain ⟨e, t, xs, w, hm, _⟩ := hgs x hx
    exact (h.mr.sp x.1 0 _ hm rfl).2.row
  let C' : Ctx := { C with w := w', R := R', liv := fun i => C.liv i ∧ i ∉ gs.map (·.1) }
  have hsame : ∀ i, C.blk i → w'.heap[C.ρ i]? = C.w.heap[C.ρ i]? := fun i hi => hd.fr.block _ (h.own.lt i hi) (fun e => e)
  have hle : C.Le C' := ⟨fun i hi => ⟨hi, rfl⟩, fun b hb => ⟨hd.more b (.inl hb), hd.fr.block b (h.own.R_lt b hb) (fun e => e)⟩, fun _ _ h => ⟨h, rfl⟩⟩
  have hblk : ∀ i, C'.blk i → C.blk i ∧ i ∉ gs.map (·.1) := fun i hi => by
    rcases hi with hi | hi
    · exact ⟨.inl hi, fun hg => h.own.dis i hi (hrow i hg)⟩
    · exact ⟨.inr hi.1, hi.2⟩
  show After w0 E R0 M C _ v C'
  refine ⟨hle, ?_, ⟨⟨?_, ?_, ?_⟩, ⟨fun i hi => ?_, fun i hi o => ?_, fun i hi hR => ?_, fun a b ha hb => h.own.inj a b (hblk a ha).1 (hblk b hb).1, hd.lt, fun i hi => (objSize_of (hsame i (.inl hi))).trans (h.own.sized i hi), h.own.dis, fun i hi => h.own.liv i hi.1, h.own.rsz, h.own.hokr⟩, h.fr.trans hd.fr, fun i hi => h.mine i (hblk i hi).1, ⟨fun b hb => hd.more b (.inl (h.rr.1 b hb)), fun b hb => ?_⟩, h.keep, Glob.mono h.gl hle.R, fun i hi => h.rown i hi.1⟩, fun i hi => .inl ⟨hi, rfl⟩⟩
  · exact VR.mono (C := baseC w' R') (C' := C') ⟨fun _ h => h.elim, fun b hb => ⟨hb, rfl⟩, fun _ _ h => h.elim⟩ hd.res
  · intro id off a ha hsa
    unfold updK at ha
    split at ha
    · rename_i x hx
      simp only [Option.some.injEq] at ha; subst ha
      obtain ⟨y, hy, _, rfl⟩ := look_frz hx
      obtain ⟨e, t, xs, w, _, e2⟩ := hgs y hy
      rw [e2] at hsa
      cases hsa
    · obtain ⟨hd', us, hu, huc⟩ := h.mr.at_ id off a ha hsa
      exact ⟨hd', us, hu.mono hle, fun j u hj => (cell_of_block (hsame id (.inl hd')) _ _).trans (huc j u hj)⟩
  · intro id off a ha hsa
    unfold updK at ha
    split at ha
    · rename_i x hx
      simp only [Option.some.injEq] at ha; subst ha
      obtain ⟨y, hy, e, rfl⟩ := look_frz hx
      obtain ⟨e1, t, xs, w, hm, e2⟩ := hgs y hy
      simp only [Prod.mk.injEq] at e
      obtain ⟨rfl, rfl⟩ := e
      rw [e2]
      obtain ⟨_, hr⟩ := h.mr.sp y.1 0 _ hm rfl
      have hin : y.1 ∈ gs.map (·.1) := List.mem_map.2 ⟨y, hy, rfl⟩
      have hel : ∀ {l : List AV} {us : List Value}, CR C.bare l us → CR C'.bare l us := fun hc => CR.mono (C := C.bare) (C' := C'.bare) ⟨fun _ h => False.elim h, hle.R, fun _ _ h => False.elim h⟩ hc
      refine ⟨rfl, hr.row, hr.top, hr.ok, ?_⟩
      rcases hr.at_ with ⟨k1, k2, k3⟩ | ⟨k1, cap, cur, k2, k3, k4, k5, k6, k7⟩ | ⟨k0, b, e0, cap, cur, k1, k2, k3, k4, k5, k6, k7⟩
      · exact .inl ⟨fun hl => k1 hl.1, k2, k3⟩
      · exact .inr (.inr ⟨rfl, C.ρ y.1, e1, cap, cur, hd.more _ (.inr ⟨y.1, hin, k1, rfl⟩), k2, (hsame y.1 (.inr k1)).trans k3, k4, k5, k6, fun i hi => hel (k7 i hi)⟩)
      · exact .inr (.inr ⟨rfl, b, e0, cap, cur, hd.more _ (.inl k1), k2, (hle.R b k1).2.trans k3, k4, k5, k6, fun i hi => hel (k7 i hi)⟩)
    · rename_i hno
      have hsp := h.mr.sp id off a ha hsa
      cases a with
      | sit s0 p0 => exact hsp.congr (C' := C') ⟨.rfl, by
          show C.liv id ∧ id ∉ gs.map (·.1) ↔ C.liv id
          exact ⟨fun h => h.1, fun hl => (h.own.dis id hsp.1 (h.own.liv id hl)).elim⟩, .rfl, fun _ => rfl, fun _ => .rfl, fun _ _ => rfl, fun hb => hsame id hb⟩ hle.R
      | row e t xs ver =>
        have hoff := hsp.1
        subst hoff
        have hng := look_frz_none hno
        exact hsp.congr (C' := C') ⟨.rfl, by
          show C.liv id ∧ id ∉ gs.map (·.1) ↔ C.liv id
          exact ⟨fun h => h.1, fun hl => ⟨hl, hng⟩⟩, .rfl, fun _ => rfl, fun _ => .rfl, fun _ _ => rfl, fun hb => hsame id hb⟩ hle.R
      | _ => exact hsp
  · intro id o1 o2 a1 a2 h1 h2 hlt
    have hw : ∀ k a, updK M (gs.map fun x => ((x.1, 0), x.2)) k = some a → ∃ a', M k = some a' ∧ a'.width = a.width := by
      intro k a hk
      unfold updK at hk
      split at hk
      · rename_i x hx
        simp only [Option.some.injEq] at hk; subst hk
        obtain ⟨y, hy, rfl, rfl⟩ := look_frz hx
        obtain ⟨e, t, xs, w, hm, e2⟩ := hgs y hy
        exact ⟨_, hm, by rw [e2]; rfl⟩
      · exact ⟨a, hk, rfl⟩
    obtain ⟨b1, k1, w1⟩ := hw _ _ h1
    obtain ⟨b2, k2, w2⟩ := hw _ _ h2
    rw [← w1]; exact h.mr.apart _ _ _ _ _ k1 k2 hlt
  · exact Nat.lt_of_lt_of_le (h.own.lt i (hblk i hi).1) hd.fr.size
  · have := h.own.unfrozen i (hblk i hi).1 o
    show World.frozen? w' _ = _
    unfold World.frozen? at this ⊢
    rw [show w'.heap[C'.ρ i]? = C.w.heap[C.ρ i]? from hsame i (hblk i hi).1]; exact this
  · obtain ⟨hb, hng⟩ := hblk i hi
    rcases hd.new _ hR with (h1 | ⟨j, hj, hl, e⟩) | h1
    · exact h.own.apart i hb h1
    · exact hng (h.own.inj j i (.inr hl) hb e ▸ hj)
    · exact absurd (h.own.lt i hb) (Nat.not_lt.2 h1)
  · rcases hd.new _ hb with (h1 | ⟨j, hj, hl, rfl⟩) | h1
    · exact h.rr.2 b h1
    · exact .inr (h.rnew hl (hbig j hj))
    · exact .inr (Nat.le_trans h.fr.size h1)
theorem after_frz [Glob] {res : AV} {pre : List Bool} {rd : List Key} {v : Value} {w' : World} {gs : List (Nat × AV)} (h : SR w0 E R0 M C) (hgs : ∀ x ∈ gs, ∃ e t, ∃ xs : List (Dat t), ∃ w, M (x.1, 0) = some (.row e t xs w) ∧ x.2 = .row fz t xs w) (hbig : ∀ i ∈ gs.map (·.1), i < big) (hx : ∃ R', Done C.w (addR C (gs.map (·.1))) res v w' R') :
    ∃ C' : Ctx, C'.w = w' ∧ After w0 E R0 M C ⟨pre, res, rd, gs.map fun x => ((x.1, 0), x.2), []⟩ v C' := by
  obtain ⟨R', hd⟩ := hx
  exact ⟨_, rfl, after_frz' h hgs hbig hd⟩
theorem bareO_VR {C : Ctx} {a : Option AV} {v : Option Value} (h : OptVR C a v) (hb : bareO a = true) {R : Nat → Prop} {w' : World} (hR : ∀ b, C.R b → R b ∧ w'.heap[b]? = C.w.heap[b]?) : OptVR (baseC w' R) a v := by
  cases h with
  | none => exact .none
  | some h => exact .some (bareS_VR h hb hR)
theorem evOwnSlice_wp [Glob] (hT : TyOk P T) {t : TypeId} {x : AV} {X : Value} {lo hi : Option AV} {Lo Hi : Option Value} {r : OpR} (h : SR w0 E R0 M C) (hr : evOwnSlice T M t lo hi x = some r) (hp : ∀ c ∈ r.pre, c = true) (hx : VR C x X) (hlo : OptVR C lo Lo) (hhi : OptVR C hi Hi) :
    ∃ v, (Instr.sliceAt t X Lo Hi none).run P C.w = .ok v C.w ∧ ∃ C' : Ctx, C'.w = C.w ∧ After w0 E R0 M C r v C' := by
  unfold evOwnSlice at hr
  split at hr
  · rename_i id ver
    split at hr
    · rename_i e k xs w hm
      split at hr
      · rename_i r0 hc hr0
        simp only [Bool.and_eq_true, beq_iff_eq] at hc
        obtain ⟨⟨rfl, hb⟩, hl, hh⟩ := hc
        have hb : id < big := Nat.le_of_ble_eq_true hb
        simp only [Option.some.injEq] at hr; subst hr
        obtain ⟨_, hrow⟩ := h.mr.sp id 0 _ hm rfl
        have hX : X = C.hd id ver := by cases hx with | gs hk he => exact he.symm
        have hvw : VR (baseC C.w (addR C [id])) (.vw k xs) X := by
          rw [hX]; exact row_vw hrow (fun b hb => .inl hb) (fun hl => .inr ⟨id, List.mem_singleton.2 rfl, hl, rfl⟩)
        have hle : ∀ b, C.R b → addR C [id] b ∧ C.w.heap[b]? = C.w.heap[b]? := fun b hb => ⟨.inl hb, rfl⟩
        obtain ⟨v, h1, h2, _, _⟩ := evSlice_run (P := P) (C := baseC C.w (addR C [id])) hT hr0 hp hvw (bareO_VR hlo hl hle) (bareO_VR hhi hh hle)
        have hd : Done C.w (addR C [id]) r0.v v C.w (addR C [id]) := ⟨fun b hb => hb, fun b hb => .inl hb, fun b hb => by
          rcases hb with hb | ⟨i, hi, hl, rfl⟩
          · exact h.own.R_lt b hb
          · exact h.own.lt i (.inr hl), .refl .., h2⟩
        obtain ⟨C', e1, e2⟩ := after_frz (pre := r0.pre) (rd := [(id, 0)]) (gs := [(id, .row fz k xs ver)]) h (fun x hx => by
          rw [List.mem_singleton.1 hx]; exact ⟨e, k, xs, ver, hm, rfl⟩) (fun i hi => by rw [List.mem_singleton.1 hi]; exact hb) ⟨_, hd⟩
        exact ⟨v, h1, C', e1, e2⟩
      · cases hr
    · cases hr
  · cases hr
theorem evCallR_wp [Glob] (hS : ∀ f, FnOk P f (S f)) {o : Oper} {a : Act} {c : Call} {f : FuncId} {vs : List AV} {Vs : List Value} {r : OpR} {Q : Exit → Act → World → Prop} {K : Act → World → Prop} (h : SR w0 E R0 M C) (hop : o.op = .call c) (hc : c.callee = .value (.func f)) (hr : evCallR S M f vs = some r) (hp : ∀ c ∈ r.pre, c = true)
    (hargs : (c.args.map a.eval).toList = Vs) (hv : TR C vs Vs) (hK : ∀ v C', After w0 E R0 M C r v C' → K (a.put o.dst v) C'.w) : o.wp P a C.w K Q := by
  unfold evCallR at hr
  split at hr
  · rename_i bs gs hlt hfrz
    have hlt : f < offO := Nat.le_of_ble_eq_true hlt
    obtain ⟨h1, h2⟩ := frz_spec h.mr hfrz hv (gs.map (·.1)) (fun i hi => List.mem_map.2 ⟨i, hi, rfl⟩)
    split at hr
    · rename_i res hres
      have hlt2 : ∀ b, addR C (gs.map (·.1)) b → b < C.w.heap.size := by
        rintro b (hb | ⟨i, _, hl, rfl⟩)
        · exact h.own.R_lt b hb
        · exact h.own.lt i (.inr hl)
      split at hr
      · rename_i hout hflat
        simp only [Option.some.injEq] at hr; subst hr
        refine invokes_wp hop hc hargs ((hS f).1 hlt _ res hres hp C.w _ Vs hlt2 (Glob.mono h.gl fun b hb => ⟨.inl hb, rfl⟩) h1) ?_
        rintro v w' ⟨R', hd⟩
        have hd' : Done C.w C.R res.res v w' C.R := ⟨fun b hb => hb, fun b hb => .inl hb, fun b hb => Nat.lt_of_lt_of_le (h.own.R_lt b hb) hd.fr.size, hd.fr, flatR_VR hd.res hflat⟩
        obtain ⟨C', e, haft⟩ := after_of_done (r := ⟨res.pre, res.res, gs.map fun x => (x.1, 0), [], []⟩) h rfl rfl ⟨C.R, hd'⟩
        rw [← e]; exact hK v C' haft
      · rename_i hout hflat
        split at hr
        · rename_i hall
          simp only [Option.some.injEq] at hr; subst hr
          refine invokes_wp hop hc hargs ((hS f).1 hlt _ res hres hp C.w _ Vs hlt2 (Glob.mono h.gl fun b hb => ⟨.inl hb, rfl⟩) h1) ?_
          intro v w' hd
          have hbig : ∀ i ∈ gs.map (·.1), i < big := fun i hi => by
            obtain ⟨x, hx, rfl⟩ := List.mem_map.1 hi
            exact Nat.le_of_ble_eq_true (List.all_eq_true.1 hall x hx)
          obtain ⟨C', e, haft⟩ := after_frz (pre := res.pre) (rd := gs.map fun x => (x.1, 0)) h h2 hbig hd
          rw [← e]; exact hK v C' haft
        · cases hr
      · cases hr
    · cases hr
  · cases hr
end
end Go.Proofs.YtcdnbdphakhilaaGreatDoor.Ev
