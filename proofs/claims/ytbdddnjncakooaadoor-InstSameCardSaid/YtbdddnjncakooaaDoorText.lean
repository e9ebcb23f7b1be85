/- Lemmas: the texts of instructions; unlike instructions have unlike ones. No condition. -/
import Derived.Test.YtbdddnjncakooaaDoorOps
import Derived.Test.YtbdddnjncakooaaDoorMay
set_option linter.unusedVariables false
set_option linter.unusedSimpArgs false
set_option maxRecDepth 100000
namespace Go.Proofs.YtbdddnjncakooaaDoor
open Go.Proofs.YtbdddnjncakooaaDoor.Ev Go.RowKit
/- Plain: the texts of instructions; unlike instructions have unlike texts. -/
theorem split_at (sep : UInt8) : ∀ (a b r t : List UInt8), (∀ c ∈ a, c ≠ sep) → (∀ c ∈ b, c ≠ sep) → (r = [] ∨ ∃ r', r = sep :: r') → (t = [] ∨ ∃ t', t = sep :: t') → a ++ r = b ++ t → a = b ∧ r = t
  | [], [], r, t, _, _, _, _, h => ⟨rfl, h⟩
  | [], y :: b, r, t, _, hb, hr, _, h => by
    exfalso
    rcases hr with rfl | ⟨r', rfl⟩
    · cases h
    · cases h
      exact hb _ (List.mem_cons_self ..) rfl
  | x :: a, [], r, t, ha, _, _, ht, h => by
    exfalso
    rcases ht with rfl | ⟨t', rfl⟩
    · cases h
    · cases h
      exact ha _ (List.mem_cons_self ..) rfl
  | x :: a, y :: b, r, t, ha, hb, hr, ht, h => by
    simp only [List.cons_append, List.cons.injEq] at h
    obtain ⟨rfl, h⟩ := h
    obtain ⟨rfl, rfl⟩ := split_at sep a b r t (fun c hc => ha c (List.mem_cons_of_mem _ hc)) (fun c hc => hb c (List.mem_cons_of_mem _ hc)) hr ht h
    exact ⟨rfl, rfl⟩
theorem digits_are (u : Nat) : ∀ c ∈ Lib.decDigits u, 48 ≤ c.toNat ∧ c.toNat ≤ 57 := by
  induction u using Nat.strongRecOn with
  | ind u ih =>
  rw [Lib.decDigits]
  split
  · intro c hc
    simp only [List.mem_singleton] at hc
    subst hc
    rw [UInt8.toNat_ofNat']
    omega
  · intro c hc
    rcases List.mem_append.1 hc with h | h
    · exact ih (u / 10) (by omega) c h
    · simp only [List.mem_singleton] at h
      subst h
      rw [UInt8.toNat_ofNat']
      omega
def valD (l : List UInt8) : Nat := l.foldl (fun a c => a * 10 + (c.toNat - 48)) 0
theorem val_dec (u : Nat) : valD (Lib.decDigits u) = u := by
  induction u using Nat.strongRecOn with
  | ind u ih =>
  rw [Lib.decDigits]
  split
  · simp only [valD, List.foldl_cons, List.foldl_nil]
    rw [UInt8.toNat_ofNat']
    omega
  · have := ih (u / 10) (by omega)
    unfold valD at this ⊢
    rw [List.foldl_append, this]
    simp only [List.foldl_cons, List.foldl_nil]
    rw [UInt8.toNat_ofNat']
    omega
theorem dec_inj {u v : Nat} (h : Lib.decDigits u = Lib.decDigits v) : u = v := by rw [← val_dec u, h, val_dec]
theorem itoa_inj {x y : Int} (h : Lib.itoa x = Lib.itoa y) : x = y := by
  have no : ∀ u v, 45 :: Lib.decDigits u ≠ Lib.decDigits v := fun u v e => by
    have := digits_are v 45 (by rw [← e]; exact List.mem_cons_self ..)
    simp at this
  unfold Lib.itoa at h
  split at h <;> split at h
  · simp only [List.cons.injEq, true_and] at h
    have := dec_inj h
    omega
  · exact absurd h (no _ _)
  · exact absurd h.symm (no _ _)
  · have := dec_inj h
    omega
theorem ne_of {c d : UInt8} (h : c.toNat ≠ d.toNat) : c ≠ d := fun e => h (by rw [e])
theorem itoa_are (x : Int) : ∀ c ∈ Lib.itoa x, c.toNat = 45 ∨ 48 ≤ c.toNat ∧ c.toNat ≤ 57 := by
  intro c hc
  unfold Lib.itoa at hc
  split at hc
  · rcases List.mem_cons.1 hc with rfl | hc
    · left; decide
    · exact .inr (digits_are _ c hc)
  · exact .inr (digits_are _ c hc)
theorem dec_ne (u : Nat) : Lib.decDigits u ≠ [] := by
  rw [Lib.decDigits]
  split <;> simp
theorem itoa_ne (x : Int) : Lib.itoa x ≠ [] := by
  unfold Lib.itoa
  split
  · simp
  · exact dec_ne _
theorem no_itoa {s : UInt8} (x : Int) (h : s.toNat ≠ 45) (h' : s.toNat < 48 ∨ 57 < s.toNat) : ∀ c ∈ Lib.itoa x, c ≠ s := fun c hc e => by
  subst e
  rcases itoa_are x c hc with h1 | h1 <;> omega
def regT (r : Int) : List UInt8 := 114 :: Lib.itoa r
theorem regT_are (r : Int) : ∀ c ∈ regT r, c.toNat = 114 ∨ c.toNat = 45 ∨ 48 ≤ c.toNat ∧ c.toNat ≤ 57 := fun c hc => by
  rcases List.mem_cons.1 hc with rfl | h
  · left; decide
  · exact .inr (itoa_are r c h)
def partsM (b i s d : Int) : List (List UInt8) :=
  (if b == 16 then [[114, 105, 112]] else if b == -1 then [] else [regT b]) ++ ((if i == -1 then [] else [regT i ++ 42 :: Lib.itoa s]) ++ [Lib.itoa d])
/-- Texts with a byte between them. -/
def joB (sep : UInt8) : List (List UInt8) → List UInt8
  | [] => []
  | p :: ps => p ++ (ps.flatMap fun q => sep :: q)
theorem fm_head (sep : UInt8) (ps : List (List UInt8)) : (ps.flatMap fun q => sep :: q) = [] ∨ ∃ r, (ps.flatMap fun q => sep :: q) = sep :: r := by
  cases ps with
  | nil => exact .inl rfl
  | cons p ps => exact .inr ⟨p ++ (ps.flatMap fun q => sep :: q), by simp⟩
theorem fm_inj (sep : UInt8) : ∀ (ps qs : List (List UInt8)), (∀ p ∈ ps, ∀ c ∈ p, c ≠ sep) → (∀ p ∈ qs, ∀ c ∈ p, c ≠ sep) → (ps.flatMap fun q => sep :: q) = (qs.flatMap fun q => sep :: q) → ps = qs
  | [], [], _, _, _ => rfl
  | [], q :: qs, _, _, h => by simp at h
  | p :: ps, [], _, _, h => by simp at h
  | p :: ps, q :: qs, hp, hq, h => by
    simp only [List.flatMap_cons, List.cons_append, List.cons.injEq, true_and] at h
    obtain ⟨rfl, h2⟩ := split_at sep p q _ _ (hp p (List.mem_cons_self ..)) (hq q (List.mem_cons_self ..)) (fm_head sep _) (fm_head sep _) h
    rw [fm_inj sep ps qs (fun p h => hp p (List.mem_cons_of_mem _ h)) (fun p h => hq p (List.mem_cons_of_mem _ h)) h2]
theorem joB_inj (sep : UInt8) {p q : List UInt8} {ps qs : List (List UInt8)} (hp : ∀ x ∈ p :: ps, ∀ c ∈ x, c ≠ sep) (hq : ∀ x ∈ q :: qs, ∀ c ∈ x, c ≠ sep) (h : joB sep (p :: ps) = joB sep (q :: qs)) : p = q ∧ ps = qs := by
  obtain ⟨h1, h2⟩ := split_at sep p q _ _ (hp p (List.mem_cons_self ..)) (hq q (List.mem_cons_self ..)) (fm_head sep _) (fm_head sep _) h
  exact ⟨h1, fm_inj sep ps qs (fun p h => hp p (List.mem_cons_of_mem _ h)) (fun p h => hq p (List.mem_cons_of_mem _ h)) h2⟩
def memT (b i s d : Int) : List UInt8 := 91 :: (joB 43 (partsM b i s d) ++ [93])
theorem partsM_are (b i s d : Int) : ∀ p ∈ partsM b i s d, ∀ c ∈ p, c.toNat = 114 ∨ c.toNat = 105 ∨ c.toNat = 112 ∨ c.toNat = 42 ∨ c.toNat = 45 ∨ 48 ≤ c.toNat ∧ c.toNat ≤ 57 := by
  intro p hp c hc
  unfold partsM at hp
  rcases List.mem_append.1 hp with h | h
  · split at h
    · simp only [List.mem_singleton] at h; subst h
      simp only [List.mem_cons, List.not_mem_nil, or_false] at hc
      rcases hc with rfl | rfl | rfl <;> decide
    · split at h
      · cases h
      · simp only [List.mem_singleton] at h; subst h
        have := regT_are b c hc
        omega
  · rcases List.mem_append.1 h with h | h
    · split at h
      · cases h
      · simp only [List.mem_singleton] at h; subst h
        rcases List.mem_append.1 hc with h | h
        · have := regT_are i c h
          omega
        · rcases List.mem_cons.1 h with rfl | h
          · decide
          · have := itoa_are s c h
            omega
    · simp only [List.mem_singleton] at h; subst h
      have := itoa_are d c hc
      omega
theorem joB_are {sep : UInt8} {P : UInt8 → Prop} (hs : P sep) : ∀ l : List (List UInt8), (∀ p ∈ l, ∀ c ∈ p, P c) → ∀ c ∈ joB sep l, P c
  | [], _, _, h => by cases h
  | p :: ps, hp, c, h => by
    rcases List.mem_append.1 h with h | h
    · exact hp p (List.mem_cons_self ..) c h
    · obtain ⟨q, hq, hc⟩ := List.mem_flatMap.1 h
      rcases List.mem_cons.1 hc with rfl | hc
      · exact hs
      · exact hp q (List.mem_cons_of_mem _ hq) c hc
theorem regT_inj {a b : Int} (h : regT a = regT b) : a = b := by
  simp only [regT, List.cons.injEq, true_and] at h
  exact itoa_inj h
theorem idx_inj {i s i' s' : Int} (h : regT i ++ 42 :: Lib.itoa s = regT i' ++ 42 :: Lib.itoa s') : i = i' ∧ s = s' := by
  have nb : ∀ x, ∀ c ∈ regT x, c ≠ 42 := fun x c hc e => by
    subst e
    have := regT_are x 42 hc
    simp at this
  obtain ⟨h1, h2⟩ := split_at 42 _ _ _ _ (nb i) (nb i') (.inr ⟨_, rfl⟩) (.inr ⟨_, rfl⟩) h
  simp only [List.cons.injEq, true_and] at h2
  exact ⟨regT_inj h1, itoa_inj h2⟩
theorem reg_not_idx {b i s : Int} : regT b ≠ regT i ++ 42 :: Lib.itoa s := fun h => by
  have : (42 : UInt8) ∈ regT b := by rw [h]; simp
  have := regT_are b 42 this
  simp at this
theorem rip_not_idx {i s : Int} : [114, 105, 112] ≠ regT i ++ 42 :: Lib.itoa s := fun h => by
  have : (42 : UInt8) ∈ ([114, 105, 112] : List UInt8) := by rw [h]; simp
  simp at this
theorem rip_not_reg {b : Int} : [114, 105, 112] ≠ regT b := fun h => by
  have : (105 : UInt8) ∈ regT b := by rw [← h]; simp
  have := regT_are b 105 this
  simp at this
theorem partsM_inj {b i s d b' i' s' d' : Int} (hi : i = -1 → s = 1) (hi' : i' = -1 → s' = 1) (h : partsM b i s d = partsM b' i' s' d') : b = b' ∧ i = i' ∧ s = s' ∧ d = d' := by
  unfold partsM at h
  by_cases b1 : b = 16 <;> by_cases b2 : b = -1 <;> by_cases b3 : b' = 16 <;> by_cases b4 : b' = -1 <;> by_cases i1 : i = -1 <;> by_cases i2 : i' = -1 <;>
    simp only [b1, b2, b3, b4, i1, i2, beq_self_eq_true, beq_iff_eq, if_true, if_false, List.nil_append, List.cons_append, List.cons.injEq, and_true, List.nil_eq, List.cons_ne_nil, List.ne_cons_self, reduceCtorEq, and_false, false_and] at h <;> try omega
  all_goals first
    | exact absurd h.1 reg_not_idx
    | exact absurd h.1.symm reg_not_idx
    | exact absurd h.1 rip_not_idx
    | exact absurd h.1.symm rip_not_idx
    | exact absurd h.1 rip_not_reg
    | exact absurd h.1.symm rip_not_reg
    | skip
  all_goals first
    | (have hd := itoa_inj h; have := hi i1; have := hi' i2; omega)
    | (have hd := itoa_inj h.2; have hb := regT_inj h.1; have := hi i1; have := hi' i2; omega)
    | (have hd := itoa_inj h.2; have := hi i1; have := hi' i2; omega)
    | (obtain ⟨hx, hd⟩ := h; have hd := itoa_inj hd; obtain ⟨_, _⟩ := idx_inj hx; omega)
    | (obtain ⟨hb, hx, hd⟩ := h; have hd := itoa_inj hd; have hb := regT_inj hb; obtain ⟨_, _⟩ := idx_inj hx; omega)
    | (obtain ⟨hb, hx, hd⟩ := h; have hd := itoa_inj hd; obtain ⟨_, _⟩ := idx_inj hx; omega)
theorem partsM_cons (b i s d : Int) : ∃ p ps, partsM b i s d = p :: ps := by
  unfold partsM
  repeat' split
  all_goals exact ⟨_, _, rfl⟩
theorem memT_inj {b i s d b' i' s' d' : Int} (hi : i = -1 → s = 1) (hi' : i' = -1 → s' = 1) (h : memT b i s d = memT b' i' s' d') : b = b' ∧ i = i' ∧ s = s' ∧ d = d' := by
  simp only [memT, List.cons.injEq, true_and] at h
  have h := List.append_cancel_right h
  have nb : ∀ b i s d, ∀ p ∈ partsM b i s d, ∀ c ∈ p, c ≠ 43 := fun b i s d p hp c hc e => by
    subst e
    have := partsM_are b i s d p hp 43 hc
    simp at this
  obtain ⟨p, ps, e⟩ := partsM_cons b i s d
  obtain ⟨q, qs, e'⟩ := partsM_cons b' i' s' d'
  have n1 := nb b i s d
  have n2 := nb b' i' s' d'
  rw [e, e'] at h
  rw [e] at n1
  rw [e'] at n2
  obtain ⟨rfl, rfl⟩ := joB_inj 43 n1 n2 h
  exact partsM_inj hi hi' (e.trans e'.symm)
theorem memT_are (b i s d : Int) : ∀ c ∈ memT b i s d, c ≠ 32 ∧ c ≠ 44 := by
  have key : ∀ c ∈ memT b i s d, c.toNat = 91 ∨ c.toNat = 93 ∨ c.toNat = 43 ∨ c.toNat = 114 ∨ c.toNat = 105 ∨ c.toNat = 112 ∨ c.toNat = 42 ∨ c.toNat = 45 ∨ 48 ≤ c.toNat ∧ c.toNat ≤ 57 := by
    intro c hc
    rcases List.mem_cons.1 hc with rfl | hc
    · left; decide
    · rcases List.mem_append.1 hc with hc | hc
      · exact joB_are (P := fun c => c.toNat = 91 ∨ c.toNat = 93 ∨ c.toNat = 43 ∨ c.toNat = 114 ∨ c.toNat = 105 ∨ c.toNat = 112 ∨ c.toNat = 42 ∨ c.toNat = 45 ∨ 48 ≤ c.toNat ∧ c.toNat ≤ 57) (by decide) _ (fun p hp c hc => by have := partsM_are b i s d p hp c hc; omega) c hc
      · simp only [List.mem_singleton] at hc; subst hc; decide
  intro c hc
  have := key c hc
  constructor <;> (intro e; subst e; simp at this)
/-- An operand's text. -/
def opT (k r b i s d im : Int) : List UInt8 := if k == 1 then regT r else if k == 2 then memT b i s d else Lib.itoa im
theorem opT_are (k r b i s d im : Int) : ∀ c ∈ opT k r b i s d im, c ≠ 32 ∧ c ≠ 44 := by
  unfold opT
  split
  · intro c hc
    have := regT_are r c hc
    constructor <;> (intro e; subst e; simp at this)
  · split
    · exact memT_are b i s d
    · intro c hc
      have := itoa_are im c hc
      constructor <;> (intro e; subst e; simp at this)
theorem mem_not_reg {b i s d r : Int} : memT b i s d ≠ regT r := fun h => by simp [memT, regT] at h
theorem mem_not_num {b i s d x : Int} : memT b i s d ≠ Lib.itoa x := fun h => by
  have : (91 : UInt8) ∈ Lib.itoa x := by rw [← h]; simp [memT]
  have := itoa_are x 91 this
  simp at this
theorem reg_not_num {r x : Int} : regT r ≠ Lib.itoa x := fun h => by
  have : (114 : UInt8) ∈ Lib.itoa x := by rw [← h]; simp [regT]
  have := itoa_are x 114 this
  simp at this
/-- What is asked of an operand. -/
structure OpdOk (k r b i s d : Int) : Prop where
  kind : k = 0 ∨ k = 1 ∨ k = 2 ∨ k = 3
  mem : k = 2 → r = 0 ∧ (i = -1 → s = 1)
  bare : k ≠ 2 → b = 0 ∧ i = 0 ∧ s = 0 ∧ d = 0
  reg : k ≠ 1 → r = 0
theorem opT_inj {k r b i s d im k' r' b' i' s' d' im' : Int} (o : OpdOk k r b i s d) (o' : OpdOk k' r' b' i' s' d') (h0 : k ≠ 0) (h0' : k' ≠ 0) (h : opT k r b i s d im = opT k' r' b' i' s' d' im') :
    k = k' ∧ r = r' ∧ b = b' ∧ i = i' ∧ s = s' ∧ d = d' ∧ (k = 3 → im = im') := by
  have h1 := o.kind
  have h2 := o'.kind
  have h3 := o.mem
  have h4 := o'.mem
  have h5 := o.bare
  have h6 := o'.bare
  have h7 := o.reg
  have h8 := o'.reg
  rcases h1 with rfl | rfl | rfl | rfl
  · exact absurd rfl h0
  all_goals rcases h2 with rfl | rfl | rfl | rfl
  all_goals first | exact absurd rfl h0' | skip
  all_goals simp only [opT, beq_iff_eq, reduceCtorEq, if_true, if_false, Int.reduceEq, beq_self_eq_true] at h
  · have := regT_inj h
    omega
  · exact absurd h.symm mem_not_reg
  · exact absurd h reg_not_num
  · exact absurd h mem_not_reg
  · obtain ⟨_, _, _, _⟩ := memT_inj (fun e => (h3 rfl).2 e) (fun e => (h4 rfl).2 e) h
    omega
  · exact absurd h mem_not_num
  · exact absurd h.symm reg_not_num
  · exact absurd h.symm mem_not_num
  · have := itoa_inj h
    omega
end Go.Proofs.YtbdddnjncakooaaDoor
set_option maxRecDepth 100000
namespace Go.Proofs.YtbdddnjncakooaaDoor
open Go.Proofs.YtbdddnjncakooaaDoor.Ev Go.RowKit
/- Plain: unlike instructions have unlike texts. -/
def headT (op w v cc : Int) : List UInt8 := wordsX.getD op.toNat [] ++ 46 :: (Lib.itoa w ++ ((if inB 11 op 12 = true then 46 :: Lib.itoa v else []) ++ (if inB 34 op 36 = true then 46 :: Lib.itoa cc else [])))
def thirdB (op ak : Int) : Bool := op == 25 || (inB 36 op 38 && ak == 0)
def opsT (op ak ar ab ai ac ad bk br bb bi bc bd im : Int) : List (List UInt8) :=
  (if ak == 0 then [] else [opT ak ar ab ai ac ad im]) ++ ((if bk == 0 then [] else [opT bk br bb bi bc bd im]) ++ (if thirdB op ak = true then [Lib.itoa im] else []))
def tailT (l : List (List UInt8)) : List UInt8 := match l with
  | [] => []
  | p :: ps => 32 :: (p ++ ps.flatMap fun q => 44 :: 32 :: q)
def lockT : List UInt8 := [108, 111, 99, 107, 32]
def repT : List UInt8 := [114, 101, 112, 32]
def showX (op w v ak ar ab ai ac ad bk br bb bi bc bd im cc : Int) (lk rp : Bool) (ln : Int) : List UInt8 := (if lk = true then lockT else []) ++ ((if rp = true then repT else []) ++ (headT op w v cc ++ tailT (opsT op ak ar ab ai ac ad bk br bb bi bc bd im)))
theorem words_plain (k : Nat) : ∀ c ∈ wordsX.getD k [], c ≠ 32 ∧ c ≠ 46 := by
  have : ∀ x ∈ wordsX, ∀ c ∈ x, c ≠ 32 ∧ c ≠ 46 := by decide +kernel
  rw [List.getD_eq_getElem?_getD]
  cases h : wordsX[k]? with
  | none => simp
  | some x => exact this x (List.mem_of_getElem? h)
theorem words_apart : ∀ i < 48, ∀ j < 48, wordsX.getD i [] = wordsX.getD j [] → i = j := by decide +kernel
theorem no46 (x : Int) : ∀ c ∈ Lib.itoa x, c ≠ 46 := no_itoa x (by decide) (by decide)
theorem no32 (x : Int) : ∀ c ∈ Lib.itoa x, c ≠ 32 := no_itoa x (by decide) (by decide)
theorem head_nb (op w v cc : Int) : ∀ c ∈ headT op w v cc, c ≠ 32 := by
  intro c hc
  unfold headT at hc
  simp only [List.mem_append, List.mem_cons] at hc
  rcases hc with h | rfl | h | h | h
  · exact (words_plain _ c h).1
  · decide
  · exact no32 _ c h
  · split at h
    · rcases List.mem_cons.1 h with rfl | h
      · decide
      · exact no32 _ c h
    · cases h
  · split at h
    · rcases List.mem_cons.1 h with rfl | h
      · decide
      · exact no32 _ c h
    · cases h
theorem head_dot (op w v cc : Int) : (46 : UInt8) ∈ headT op w v cc := by
  unfold headT
  simp
theorem head_inj {op w v cc op' w' v' cc' : Int} (hr : 1 ≤ op ∧ op ≤ 47) (hr' : 1 ≤ op' ∧ op' ≤ 47) (h : headT op w v cc = headT op' w' v' cc') : op = op' ∧ w = w' ∧ (inB 11 op 12 = true → v = v') ∧ (inB 34 op 36 = true → cc = cc') := by
  unfold headT at h
  obtain ⟨h1, h2⟩ := split_at 46 _ _ _ _ (fun c hc => (words_plain _ c hc).2) (fun c hc => (words_plain _ c hc).2) (.inr ⟨_, rfl⟩) (.inr ⟨_, rfl⟩) h
  have ho := words_apart _ (by omega) _ (by omega) h1
  obtain rfl : op = op' := by omega
  simp only [List.cons.injEq, true_and] at h2
  have tl : ∀ v cc, ((if inB 11 op 12 = true then (46 : UInt8) :: Lib.itoa v else []) ++ (if inB 34 op 36 = true then 46 :: Lib.itoa cc else [])) = [] ∨ ∃ r, ((if inB 11 op 12 = true then (46 : UInt8) :: Lib.itoa v else []) ++ (if inB 34 op 36 = true then 46 :: Lib.itoa cc else [])) = 46 :: r := fun v cc => by
    split
    · exact .inr ⟨_, rfl⟩
    · split
      · exact .inr ⟨_, rfl⟩
      · exact .inl rfl
  obtain ⟨h3, h4⟩ := split_at 46 _ _ _ _ (no46 w) (no46 w') (tl v cc) (tl v' cc') h2
  have hw := itoa_inj h3
  refine ⟨rfl, hw, ?_, ?_⟩
  · intro hv
    have hc : inB 34 op 36 = false := by
      simp only [inB, Bool.and_eq_true, decide_eq_true_eq] at hv
      simp [inB]; omega
    simp only [hv, hc, if_true, Bool.false_eq_true, if_false, List.append_nil, List.cons.injEq, true_and] at h4
    exact itoa_inj h4
  · intro hc
    have hv : inB 11 op 12 = false := by
      simp only [inB, Bool.and_eq_true, decide_eq_true_eq] at hc
      simp [inB]; omega
    simp only [hv, hc, if_true, Bool.false_eq_true, if_false, List.nil_append, List.cons.injEq, true_and] at h4
    exact itoa_inj h4
theorem tail_head (l : List (List UInt8)) : tailT l = [] ∨ ∃ r, tailT l = 32 :: r := by
  cases l with
  | nil => exact .inl rfl
  | cons p ps => exact .inr ⟨_, rfl⟩
theorem fc_head (ps : List (List UInt8)) : (ps.flatMap fun q => (44 : UInt8) :: 32 :: q) = [] ∨ ∃ r, (ps.flatMap fun q => (44 : UInt8) :: 32 :: q) = 44 :: r := by
  cases ps with
  | nil => exact .inl rfl
  | cons p ps => exact .inr ⟨32 :: (p ++ (ps.flatMap fun q => 44 :: 32 :: q)), by simp⟩
theorem fc_inj : ∀ (ps qs : List (List UInt8)), (∀ p ∈ ps, ∀ c ∈ p, c ≠ 44) → (∀ p ∈ qs, ∀ c ∈ p, c ≠ 44) → (ps.flatMap fun q => (44 : UInt8) :: 32 :: q) = (qs.flatMap fun q => 44 :: 32 :: q) → ps = qs
  | [], [], _, _, _ => rfl
  | [], q :: qs, _, _, h => by simp at h
  | p :: ps, [], _, _, h => by simp at h
  | p :: ps, q :: qs, hp, hq, h => by
    simp only [List.flatMap_cons, List.cons_append, List.cons.injEq, true_and] at h
    obtain ⟨rfl, h2⟩ := split_at 44 p q _ _ (hp p (List.mem_cons_self ..)) (hq q (List.mem_cons_self ..)) (fc_head _) (fc_head _) h
    rw [fc_inj ps qs (fun p h => hp p (List.mem_cons_of_mem _ h)) (fun p h => hq p (List.mem_cons_of_mem _ h)) h2]
theorem tail_inj {l m : List (List UInt8)} (hl : ∀ p ∈ l, ∀ c ∈ p, c ≠ 44) (hm : ∀ p ∈ m, ∀ c ∈ p, c ≠ 44) (h : tailT l = tailT m) : l = m := by
  cases l with
  | nil => cases m with
    | nil => rfl
    | cons q qs => simp [tailT] at h
  | cons p ps => cases m with
    | nil => simp [tailT] at h
    | cons q qs =>
      simp only [tailT, List.cons.injEq, true_and] at h
      obtain ⟨rfl, h2⟩ := split_at 44 p q _ _ (hl p (List.mem_cons_self ..)) (hm q (List.mem_cons_self ..)) (fc_head _) (fc_head _) h
      rw [fc_inj ps qs (fun p h => hl p (List.mem_cons_of_mem _ h)) (fun p h => hm p (List.mem_cons_of_mem _ h)) h2]
theorem opsT_are (op ak ar ab ai ac ad bk br bb bi bc bd im : Int) : ∀ p ∈ opsT op ak ar ab ai ac ad bk br bb bi bc bd im, ∀ c ∈ p, c ≠ 44 := by
  intro p hp c hc
  unfold opsT at hp
  rcases List.mem_append.1 hp with h | h
  · split at h
    · cases h
    · simp only [List.mem_singleton] at h; subst h
      exact (opT_are _ _ _ _ _ _ _ c hc).2
  · rcases List.mem_append.1 h with h | h
    · split at h
      · cases h
      · simp only [List.mem_singleton] at h; subst h
        exact (opT_are _ _ _ _ _ _ _ c hc).2
    · split at h
      · simp only [List.mem_singleton] at h; subst h
        exact no_itoa _ (by decide) (by decide) c hc
      · cases h
/-- What is asked of an instruction. -/
structure InstOk (op w v ak ar ab ai ac ad bk br bb bi bc bd im cc : Int) (lk rp : Bool) (ln : Int) : Prop where
  rng : 1 ≤ op ∧ op ≤ 47
  a : OpdOk ak ar ab ai ac ad
  b : OpdOk bk br bb bi bc bd
  v : inB 11 op 12 = false → v = 0
  cc : inB 34 op 36 = false → cc = 0
  lk : lk = true → ak = 2
  rp : rp = true → inB 42 op 43 = true
  im : im = 0 ∨ ak = 3 ∨ bk = 3 ∨ thirdB op ak = true
  two : (inB 1 op 13 = true ∨ inB 24 op 34 = true) → ak ≠ 0 ∧ bk ≠ 0
  one : (inB 14 op 23 = true ∨ op = 35) → ak ≠ 0 ∧ bk = 0
  go : inB 37 op 38 = true → ak ≠ 3 ∧ bk = 0
  none : (op = 36 ∨ 39 ≤ op) → ak = 0 ∧ bk = 0
theorem ops_inj {op ak ar ab ai ac ad bk br bb bi bc bd im ak' ar' ab' ai' ac' ad' bk' br' bb' bi' bc' bd' im' w v cc ln w' v' cc' ln' : Int} {lk rp lk' rp' : Bool} (o : InstOk op w v ak ar ab ai ac ad bk br bb bi bc bd im cc lk rp ln) (o' : InstOk op w' v' ak' ar' ab' ai' ac' ad' bk' br' bb' bi' bc' bd' im' cc' lk' rp' ln')
    (h : opsT op ak ar ab ai ac ad bk br bb bi bc bd im = opsT op ak' ar' ab' ai' ac' ad' bk' br' bb' bi' bc' bd' im') : ak = ak' ∧ ar = ar' ∧ ab = ab' ∧ ai = ai' ∧ ac = ac' ∧ ad = ad' ∧ bk = bk' ∧ br = br' ∧ bb = bb' ∧ bi = bi' ∧ bc = bc' ∧ bd = bd' ∧ im = im' := by
  have zero : ∀ {r b i s d r' b' i' s' d' : Int}, OpdOk 0 r b i s d → OpdOk 0 r' b' i' s' d' → r = r' ∧ b = b' ∧ i = i' ∧ s = s' ∧ d = d' := fun p q => by
    have := p.bare (by decide)
    have := q.bare (by decide)
    have := p.reg (by decide)
    have := q.reg (by decide)
    omega
  have rng := o.rng
  have i1 := o.im
  have i2 := o'.im
  by_cases c2 : inB 1 op 13 = true ∨ inB 24 op 34 = true
  · obtain ⟨a0, b0⟩ := o.two c2
    obtain ⟨a0', b0'⟩ := o'.two c2
    have t : ∀ k : Int, k ≠ 0 → thirdB op k = (op == 25) := fun k hk => by
      unfold thirdB
      rw [show (k == 0) = false by simpa using hk]
      simp
    simp only [opsT, beq_iff_eq, a0, b0, a0', b0', if_false, t _ a0, t _ a0', List.cons_append, List.nil_append, List.cons.injEq] at h
    obtain ⟨e1, e2, e3⟩ := h
    obtain ⟨rfl, rfl, rfl, rfl, rfl, rfl, m1⟩ := opT_inj o.a o'.a a0 a0' e1
    obtain ⟨rfl, rfl, rfl, rfl, rfl, rfl, m2⟩ := opT_inj o.b o'.b b0 b0' e2
    refine ⟨rfl, rfl, rfl, rfl, rfl, rfl, rfl, rfl, rfl, rfl, rfl, rfl, ?_⟩
    rw [t _ a0] at i1 i2
    by_cases c : op = 25
    · simp only [c, if_true, List.cons.injEq, and_true] at e3
      exact itoa_inj e3
    · simp only [beq_iff_eq, c, or_false] at i1 i2
      rcases i1 with h | h | h
      · rcases i2 with h' | h' | h'
        · omega
        · exact m1 h'
        · exact m2 h'
      · exact m1 h
      · exact m2 h
  · by_cases c1 : inB 14 op 23 = true ∨ op = 35
    · obtain ⟨a0, rfl⟩ := o.one c1
      obtain ⟨a0', rfl⟩ := o'.one c1
      have t : ∀ k : Int, k ≠ 0 → thirdB op k = false := fun k hk => by
        unfold thirdB
        rw [show (k == 0) = false by simpa using hk]
        simp only [inB, Bool.and_eq_true, decide_eq_true_eq] at c1
        simp; omega
      simp only [opsT, beq_iff_eq, a0, a0', if_false, t _ a0, t _ a0', List.cons_append, List.nil_append, List.cons.injEq, Bool.false_eq_true, beq_self_eq_true, if_true, and_true] at h
      obtain ⟨rfl, rfl, rfl, rfl, rfl, rfl, m1⟩ := opT_inj o.a o'.a a0 a0' h
      obtain ⟨rfl, rfl, rfl, rfl, rfl⟩ := zero o.b o'.b
      refine ⟨rfl, rfl, rfl, rfl, rfl, rfl, rfl, rfl, rfl, rfl, rfl, rfl, ?_⟩
      rw [t _ a0] at i1 i2
      simp only [Bool.false_eq_true, or_false] at i1 i2
      rcases i1 with h | h | h
      · rcases i2 with h' | h' | h'
        · omega
        · exact m1 h'
        · omega
      · exact m1 h
      · omega
    · by_cases cg : inB 37 op 38 = true
      · obtain ⟨a3, rfl⟩ := o.go cg
        obtain ⟨a3', rfl⟩ := o'.go cg
        have t : ∀ k : Int, thirdB op k = (k == 0) := fun k => by
          unfold thirdB
          simp only [inB, Bool.and_eq_true, decide_eq_true_eq] at cg
          rw [show inB 36 op 38 = true by simp [inB]; omega, show (op == 25) = false by simp; omega]
          simp
        rw [t] at i1 i2
        simp only [opsT, t, beq_self_eq_true, if_true, List.nil_append] at h
        obtain ⟨rfl, rfl, rfl, rfl, rfl⟩ := zero o.b o'.b
        by_cases a0 : ak = 0 <;> by_cases a0' : ak' = 0
        · subst a0; subst a0'
          obtain ⟨rfl, rfl, rfl, rfl, rfl⟩ := zero o.a o'.a
          simp only [beq_self_eq_true, if_true, List.nil_append, List.cons.injEq, and_true] at h
          exact ⟨rfl, rfl, rfl, rfl, rfl, rfl, rfl, rfl, rfl, rfl, rfl, rfl, itoa_inj h⟩
        · subst a0
          exfalso
          simp only [beq_self_eq_true, if_true, List.nil_append, List.cons.injEq, and_true, beq_iff_eq, a0', if_false, List.append_nil] at h
          have hk := o'.a.kind
          have : ak' = 1 ∨ ak' = 2 := by omega
          rcases this with rfl | rfl
          · exact reg_not_num h.symm
          · exact mem_not_num h.symm
        · subst a0'
          exfalso
          simp only [beq_self_eq_true, if_true, List.nil_append, List.cons.injEq, and_true, beq_iff_eq, a0, if_false, List.append_nil] at h
          have hk := o.a.kind
          have : ak = 1 ∨ ak = 2 := by omega
          rcases this with rfl | rfl
          · exact reg_not_num h
          · exact mem_not_num h
        · simp only [beq_iff_eq, a0, a0', if_false, List.append_nil, List.cons.injEq, and_true] at h
          obtain ⟨rfl, rfl, rfl, rfl, rfl, rfl, m1⟩ := opT_inj o.a o'.a a0 a0' h
          refine ⟨rfl, rfl, rfl, rfl, rfl, rfl, rfl, rfl, rfl, rfl, rfl, rfl, ?_⟩
          simp only [beq_iff_eq, a0, a0', a3, or_false, false_or] at i1 i2
          rcases i1 with h1 | h1
          · rcases i2 with h2 | h2
            · rw [h1, h2]
            · exact absurd h2 (by decide)
          · exact absurd h1 (by decide)
      · have cn : op = 36 ∨ 39 ≤ op := by
          simp only [inB, Bool.and_eq_true, decide_eq_true_eq] at c2 c1 cg
          omega
        obtain ⟨rfl, rfl⟩ := o.none cn
        obtain ⟨rfl, rfl⟩ := o'.none cn
        obtain ⟨rfl, rfl, rfl, rfl, rfl⟩ := zero o.b o'.b
        obtain ⟨rfl, rfl, rfl, rfl, rfl⟩ := zero o.a o'.a
        refine ⟨rfl, rfl, rfl, rfl, rfl, rfl, rfl, rfl, rfl, rfl, rfl, rfl, ?_⟩
        have t : thirdB op 0 = (op == 36) := by
          unfold thirdB
          rcases cn with hc | hc
          · rw [hc]; decide
          · rw [show (op == 25) = false by simp; omega, show inB 36 op 38 = false by simp [inB]; omega, show (op == 36) = false by simp; omega]
            rfl
        rw [t] at i1 i2
        simp only [opsT, t, beq_self_eq_true, if_true, List.nil_append] at h
        by_cases c : op = 36
        · simp only [c, beq_self_eq_true, if_true, List.cons.injEq, and_true] at h
          exact itoa_inj h
        · simp only [beq_iff_eq, c, or_false] at i1 i2
          rcases i1 with h1 | h1 | h1
          · rcases i2 with h2 | h2 | h2
            · rw [h1, h2]
            · exact absurd h2 (by decide)
            · exact absurd h2 (by decide)
          · exact absurd h1 (by decide)
          · exact absurd h1 (by decide)
theorem pre_nb {a : List UInt8} (h : a = [108, 111, 99, 107] ∨ a = [114, 101, 112]) : ∀ c ∈ a, c ≠ 32 := by
  rcases h with rfl | rfl <;> decide
theorem pre_split {x : Bool} {p a b : List UInt8} {x' : Bool} {p' : List UInt8} (hp : p' = p ++ [32]) (hn : ∀ c ∈ p, c ≠ 32) (ha : (∃ h t, a = h ++ t ∧ (∀ c ∈ h, c ≠ 32) ∧ (t = [] ∨ ∃ r, t = 32 :: r) ∧ h ≠ p)) (hb : (∃ h t, b = h ++ t ∧ (∀ c ∈ h, c ≠ 32) ∧ (t = [] ∨ ∃ r, t = 32 :: r) ∧ h ≠ p))
    (h : (if x = true then p' else []) ++ a = (if x' = true then p' else []) ++ b) : x = x' ∧ a = b := by
  subst hp
  cases x <;> cases x' <;> simp only [Bool.false_eq_true, if_true, if_false, List.nil_append] at h
  · exact ⟨rfl, h⟩
  · exfalso
    obtain ⟨h1, t, rfl, n1, n2, n3⟩ := ha
    rw [List.append_assoc] at h
    exact n3 (split_at 32 _ _ _ _ n1 hn n2 (.inr ⟨_, rfl⟩) h).1
  · exfalso
    obtain ⟨h1, t, rfl, n1, n2, n3⟩ := hb
    rw [List.append_assoc] at h
    exact n3 (split_at 32 _ _ _ _ hn n1 (.inr ⟨_, rfl⟩) n2 h).1.symm
  · exact ⟨rfl, List.append_cancel_left h⟩
theorem head_ne (op w v cc : Int) (p : List UInt8) (hp : (46 : UInt8) ∉ p) : headT op w v cc ≠ p := fun e => hp (e ▸ head_dot op w v cc)
theorem rest_form (rp : Bool) (op w v cc : Int) (l : List (List UInt8)) : ∃ h t, (if rp = true then repT else []) ++ (headT op w v cc ++ tailT l) = h ++ t ∧ (∀ c ∈ h, c ≠ 32) ∧ (t = [] ∨ ∃ r, t = 32 :: r) ∧ h ≠ [108, 111, 99, 107] := by
  cases rp
  · exact ⟨headT op w v cc, tailT l, rfl, head_nb _ _ _ _, tail_head l, head_ne _ _ _ _ _ (by decide)⟩
  · exact ⟨[114, 101, 112], 32 :: (headT op w v cc ++ tailT l), rfl, by decide, .inr ⟨_, rfl⟩, by decide⟩
theorem showX_inj {op w v ak ar ab ai ac ad bk br bb bi bc bd im cc : Int} {lk rp : Bool} {ln : Int} {op' w' v' ak' ar' ab' ai' ac' ad' bk' br' bb' bi' bc' bd' im' cc' : Int} {lk' rp' : Bool} {ln' : Int} (o : InstOk op w v ak ar ab ai ac ad bk br bb bi bc bd im cc lk rp ln) (o' : InstOk op' w' v' ak' ar' ab' ai' ac' ad' bk' br' bb' bi' bc' bd' im' cc' lk' rp' ln') (h : showX op w v ak ar ab ai ac ad bk br bb bi bc bd im cc lk rp ln = showX op' w' v' ak' ar' ab' ai' ac' ad' bk' br' bb' bi' bc' bd' im' cc' lk' rp' ln') :
    op = op' ∧ w = w' ∧ v = v' ∧ (ak = ak' ∧ ar = ar' ∧ ab = ab' ∧ ai = ai' ∧ ac = ac' ∧ ad = ad' ∧ bk = bk' ∧ br = br' ∧ bb = bb' ∧ bi = bi' ∧ bc = bc' ∧ bd = bd' ∧ im = im') ∧ cc = cc' ∧ lk = lk' ∧ rp = rp' := by
  unfold showX at h
  obtain ⟨el, g1⟩ := pre_split (p := [108, 111, 99, 107]) rfl (by decide) (rest_form ..) (rest_form ..) h
  obtain ⟨er, g2⟩ := pre_split (p := [114, 101, 112]) rfl (by decide) ⟨_, _, rfl, head_nb _ _ _ _, tail_head _, head_ne _ _ _ _ _ (by decide)⟩ ⟨_, _, rfl, head_nb _ _ _ _, tail_head _, head_ne _ _ _ _ _ (by decide)⟩ g1
  subst el; subst er
  obtain ⟨h1, h2⟩ := split_at 32 _ _ _ _ (head_nb _ _ _ _) (head_nb _ _ _ _) (tail_head _) (tail_head _) g2
  obtain ⟨rfl, rfl, hv, hc⟩ := head_inj o.rng o'.rng h1
  have h3 := tail_inj (opsT_are _ _ _ _ _ _ _ _ _ _ _ _ _ _) (opsT_are _ _ _ _ _ _ _ _ _ _ _ _ _ _) h2
  refine ⟨rfl, rfl, ?_, ops_inj o o' h3, ?_, rfl, rfl⟩
  · cases hb : inB 11 op 12 with
    | true => exact hv hb
    | false => rw [o.v hb, o'.v hb]
  · cases hb : inB 34 op 36 with
    | true => exact hc hb
    | false => rw [o.cc hb, o'.cc hb]
end Go.Proofs.YtbdddnjncakooaaDoor
set_option maxRecDepth 100000
namespace Go.Proofs.YtbdddnjncakooaaDoor
open Go.Proofs.YtbdddnjncakooaaDoor.Ev Go.RowKit
/- May an instruction be? Are two the same? -/
def mayA (op w v ak ar ab ai ac ad bk br bb bi bc bd im cc : Int) (lk rp : Bool) (ln : Int) : Bool := if (if lockB op ak lk rp ln = true then plainB v im cc (if (if (if (bk == 3) = true then true else op == 25) = true then true else op == 14) = true then true else inB 36 op 38) (inB 34 op 36) (inB 11 op 12) else false) = true then
  if twoB op w v ak ar ab ai ac ad bk br bb bi bc bd im = true then true else oneB op w ak ar ab ai ac ad bk br bb bi bc bd im else false
def s33 : CSpec | [.agg (cI op w v ak ar ab ai ac ad bk br bb bi bc bd im cc lk rp ln)] => some ⟨[], .b (mayA op w v ak ar ab ai ac ad bk br bb bi bc bd im cc lk rp ln)⟩ | _ => none
theorem ok33 : FnOk Tryd.prog 33 s33 := okBy SC6_ok Tryd.func33 (by kernel_rfl) (by kernel_rfl) 1 <| by
  intro xs r hs
  unfold s33 at hs; split at hs <;> cases hs
  rename_i op w v ak ar ab ai ac ad bk br bb bi bc bd im cc lk rp ln
  intro hp _
  show (evFn T SC6 noL 1 Tryd.f33 [.agg (cI op w v ak ar ab ai ac ad bk br bb bi bc bd im cc lk rp ln)]).run = some (.b (mayA op w v ak ar ab ai ac ad bk br bb bi bc bd im cc lk rp ln))
  kernel_rfl
def may1 (op w ak ar ab ai ac ad bk br bb bi bc bd im ln : Int) : Bool := if (if (if (if (if (!shapeB op w ak bk br) = true then true else !opdR ak ar ab ai ac ad) = true then true else !opdR bk br bb bi bc bd) = true then true else !immR op w ak bk im) = true then true else decide (ln < 0)) = true then true else decide (15 < ln)
def may2 (op cc : Int) : Bool := if (if isA op tCc = true then if decide (cc < 0) = true then true else decide (15 < cc) else false) = true then true else if (!isA op tCc) = true then cc != 0 else false
def may3 (op w v : Int) : Bool := if (if (v == 1) = true then true else if (v == 2) = true then decide (4 ≤ w) else false) = true then true else if (if (v == 4) = true then w == 8 else false) = true then isA op tMx else false
def may4 (op ak : Int) (lk : Bool) : Bool := if lk = true then if (ak != 2) = true then true else !isA op tLk else false
def may5 (op : Int) (rp : Bool) : Bool := if (!rp) = true then true else isA op tMs
def mayR (op w v ak ar ab ai ac ad bk br bb bi bc bd im cc : Int) (lk rp : Bool) (ln : Int) : Bool := if may1 op w ak ar ab ai ac ad bk br bb bi bc bd im ln = true then false else if may2 op cc = true then false else
  if isA op tMz = true then (if (!may3 op w v) = true then false else if may4 op ak lk = true then false else may5 op rp) else if (v != 0) = true then false else if may4 op ak lk = true then false else may5 op rp
def s8 : CSpec | [.agg (cI op w v ak ar ab ai ac ad bk br bb bi bc bd im cc lk rp ln)] => some ⟨[], .b (mayR op w v ak ar ab ai ac ad bk br bb bi bc bd im cc lk rp ln)⟩ | _ => none
theorem ok8 : FnOk Tryd.prog 8 s8 := okBy SC6_ok Tryd.func8 (by kernel_rfl) (by kernel_rfl) 1 <| by
  intro xs r hs
  unfold s8 at hs; split at hs <;> cases hs
  rename_i op w v ak ar ab ai ac ad bk br bb bi bc bd im cc lk rp ln
  intro hp _
  have e : (evFn T SC6 noL 1 Tryd.f8 [.agg (cI op w v ak ar ab ai ac ad bk br bb bi bc bd im cc lk rp ln)]).run = if may1 op w ak ar ab ai ac ad bk br bb bi bc bd im ln = true then some (.b false) else if may2 op cc = true then some (.b false) else
    if isA op tMz = true then (if (!may3 op w v) = true then some (.b false) else if may4 op ak lk = true then some (.b false) else some (.b (may5 op rp))) else if (v != 0) = true then some (.b false) else if may4 op ak lk = true then some (.b false) else some (.b (may5 op rp)) := by kernel_rfl
  show _ = some (AV.b _)
  rw [e]
  unfold mayR
  simp only [iteB]
def eqX (op w v ak ar ab ai ac ad bk br bb bi bc bd im cc : Int) (lk rp : Bool) (ln : Int) (op' w' v' ak' ar' ab' ai' ac' ad' bk' br' bb' bi' bc' bd' im' cc' : Int) (lk' rp' : Bool) (ln' : Int) : Bool := op == op' && (w == w' && (v == v' && (ak == ak' && (ar == ar' && (ab == ab' && (ai == ai' && (ac == ac' && (ad == ad' && (bk == bk' && (br == br' && (bb == bb' && (bi == bi' && (bc == bc' && (bd == bd' && (im == im' && (cc == cc' && (lk == lk' && (rp == rp' && ((0 : Int) == 0 && true)))))))))))))))))))
def s6 : CSpec | [.agg (cI op w v ak ar ab ai ac ad bk br bb bi bc bd im cc lk rp ln), .agg (cI op' w' v' ak' ar' ab' ai' ac' ad' bk' br' bb' bi' bc' bd' im' cc' lk' rp' ln')] => some ⟨[], .b (eqX op w v ak ar ab ai ac ad bk br bb bi bc bd im cc lk rp ln op' w' v' ak' ar' ab' ai' ac' ad' bk' br' bb' bi' bc' bd' im' cc' lk' rp' ln')⟩ | _ => none
theorem ok6 : FnOk Tryd.prog 6 s6 := okBy SC6_ok Tryd.func6 (by kernel_rfl) (by kernel_rfl) 1 <| by
  intro xs r hs
  unfold s6 at hs; split at hs <;> cases hs
  rename_i op w v ak ar ab ai ac ad bk br bb bi bc bd im cc lk rp ln op' w' v' ak' ar' ab' ai' ac' ad' bk' br' bb' bi' bc' bd' im' cc' lk' rp' ln'
  intro hp _
  show (evFn T SC6 noL 1 Tryd.f6 [.agg (cI op w v ak ar ab ai ac ad bk br bb bi bc bd im cc lk rp ln), .agg (cI op' w' v' ak' ar' ab' ai' ac' ad' bk' br' bb' bi' bc' bd' im' cc' lk' rp' ln')]).run = some (.b (eqX op w v ak ar ab ai ac ad bk br bb bi bc bd im cc lk rp ln op' w' v' ak' ar' ab' ai' ac' ad' bk' br' bb' bi' bc' bd' im' cc' lk' rp' ln'))
  kernel_rfl
theorem ok7 : FnOk Tryd.prog 7 s6 := okBy SC6_ok Tryd.func7 (by kernel_rfl) (by kernel_rfl) 1 <| by
  intro xs r hs
  unfold s6 at hs; split at hs <;> cases hs
  rename_i op w v ak ar ab ai ac ad bk br bb bi bc bd im cc lk rp ln op' w' v' ak' ar' ab' ai' ac' ad' bk' br' bb' bi' bc' bd' im' cc' lk' rp' ln'
  intro hp _
  show (evFn T SC6 noL 1 Tryd.f7 [.agg (cI op w v ak ar ab ai ac ad bk br bb bi bc bd im cc lk rp ln), .agg (cI op' w' v' ak' ar' ab' ai' ac' ad' bk' br' bb' bi' bc' bd' im' cc' lk' rp' ln')]).run = some (.b (eqX op w v ak ar ab ai ac ad bk br bb bi bc bd im cc lk rp ln op' w' v' ak' ar' ab' ai' ac' ad' bk' br' bb' bi' bc' bd' im' cc' lk' rp' ln'))
  kernel_rfl
def s31 : CSpec | [.i .i64 x, .i .i64 y, .i .i64 z, .i .i64 u] => some ⟨[], .agg (cO 2 0 x y z u)⟩ | _ => none
theorem ok31 : FnOk Tryd.prog 31 s31 := okBy SC6_ok Tryd.func31 (by kernel_rfl) (by kernel_rfl) 1 <| by
  intro xs r hs
  unfold s31 at hs; split at hs <;> cases hs
  rename_i x y z u
  intro hp _
  show (evFn T SC6 noL 1 Tryd.f31 [.i .i64 x, .i .i64 y, .i .i64 z, .i .i64 u]).run = some (.agg (cO 2 0 x y z u))
  kernel_rfl
def s38 : CSpec | [] => some ⟨[], .agg (cO 3 0 0 0 0 0)⟩ | _ => none
theorem ok38 : FnOk Tryd.prog 38 s38 := okBy SC6_ok Tryd.func38 (by kernel_rfl) (by kernel_rfl) 1 <| by
  intro xs r hs
  unfold s38 at hs; split at hs <;> cases hs
  intro hp _
  show (evFn T SC6 noL 1 Tryd.f38 []).run = some (.agg (cO 3 0 0 0 0 0))
  kernel_rfl
/- The library: Split of the names, Join. -/
def namesTail : List (List UInt8) := [[111, 114], [97, 100, 99], [115, 98, 98], [97, 110, 100], [115, 117, 98], [120, 111, 114], [99, 109, 112], [116, 101, 115, 116], [109, 111, 118], [109, 111, 118, 122, 120], [109, 111, 118, 115, 120], [108, 101, 97], [112, 117, 115, 104], [112, 111, 112], [105, 110, 99], [100, 101, 99], [110, 111, 116], [110, 101, 103], [109, 117, 108], [115, 109, 117, 108], [100, 105, 118], [115, 100, 105, 118], [105, 109, 117, 108], [105, 109, 117, 108, 105], [114, 111, 108], [114, 111, 114], [115, 104, 108], [115, 104, 114], [115, 97, 114], [120, 99, 104, 103], [99, 97, 115], [120, 97, 100, 100], [99, 109, 111, 118], [115, 101, 116], [106, 99, 99], [106, 109, 112], [99, 97, 108, 108], [114, 101, 116], [119, 105, 100, 101], [115, 105, 103, 110], [109, 111, 118, 115], [115, 116, 111, 115], [102, 101, 110, 99, 101], [110, 111, 112], [115, 121, 115], [117, 100]]
def namesStr : List UInt8 := [97, 100, 100, 32, 111, 114, 32, 97, 100, 99, 32, 115, 98, 98, 32, 97, 110, 100, 32, 115, 117, 98, 32, 120, 111, 114, 32, 99, 109, 112, 32, 116, 101, 115, 116, 32, 109, 111, 118, 32, 109, 111, 118, 122, 120, 32, 109, 111, 118, 115, 120, 32, 108, 101, 97, 32, 112, 117, 115, 104, 32, 112, 111, 112, 32, 105, 110, 99, 32, 100, 101, 99, 32, 110, 111, 116, 32, 110, 101, 103, 32, 109, 117, 108, 32, 115, 109, 117, 108, 32, 100, 105, 118, 32, 115, 100, 105, 118, 32, 105, 109, 117, 108, 32, 105, 109, 117, 108, 105, 32, 114, 111, 108, 32, 114, 111, 114, 32, 115, 104, 108, 32, 115, 104, 114, 32, 115, 97, 114, 32, 120, 99, 104, 103, 32, 99, 97, 115, 32, 120, 97, 100, 100, 32, 99, 109, 111, 118, 32, 115, 101, 116, 32, 106, 99, 99, 32, 106, 109, 112, 32, 99, 97, 108, 108, 32, 114, 101, 116, 32, 119, 105, 100, 101, 32, 115, 105, 103, 110, 32, 109, 111, 118, 115, 32, 115, 116, 111, 115, 32, 102, 101, 110, 99, 101, 32, 110, 111, 112, 32, 115, 121, 115, 32, 117, 100]
def namesT : List (List UInt8) := [97, 100, 100] :: namesTail
theorem namesJoin : namesStr = joinS [97, 100, 100] namesTail := by kernel_rfl
theorem namesNo : ∀ x ∈ [97, 100, 100] :: namesTail, ∀ c ∈ x, c ≠ 32 := by decide +kernel
theorem namesCount : Lib.countB ⟨namesStr.toArray⟩ ⟨#[32]⟩ = 46 := by
  show Lib.count namesStr [32] = 46
  rw [Lib.count_one, namesJoin, count_join _ _ namesNo]
  rfl
theorem namesSplit : (Lib.splitB ⟨#[32]⟩ 0 46 ⟨namesStr.toArray⟩).map (·.data.toList) = [97, 100, 100] :: namesTail := by
  rw [Lib.splitB_data]
  show Lib.splitK [32] 0 46 namesStr = _
  rw [namesJoin]
  exact splitK_join _ _ namesNo
def s49 : CSpec | [.str s, .str p] => (match s == namesStr && p == [32] with
    | true => some ⟨[], .vw 5 namesT⟩
    | false => none) | _ => none
theorem oks49 : FnOk Tryd.prog 49 s49 := FnOk.contract Tryd.func49 (by kernel_rfl) (by kernel_rfl) <| by
  intro xs r hs
  unfold s49 at hs; split at hs <;> try cases hs
  rename_i s p
  split at hs <;> cases hs
  rename_i hsp
  simp only [Bool.and_eq_true, beq_iff_eq] at hsp
  obtain ⟨rfl, rfl⟩ := hsp
  intro hp w R vs hR hG hvs
  obtain ⟨⟨h1, m, hm⟩, _⟩ := hG
  cases hvs with
  | cons hv hl =>
    cases hl with
    | cons hv2 hl =>
      cases hl
      cases hv
      cases hv2
      refine (Tryd.strings_Split ⟨namesStr.toArray⟩ ⟨#[32]⟩ m w (by decide +kernel) hm (by decide)).mono ?_
      rintro e w' ⟨rfl, rfl⟩
      rw [namesCount]
      have hlen : ((Lib.splitB ⟨#[32]⟩ 0 46 ⟨namesStr.toArray⟩).map Value.string).length = 47 := by
        rw [List.length_map, ← List.length_map (f := fun b : ByteArray => b.data.toList), namesSplit]; rfl
      have hat : ∀ i, i < 47 → ((Lib.splitB ⟨#[32]⟩ 0 46 ⟨namesStr.toArray⟩).map Value.string)[i]? = some (.string ⟨(namesT.getD i []).toArray⟩) := by
        intro i hi
        have h2 : ((Lib.splitB ⟨#[32]⟩ 0 46 ⟨namesStr.toArray⟩).map (·.data.toList))[i]? = some (namesT.getD i []) := by
          rw [namesSplit, List.getD_eq_getElem?_getD]
          show namesT[i]? = _
          rw [List.getElem?_eq_getElem (show i < namesT.length from hi)]; rfl
        rw [List.getElem?_map] at h2 ⊢
        cases hq : (Lib.splitB ⟨#[32]⟩ 0 46 ⟨namesStr.toArray⟩)[i]? with
        | none => rw [hq] at h2; cases h2
        | some x =>
          rw [hq] at h2
          simp only [Option.map_some, Option.some.injEq] at h2 ⊢
          rw [← h2]
      generalize ((Lib.splitB ⟨#[32]⟩ 0 46 ⟨namesStr.toArray⟩).map Value.string) = cells at hlen hat
      refine ⟨_, rfl, fun b => R b ∨ b = w.heap.size, fun b hb => .inl hb, ?_, ?_, ?_, ?_⟩
      · intro b hb
        rcases hb with hb | rfl
        · exact .inl hb
        · exact .inr (Nat.le_refl _)
      · intro b hb
        have : (w.alloc (.cells cells.toArray 9)).heap.size = w.heap.size + 1 := Array.size_push ..
        rcases hb with hb | rfl
        · have := hR b hb; omega
        · omega
      · exact ⟨rfl, rfl, rfl, by rw [show (w.alloc (.cells cells.toArray 9)).heap.size = w.heap.size + 1 from Array.size_push ..]; omega, fun b hb _ => RowKit.Below.heap_alloc _ _ _ hb⟩
      · refine VR.vw (VR.ro (o := 0) (cs := fun i => [.string ⟨(namesT.getD i []).toArray⟩]) (.inr rfl) (fun i hi => ?_) (fun i hi => rfl) ?_ (Nat.le_refl _) (by decide))
        · refine .one rfl rfl (.str _ ?_) .nil
          have : ∀ x ∈ namesT, x.length ≤ 10 := by decide +kernel
          have h3 := this (namesT.getD i []) (by rw [List.getD_eq_getElem?_getD, List.getElem?_eq_getElem (show i < namesT.length from hi)]; exact List.getElem_mem _)
          show (namesT.getD i []).length ≤ _
          omega
        · intro i j hi hj
          have hj : j = 0 := by have : datSize 5 = 1 := rfl; omega
          subst hj
          show (w.alloc _).cell? _ = _
          rw [World.cell?_alloc_new]
          have := hat i hi
          simpa [datSize] using this
def s39 : CSpec | [.vw 5 xs, .str sep] => some ⟨[Nat.ble xs.length 140737488355328, Nat.ble (Lib.join xs sep).length 140737488355328], .str (Lib.join xs sep)⟩ | _ => none
theorem ok39 : FnOk Tryd.prog 39 s39 := FnOk.contract Tryd.func39 (by kernel_rfl) (by kernel_rfl) <| by
  intro es r hs
  unfold s39 at hs; split at hs <;> cases hs
  rename_i xs sep
  intro hp w R vs hR hG hvs
  have h1 := Nat.le_of_ble_eq_true (hp _ (List.mem_cons_self ..))
  have h2 := Nat.le_of_ble_eq_true (hp _ (List.mem_cons_of_mem _ (List.mem_cons_self ..)))
  have none : ∀ a c, xs = [] → Calls Tryd.prog 39 #[.slice a 0 c, .string ⟨sep.toArray⟩] w fun e w' => ∃ v, e = .returned v ∧ ∃ R', Done w R (.str (Lib.join xs sep)) v w' R' := fun a c e => by
    subst e
    refine (Tryd.strings_Join_none a c _ w).mono ?_
    rintro e w' ⟨rfl, rfl⟩
    exact ⟨_, rfl, doneStr hR (s := []) (by simp) (.refl _ _)⟩
  cases hvs with
  | cons hv hl =>
  cases hl with
  | cons hv2 hl =>
  cases hl
  cases hv2
  have hv := vw_inv hv
  generalize hn : xs.length = n at hv
  have hz : n = 0 → xs = [] := fun e => List.length_eq_zero_iff.1 (hn.trans e)
  cases hv with
  | ro0 => exact none _ _ (hz rfl)
  | roE => exact none _ _ (hz rfl)
  | @ro _ _ _ _ b o cap cs hb hc hl2 hcell hcap hlen =>
    subst hn
    have hcs : ∀ i, i < xs.length → cs i = [.string ⟨(xs.getD i []).toArray⟩] := fun i hi => by
      have := hc i hi
      show cs i = _
      have this : CR _ [.str (xs.getD i [])] (cs i) := this
      obtain ⟨v, e, hv, _⟩ := CR_one this rfl
      rw [e]
      cases hv
      rfl
    have := Tryd.strings_Join b o cap (xs.map fun l => ⟨l.toArray⟩) ⟨sep.toArray⟩ w (fun j x hj => by
        rw [List.getElem?_map] at hj
        cases hx : xs[j]? with
        | none => rw [hx] at hj; cases hj
        | some l =>
          rw [hx] at hj
          simp only [Option.map_some, Option.some.injEq] at hj
          subst hj
          have hlt := (List.getElem?_eq_some_iff.1 hx).1
          have h0 := hcell j 0 hlt (by decide)
          rw [hcs j hlt] at h0
          have e1 : xs.getD j [] = l := by rw [List.getD_eq_getElem?_getD, hx]; rfl
          rw [e1] at h0
          show w.cell? _ = _
          simpa [datSize, baseC] using h0) (hR b hb) (by rw [List.length_map]; exact h1) (by rw [List.length_map]; exact hcap) (by
        have e2 : (xs.map fun l => (⟨l.toArray⟩ : ByteArray)).map (·.data.toList) = xs := by rw [List.map_map]; simp [Function.comp_def]
        rw [e2]; exact h2)
    rw [List.length_map] at this
    have e2 : (xs.map fun l => (⟨l.toArray⟩ : ByteArray)).map (·.data.toList) = xs := by rw [List.map_map]; simp [Function.comp_def]
    rw [e2] at this
    refine this.mono ?_
    rintro e w' ⟨rfl, hbel⟩
    refine ⟨_, rfl, doneStr hR ?_ ⟨hbel.os, hbel.tape, hbel.output, hbel.size, fun k hk _ => hbel.block k hk⟩⟩
    exact Nat.le_trans h2 (by decide)
noncomputable abbrev SD0 : FuncId → CSpec := withS (withS (withS (withS (withS (withS (withS (withS (withS (withS SC6 33 s33) 8 s8) 6 s6) 7 s6) 31 s31) 38 s38) 49 s49) 39 s39) 35 s35) 53 s53
theorem SD0_ok : ∀ f, FnOk Tryd.prog f (SD0 f) := withS_ok (withS_ok (withS_ok (withS_ok (withS_ok (withS_ok (withS_ok (withS_ok (withS_ok (withS_ok SC6_ok ok33) ok8) ok6) ok7) ok31) ok38) oks49) ok39) ok35) ok53
def s34 : CSpec | [] => some ⟨[], .vw 5 namesT⟩ | _ => none
theorem ok34 : FnOk Tryd.prog 34 s34 := okBy SD0_ok Tryd.func34 (by kernel_rfl) (by kernel_rfl) 1 <| by
  intro xs r hs
  unfold s34 at hs; split at hs <;> cases hs
  intro hp _
  show (evFn T SD0 noL 1 Tryd.f34 []).run = some (.vw 5 namesT)
  kernel_rfl
noncomputable abbrev SD1 : FuncId → CSpec := withS SD0 34 s34
theorem SD1_ok : ∀ f, FnOk Tryd.prog f (SD1 f) := withS_ok SD0_ok ok34
end Go.Proofs.YtbdddnjncakooaaDoor
set_option maxRecDepth 100000
namespace Go.Proofs.YtbdddnjncakooaaDoor
open Go.Proofs.YtbdddnjncakooaaDoor.Ev Go.RowKit
/- The program's texts. -/
theorem CR_has {C : Ctx} {l : List AV} {vs : List Value} {n : Int} (h : CR C l vs) (hm : AV.i .i64 n ∈ l) : IntKind.i64.has n := by
  match h with
  | .nil => cases hm
  | .one ha hv h hl =>
    rcases List.mem_cons.1 hm with e | hm
    · subst e
      cases h with
      | i _ h => exact h
    · exact CR_has hl hm
  | .ar h0 h h1 hf hl =>
    rcases List.mem_cons.1 hm with e | hm
    · cases e
    · exact CR_has hl hm
theorem arg_has {w : World} {R : Nat → Prop} {xs : List AV} {vs : List Value} (h : TR (baseC w R) xs vs) {l : List AV} (hl : AV.agg l ∈ xs) {n : Int} (hn : AV.i .i64 n ∈ l) : IntKind.i64.has n := by
  match h with
  | .nil => cases hl
  | .cons h hs =>
    rcases List.mem_cons.1 hl with e | hl
    · subst e
      cases h with
      | agg h => exact CR_has h hn
    · exact arg_has hs hl hn
theorem arg_hasI {w : World} {R : Nat → Prop} {xs : List AV} {vs : List Value} (h : TR (baseC w R) xs vs) {n : Int} (hl : AV.i .i64 n ∈ xs) : IntKind.i64.has n := by
  match h with
  | .nil => cases hl
  | .cons h hs =>
    rcases List.mem_cons.1 hl with e | hl
    · subst e
      cases h with
      | i _ h => exact h
    · exact arg_hasI hs hl
abbrev MX : Nat := 9223372036854775807
def nd (c : Bool) (k : Option AV) : Option AV := if c = true then k else none
theorem nd_of {c : Bool} {k : Option AV} (h : c = true) : nd c k = k := if_pos h
theorem regT_len {x : Int} (h : IntKind.i64.has x) : (regT x).length ≤ 22 := by have := itoa_len h; simp [regT]; omega
theorem le_dec {a b : Nat} (h : a ≤ b) : decide (a ≤ b) = true := decide_eq_true h
def s51 : CSpec | [.i .i64 x] => some ⟨[], .str (regT x)⟩ | _ => none
theorem ok51 : FnOk Tryd.prog 51 s51 := okBy SD1_ok Tryd.func51 (by kernel_rfl) (by kernel_rfl) 1 <| by
  intro xs r hs
  unfold s51 at hs; split at hs <;> cases hs
  rename_i x
  rintro hp ⟨W, R, vs, hvs⟩
  have hx := arg_hasI hvs (List.mem_cons_self ..)
  have e : (evFn T SD1 noL 1 Tryd.f51 [.i .i64 x]).run = nd (decide (([114] : List UInt8).length + (itoaS x).length ≤ MX)) (some (.str ([114] ++ itoaS x))) := by kernel_rfl
  show _ = some (AV.str (regT x))
  rw [e, nd_of (le_dec ?_)]
  · unfold regT
    rw [itoaS_eq hx]
    rfl
  · rw [← itoaS_eq hx]
    have := itoa_len hx
    simp only [List.length_cons, List.length_nil, MX]; omega
noncomputable abbrev SD2 : FuncId → CSpec := withS SD1 51 s51
theorem SD2_ok : ∀ f, FnOk Tryd.prog f (SD2 f) := withS_ok SD1_ok ok51
def s52 : CSpec | [.agg [.i .i64 ab, .i .i64 ai, .i .i64 ac, .i .i64 ad]] => some ⟨[], .str (memT ab ai ac ad)⟩ | _ => none
def mB (ab : Int) : List UInt8 := if (ab == 16) = true then [91] ++ [114, 105, 112, 43] else if (ab != -1) = true then [91] ++ (regT ab ++ [43]) else [91]
def mI (ab ai ac : Int) : List UInt8 := if (ai != -1) = true then mB ab ++ (regT ai ++ [42] ++ itoaS ac ++ [43]) else mB ab
theorem mI_is (ab ai ac ad : Int) (hc : IntKind.i64.has ac) (hd : IntKind.i64.has ad) : mI ab ai ac ++ itoaS ad ++ [93] = memT ab ai ac ad := by
  unfold mI mB memT partsM
  rw [← itoaS_eq hc, ← itoaS_eq hd, bne, bne]
  by_cases h1 : ab = 16 <;> by_cases h2 : ab = -1 <;> by_cases h3 : ai = -1 <;> simp [h1, h2, h3, joB]
theorem mB_len {ab : Int} (h : IntKind.i64.has ab) : (mB ab).length ≤ 24 := by
  have := regT_len h
  unfold mB
  split
  · simp
  · split <;> simp <;> omega
theorem mI_len {ab ai ac : Int} (h : IntKind.i64.has ab) (hi : IntKind.i64.has ai) (hc : IntKind.i64.has ac) : (mI ab ai ac).length ≤ 70 := by
  have h1 := mB_len h
  have h2 := regT_len hi
  have h3 := itoa_len hc
  rw [itoaS_eq hc] at h3
  unfold mI
  split
  · simp only [List.length_append, List.length_cons, List.length_nil]; omega
  · omega
theorem ok52 : FnOk Tryd.prog 52 s52 := okBy SD2_ok Tryd.func52 (by kernel_rfl) (by kernel_rfl) 1 <| by
  intro xs r hs
  unfold s52 at hs; split at hs <;> cases hs
  rename_i ab ai ac ad
  rintro hp ⟨W, R, vs, hvs⟩
  have hb : IntKind.i64.has ab := arg_has hvs (List.mem_cons_self ..) (by simp)
  have hi : IntKind.i64.has ai := arg_has hvs (List.mem_cons_self ..) (by simp)
  have hc : IntKind.i64.has ac := arg_has hvs (List.mem_cons_self ..) (by simp)
  have hd : IntKind.i64.has ad := arg_has hvs (List.mem_cons_self ..) (by simp)
  have e : (evFn T SD2 noL 1 Tryd.f52 [.agg [.i .i64 ab, .i .i64 ai, .i .i64 ac, .i .i64 ad]]).run =
    nd (if (ab == 16) = true then decide (([91] : List UInt8).length + ([114, 105, 112, 43] : List UInt8).length ≤ MX) else true) (
    nd (if (ab == 16) = true then true else if (ab != -1) = true then decide (([91] : List UInt8).length + (regT ab ++ [43]).length ≤ MX) else true) (
    nd (if (ab == 16) = true then true else if (ab != -1) = true then decide ((regT ab).length + ([43] : List UInt8).length ≤ MX) else true) (
    nd (if (ai != -1) = true then decide ((mB ab).length + (regT ai ++ [42] ++ itoaS ac ++ [43]).length ≤ MX) else true) (
    nd (if (ai != -1) = true then decide ((regT ai ++ [42] ++ itoaS ac).length + ([43] : List UInt8).length ≤ MX) else true) (
    nd (if (ai != -1) = true then decide ((regT ai ++ [42]).length + (itoaS ac).length ≤ MX) else true) (
    nd (if (ai != -1) = true then decide ((regT ai).length + ([42] : List UInt8).length ≤ MX) else true) (
    nd (decide ((mI ab ai ac ++ itoaS ad).length + ([93] : List UInt8).length ≤ MX)) (
    nd (decide ((mI ab ai ac).length + (itoaS ad).length ≤ MX)) (some (.str (mI ab ai ac ++ itoaS ad ++ [93]))))))))))) := by kernel_rfl
  show _ = some (AV.str _)
  have l1 := regT_len hb
  have l2 := regT_len hi
  have l3 := itoa_len hc
  have l4 := itoa_len hd
  have l5 := mB_len hb
  have l6 := mI_len hb hi hc
  rw [itoaS_eq hc] at l3
  rw [itoaS_eq hd] at l4
  have q : ∀ (c b : Bool), b = true → (if c = true then b else true) = true := fun c b h => by rw [h]; cases c <;> rfl
  have q2 : ∀ (c d b : Bool), b = true → (if c = true then true else if d = true then b else true) = true := fun c d b h => by rw [h]; cases c <;> cases d <;> rfl
  rw [e, nd_of, nd_of, nd_of, nd_of, nd_of, nd_of, nd_of, nd_of, nd_of, mI_is ab ai ac ad hc hd]
  · exact le_dec (by simp only [MX]; omega)
  · exact le_dec (by simp only [List.length_append, List.length_cons, List.length_nil, MX]; omega)
  · exact q _ _ (le_dec (by simp only [List.length_append, List.length_cons, List.length_nil, MX]; omega))
  · exact q _ _ (le_dec (by simp only [List.length_append, List.length_cons, List.length_nil, MX]; omega))
  · exact q _ _ (le_dec (by simp only [List.length_append, List.length_cons, List.length_nil, MX]; omega))
  · exact q _ _ (le_dec (by simp only [List.length_append, List.length_cons, List.length_nil, MX]; omega))
  · exact q2 _ _ _ (le_dec (by simp only [List.length_append, List.length_cons, List.length_nil, MX]; omega))
  · exact q2 _ _ _ (le_dec (by simp only [List.length_append, List.length_cons, List.length_nil, MX]; omega))
  · exact q _ _ (le_dec (by simp only [List.length_append, List.length_cons, List.length_nil, MX]; omega))
noncomputable abbrev SD3 : FuncId → CSpec := withS SD2 52 s52
theorem SD3_ok : ∀ f, FnOk Tryd.prog f (SD3 f) := withS_ok SD2_ok ok52
def s37 : CSpec | [.agg (cI op w v ak ar ab ai ac ad bk br bb bi bc bd im cc lk rp ln), .agg (cO ak' ar' ab' ai' ac' ad')] => some ⟨[], .str (opT ak' ar' ab' ai' ac' ad' im)⟩ | _ => none
theorem ok37 : FnOk Tryd.prog 37 s37 := okBy SD3_ok Tryd.func37 (by kernel_rfl) (by kernel_rfl) 1 <| by
  intro xs r hs
  unfold s37 at hs; split at hs <;> cases hs
  rename_i op w v ak ar ab ai ac ad bk br bb bi bc bd im cc lk rp ln ak' ar' ab' ai' ac' ad'
  rintro hp ⟨W, R, vs, hvs⟩
  have hm : IntKind.i64.has im := arg_has hvs (List.mem_cons_self ..) (by simp)
  have e : (evFn T SD3 noL 1 Tryd.f37 [.agg (cI op w v ak ar ab ai ac ad bk br bb bi bc bd im cc lk rp ln), .agg (cO ak' ar' ab' ai' ac' ad')]).run = if (ak' == 1) = true then some (.str (regT ar')) else if (ak' == 2) = true then some (.str (memT ab' ai' ac' ad')) else nd ((10 : Int) == 10) (some (.str (itoaS im))) := by kernel_rfl
  show _ = some (AV.str _)
  rw [e, ← itoaS_eq hm]
  unfold opT nd
  cases (ak' == 1) <;> cases (ak' == 2) <;> rfl
noncomputable abbrev SD4 : FuncId → CSpec := withS SD3 37 s37
theorem SD4_ok : ∀ f, FnOk Tryd.prog f (SD4 f) := withS_ok SD3_ok ok37
end Go.Proofs.YtbdddnjncakooaaDoor
set_option maxRecDepth 100000
namespace Go.Proofs.YtbdddnjncakooaaDoor
open Go.Proofs.YtbdddnjncakooaaDoor.Ev Go.RowKit
/- The program's text of an instruction. -/
def NM (op : Int) : List UInt8 := namesT.getD (IntKind.i64.wrap (op - 1)).toNat []
def H0 (op w : Int) : List UInt8 := NM op ++ [46] ++ itoaS w
def H1 (op w v : Int) : List UInt8 := if inB 11 op 12 = true then H0 op w ++ ([46] ++ itoaS v) else H0 op w
def H2 (op w v cc : Int) : List UInt8 := if inB 34 op 36 = true then H1 op w v ++ ([46] ++ itoaS cc) else H1 op w v
def J1 (ak ar ab ai ac ad im : Int) : List (List UInt8) := if (ak != 0) = true then [] ++ [opT ak ar ab ai ac ad im] else []
def J2 (ak ar ab ai ac ad bk br bb bi bc bd im : Int) : List (List UInt8) := if (bk != 0) = true then J1 ak ar ab ai ac ad im ++ [opT bk br bb bi bc bd im] else J1 ak ar ab ai ac ad im
def thirdP (op ak : Int) : Bool := if (op == 25) = true then true else if inB 36 op 38 = true then ak == 0 else false
def J3 (op ak ar ab ai ac ad bk br bb bi bc bd im : Int) : List (List UInt8) := if thirdP op ak = true then J2 ak ar ab ai ac ad bk br bb bi bc bd im ++ [opT 3 0 0 0 0 0 im] else J2 ak ar ab ai ac ad bk br bb bi bc bd im
def H3 (h : List UInt8) (l : List (List UInt8)) : List UInt8 := if decide (0 < (l.length : Int)) = true then h ++ ([32] ++ Lib.join l [44, 32]) else h
def H4 (rp : Bool) (h : List UInt8) : List UInt8 := if rp = true then [114, 101, 112, 32] ++ h else h
def H5 (lk : Bool) (h : List UInt8) : List UInt8 := if lk = true then [108, 111, 99, 107, 32] ++ h else h
def K10 : List Key := [(1, 0), (1, 1), (1, 2), (1, 3), (1, 4), (1, 5), (1, 6), (1, 7), (1, 8), (1, 9), (1, 10), (1, 11), (1, 12), (1, 13), (1, 14), (1, 15), (1, 16), (1, 17), (1, 18), (1, 19), (4, 0)]
def L10 : Nat → Live := fun _ => ⟨[1, 3, 4, 41, 42, 43], K10, [1, 4], none⟩
theorem run10 (op w v ak ar ab ai ac ad bk br bb bi bc bd im cc : Int) (lk rp : Bool) (ln : Int) : (evFn T SD4 L10 4 Tryd.f10 [.agg (cI op w v ak ar ab ai ac ad bk br bb bi bc bd im cc lk rp ln)]).run = if (!mayA op w v ak ar ab ai ac ad bk br bb bi bc bd im cc lk rp ln) = true then some (.str [63]) else
    nd (decide ((NM op ++ [46]).length + (itoaS w).length ≤ MX)) (
    nd (decide ((NM op).length + ([46] : List UInt8).length ≤ MX)) (
    nd (decide (0 ≤ IntKind.i64.wrap (op - 1))) (
    nd (decide (IntKind.i64.wrap (op - 1) < (namesT.length : Int))) (
    nd (if inB 11 op 12 = true then decide ((H0 op w).length + ([46] ++ itoaS v).length ≤ MX) else true) (
    nd (if inB 11 op 12 = true then decide (([46] : List UInt8).length + (itoaS v).length ≤ MX) else true) (
    nd (if inB 34 op 36 = true then decide ((H1 op w v).length + ([46] ++ itoaS cc).length ≤ MX) else true) (
    nd (if inB 34 op 36 = true then decide (([46] : List UInt8).length + (itoaS cc).length ≤ MX) else true) (
    nd (if (ak != 0) = true then decide (([] : List (List UInt8)).length + [opT ak ar ab ai ac ad im].length ≤ 134217728) else true) (
    nd (if (bk != 0) = true then decide ((J1 ak ar ab ai ac ad im).length + [opT bk br bb bi bc bd im].length ≤ 134217728) else true) (
    nd (if thirdP op ak = true then decide ((J2 ak ar ab ai ac ad bk br bb bi bc bd im).length + [opT 3 0 0 0 0 0 im].length ≤ 134217728) else true) (
    nd (if decide (0 < ((J3 op ak ar ab ai ac ad bk br bb bi bc bd im).length : Int)) = true then decide ((H2 op w v cc).length + ([32] ++ Lib.join (J3 op ak ar ab ai ac ad bk br bb bi bc bd im) [44, 32]).length ≤ MX) else true) (
    nd (if decide (0 < ((J3 op ak ar ab ai ac ad bk br bb bi bc bd im).length : Int)) = true then decide (([32] : List UInt8).length + (Lib.join (J3 op ak ar ab ai ac ad bk br bb bi bc bd im) [44, 32]).length ≤ MX) else true) (
    nd (if decide (0 < ((J3 op ak ar ab ai ac ad bk br bb bi bc bd im).length : Int)) = true then Nat.ble (J3 op ak ar ab ai ac ad bk br bb bi bc bd im).length 140737488355328 else true) (
    nd (if decide (0 < ((J3 op ak ar ab ai ac ad bk br bb bi bc bd im).length : Int)) = true then Nat.ble (Lib.join (J3 op ak ar ab ai ac ad bk br bb bi bc bd im) [44, 32]).length 140737488355328 else true) (
    nd (if rp = true then decide (([114, 101, 112, 32] : List UInt8).length + (H3 (H2 op w v cc) (J3 op ak ar ab ai ac ad bk br bb bi bc bd im)).length ≤ MX) else true) (
    nd (if lk = true then decide (([108, 111, 99, 107, 32] : List UInt8).length + (H4 rp (H3 (H2 op w v cc) (J3 op ak ar ab ai ac ad bk br bb bi bc bd im))).length ≤ MX) else true) (
    some (.str (H5 lk (H4 rp (H3 (H2 op w v cc) (J3 op ak ar ab ai ac ad bk br bb bi bc bd im)))))))))))))))))))))) := by kernel_rfl
theorem inB_iff {a x b : Int} : inB a x b = true ↔ a ≤ x ∧ x ≤ b := by simp [inB]
theorem inB_out {a x b : Int} (h : ¬ (a ≤ x ∧ x ≤ b)) : inB a x b = false := by
  cases e : inB a x b with
  | false => rfl
  | true => exact absurd (inB_iff.1 e) h
theorem mayA_rng {op w v ak ar ab ai ac ad bk br bb bi bc bd im cc : Int} {lk rp : Bool} {ln : Int} (h : mayA op w v ak ar ab ai ac ad bk br bb bi bc bd im cc lk rp ln = true) : 1 ≤ op ∧ op ≤ 47 := by
  rcases Classical.em (1 ≤ op ∧ op ≤ 47) with hr | hr
  · exact hr
  · exfalso
    have e1 : twoB op w v ak ar ab ai ac ad bk br bb bi bc bd im = false := by
      unfold twoB two9
      rw [inB_out (by omega), inB_out (by omega), inB_out (by omega), inB_out (by omega), inB_out (by omega)]
      rw [show (op == 9) = false by simp; omega, show (op == 10) = false by simp; omega, show (op == 13) = false by simp; omega, show (op == 34) = false by simp; omega]
      rfl
    have e2 : oneB op w ak ar ab ai ac ad bk br bb bi bc bd im = false := by
      unfold oneB onea
      rw [inB_out (by omega), inB_out (by omega), inB_out (by omega), inB_out (by omega), inB_out (by omega), inB_out (by omega)]
      rw [show (op == 14) = false by simp; omega, show (op == 15) = false by simp; omega, show (op == 35) = false by simp; omega, show (op == 36) = false by simp; omega, show (op == 39) = false by simp; omega]
      cases zO bk br bb bi bc bd <;> rfl
    unfold mayA at h
    rw [e1, e2] at h
    simp at h
theorem NM_is {op : Int} (h : 1 ≤ op ∧ op ≤ 47) : NM op = wordsX.getD op.toNat [] := by
  unfold NM
  rw [wrap_small _ (by omega) (by omega), show op.toNat = (op - 1).toNat + 1 by omega]
  rfl
theorem wd_len (k : Nat) : (wordsX.getD k []).length ≤ 5 := by
  rcases Nat.lt_or_ge k 48 with h | h
  · have : ∀ i, i < 48 → (wordsX.getD i []).length ≤ 5 := by decide +kernel
    exact this k h
  · rw [List.getD_eq_getElem?_getD, List.getElem?_eq_none (by rw [show wordsX.length = 48 by decide +kernel]; exact h)]
    simp
theorem H2_is {op w v cc : Int} (h : 1 ≤ op ∧ op ≤ 47) (hw : IntKind.i64.has w) (hv : IntKind.i64.has v) (hc : IntKind.i64.has cc) : H2 op w v cc = headT op w v cc := by
  unfold H2 H1 H0 headT
  rw [NM_is h, ← itoaS_eq hw, ← itoaS_eq hv, ← itoaS_eq hc]
  cases inB 11 op 12 <;> cases inB 34 op 36 <;> simp
theorem H2_len {op w v cc : Int} (h : 1 ≤ op ∧ op ≤ 47) (hw : IntKind.i64.has w) (hv : IntKind.i64.has v) (hc : IntKind.i64.has cc) : (H0 op w).length ≤ 27 ∧ (H1 op w v).length ≤ 49 ∧ (H2 op w v cc).length ≤ 71 := by
  have l1 := wd_len op.toNat
  have l2 := itoa_len hw
  have l3 := itoa_len hv
  have l4 := itoa_len hc
  rw [itoaS_eq hw] at l2
  rw [itoaS_eq hv] at l3
  rw [itoaS_eq hc] at l4
  have a0 : (H0 op w).length ≤ 27 := by
    unfold H0
    rw [NM_is h]
    simp only [List.length_append, List.length_cons, List.length_nil]; omega
  have a1 : (H1 op w v).length ≤ 49 := by
    unfold H1
    split <;> (try simp only [List.length_append, List.length_cons, List.length_nil]) <;> omega
  refine ⟨a0, a1, ?_⟩
  unfold H2
  split <;> (try simp only [List.length_append, List.length_cons, List.length_nil]) <;> omega
theorem opT_len {k r b i s d im : Int} (hr : IntKind.i64.has r) (hb : IntKind.i64.has b) (hi : IntKind.i64.has i) (hs : IntKind.i64.has s) (hd : IntKind.i64.has d) (hm : IntKind.i64.has im) : (opT k r b i s d im).length ≤ 100 := by
  have l1 := regT_len hr
  have l2 := mI_len hb hi hs
  have l3 := itoa_len hd
  have l4 := itoa_len hm
  rw [itoaS_eq hd] at l3
  unfold opT
  split
  · omega
  · split
    · rw [← mI_is b i s d hs hd]
      simp only [List.length_append, List.length_cons, List.length_nil]; omega
    · omega
theorem join_len (l : List (List UInt8)) (h : ∀ p ∈ l, p.length ≤ 100) (hl : l.length ≤ 3) : (Lib.join l [44, 32]).length ≤ 400 := by
  match l, h, hl with
  | [], _, _ => simp [Lib.join_nil]
  | [a], h, _ =>
    have := h a (by simp)
    rw [Lib.join_one]; omega
  | [a, b], h, _ =>
    have := h a (by simp)
    have := h b (by simp)
    rw [Lib.join_cons]
    simp [Lib.joinTail]; omega
  | [a, b, c], h, _ =>
    have := h a (by simp)
    have := h b (by simp)
    have := h c (by simp)
    rw [Lib.join_cons]
    simp [Lib.joinTail]; omega
  | a :: b :: c :: d :: l, _, hl => simp at hl
theorem J3_is (op ak ar ab ai ac ad bk br bb bi bc bd im : Int) : J3 op ak ar ab ai ac ad bk br bb bi bc bd im = opsT op ak ar ab ai ac ad bk br bb bi bc bd im := by
  have e : thirdP op ak = thirdB op ak := by
    unfold thirdP thirdB
    cases (op == 25) <;> cases inB 36 op 38 <;> rfl
  unfold J3 J2 J1 opsT
  rw [e, bne, bne]
  have e3 : opT 3 0 0 0 0 0 im = Lib.itoa im := rfl
  rw [e3]
  cases (ak == 0) <;> cases (bk == 0) <;> cases thirdB op ak <;> rfl
theorem H3_is (h : List UInt8) (l : List (List UInt8)) : H3 h l = h ++ tailT l := by
  cases l with
  | nil => simp [H3, tailT]
  | cons p ps =>
    unfold H3
    rw [if_pos (by simp), Lib.join_cons]
    simp only [tailT, Lib.joinTail, List.flatMap]
    rfl
def s10 : CSpec | [.agg (cI op w v ak ar ab ai ac ad bk br bb bi bc bd im cc lk rp ln)] => some ⟨[], .str (if mayA op w v ak ar ab ai ac ad bk br bb bi bc bd im cc lk rp ln = true then showX op w v ak ar ab ai ac ad bk br bb bi bc bd im cc lk rp ln else [63])⟩ | _ => none
theorem ok10 : FnOk Tryd.prog 10 s10 := FnOk.of tyOk SD4_ok mixed (L := L10) Tryd.func10 (by kernel_rfl) (by kernel_rfl) (fun xs r hs hp W R us hus => by
  refine ⟨4, FnLoops.no (by kernel_rfl), ?_⟩
  unfold s10 at hs; split at hs <;> cases hs
  rename_i op w v ak ar ab ai ac ad bk br bb bi bc bd im cc lk rp ln
  show _ = some (AV.str _)
  rw [run10]
  cases hm : mayA op w v ak ar ab ai ac ad bk br bb bi bc bd im cc lk rp ln with
  | false => rfl
  | true =>
  have hr := mayA_rng hm
  have hh : ∀ n : Int, AV.i .i64 n ∈ cI op w v ak ar ab ai ac ad bk br bb bi bc bd im cc lk rp ln → IntKind.i64.has n := fun n hn => arg_has hus (List.mem_cons_self ..) hn
  have hw := hh w (by simp)
  have hv := hh v (by simp)
  have hc := hh cc (by simp)
  have him := hh im (by simp)
  obtain ⟨l0, l1, l2⟩ := H2_len hr hw hv hc
  have l3 := itoa_len hw
  have l4 := itoa_len hv
  have l5 := itoa_len hc
  rw [itoaS_eq hw] at l3
  rw [itoaS_eq hv] at l4
  rw [itoaS_eq hc] at l5
  have l6 := wd_len op.toNat
  rw [← NM_is hr] at l6
  have oa := opT_len (k := ak) (hh ar (by simp)) (hh ab (by simp)) (hh ai (by simp)) (hh ac (by simp)) (hh ad (by simp)) him
  have ob := opT_len (k := bk) (hh br (by simp)) (hh bb (by simp)) (hh bi (by simp)) (hh bc (by simp)) (hh bd (by simp)) him
  have hz : IntKind.i64.has 0 := ⟨by decide, by decide⟩
  have oi := opT_len (k := 3) hz hz hz hz hz him
  have j1 : (J1 ak ar ab ai ac ad im).length ≤ 1 ∧ ∀ p ∈ J1 ak ar ab ai ac ad im, p.length ≤ 100 := by
    unfold J1
    split
    · simp; exact oa
    · simp
  have j2 : (J2 ak ar ab ai ac ad bk br bb bi bc bd im).length ≤ 2 ∧ ∀ p ∈ J2 ak ar ab ai ac ad bk br bb bi bc bd im, p.length ≤ 100 := by
    unfold J2
    split
    · refine ⟨by simp; omega, fun p hp => ?_⟩
      rcases List.mem_append.1 hp with h | h
      · exact j1.2 p h
      · simp only [List.mem_singleton] at h; subst h; exact ob
    · exact ⟨by omega, j1.2⟩
  have j3 : (J3 op ak ar ab ai ac ad bk br bb bi bc bd im).length ≤ 3 ∧ ∀ p ∈ J3 op ak ar ab ai ac ad bk br bb bi bc bd im, p.length ≤ 100 := by
    unfold J3
    split
    · refine ⟨by simp; omega, fun p hp => ?_⟩
      rcases List.mem_append.1 hp with h | h
      · exact j2.2 p h
      · simp only [List.mem_singleton] at h; subst h; exact oi
    · exact ⟨by omega, j2.2⟩
  have jl := join_len _ j3.2 j3.1
  have q : ∀ (c b : Bool), b = true → (if c = true then b else true) = true := fun c b h => by rw [h]; cases c <;> rfl
  have h3 : (H3 (H2 op w v cc) (J3 op ak ar ab ai ac ad bk br bb bi bc bd im)).length ≤ 500 := by
    unfold H3
    split <;> (try simp only [List.length_append, List.length_cons, List.length_nil]) <;> omega
  have h4 : (H4 rp (H3 (H2 op w v cc) (J3 op ak ar ab ai ac ad bk br bb bi bc bd im))).length ≤ 510 := by
    unfold H4
    split <;> (try simp only [List.length_append, List.length_cons, List.length_nil]) <;> omega
  rw [if_neg (by simp), nd_of, nd_of, nd_of, nd_of, nd_of, nd_of, nd_of, nd_of, nd_of, nd_of, nd_of, nd_of, nd_of, nd_of, nd_of, nd_of, nd_of]
  · rw [if_pos rfl]
    unfold showX
    rw [H3_is, H2_is hr hw hv hc, J3_is]
    unfold H5 H4 lockT repT
    cases lk <;> cases rp <;> rfl
  · exact q _ _ (le_dec (by simp only [List.length_append, List.length_cons, List.length_nil, MX]; omega))
  · exact q _ _ (le_dec (by simp only [List.length_append, List.length_cons, List.length_nil, MX]; omega))
  · exact q _ _ (Nat.ble_eq_true_of_le (by omega))
  · exact q _ _ (Nat.ble_eq_true_of_le (by omega))
  · exact q _ _ (le_dec (by simp only [List.length_append, List.length_cons, List.length_nil, MX]; omega))
  · exact q _ _ (le_dec (by simp only [List.length_append, List.length_cons, List.length_nil, MX]; omega))
  · exact q _ _ (le_dec (by simp only [List.length_append, List.length_cons, List.length_nil, MX]; omega))
  · exact q _ _ (le_dec (by simp only [List.length_append, List.length_cons, List.length_nil, MX]; omega))
  · exact q _ _ (le_dec (by simp only [List.length_append, List.length_cons, List.length_nil, MX]; omega))
  · exact q _ _ (le_dec (by simp only [List.length_append, List.length_cons, List.length_nil, MX]; omega))
  · exact q _ _ (le_dec (by simp only [List.length_append, List.length_cons, List.length_nil, MX]; omega))
  · exact q _ _ (le_dec (by simp only [List.length_append, List.length_cons, List.length_nil, MX]; omega))
  · exact q _ _ (le_dec (by simp only [List.length_append, List.length_cons, List.length_nil, MX]; omega))
  · rw [wrap_small _ (by omega) (by omega), show namesT.length = 47 by decide +kernel]
    simp; omega
  · rw [wrap_small _ (by omega) (by omega)]
    simp; omega
  · exact le_dec (by simp only [List.length_append, List.length_cons, List.length_nil, MX]; omega)
  · exact le_dec (by simp only [List.length_append, List.length_cons, List.length_nil, MX]; omega))
noncomputable abbrev SD5 : FuncId → CSpec := withS SD4 10 s10
theorem SD5_ok : ∀ f, FnOk Tryd.prog f (SD5 f) := withS_ok SD4_ok ok10
end Go.Proofs.YtbdddnjncakooaaDoor
