/- Lemmas: the immediates of the logical instructions and whether a number fits: each function shown by the evaluator. No condition. -/
import Derived.Test.YtocfkaihfjbfnaaDoorBits
set_option linter.unusedVariables false
set_option linter.unusedSimpArgs false
namespace Go.Proofs.YtocfkaihfjbfnaaDoor
open Go.Proofs.YtocfkaihfjbfnaaDoor.Ev Go.RowKit
def szc (b : W32) (k : Nat) : Bool := b >>> k &&& 1#32 == 0#32
def sizeB (b : W32) : Int := if (b >>> 12 == 1#32) = true then 64 else if szc b 5 = true then 32 else if szc b 4 = true then 16 else if szc b 3 = true then 8 else if szc b 2 = true then 4 else if szc b 1 = true then 2 else 0
def s70 : CSpec | [.u 32 b] => some ⟨[], .i .i64 (sizeB b)⟩ | _ => none
def L70 : Nat → Live := fun _ => ⟨[0, 2, 3], [], [], none⟩
def st70 (c : Bool) (v : Int) (rest : Option AV) : Option AV := if (if c = true then true else true) = true then (if c = true then some (.i .i64 v) else rest) else none
theorem st70_eq (c : Bool) (v : Int) (x : Int) : st70 c v (some (.i .i64 x)) = some (.i .i64 (if c = true then v else x)) := by cases c <;> rfl
theorem ok70 : FnOk Tryd.prog 85 s70 := FnOk.of (L := L70) tyOk SL2_ok mixed Tryd.func85 (by kernel_rfl) (by kernel_rfl) <| by
  intro xs r hs
  unfold s70 at hs; split at hs <;> cases hs
  rename_i b
  intro hp _ _ _ _
  refine ⟨8, FnLoops.no (by kernel_rfl), ?_⟩
  have e : (evFn T SL2 L70 8 Tryd.f85 [.u 32 b]).run = if (b >>> 12 == 1#32) = true then some (.i .i64 64) else st70 (szc b 5) 32 (st70 (szc b 4) 16 (st70 (szc b 3) 8 (st70 (szc b 2) 4 (st70 (szc b 1) 2 (some (.i .i64 0)))))) := by kernel_rfl
  rw [e]
  simp only [st70_eq]
  unfold sizeB
  split <;> rfl
noncomputable abbrev SL3 : FuncId → CSpec := withS SL2 85 s70
theorem SL3_ok : ∀ f, FnOk Tryd.prog f (SL3 f) := withS_ok SL2_ok ok70
/- the code's -/
def onesC (b : W32) (z : Int) : Int := IntKind.i64.wrap ((BitVec.ofInt 64 (IntKind.i64.wrap (b.toNat : Int)) &&& BitVec.ofInt 64 (IntKind.i64.wrap (z - 1))).toInt + 1)
def turnC (b : W32) (z : Int) : Int := (BitVec.ofInt 64 (BitVec.ofInt 64 (IntKind.i64.wrap ((b >>> 6).toNat : Int)) &&& 63#64).toInt &&& BitVec.ofInt 64 (IntKind.i64.wrap (z - 1))).toInt
theorem run45 (b : W32) : (evFn T SL3 noL 1 Tryd.f74 [.u 32 b]).run = if (if decide (8191 < b.toNat) = true then true else sizeB b == 0) = true then some (.tup [.u 64 0#64, .b false]) else
    if (onesC b (sizeB b) == sizeB b) = true then some (.tup [.u 64 0#64, .b false]) else some (.tup [.u 64 (turned (sizeB b) (onesC b (sizeB b)) (turnC b (sizeB b))), .b true]) := by kernel_rfl
/- the reference's -/
def L46 : Nat → Live := fun _ => ⟨[0, 4, 5, 6, 20, 21, 22, 2, 3], [], [], none⟩
def stepR (s : Int) (z : Int) (k : Nat) (n : Int) : Int := if (if (z == 0) = true then (s / 2 ^ k).tmod 2 == 0 else false) = true then n else z
def sizeR (b : W32) (s : Int) : Int := if decide (b.toNat < 4096) = true then stepR s (stepR s (stepR s (stepR s (stepR s 0 5 32) 4 16) 3 8) 2 4) 1 2 else 64
def sR (b : W32) : Int := IntKind.i64.wrap ((b % 64#32).toNat : Int)
def rR (b : W32) : Int := IntKind.i64.wrap ((b / 64#32 % 64#32).toNat : Int)
def nd (c : Bool) (rest : Option AV) : Option AV := if (if c = true then true else true) = true then rest else none
theorem nd_eq (c : Bool) (rest : Option AV) : nd c rest = rest := by cases c <;> rfl
def rest46 (z s r : Int) : Option AV := if (if (!(z == 0)) = true then !(z == 0) else true) = true then if (if (z == 0) = true then true else s.tmod z == IntKind.i64.wrap (z - 1)) = true then some (.tup [.u 64 0#64, .b false]) else
  if (!(z == 0)) = true then if (!(z == 0)) = true then some (.tup [.u 64 (turned z (IntKind.i64.wrap (s.tmod z + 1)) (r.tmod z)), .b true]) else none else none else none
theorem run46 (b : W32) : ∀ (s r z1 z2 z3 z4 : Int), s = sR b → r = rR b → z1 = stepR s 0 5 32 → z2 = stepR s z1 4 16 → z3 = stepR s z2 3 8 → z4 = stepR s z3 2 4 →
    (evFn T SL3 L46 7 Tryd.f78 [.u 32 b]).run = if decide (8191 < b.toNat) = true then some (.tup [.u 64 0#64, .b false]) else
    if decide (b.toNat < 4096) = true then nd (z1 == 0) (nd (z2 == 0) (nd (z3 == 0) (nd (z4 == 0) (rest46 (stepR s z4 1 2) s r)))) else rest46 64 s r := by
  intro s r z1 z2 z3 z4 h1 h2 h3 h4 h5 h6
  subst h6; subst h5; subst h4; subst h3; subst h2; subst h1
  kernel_rfl
def tripC (b : W32) : Option (Int × Int × Int) := if sizeB b == 0 then none else if onesC b (sizeB b) == sizeB b then none else some (sizeB b, onesC b (sizeB b), turnC b (sizeB b))
def tripR (b : W32) : Option (Int × Int × Int) := if sizeR b (sR b) == 0 then none else if (sR b).tmod (sizeR b (sR b)) == IntKind.i64.wrap (sizeR b (sR b) - 1) then none else some (sizeR b (sR b), IntKind.i64.wrap ((sR b).tmod (sizeR b (sR b)) + 1), (rR b).tmod (sizeR b (sR b)))
theorem trip_all : ∀ i : Fin 128, ∀ j : Fin 64, tripC (BitVec.ofNat 32 (64 * i.val + j.val)) = tripR (BitVec.ofNat 32 (64 * i.val + j.val)) := by decide +kernel
theorem trip_eq (b : W32) (h : b.toNat ≤ 8191) : tripC b = tripR b := by
  have := trip_all ⟨b.toNat / 64, by omega⟩ ⟨b.toNat % 64, Nat.mod_lt _ (by omega)⟩
  simp only at this
  rw [show 64 * (b.toNat / 64) + b.toNat % 64 = b.toNat by omega, BitVec.ofNat_toNat, BitVec.setWidth_eq] at this
  exact this
def decV (b : W32) : AV := if decide (8191 < b.toNat) = true then .tup [.u 64 0#64, .b false] else match tripC b with
  | none => .tup [.u 64 0#64, .b false]
  | some (z, o, t) => .tup [.u 64 (turned z o t), .b true]
def s45 : CSpec | [.u 32 b] => some ⟨[], decV b⟩ | _ => none
theorem ok45 : FnOk Tryd.prog 74 s45 := okBy SL3_ok Tryd.func74 (by kernel_rfl) (by kernel_rfl) 1 <| by
  intro xs r hs
  unfold s45 at hs; split at hs <;> cases hs
  rename_i b
  intro hp _
  rw [run45]
  show _ = some (decV b)
  unfold decV tripC
  cases h1 : decide (8191 < b.toNat) with
  | true => simp
  | false =>
    cases h2 : sizeB b == 0 with
    | true => simp
    | false => cases h3 : onesC b (sizeB b) == sizeB b <;> simp
theorem rest46_eq (z s r : Int) : rest46 z s r = some (match (if z == 0 then none else if s.tmod z == IntKind.i64.wrap (z - 1) then none else some (z, IntKind.i64.wrap (s.tmod z + 1), r.tmod z) : Option (Int × Int × Int)) with
  | none => .tup [.u 64 0#64, .b false]
  | some (z, o, t) => .tup [.u 64 (turned z o t), .b true]) := by
  unfold rest46
  cases h : z == 0 with
  | true => simp
  | false => cases h2 : s.tmod z == IntKind.i64.wrap (z - 1) <;> simp
theorem ok46 : FnOk Tryd.prog 78 s45 := FnOk.of (L := L46) tyOk SL3_ok mixed Tryd.func78 (by kernel_rfl) (by kernel_rfl) <| by
  intro xs r hs
  unfold s45 at hs; split at hs <;> cases hs
  rename_i b
  intro hp _ _ _ _
  refine ⟨7, FnLoops.no (by kernel_rfl), ?_⟩
  rw [run46 b _ _ _ _ _ _ rfl rfl rfl rfl rfl rfl]
  simp only [nd_eq]
  show _ = some (decV b)
  unfold decV
  by_cases h : 8191 < b.toNat
  · simp [h]
  · have h' : decide (8191 < b.toNat) = false := by simpa using h
    simp only [h', Bool.false_eq_true, if_false]
    rw [trip_eq b (by omega)]
    unfold tripR sizeR
    cases h4 : decide (b.toNat < 4096) <;> simp only [h4, if_true, Bool.false_eq_true, if_false, rest46_eq]
def runS (S : FuncId → CSpec) (N : Nat) (fn : Func) (L : Nat → Live) : CSpec := fun xs => match (evFn T S L N fn xs).run with
  | some v => some ⟨[], v⟩
  | none => none
def L34 : Nat → Live := fun _ => ⟨List.range 60, [], [], none⟩
theorem runS_ok {S : FuncId → CSpec} (hS : ∀ f, FnOk Tryd.prog f (S f)) {f : FuncId} {fn : Func} (hf : Tryd.prog.funcs[f]? = some fn) (hname : (fn.name == "runtime.NumGoroutine") = false) (hbody : fn.body.isNone = false) (N : Nat) {L : Nat → Live} (hL : noSum L fn = true) (hlt : f < offO := by decide) : FnOk Tryd.prog f (runS S N fn L) :=
  FnOk.of tyOk hS mixed hf hname hbody (fun xs r hs hp w R vs hvs => ⟨N, FnLoops.no hL, by
    unfold runS at hs
    split at hs
    · rename_i v hv; cases hs; exact hv
    · cases hs⟩) hlt
noncomputable abbrev SL4 : FuncId → CSpec := withS (withS (withS SL3 74 s45) 78 s45) 80 (runS SL3 1 Tryd.f80 noL)
theorem SL4_ok : ∀ f, FnOk Tryd.prog f (SL4 f) := withS_ok (withS_ok (withS_ok SL3_ok ok45) ok46) (runS_ok SL3_ok Tryd.func80 (by kernel_rfl) (by kernel_rfl) 1 (by kernel_rfl))
def L65 : Nat → Live := fun _ => ⟨[0, 2, 3, 4, 5], [], [], none⟩
def L34b : Nat → Live := fun _ => ⟨[0, 2, 3, 4, 5, 6, 7, 8, 23, 24], [], [], none⟩
noncomputable abbrev SL5 : FuncId → CSpec := withS (withS SL4 58 (runS SL4 1 Tryd.f58 noL)) 56 (runS SL4 70 Tryd.f56 L65)
theorem SL5_ok : ∀ f, FnOk Tryd.prog f (SL5 f) := withS_ok (withS_ok SL4_ok (runS_ok SL4_ok Tryd.func58 (by kernel_rfl) (by kernel_rfl) 1 (by kernel_rfl))) (runS_ok SL4_ok Tryd.func56 (by kernel_rfl) (by kernel_rfl) 70 (by kernel_rfl))
noncomputable abbrev SL6 : FuncId → CSpec := withS SL5 29 (runS SL5 70 Tryd.f29 L34b)
theorem SL6_ok : ∀ f, FnOk Tryd.prog f (SL6 f) := withS_ok SL5_ok (runS_ok SL5_ok Tryd.func29 (by kernel_rfl) (by kernel_rfl) 70 (by kernel_rfl))
noncomputable abbrev SL7 : FuncId → CSpec := SL6
theorem SL7_ok : ∀ f, FnOk Tryd.prog f (SL7 f) := SL6_ok
theorem decV_cases (b : W32) : ∃ v x, decV b = .tup [.u 64 v, .b x] := by
  unfold decV
  split
  · exact ⟨_, _, rfl⟩
  · split <;> exact ⟨_, _, rfl⟩
def dec1 (b : W32) : W64 := if decide (8191 < b.toNat) = true then 0#64 else match tripC b with
  | none => 0#64
  | some (z, o, t) => turned z o t
def dec2 (b : W32) : Bool := if decide (8191 < b.toNat) = true then false else match tripC b with
  | none => false
  | some _ => true
theorem decV_eq (b : W32) : decV b = .tup [.u 64 (dec1 b), .b (dec2 b)] := by
  unfold decV dec1 dec2
  by_cases h : decide (8191 < b.toNat) = true
  · simp only [h, if_true]
  · simp only [h, Bool.false_eq_true, if_false]
    cases tripC b with
    | none => rfl
    | some q => obtain ⟨z, o, t⟩ := q; rfl
def s45b : CSpec | [.u 32 b] => some ⟨[], .tup [.u 64 (dec1 b), .b (dec2 b)]⟩ | _ => none
theorem s45b_eq {xs : List AV} {r : CallRes} (hs : s45b xs = some r) : s45 xs = some r := by
  unfold s45b at hs; split at hs <;> cases hs
  rename_i b
  show some _ = _
  rw [← decV_eq]
theorem ok45b {f : Nat} (h : FnOk Tryd.prog f s45) : FnOk Tryd.prog f s45b :=
  ⟨fun hl xs r hs => h.1 hl xs r (s45b_eq hs), fun hl => ⟨fun h2 xs r hs => (h.2 hl).1 h2 xs r (s45b_eq hs), fun h2 xs r hs => (h.2 hl).2 h2 xs r (s45b_eq hs)⟩⟩
noncomputable abbrev SL8 : FuncId → CSpec := withS (withS SL7 74 s45b) 78 s45b
theorem SL8_ok : ∀ f, FnOk Tryd.prog f (SL8 f) := withS_ok (withS_ok SL7_ok (ok45b ok45)) (ok45b ok46)
/- Plain: words that are made of equal elements. -/
def per (v : W64) (n : Nat) : Bool := (List.range 64).all fun i => v.getLsbD i == v.getLsbD ((i + n) % 64)
theorem per_iff {v : W64} {n : Nat} : per v n = true ↔ ∀ i, i < 64 → v.getLsbD i = v.getLsbD ((i + n) % 64) := by
  simp [per, List.all_eq_true]
def edgesN (v : W64) (n : Nat) : Nat := popN (fun i => v.getLsbD i != v.getLsbD ((i + 1) % 64)) n
def alike (v : W64) (n : Nat) : Bool := per v n && edgesN v n == 2
def sizeV (v : W64) : Nat := if per v 32 then if per v 16 then if per v 8 then if per v 4 then if per v 2 then 2 else 4 else 8 else 16 else 32 else 64
/-- the first one -/
def first (p : Nat → Bool) : Nat → Option Nat
  | 0 => none
  | n + 1 => match first p n with
    | some t => some t
    | none => if p n then some n else none
theorem first_none {p : Nat → Bool} : ∀ {n : Nat}, first p n = none ↔ ∀ t, t < n → p t = false
  | 0 => by simp [first]
  | n + 1 => by
    unfold first
    cases h : first p n with
    | some t =>
      simp only [reduceCtorEq, false_iff]
      intro h2
      have := (first_none (p := p) (n := n)).2 fun t ht => h2 t (by omega)
      rw [this] at h; cases h
    | none =>
      have h1 := (first_none (p := p) (n := n)).1 h
      simp only
      cases hp : p n with
      | true => simp only [if_true, reduceCtorEq, false_iff]; intro h2; rw [h2 n (by omega)] at hp; cases hp
      | false =>
        simp only [Bool.false_eq_true, if_false, true_iff]
        intro t ht
        by_cases e : t = n
        · rw [e]; exact hp
        · exact h1 t (by omega)
theorem first_some {p : Nat → Bool} {t : Nat} : ∀ {n : Nat}, first p n = some t → t < n ∧ p t = true ∧ ∀ s, s < t → p s = false
  | 0, h => by cases h
  | n + 1, h => by
    unfold first at h
    cases e : first p n with
    | some s =>
      rw [e] at h; simp only [Option.some.injEq] at h; subst h
      obtain ⟨h1, h2, h3⟩ := first_some e
      exact ⟨by omega, h2, h3⟩
    | none =>
      rw [e] at h; simp only at h
      split at h
      · rename_i hp
        simp only [Option.some.injEq] at h; subst h
        exact ⟨by omega, hp, first_none.1 e⟩
      · cases h
def isSz (n : Nat) : Prop := n = 2 ∨ n = 4 ∨ n = 8 ∨ n = 16 ∨ n = 32 ∨ n = 64
/-- one period, over and over -/
def cyc (v : W64) (m i : Nat) : Bool := v.getLsbD (i % m)
theorem cyc_mod (v : W64) (m i : Nat) : cyc v m (i % m) = cyc v m i := by simp [cyc, Nat.mod_mod]
theorem cyc_add (v : W64) (m i : Nat) : cyc v m (i + m) = cyc v m i := by simp [cyc]
theorem mod64_mod {m : Nat} (hm : isSz m) (i : Nat) : i % 64 % m = i % m := by
  rcases hm with rfl | rfl | rfl | rfl | rfl | rfl <;> omega
theorem per_cyc {v : W64} {m : Nat} (hm : isSz m) : per v m = true ↔ ∀ i, i < 64 → v.getLsbD i = cyc v m i := by
  rw [per_iff]
  have h0 : 0 < m := by rcases hm with rfl | rfl | rfl | rfl | rfl | rfl <;> omega
  constructor
  · intro h i
    induction i using Nat.strongRecOn with
    | _ i ih =>
      intro hi
      by_cases hlt : i < m
      · rw [cyc, Nat.mod_eq_of_lt hlt]
      · have e1 := h (i - m) (by omega)
        rw [show i - m + m = i by omega, Nat.mod_eq_of_lt hi] at e1
        rw [← e1, ih (i - m) (by omega) (by omega), ← cyc_add, show i - m + m = i by omega]
  · intro h i hi
    rw [h i hi, h _ (Nat.mod_lt _ (by omega)), cyc, cyc, mod64_mod hm, Nat.add_mod_right]
theorem per_up {v : W64} {m n : Nat} (hm : isSz m) (hn : isSz n) (hd : n % m = 0) (h : per v m = true) : per v n = true := by
  rw [per_cyc hm] at h
  rw [per_cyc hn]
  intro i hi
  have h1 : i % n < 64 := by
    have : i % n < n := Nat.mod_lt _ (by rcases hn with rfl | rfl | rfl | rfl | rfl | rfl <;> omega)
    rcases hn with rfl | rfl | rfl | rfl | rfl | rfl <;> omega
  rw [h i hi, cyc, cyc, h _ h1, cyc]
  congr 1
  exact (Nat.mod_mod_of_dvd i (Nat.dvd_of_mod_eq_zero hd)).symm
theorem per64 (v : W64) : per v 64 = true := by
  rw [per_iff]; intro i hi; rw [Nat.add_mod_right, Nat.mod_eq_of_lt hi]
theorem sizeV_spec (v : W64) : isSz (sizeV v) ∧ per v (sizeV v) = true ∧ ∀ n, isSz n → per v n = true → sizeV v ≤ n ∧ n % sizeV v = 0 := by
  have u : ∀ {m n : Nat}, isSz m → isSz n → n % m = 0 → per v m = true → per v n = true := fun a b c d => per_up a b c d
  have s2 : isSz 2 := .inl rfl
  have s4 : isSz 4 := .inr (.inl rfl)
  have s8 : isSz 8 := .inr (.inr (.inl rfl))
  have s16 : isSz 16 := .inr (.inr (.inr (.inl rfl)))
  have s32 : isSz 32 := .inr (.inr (.inr (.inr (.inl rfl))))
  have s64 : isSz 64 := .inr (.inr (.inr (.inr (.inr rfl))))
  have u1 := u s2 s4 (by decide); have u2 := u s4 s8 (by decide); have u3 := u s8 s16 (by decide); have u4 := u s16 s32 (by decide)
  have p64 := per64 v
  unfold sizeV
  cases h32 : per v 32 <;> cases h16 : per v 16 <;> cases h8 : per v 8 <;> cases h4 : per v 4 <;> cases h2 : per v 2 <;> simp_all [isSz]
/- edges -/
def edge (f : Nat → Bool) (i : Nat) : Bool := f i != f (i + 1)
theorem edges_cyc {v : W64} {m n : Nat} (hm : isSz m) (hn : isSz n) (h : per v m = true) : edgesN v n = popN (edge (cyc v m)) n := by
  have hc := (per_cyc hm).1 h
  apply popN_congr
  intro j hj
  have hj : j < 64 := by rcases hn with rfl | rfl | rfl | rfl | rfl | rfl <;> omega
  rw [edge, hc j hj, hc _ (Nat.mod_lt _ (by omega)), cyc, cyc, cyc, mod64_mod hm]
theorem edges_odd (f : Nat → Bool) : ∀ k, popN (edge f) k % 2 = (f 0 != f k).toNat
  | 0 => by simp [popN]
  | k + 1 => by
    rw [popN, Nat.add_mod, edges_odd f k, edge]
    cases f 0 <;> cases f k <;> cases f (k + 1) <;> rfl
theorem popN_add (f : Nat → Bool) (a : Nat) : ∀ b, popN f (a + b) = popN f a + popN (fun i => f (a + i)) b
  | 0 => by simp [popN]
  | b + 1 => by rw [← Nat.add_assoc, popN, popN_add f a b, popN]; omega
theorem per_many {f : Nat → Bool} {m : Nat} (hf : ∀ i, f (i + m) = f i) (q j : Nat) : f (q * m + j) = f j := by
  induction q with
  | zero => simp
  | succ q ih => rw [show (q + 1) * m + j = q * m + j + m by rw [Nat.add_mul]; omega, hf, ih]
theorem popN_none : ∀ n, popN (fun _ => false) n = 0
  | 0 => rfl
  | n + 1 => by rw [popN, popN_none n]; rfl
theorem popN_mul {f : Nat → Bool} {m : Nat} (hf : ∀ i, f (i + m) = f i) : ∀ q, popN f (q * m) = q * popN f m
  | 0 => by simp [popN]
  | q + 1 => by
    have e : popN (fun i => f (q * m + i)) m = popN f m := by
      apply popN_congr
      intro j _
      exact per_many hf q j
    rw [Nat.add_mul, Nat.one_mul, popN_add, popN_mul hf q, e, Nat.add_mul, Nat.one_mul]
theorem popN_turn {f : Nat → Bool} {m : Nat} (hf : ∀ i, f (i + m) = f i) (s : Nat) : popN (fun i => f (s + i)) m = popN f m := by
  have h1 := popN_add f s m
  have h2 := popN_add f m s
  have e : popN (fun i => f (m + i)) s = popN f s := popN_congr fun j _ => by rw [Nat.add_comm, hf]
  rw [Nat.add_comm m s] at h2
  omega
theorem edge_cyc_add (v : W64) (m i : Nat) : edge (cyc v m) (i + m) = edge (cyc v m) i := by
  rw [edge, edge, cyc_add, show i + m + 1 = i + 1 + m by omega, cyc_add]
theorem alike_size {v : W64} {n : Nat} (hn : isSz n) (h : alike v n = true) : n = sizeV v := by
  obtain ⟨h1, h2, h3⟩ := sizeV_spec v
  simp only [alike, Bool.and_eq_true, beq_iff_eq] at h
  obtain ⟨hp, he⟩ := h
  obtain ⟨hle, hd⟩ := h3 n hn hp
  generalize sizeV v = m at *
  have hq : n = n / m * m := by have := Nat.div_add_mod n m; rw [hd, Nat.mul_comm] at this; omega
  rw [edges_cyc h1 hn h2, hq, popN_mul (edge_cyc_add v m)] at he
  have ho := edges_odd (cyc v m) m
  have e0 : cyc v m m = cyc v m 0 := by have := cyc_add v m 0; rwa [Nat.zero_add] at this
  rw [e0, bne_self_eq_false] at ho
  simp only [Bool.toNat_false] at ho
  generalize popN (edge (cyc v m)) m = p at *
  have hp2 : p = 2 * (p / 2) := by omega
  have : n / m = 1 := by
    generalize n / m = q at *
    generalize p / 2 = r at *
    subst hp2
    match q, r, he with
    | 0, _, he => simp at he
    | 1, _, _ => rfl
    | q + 2, 0, he => simp at he
    | q + 2, r + 1, he =>
      have : 2 * (2 * 1) ≤ (q + 2) * (2 * (r + 1)) := Nat.mul_le_mul (by omega) (by omega)
      omega
  rw [this, Nat.one_mul] at hq; exact hq
/-- one change: ones, then noughts. -/
theorem one_change {g : Nat → Bool} (h0 : g 0 = true) : ∀ {k : Nat}, popN (edge g) k = 1 → g k = false → ∃ o, 1 ≤ o ∧ o ≤ k ∧ ∀ j, j ≤ k → g j = decide (j < o)
  | 0, h, _ => by cases h
  | k + 1, h, hk => by
    rw [popN] at h
    cases hg : g k with
    | false =>
      have e1 : edge g k = false := by rw [edge, hg, hk]; rfl
      rw [e1] at h
      obtain ⟨o, h1, h2, h3⟩ := one_change h0 (k := k) (by simpa using h) hg
      refine ⟨o, h1, by omega, fun j hj => ?_⟩
      by_cases e : j = k + 1
      · rw [e, hk]; simp; omega
      · exact h3 j (by omega)
    | true =>
      have e1 : edge g k = true := by rw [edge, hg, hk]; rfl
      rw [e1] at h
      have h2 : popN (edge g) k = 0 := by simpa using h
      have h3 : ∀ j, j ≤ k → g j = true := by
        have : ∀ j, j ≤ k → popN (edge g) j = 0 := by
          intro j hj
          have := popN_add (edge g) j (k - j)
          rw [show j + (k - j) = k by omega] at this; omega
        intro j
        induction j with
        | zero => exact fun _ => h0
        | succ j ih =>
          intro hj
          have h4 := this (j + 1) hj
          rw [popN] at h4
          have h5 : edge g j = false := by cases h6 : edge g j with
            | false => rfl
            | true => rw [h6] at h4; simp at h4
          rw [edge, ih (by omega)] at h5
          simpa using h5
      refine ⟨k + 1, by omega, by omega, fun j hj => ?_⟩
      by_cases e : j = k + 1
      · rw [e, hk]; simp
      · rw [h3 j (by omega)]; simp; omega
theorem exists_rise {f : Nat → Bool} {m : Nat} (hf : ∀ i, f (i + m) = f i) (hne : popN (edge f) m ≠ 0) : ∃ s, f s = false ∧ f (s + 1) = true := by
  have h1 : ∃ i, edge f i = true := by
    apply Classical.byContradiction
    intro hn
    have : ∀ i, edge f i = false := fun i => by
      cases h : edge f i with
      | false => rfl
      | true => exact (hn ⟨i, h⟩).elim
    refine hne ?_
    have e : popN (edge f) m = popN (fun _ => false) m := popN_congr fun j _ => this j
    rw [e, popN_none]
  apply Classical.byContradiction
  intro hn
  have hn : ∀ s, f s = false → f (s + 1) = false := fun s hs => by
    cases h : f (s + 1) with
    | false => rfl
    | true => exact (hn ⟨s, hs, h⟩).elim
  obtain ⟨i, hi⟩ := h1
  have hi1 : f i = true ∧ f (i + 1) = false := by
    rw [edge] at hi
    cases h : f i with
    | false => rw [h, hn i h] at hi; cases hi
    | true => rw [h] at hi; exact ⟨rfl, by simpa using hi⟩
  have h3 : ∀ k, f (i + 1 + k) = false := by
    intro k
    induction k with
    | zero => exact hi1.2
    | succ k ih => exact hn _ ih
  by_cases hm : m = 0
  · subst hm; exact hne rfl
  · have := h3 (m - 1)
    rw [show i + 1 + (m - 1) = i + m by omega, hf, hi1.1] at this
    cases this
theorem popN_lt (o : Nat) : ∀ m, o ≤ m → popN (fun j => decide (j < o)) m = o
  | 0, h => by have : o = 0 := by omega
               subst this; rfl
  | m + 1, h => by
    rw [popN]
    by_cases e : o = m + 1
    · subst e
      have : popN (fun j => decide (j < m + 1)) m = m := by
        have : popN (fun j => decide (j < m + 1)) m = popN (fun j => decide (j < m)) m := popN_congr fun j hj => by rw [decide_eq_decide]; omega
        rw [this]; exact popN_lt m m (Nat.le_refl _)
      rw [this]; simp
    · rw [popN_lt o m (by omega)]
      have : ¬ m < o := by omega
      simp [this]
theorem ones_run {f : Nat → Bool} {m : Nat} (hm : 0 < m) (hf : ∀ i, f (i + m) = f i) (he : popN (edge f) m = 2) : ∃ o t, 1 ≤ o ∧ o < m ∧ t < m ∧ popN f m = o ∧ ∀ i, f i = decide ((i + t) % m < o) := by
  obtain ⟨s, hs0, hs1⟩ := exists_rise hf (by omega)
  have hg : ∀ i, f (s + 1 + i + m) = f (s + 1 + i) := fun i => hf _
  have h1 : popN (fun i => edge f (s + 1 + i)) m = 2 := by rw [popN_turn (f := edge f) (fun i => by rw [edge, edge, hf, show i + m + 1 = i + 1 + m by omega, hf])]; exact he
  obtain ⟨k, rfl⟩ : ∃ k, m = k + 1 := ⟨m - 1, by omega⟩
  rw [popN] at h1
  have hl : f (s + 1 + k) = false := by rw [show s + 1 + k = s + (k + 1) by omega, hf, hs0]
  have e2 : edge f (s + 1 + k) = true := by
    rw [edge, hl, show s + 1 + k + 1 = s + 1 + (k + 1) by omega, hf, hs1]; rfl
  rw [e2] at h1
  obtain ⟨o, o1, o2, o3⟩ := one_change (g := fun j => f (s + 1 + j)) (by simpa using hs1) (k := k) (by
    have : popN (edge fun j => f (s + 1 + j)) k = popN (fun i => edge f (s + 1 + i)) k := popN_congr fun j _ => rfl
    rw [this]; simpa using h1) hl
  have hper : ∀ i q, f (i + q * (k + 1)) = f i := by
    intro i q
    induction q with
    | zero => simp
    | succ q ih => rw [Nat.add_mul, Nat.one_mul, ← Nat.add_assoc, hf, ih]
  have hmod : ∀ i, f (s + 1 + i) = decide (i % (k + 1) < o) := by
    intro i
    have hlt : i % (k + 1) < k + 1 := Nat.mod_lt _ (by omega)
    rw [← o3 _ (by omega)]
    have : s + 1 + i = s + 1 + i % (k + 1) + i / (k + 1) * (k + 1) := by
      have := Nat.mod_add_div i (k + 1)
      rw [Nat.mul_comm] at this; omega
    rw [this, hper]
  refine ⟨o, (k + 1 - (s + 1) % (k + 1)) % (k + 1), o1, by omega, Nat.mod_lt _ (by omega), ?_, ?_⟩
  · rw [← popN_turn hf (s + 1)]
    have : popN (fun i => f (s + 1 + i)) (k + 1) = popN (fun j => decide (j < o)) (k + 1) := popN_congr fun j hj => o3 j (by omega)
    rw [this]; exact popN_lt o _ (by omega)
  · intro i
    -- i + big = s + 1 + i'
    have e : f i = f (s + 1 + (i + (s + 1) * k)) := by
      rw [show s + 1 + (i + (s + 1) * k) = i + (s + 1) * (k + 1) by rw [Nat.mul_add, Nat.mul_one]; omega, hper]
    rw [e, hmod]
    congr 2
    have h1 : (s + 1) % (k + 1) < k + 1 := Nat.mod_lt _ (by omega)
    have h2 : (s + 1) + (k + 1 - (s + 1) % (k + 1)) = (k + 1) * ((s + 1) / (k + 1) + 1) := by
      have := Nat.div_add_mod (s + 1) (k + 1)
      rw [Nat.mul_add, Nat.mul_one]; omega
    have h3 : ((s + 1) * k + (s + 1)) % (k + 1) = 0 := by
      have : (s + 1) * k + (s + 1) = (k + 1) * (s + 1) := by rw [Nat.add_mul k 1, Nat.one_mul, Nat.mul_comm k]
      rw [this, Nat.mul_mod_right]
    have h4 : ((s + 1) * k) % (k + 1) = (k + 1 - (s + 1) % (k + 1)) % (k + 1) := by
      have a : ((s + 1) * k + (s + 1)) % (k + 1) = ((k + 1 - (s + 1) % (k + 1)) + (s + 1)) % (k + 1) := by
        rw [h3, Nat.add_comm _ (s + 1), h2, Nat.mul_mod_right]
      have b := congrArg (fun x => (x + ((s + 1) * k)) % (k + 1)) a
      rw [Nat.mod_add_mod, Nat.mod_add_mod] at b
      have c1 : (s + 1) * k + (s + 1) + (s + 1) * k = (s + 1) * k + (k + 1) * (s + 1) := by rw [Nat.add_mul (k := s + 1), Nat.one_mul, Nat.mul_comm k (s + 1)]; omega
      have c2 : k + 1 - (s + 1) % (k + 1) + (s + 1) + (s + 1) * k = k + 1 - (s + 1) % (k + 1) + (k + 1) * (s + 1) := by rw [Nat.add_mul (k := s + 1), Nat.one_mul, Nat.mul_comm k (s + 1)]; omega
      rw [c1, c2, Nat.add_mul_mod_self_left, Nat.add_mul_mod_self_left] at b
      exact b
    rw [Nat.add_mod i, h4, ← Nat.add_mod, Nat.add_mod_mod]
theorem alike_turned {v : W64} (h : alike v (sizeV v) = true) : ∃ t, t < sizeV v ∧ 1 ≤ popN v.getLsbD (sizeV v) ∧ popN v.getLsbD (sizeV v) < sizeV v ∧ turnedN (sizeV v) (popN v.getLsbD (sizeV v)) t = v := by
  obtain ⟨h1, h2, h3⟩ := sizeV_spec v
  simp only [alike, Bool.and_eq_true, beq_iff_eq] at h
  generalize sizeV v = m at *
  have hm : 0 < m ∧ m ≤ 64 := by rcases h1 with rfl | rfl | rfl | rfl | rfl | rfl <;> omega
  obtain ⟨o, t, o1, o2, t1, hp, hf⟩ := ones_run hm.1 (cyc_add v m) (by rw [← edges_cyc h1 h1 h2]; exact h.2)
  have hp' : popN v.getLsbD m = o := by
    rw [← hp]
    apply popN_congr
    intro j hj
    exact (per_cyc h1).1 h2 j (by omega)
  rw [hp']
  refine ⟨t, t1, o1, o2, ?_⟩
  symm
  apply eq_sumBits (Nat.le_refl _)
  intro i hi
  rw [(per_cyc h1).1 h2 i hi, hf i]
  simp only [hi, decide_true, Bool.true_and, tbit]
  rw [Nat.mod_add_mod]
/- the word of a triple -/
theorem turned_edges : ∀ m : Fin 65, ∀ o : Fin 64, 1 ≤ o.val → o.val < m.val → popN (edge fun i => decide (i % m.val < o.val)) m.val = 2 := by decide +kernel
theorem turned_alike {m o t : Nat} (hm : isSz m) (ho : 1 ≤ o) (hlt : o < m) : alike (turnedN m o t) m = true := by
  have hm' : 0 < m ∧ m ≤ 64 := by rcases hm with rfl | rfl | rfl | rfl | rfl | rfl <;> omega
  have hg : ∀ i, i < 64 → (turnedN m o t).getLsbD i = tbit m o t i := by
    intro i hi
    rw [turnedN, sumBits_get _ (Nat.le_refl _)]; simp [hi]
  have hp : per (turnedN m o t) m = true := by
    rw [per_iff]; intro i hi
    rw [hg i hi, hg _ (Nat.mod_lt _ (by omega)), tbit, tbit, mod64_mod hm, Nat.add_mod_right]
  simp only [alike, hp, Bool.true_and, beq_iff_eq]
  rw [edges_cyc hm hm hp]
  have e : popN (edge (cyc (turnedN m o t) m)) m = popN (fun i => edge (fun i => decide (i % m < o)) (t + i)) m := by
    apply popN_congr
    intro j hj
    have hc : ∀ j, cyc (turnedN m o t) m j = decide ((t + j) % m < o) := by
      intro j
      have : j % m < m := Nat.mod_lt _ hm'.1
      rw [cyc, hg _ (by omega), tbit, Nat.mod_mod, Nat.mod_add_mod, Nat.add_comm]
    rw [edge, edge, hc, hc]; rfl
  rw [e, popN_turn (f := edge fun i => decide (i % m < o)) (fun i => by simp only [edge]; rw [Nat.add_mod_right, show i + m + 1 = i + 1 + m by omega, Nat.add_mod_right])]
  exact turned_edges ⟨m, by omega⟩ ⟨o, by omega⟩ ho hlt
theorem const_edges {v : W64} {n : Nat} (hn : isSz n) (h : v = 0#64 ∨ v = BitVec.allOnes 64) : alike v n = false := by
  have : edgesN v n = popN (fun _ => false) n := popN_congr fun j hj => by
    have hj : j < 64 := by rcases hn with rfl | rfl | rfl | rfl | rfl | rfl <;> omega
    have : (j + 1) % 64 < 64 := Nat.mod_lt _ (by omega)
    rcases h with rfl | rfl
    · simp
    · rw [BitVec.getLsbD_allOnes, BitVec.getLsbD_allOnes]; simp [hj, this]
  simp [alike, this, popN_none]
/- Plain: how many bits are 1, by fields. -/
def dig (B : Nat) : List Nat → Nat
  | [] => 0
  | a :: l => a + B * dig B l
def evs : List Nat → List Nat
  | a :: _ :: l => a :: evs l
  | _ => []
def ods : List Nat → List Nat
  | _ :: b :: l => b :: ods l
  | _ => []
def prs : List Nat → List Nat
  | a :: b :: l => (a + b) :: prs l
  | _ => []
def msk (w : Nat) : Nat → Nat
  | 0 => 0
  | m + 1 => (2 ^ w - 1) + 2 ^ (2 * w) * msk w m
theorem land_split {B p r q s k : Nat} (hB : B = 2 ^ k) (hp : p < B) (hr : r < B) : (p + B * q) &&& (r + B * s) = (p &&& r) + B * (q &&& s) := by
  subst hB
  apply Nat.eq_of_testBit_eq
  intro i
  have hpr : p &&& r < 2 ^ k := Nat.lt_of_le_of_lt Nat.and_le_left hp
  rw [Nat.testBit_and, Nat.add_comm p, Nat.add_comm r, Nat.add_comm (p &&& r), Nat.testBit_two_pow_mul_add _ hp, Nat.testBit_two_pow_mul_add _ hr, Nat.testBit_two_pow_mul_add _ hpr]
  split <;> rw [Nat.testBit_and]
theorem dig_pair {w a b : Nat} {l : List Nat} : dig (2 ^ w) (a :: b :: l) = (a + 2 ^ w * b) + 2 ^ (2 * w) * dig (2 ^ w) l := by
  simp only [dig, Nat.mul_add, ← Nat.mul_assoc, ← Nat.pow_add, ← Nat.two_mul, Nat.add_assoc]
theorem dig_evs {w : Nat} : ∀ {m : Nat} {l : List Nat}, l.length = 2 * m → (∀ a ∈ l, a < 2 ^ w) → dig (2 ^ w) l &&& msk w m = dig (2 ^ (2 * w)) (evs l)
  | 0, l, hl, _ => by
    have : l = [] := List.length_eq_zero_iff.1 (by omega)
    subst this; simp [dig, evs]
  | m + 1, a :: b :: l, hl, h => by
    have ha := h a (by simp); have hb := h b (by simp)
    have e : 2 ^ (2 * w) = 2 ^ w * 2 ^ w := by rw [← Nat.pow_add, Nat.two_mul]
    have h0 : 0 < 2 ^ w := Nat.two_pow_pos w
    rw [dig_pair, msk, land_split rfl (by rw [e]; calc a + 2 ^ w * b < 2 ^ w + 2 ^ w * b := by omega
      _ = 2 ^ w * (b + 1) := by rw [Nat.mul_add]; omega
      _ ≤ 2 ^ w * 2 ^ w := Nat.mul_le_mul (Nat.le_refl _) hb) (by rw [e]; calc 2 ^ w - 1 < 2 ^ w := by omega
      _ = 2 ^ w * 1 := by omega
      _ ≤ 2 ^ w * 2 ^ w := Nat.mul_le_mul (Nat.le_refl _) h0), dig_evs (by simp at hl; omega) (fun x hx => h x (by simp [hx])), evs, dig, Nat.and_two_pow_sub_one_eq_mod, Nat.add_mul_mod_self_left, Nat.mod_eq_of_lt ha]
  | m + 1, [a], hl, _ => by simp at hl; omega
  | m + 1, [], hl, _ => by simp at hl
theorem dig_shift {w : Nat} {a : Nat} {l : List Nat} (ha : a < 2 ^ w) : dig (2 ^ w) (a :: l) >>> w = dig (2 ^ w) l := by
  rw [Nat.shiftRight_eq_div_pow, dig, Nat.add_mul_div_left _ _ (Nat.two_pow_pos w), Nat.div_eq_of_lt ha, Nat.zero_add]
theorem dig_snoc0 {B : Nat} : ∀ {l : List Nat}, dig B (l ++ [0]) = dig B l
  | [] => rfl
  | a :: l => by simp only [List.cons_append, dig, dig_snoc0]
theorem evs_tail : ∀ {m : Nat} {l : List Nat}, l.length = 2 * m → evs (l.tail ++ [0]) = ods l
  | 0, l, hl => by
    have : l = [] := List.length_eq_zero_iff.1 (by omega)
    subst this; rfl
  | m + 1, [a, b], hl => rfl
  | m + 1, a :: b :: c :: l, hl => by
    have := evs_tail (m := m) (l := c :: l) (by simp at hl ⊢; omega)
    simp only [List.tail_cons, List.cons_append, evs, ods] at this ⊢
    rw [this]
  | m + 1, [a], hl => by simp at hl; omega
  | m + 1, [], hl => by simp at hl
theorem dig_ods {w m : Nat} {l : List Nat} (hl : l.length = 2 * m) (h : ∀ a ∈ l, a < 2 ^ w) : (dig (2 ^ w) l >>> w) &&& msk w m = dig (2 ^ (2 * w)) (ods l) := by
  match l, hl, h with
  | [], hl, _ => simp [dig, ods]
  | a :: l, hl, h =>
    rw [dig_shift (h a (by simp)), ← dig_snoc0, dig_evs (by simp at hl ⊢; omega) (by intro x hx; simp at hx; rcases hx with hx | rfl; exact h x (by simp [hx]); exact Nat.two_pow_pos w)]
    have := evs_tail hl
    rw [List.tail_cons] at this; rw [this]
theorem dig_prs {B : Nat} : ∀ l, dig B (ods l) + dig B (evs l) = dig B (prs l)
  | a :: b :: l => by
    simp only [ods, evs, prs, dig]
    rw [← dig_prs l, Nat.mul_add]; omega
  | [_] => rfl
  | [] => rfl
theorem prs_sum : ∀ {m : Nat} {l : List Nat}, l.length = 2 * m → (prs l).sum = l.sum
  | 0, l, hl => by
    have : l = [] := List.length_eq_zero_iff.1 (by omega)
    subst this; rfl
  | m + 1, a :: b :: l, hl => by simp only [prs, List.sum_cons, prs_sum (m := m) (l := l) (by simp at hl; omega)]; omega
  | m + 1, [a], hl => by simp at hl; omega
  | m + 1, [], hl => by simp at hl
theorem prs_len : ∀ {m : Nat} {l : List Nat}, l.length = 2 * m → (prs l).length = m
  | 0, l, hl => by
    have : l = [] := List.length_eq_zero_iff.1 (by omega)
    subst this; rfl
  | m + 1, a :: b :: l, hl => by simp only [prs, List.length_cons, prs_len (m := m) (l := l) (by simp at hl; omega)]
  | m + 1, [a], hl => by simp at hl; omega
  | m + 1, [], hl => by simp at hl
theorem prs_le {c : Nat} : ∀ {l : List Nat}, (∀ a ∈ l, a ≤ c) → ∀ a ∈ prs l, a ≤ 2 * c
  | a :: b :: l, h, x, hx => by
    simp only [prs, List.mem_cons] at hx
    rcases hx with rfl | hx
    · have := h a (by simp); have := h b (by simp); omega
    · exact prs_le (fun y hy => h y (by simp [hy])) x hx
  | [_], h, x, hx => by simp [prs] at hx
  | [], h, x, hx => by simp [prs] at hx
def bitsL (f : Nat → Bool) (n : Nat) : List Nat := (List.range n).map fun i => (f i).toNat
theorem bits_sum (f : Nat → Bool) : ∀ n, (bitsL f n).sum = popN f n
  | 0 => rfl
  | n + 1 => by
    have := bits_sum f n
    rw [bitsL, List.range_succ, List.map_append, List.sum_append] 
    rw [bitsL] at this; rw [this, popN]; simp
theorem dig_append {B : Nat} : ∀ {l r : List Nat}, dig B (l ++ r) = dig B l + B ^ l.length * dig B r
  | [], r => by simp [dig]
  | a :: l, r => by simp only [List.cons_append, dig, dig_append (l := l), List.length_cons, Nat.pow_succ, Nat.mul_add, Nat.add_assoc]; rw [Nat.mul_comm (B ^ l.length) B, Nat.mul_assoc]
theorem bits_dig (x : W64) : ∀ n, n ≤ 64 → dig 2 (bitsL x.getLsbD n) = x.toNat % 2 ^ n
  | 0, _ => by simp [bitsL, dig, Nat.mod_one]
  | n + 1, h => by
    have := bits_dig x n (by omega)
    rw [bitsL, List.range_succ, List.map_append, dig_append]
    rw [bitsL] at this
    rw [this, List.length_map, List.length_range, Nat.mod_pow_succ]
    simp only [List.map_cons, List.map_nil, dig, Nat.mul_zero, Nat.add_zero]
    congr 2
    rw [← BitVec.testBit_toNat, Nat.testBit_eq_decide_div_mod_eq]
    rcases Nat.mod_two_eq_zero_or_one (x.toNat / 2 ^ n) with h | h <;> rw [h] <;> rfl
def pop1 (v : W64) : W64 := (v >>> 1 &&& 6148914691236517205#64) + (v &&& 6148914691236517205#64)
def pop2 (v : W64) : W64 := (v >>> 2 &&& 3689348814741910323#64) + (v &&& 3689348814741910323#64)
def pop3 (v : W64) : W64 := (v >>> 4 + v) &&& 1085102592571150095#64
def pop4 (v : W64) (k : Nat) : W64 := v + v >>> k
def popV (v : W64) : W64 := pop4 (pop4 (pop4 (pop3 (pop2 (pop1 v))) 8) 16) 32
theorem dig_lt {w : Nat} : ∀ {l : List Nat}, (∀ a ∈ l, a < 2 ^ w) → dig (2 ^ w) l < 2 ^ (w * l.length)
  | [], _ => by simp [dig]
  | a :: l, h => by
    have ha := h a (by simp)
    have := dig_lt (l := l) fun x hx => h x (by simp [hx])
    rw [dig, List.length_cons, Nat.mul_add, Nat.pow_add, Nat.mul_one, Nat.mul_comm (2 ^ (w * l.length))]
    calc a + 2 ^ w * dig (2 ^ w) l < 2 ^ w + 2 ^ w * dig (2 ^ w) l := by omega
      _ = 2 ^ w * (dig (2 ^ w) l + 1) := by rw [Nat.mul_add]; omega
      _ ≤ _ := Nat.mul_le_mul (Nat.le_refl _) this
theorem pop_step {w m c : Nat} {M v : W64} {l : List Nat} (h : v.toNat = dig (2 ^ w) l) (hl : l.length = 2 * m) (hM : M.toNat = msk w m) (hb : ∀ a ∈ l, a ≤ c) (hc : c < 2 ^ w) (hc2 : 2 * c < 2 ^ (2 * w)) (h64 : 2 * w * m = 64) :
    ((v >>> w &&& M) + (v &&& M)).toNat = dig (2 ^ (2 * w)) (prs l) := by
  have e1 := dig_evs (w := w) (m := m) (l := l) hl (fun a ha => by have := hb a ha; omega)
  have e2 := dig_ods (w := w) (m := m) (l := l) hl (fun a ha => by have := hb a ha; omega)
  have hlt := dig_lt (w := 2 * w) (l := prs l) (fun a ha => by have := prs_le hb a ha; omega)
  rw [prs_len (m := m) hl, h64] at hlt
  rw [BitVec.toNat_add, BitVec.toNat_and, BitVec.toNat_and, BitVec.toNat_ushiftRight, h, hM, e2, e1, dig_prs]
  exact Nat.mod_eq_of_lt hlt
theorem dig8 {l : List Nat} (hl : l.length = 8) : ∃ a b c d e f g h, l = [a, b, c, d, e, f, g, h] := by
  match l, hl with
  | [a, b, c, d, e, f, g, h], _ => exact ⟨a, b, c, d, e, f, g, h, rfl⟩
theorem dig16 {l : List Nat} (hl : l.length = 16) : ∃ a b c d e f g h a' b' c' d' e' f' g' h', l = [a, b, c, d, e, f, g, h, a', b', c', d', e', f', g', h'] := by
  match l, hl with
  | [a, b, c, d, e, f, g, h, a', b', c', d', e', f', g', h'], _ => exact ⟨a, b, c, d, e, f, g, h, a', b', c', d', e', f', g', h', rfl⟩
def zipT : List Nat → List Nat
  | a :: b :: l => (a + b) :: zipT (b :: l)
  | l => l
theorem zipT_dig {B : Nat} : ∀ l : List Nat, dig B l + dig B l.tail = dig B (zipT l)
  | a :: b :: l => by
    have := zipT_dig (B := B) (b :: l)
    simp only [List.tail_cons, zipT, dig] at this ⊢
    rw [← this]; simp only [Nat.mul_add]; omega
  | [a] => rfl
  | [] => rfl
theorem pop3_eq {v : W64} {l : List Nat} (h : v.toNat = dig (2 ^ 4) l) (hl : l.length = 16) (hb : ∀ a ∈ l, a ≤ 4) : (pop3 v).toNat = dig (2 ^ 8) (prs l) := by
  obtain ⟨a, b, c, d, e, f, g, k, a', b', c', d', e', f', g', k', rfl⟩ := dig16 hl
  simp only [List.mem_cons, List.not_mem_nil, or_false, forall_eq_or_imp, forall_eq] at hb
  have hlt := dig_lt (w := 4) (l := zipT [a, b, c, d, e, f, g, k, a', b', c', d', e', f', g', k']) (by simp only [zipT, List.mem_cons, List.not_mem_nil, or_false, forall_eq_or_imp, forall_eq]; omega)
  have e1 := dig_evs (w := 4) (m := 8) (l := zipT [a, b, c, d, e, f, g, k, a', b', c', d', e', f', g', k']) rfl (by simp only [zipT, List.mem_cons, List.not_mem_nil, or_false, forall_eq_or_imp, forall_eq]; omega)
  have m : msk 4 8 = 1085102592571150095 := by decide +kernel
  rewrite [m] at e1
  have s1 : dig (2 ^ 4) [a, b, c, d, e, f, g, k, a', b', c', d', e', f', g', k'] >>> 4 = dig (2 ^ 4) [b, c, d, e, f, g, k, a', b', c', d', e', f', g', k'] := dig_shift (by omega)
  have z : dig (2 ^ 4) [b, c, d, e, f, g, k, a', b', c', d', e', f', g', k'] + dig (2 ^ 4) [a, b, c, d, e, f, g, k, a', b', c', d', e', f', g', k'] = _ := (Nat.add_comm _ _).trans (zipT_dig (B := 2 ^ 4) [a, b, c, d, e, f, g, k, a', b', c', d', e', f', g', k'])
  rewrite [pop3, BitVec.toNat_and, BitVec.toNat_add, BitVec.toNat_ushiftRight, h, s1, z, Nat.mod_eq_of_lt (show _ < 2 ^ 64 from hlt), show (1085102592571150095#64 : W64).toNat = 1085102592571150095 by rfl, e1]
  rfl
theorem dq (x : Nat) {n R : Nat} (p : Nat) (hn : n = x + 2 ^ p * R) (hx : x < 2 ^ p) : n / 2 ^ p = R := by
  rw [hn, Nat.add_mul_div_left _ _ (Nat.two_pow_pos p), Nat.div_eq_of_lt hx, Nat.zero_add]
theorem st1 (a b c d e f g k : Nat) (hb : a ≤ 8 ∧ b ≤ 8 ∧ c ≤ 8 ∧ d ≤ 8 ∧ e ≤ 8 ∧ f ≤ 8 ∧ g ≤ 8 ∧ k ≤ 8) {v : W64} (h : v.toNat = a + 256 * (b + 256 * (c + 256 * (d + 256 * (e + 256 * (f + 256 * (g + 256 * k))))))) : (pop4 v 8).toNat = (a + b) + 256 * ((b + c) + 256 * ((c + d) + 256 * ((d + e) + 256 * ((e + f) + 256 * ((f + g) + 256 * ((g + k) + 256 * k)))))) := by
  have d : v.toNat / 2 ^ 8 = b + 256 * (c + 256 * (d + 256 * (e + 256 * (f + 256 * (g + 256 * k))))) := dq a 8 h (by omega)
  rewrite [pop4, BitVec.toNat_add, BitVec.toNat_ushiftRight, Nat.shiftRight_eq_div_pow, d, h]
  clear h d
  omega
theorem st2 (a b c d e f g k : Nat) (hb : a ≤ 8 ∧ b ≤ 8 ∧ c ≤ 8 ∧ d ≤ 8 ∧ e ≤ 8 ∧ f ≤ 8 ∧ g ≤ 8 ∧ k ≤ 8) {v : W64} (h : v.toNat = (a + b) + 256 * ((b + c) + 256 * ((c + d) + 256 * ((d + e) + 256 * ((e + f) + 256 * ((f + g) + 256 * ((g + k) + 256 * k))))))) : (pop4 v 16).toNat = (a + b + c + d) + 256 * ((b + c + d + e) + 256 * ((c + d + e + f) + 256 * ((d + e + f + g) + 256 * ((e + f + g + k) + 256 * ((f + g + k) + 256 * ((g + k) + 256 * k)))))) := by
  have d : v.toNat / 2 ^ 16 = (c + d) + 256 * ((d + e) + 256 * ((e + f) + 256 * ((f + g) + 256 * ((g + k) + 256 * k)))) := dq ((a + b) + 256 * (b + c)) 16 (by rewrite [h]; clear h; omega) (by clear h; omega)
  rewrite [pop4, BitVec.toNat_add, BitVec.toNat_ushiftRight, Nat.shiftRight_eq_div_pow, d, h]
  clear h d
  omega
theorem st3 (a b c d e f g k : Nat) (hb : a ≤ 8 ∧ b ≤ 8 ∧ c ≤ 8 ∧ d ≤ 8 ∧ e ≤ 8 ∧ f ≤ 8 ∧ g ≤ 8 ∧ k ≤ 8) {v : W64} (h : v.toNat = (a + b + c + d) + 256 * ((b + c + d + e) + 256 * ((c + d + e + f) + 256 * ((d + e + f + g) + 256 * ((e + f + g + k) + 256 * ((f + g + k) + 256 * ((g + k) + 256 * k))))))) : (pop4 v 32).toNat = (a + b + c + d + e + f + g + k) + 128 * (2 * ((b + c + d + e + f + g + k) + 256 * ((c + d + e + f + g + k) + 256 * ((d + e + f + g + k) + 256 * ((e + f + g + k) + 256 * ((f + g + k) + 256 * ((g + k) + 256 * k))))))) := by
  have d : v.toNat / 2 ^ 32 = (e + f + g + k) + 256 * ((f + g + k) + 256 * ((g + k) + 256 * k)) := dq ((a + b + c + d) + 256 * ((b + c + d + e) + 256 * ((c + d + e + f) + 256 * (d + e + f + g)))) 32 (by rewrite [h]; clear h; omega) (by clear h; omega)
  rewrite [pop4, BitVec.toNat_add, BitVec.toNat_ushiftRight, Nat.shiftRight_eq_div_pow, d, h]
  clear h d
  omega
theorem pop_last {v : W64} {l : List Nat} (h : v.toNat = dig (2 ^ 8) l) (hl : l.length = 8) (hb : ∀ a ∈ l, a ≤ 8) : (pop4 (pop4 (pop4 v 8) 16) 32).toNat % 128 = l.sum := by
  obtain ⟨a, b, c, d, e, f, g, k, rfl⟩ := dig8 hl
  simp only [List.mem_cons, List.not_mem_nil, or_false, forall_eq_or_imp, forall_eq] at hb
  have h1 : v.toNat = a + 256 * (b + 256 * (c + 256 * (d + 256 * (e + 256 * (f + 256 * (g + 256 * k)))))) := by
    rewrite [h]; simp only [dig, Nat.reducePow, Nat.mul_zero, Nat.add_zero]
  have h4 := st3 a b c d e f g k hb (st2 a b c d e f g k hb (st1 a b c d e f g k hb h1))
  have hm : ∀ s n R : Nat, n = s + 128 * R → s < 128 → n % 128 = s := fun s n R hn hs => by
    rw [hn, Nat.add_mul_mod_self_left, Nat.mod_eq_of_lt hs]
  rewrite [hm _ _ _ h4 (by clear h4 h1 h; omega)]
  clear h4 h1 h hm
  simp only [List.sum_cons, List.sum_nil]
  omega
theorem popV_eq (v : W64) : (popV v).toNat % 128 = popN v.getLsbD 64 := by
  have h0 : v.toNat = dig (2 ^ 1) (bitsL v.getLsbD 64) := by
    have := bits_dig v 64 (Nat.le_refl _)
    rw [Nat.mod_eq_of_lt v.isLt] at this; exact this.symm
  have l0 : (bitsL v.getLsbD 64).length = 2 * 32 := by simp [bitsL]
  have b0 : ∀ a ∈ bitsL v.getLsbD 64, a ≤ 1 := by
    intro a ha; simp only [bitsL, List.mem_map] at ha
    obtain ⟨i, _, rfl⟩ := ha; exact Bool.toNat_le _
  have h1 := pop_step h0 l0 (M := 6148914691236517205#64) (by decide +kernel) b0 (by decide) (by decide) rfl
  have l1 := prs_len l0
  have b1 := prs_le b0
  have h2 := pop_step (m := 16) h1 l1 (M := 3689348814741910323#64) (by decide +kernel) b1 (by decide) (by decide) rfl
  have l2 := prs_len (m := 16) l1
  have b2 := prs_le b1
  have h3 := pop3_eq h2 l2 b2
  have l3 := prs_len (m := 8) l2
  have b3 := prs_le b2
  have h4 := pop_last h3 l3 b3
  rw [prs_sum (m := 8) l2, prs_sum (m := 16) l1, prs_sum (m := 32) l0, bits_sum] at h4
  exact h4
theorem isSize_sz {z : Int} : isSize z = true ↔ ∃ n : Nat, z = n ∧ isSz n := by
  simp only [isSize, Bool.or_eq_true, beq_iff_eq, isSz]
  constructor
  · intro h; exact ⟨z.toNat, by omega, by omega⟩
  · rintro ⟨n, rfl, h⟩; omega
/- ones -/
theorem and127 (x : W64) : (BitVec.ofInt 64 (IntKind.i64.wrap (x.toNat : Int)) &&& BitVec.ofInt 64 127).toInt = ((x.toNat % 128 : Nat) : Int) := by
  have e : BitVec.ofInt 64 (IntKind.i64.wrap (x.toNat : Int)) = x := by
    apply BitVec.eq_of_toNat_eq
    rw [BitVec.toNat_ofInt, IntKind.wrap_i64]
    have := x.isLt
    omega
  have h : (x &&& BitVec.ofInt 64 127).toNat = x.toNat % 128 := by
    rw [BitVec.toNat_and, show (BitVec.ofInt 64 127 : W64).toNat = 2 ^ 7 - 1 by rfl, Nat.and_two_pow_sub_one_eq_mod]
  rw [e, BitVec.toInt_eq_toNat_of_lt (by rw [h]; omega), h]
def s72 : CSpec | [.u 64 v] => some ⟨[], .i .i64 (popN v.getLsbD 64)⟩ | _ => none
theorem ok72 : FnOk Tryd.prog 80 s72 := okBy SL2_ok Tryd.func80 (by kernel_rfl) (by kernel_rfl) 1 <| by
  intro xs r hs
  unfold s72 at hs; split at hs <;> cases hs
  rename_i v
  intro hp _
  have e : (evFn T SL2 noL 1 Tryd.f80 [.u 64 v]).run = some (.i .i64 (BitVec.ofInt 64 (IntKind.i64.wrap ((popV v).toNat : Int)) &&& BitVec.ofInt 64 127).toInt) := by kernel_rfl
  rw [e, and127, popV_eq]
noncomputable abbrev SM1 : FuncId → CSpec := withS SL2 80 s72
theorem SM1_ok : ∀ f, FnOk Tryd.prog f (SM1 f) := withS_ok SL2_ok ok72
theorem ok55 : FnOk Tryd.prog 58 s72 := okBy SM1_ok Tryd.func58 (by kernel_rfl) (by kernel_rfl) 1 <| by
  intro xs r hs
  unfold s72 at hs; split at hs <;> cases hs
  rename_i v
  intro hp _
  kernel_rfl
/- alike -/
def s36 : CSpec | [.u 64 v, .i .i64 z] => some ⟨[isSize z], .b (alike v z.toNat)⟩ | _ => none
def edge36 (v : W64) (n i : Nat) : Bool := decide (i < n) && (v.getLsbD i != v.getLsbD ((i + 1) % 64))
def q36 : St → Tr (Ex × St)
  | ⟨[(0, .u 64 v), (1, .i .i64 z), (4, .b false), (5, .i .i64 e), (6, .i .i64 i)], [], [], _⟩ => .need (isSize z) (.need (e == 0) (.need (i == 0) (.ite (per v z.toNat)
      (.leaf (.exit 0, ⟨[(0, .u 64 v), (1, .i .i64 z), (4, .b false), (5, .i .i64 (edgesN v z.toNat)), (6, .i .i64 64)], [], [], 0⟩))
      (.leaf (.ret, ⟨[(4, .b false)], [], [], 0⟩)))))
  | _ => .fail
def L36 : Nat → Live := fun _ => ⟨[0, 1, 4, 5, 6], [], [], some q36⟩
def x36 (v : W64) (i : Int) : W64 := v >>> (BitVec.ofInt 64 i).toNat % 2#64
theorem x36_nat (v : W64) (i : Nat) (h : i < 2 ^ 62) : x36 v (i : Int) = bitB (v.getLsbD i) := by
  rw [x36, ofInt_nat i h, bit_eq]
theorem bitB_ne (a b : Bool) : (bitB a != bitB b) = (a != b) := by cases a <;> cases b <;> rfl
theorem per_false {v : W64} {n : Nat} (h : per v n = false) : ∃ k, k < 64 ∧ (v.getLsbD k == v.getLsbD ((k + n) % 64)) = false ∧ ∀ i, i < k → v.getLsbD i = v.getLsbD ((i + n) % 64) := by
  cases hf : first (fun i => !(v.getLsbD i == v.getLsbD ((i + n) % 64))) 64 with
  | none =>
    have := first_none.1 hf
    have hp : per v n = true := per_iff.2 fun i hi => by simpa using this i hi
    rw [hp] at h; cases h
  | some k =>
    obtain ⟨h1, h2, h3⟩ := first_some hf
    exact ⟨k, h1, by simpa using h2, fun i hi => by simpa using h3 i hi⟩
theorem Tr.of_need {α : Type} {c : Bool} {t : Tr α} {x : α} (h : (Tr.need c t).run = some x) : c = true ∧ t.run = some x := by
  cases c with
  | true => exact ⟨rfl, h⟩
  | false => cases h
theorem Tr.of_need2 {α : Type} {c d : Bool} {t : Tr α} {x : α} (h : (Tr.need c (.need d t)).run = some x) : c = true ∧ d = true ∧ t.run = some x :=
  have h1 := Tr.of_need h
  ⟨h1.1, Tr.of_need h1.2⟩
theorem Tr.of_need3 {α : Type} {c d e : Bool} {t : Tr α} {x : α} (h : (Tr.need c (.need d (.need e t))).run = some x) : c = true ∧ d = true ∧ e = true ∧ t.run = some x :=
  have h1 := Tr.of_need2 h
  ⟨h1.1, h1.2.1, Tr.of_need h1.2.2⟩
theorem Tr.of_ite {α : Type} {c : Bool} {t e : Tr α} {x : α} (h : (Tr.ite c t e).run = some x) : (c = true ∧ t.run = some x) ∨ (c = false ∧ e.run = some x) := by
  cases c with
  | true => exact .inl ⟨rfl, h⟩
  | false => exact .inr ⟨rfl, h⟩
theorem Tr.of_leaf {α : Type} {a x : α} (h : (Tr.leaf a).run = some x) : a = x := by cases h; rfl
theorem Tr.of_fail {α : Type} {x : α} (h : (Tr.fail : Tr α).run = some x) : False := by cases h
def nd3 {α : Type} (c : Bool) (x : Option α) : Option α := if (if c = true then true else true) = true then if (if c = true then true else true) = true then if (if c = true then true else true) = true then x else none else none else none
theorem nd3_eq {α : Type} (c : Bool) (x : Option α) : nd3 c x = x := by cases c <;> rfl
def st36 (v : W64) (z e i : Int) : St := ⟨[(0, .u 64 v), (1, .i .i64 z), (4, .b false), (5, .i .i64 e), (6, .i .i64 i)], [], [], 0⟩
theorem loop36 (N : Nat) : LoopOk T SM1 L36 47 N (loopOf Tryd.f67 0) := LoopOk.sub rfl <| by
  intro τ e st hcut hr
  unfold q36 at hr
  split at hr
  case h_2 => exact (Tr.of_fail hr).elim
  rename_i v z e0 i c
  obtain rfl : c = 0 := hcut
  obtain ⟨hz, hr⟩ := Tr.of_need hr
  obtain ⟨he0, hr⟩ := Tr.of_need hr
  obtain ⟨hi0, hr⟩ := Tr.of_need hr
  obtain rfl : e0 = 0 := by simpa using he0
  obtain rfl : i = 0 := by simpa using hi0
  obtain ⟨n, rfl, hn⟩ := isSize_sz.1 hz
  have hn64 : n ≤ 64 := by rcases hn with rfl | rfl | rfl | rfl | rfl | rfl <;> omega
  simp only [Int.toNat_natCast] at hr
  have step : ∀ (z e i : Int), (atHead (evCode T SM1 L36 47 N (loopOf Tryd.f67 0)) (L36 (firstR (loopOf Tryd.f67 0))) (st36 v z e i)).run =
      if decide (i < 64) = true then
        if (x36 v i != x36 v ((IntKind.i64.wrap (i + z)).tmod 64)) = true then some (.ret, st36 v z e i)
        else nd3 (decide (i < z)) (some (.normal, st36 v z (if (if decide (i < z) = true then x36 v i != x36 v ((IntKind.i64.wrap (i + 1)).tmod 64) else false) = true then IntKind.i64.wrap (e + 1) else e) (IntKind.i64.wrap (i + 1))))
      else some (.exit 0, st36 v z e i) := by
    intro z e i
    kernel_rfl
  have hx : ∀ i k : Nat, i ≤ 64 → k ≤ 64 → x36 v ((IntKind.i64.wrap ((i : Int) + (k : Int))).tmod 64) = bitB (v.getLsbD ((i + k) % 64)) := by
    intro i k hi hk
    rw [wrap_small _ (by omega) (by omega), ← x36_nat v ((i + k) % 64) (by omega)]; rfl
  have round : ∀ j : Nat, j < 64 → v.getLsbD j = v.getLsbD ((j + n) % 64) → (atHead (evCode T SM1 L36 47 N (loopOf Tryd.f67 0)) (L36 (firstR (loopOf Tryd.f67 0))) (st36 v n (popN (edge36 v n) j : Nat) (j : Nat))).run = some (.normal, st36 v n (popN (edge36 v n) (j + 1) : Nat) ((j + 1 : Nat) : Int)) := by
    intro j hj he
    have hle := popN_le (edge36 v n) j
    rw [step, if_pos (by simp; omega), hx j n (by omega) hn64, x36_nat v j (by omega), bitB_ne, he, bne_self_eq_false, if_neg (by simp), nd3_eq, wrap_succ j (by omega)]
    have h1 := hx j 1 (by omega) (by omega)
    rw [show ((1 : Nat) : Int) = 1 by rfl, wrap_succ j (by omega)] at h1
    rw [h1, bitB_ne, ← he, popN]
    have hc : (if decide ((j : Int) < (n : Int)) = true then v.getLsbD j != v.getLsbD ((j + 1) % 64) else false) = edge36 v n j := by
      unfold edge36
      by_cases h : j < n
      · have h' : (j : Int) < n := by omega
        simp [h, h']
      · have h' : ¬ (j : Int) < n := by omega
        simp [h, h']
    rw [hc]
    cases edge36 v n j with
    | true => rw [if_pos rfl, wrap_succ _ (by omega)]; rfl
    | false => rw [if_neg (by simp)]; rfl
  rcases Tr.of_ite hr with ⟨hp, hr⟩ | ⟨hp, hr⟩
  · cases Tr.of_leaf hr
    refine ⟨64 + 1, st36 v n (popN (edge36 v n) 64 : Nat) (64 : Nat), iter_for (fun j => st36 v n (popN (edge36 v n) j : Nat) (j : Nat)) 64 (fun j hj => round j hj (per_iff.1 hp j hj)) (e := .exit 0) (by rw [step, if_neg (by decide)]) (by simp), ?_, rfl, rfl⟩
    have : popN (edge36 v n) 64 = edgesN v n := by
      have := popN_above (f := edge36 v n) (n := n) (d := 64 - n) (fun j hj => by simp [edge36]; omega)
      rw [show n + (64 - n) = 64 by omega] at this
      rw [this]
      exact popN_congr fun j hj => by simp [edge36, hj]
    rw [this]
    exact fun _ _ h => h
  · cases Tr.of_leaf hr
    obtain ⟨k, hk, hk1, hk2⟩ := per_false hp
    refine ⟨k + 1, st36 v n (popN (edge36 v n) k : Nat) (k : Nat), iter_for (fun j => st36 v n (popN (edge36 v n) j : Nat) (j : Nat)) k (fun j hj => round j (by omega) (hk2 j hj)) (e := .ret) (by
      rw [step, if_pos (by simp; omega), hx k n (by omega) hn64, x36_nat v k (by omega), bitB_ne, if_pos (by rw [bne, hk1]; rfl)]) (by simp), ?_, rfl, rfl⟩
    intro t v h
    simp only [Ev.look] at h
    split at h
    · rename_i h4
      obtain rfl : 4 = t := by simpa using h4
      exact h
    · cases h
theorem ok36 : FnOk Tryd.prog 67 s36 := FnOk.of tyOk SM1_ok mixed Tryd.func67 (by kernel_rfl) (by kernel_rfl) <| by
  intro xs r hs
  unfold s36 at hs; split at hs <;> cases hs
  rename_i v z
  intro hp _ _ _ _
  have hp : isSize z = true := by simpa using hp
  refine ⟨1, FnLoops.one (by kernel_rfl) (loop36 1), ?_⟩
  have e : (evFn T SM1 L36 1 Tryd.f67 [.u 64 v, .i .i64 z]).run = if isSize z = true then if per v z.toNat = true then some (.b ((edgesN v z.toNat : Int) == 2)) else some (.b false) else none := by kernel_rfl
  rw [e, if_pos hp]
  cases h : per v z.toNat with
  | false => simp [alike, h]
  | true =>
    simp only [alike, h, Bool.true_and, if_true, Option.some.injEq, AV.b.injEq]
    rw [Bool.eq_iff_iff, beq_iff_eq, beq_iff_eq]; omega
noncomputable abbrev SM2 : FuncId → CSpec := withS (withS SM1 58 s72) 67 s36
theorem SM2_ok : ∀ f, FnOk Tryd.prog f (SM2 f) := withS_ok (withS_ok SM1_ok ok55) ok36
/- the codes -/
def codeC (z o t : Int) : W32 := if (z == 64) = true then BitVec.ofInt 32 4096 ||| BitVec.ofInt 32 t <<< 6 ||| BitVec.ofInt 32 (IntKind.i64.wrap (o - 1))
  else BitVec.ofInt 32 t <<< 6 ||| (BitVec.ofInt 32 (IntKind.i64.wrap (o - 1)) ||| ~~~BitVec.ofInt 32 (IntKind.i64.wrap (IntKind.i64.wrap (2 * z) - 1)) &&& BitVec.ofInt 32 63)
def i64w : Int → Int := IntKind.i64.wrap
def codeR (z o t : Int) : W32 := BitVec.ofInt 32 (i64w (i64w (i64w (i64w ((if z == 64 then 4096 else 0) + i64w (64 * t)) + i64w ((i64w (i64w (64 - i64w (2 * z)) + 64)).tmod 64 * i64w (1 - i64w (z.tdiv 64)))) + o) - 1))
def codeOk (n o t : Nat) : Bool := (codeC n o t == codeR n o t) && (decide ((codeC n o t).toNat ≤ 8191) && decide (tripC (codeC n o t) = some ((n : Int), (o : Int), (t : Int))))
def codesOk (n : Nat) : Bool := (List.range n).all fun o => o == 0 || (List.range n).all fun t => codeOk n o t
theorem codes_all : (codesOk 2 && codesOk 4 && codesOk 8 && codesOk 16 && codesOk 32 && codesOk 64) = true := by decide +kernel
theorem code_ok {n o t : Nat} (hn : isSz n) (h1 : 1 ≤ o) (h2 : o < n) (h3 : t < n) : codeC n o t = codeR n o t ∧ (codeC n o t).toNat ≤ 8191 ∧ tripC (codeC n o t) = some ((n : Int), (o : Int), (t : Int)) := by
  have hc : codesOk n = true := by
    have := codes_all
    simp only [Bool.and_eq_true] at this
    obtain ⟨⟨⟨⟨⟨a, b⟩, c⟩, d⟩, e⟩, f⟩ := this
    rcases hn with rfl | rfl | rfl | rfl | rfl | rfl
    · exact a
    · exact b
    · exact c
    · exact d
    · exact e
    · exact f
  rw [codesOk, List.all_eq_true] at hc
  have hc := hc o (List.mem_range.2 h2)
  rw [Bool.or_eq_true, beq_iff_eq] at hc
  rcases hc with h | h
  · omega
  · rw [List.all_eq_true] at h
    have := h t (List.mem_range.2 h3)
    rw [codeOk, Bool.and_eq_true, Bool.and_eq_true, beq_iff_eq, decide_eq_true_eq, decide_eq_true_eq] at this
    exact this
/- the size -/
def lowW (h : Nat) : W64 := BitVec.allOnes 64 >>> (64 - h)
theorem lowW_get {h : Nat} (hh : h ≤ 64) (j : Nat) : (lowW h).getLsbD j = decide (j < h) := by
  rw [lowW, BitVec.getLsbD_ushiftRight, BitVec.getLsbD_allOnes, decide_eq_decide]; omega
def chk (v : W64) (h : Nat) (res : Int) : List Nat → Option AV → Option AV
  | [], k => k
  | a :: l, k => if (v >>> a &&& lowW h != v &&& lowW h) = true then some (.i .i64 res) else chk v h res l k
def mults (h : Nat) : List Nat := (List.range (64 / h - 1)).map fun q => (q + 1) * h
theorem chk_eq {v : W64} {h : Nat} {res : Int} {k : Option AV} : ∀ {l : List Nat}, chk v h res l k = if (l.all fun a => v >>> a &&& lowW h == v &&& lowW h) = true then k else some (.i .i64 res)
  | [] => rfl
  | a :: l => by
    rw [chk, chk_eq (l := l), List.all_cons, bne]
    cases v >>> a &&& lowW h == v &&& lowW h <;> simp
theorem test_iff {v : W64} {h a : Nat} (hh : h ≤ 64) : (v >>> a &&& lowW h == v &&& lowW h) = true ↔ ∀ j, j < h → v.getLsbD (a + j) = v.getLsbD j := by
  rw [beq_iff_eq]
  constructor
  · intro e j hj
    have := congrArg (fun x => x.getLsbD j) e
    simp only [BitVec.getLsbD_and, BitVec.getLsbD_ushiftRight, lowW_get hh, hj, decide_true, Bool.and_true] at this
    exact this
  · intro e
    apply BitVec.eq_of_getLsbD_eq
    intro j _
    rw [BitVec.getLsbD_and, BitVec.getLsbD_and, BitVec.getLsbD_ushiftRight, lowW_get hh]
    by_cases hj : j < h
    · rw [e j hj]
    · simp [hj]
theorem mults_per {v : W64} {h : Nat} (hh : isSz h) : ((mults h).all fun a => v >>> a &&& lowW h == v &&& lowW h) = per v h := by
  have h0 : 0 < h ∧ h ≤ 64 := by rcases hh with rfl | rfl | rfl | rfl | rfl | rfl <;> omega
  have hd : 64 / h * h = 64 := by rcases hh with rfl | rfl | rfl | rfl | rfl | rfl <;> rfl
  have hq : 0 < 64 / h := by rcases hh with rfl | rfl | rfl | rfl | rfl | rfl <;> decide
  rw [Bool.eq_iff_iff, List.all_eq_true, per_cyc hh]
  simp only [mults, List.mem_map, List.mem_range, forall_exists_index, and_imp, forall_apply_eq_imp_iff₂, test_iff h0.2]
  constructor
  · intro H i hi
    rw [cyc]
    have e := Nat.div_add_mod i h
    have hm : i % h < h := Nat.mod_lt _ h0.1
    rw [Nat.mul_comm] at e
    match hk : i / h, e with
    | 0, e => rw [show i % h = i by omega]
    | q + 1, e =>
      have hlt : q + 1 < 64 / h := by
        have hk2 : i / h = q + 1 := hk
        rw [← hk2]; exact (Nat.div_lt_iff_lt_mul h0.1).2 (by omega)
      have := H q (by omega) (i % h) hm
      rw [e] at this; exact this
  · intro H q hq2 j hj
    have h3 : (q + 2) * h ≤ 64 := by rw [← hd]; exact Nat.mul_le_mul (by omega) (Nat.le_refl h)
    have h4 : (q + 2) * h = (q + 1) * h + h := by rw [show q + 2 = (q + 1) + 1 by omega, Nat.add_mul (n := q + 1), Nat.one_mul]
    rw [H _ (by omega), H j (by omega), cyc, cyc, Nat.add_comm, Nat.add_mul_mod_self_right]
def s65 : CSpec | [.u 64 v] => some ⟨[], .i .i64 (sizeV v)⟩ | _ => none
def L65b : Nat → Live := fun _ => ⟨[0, 2, 3, 4, 5], [], [], none⟩
theorem run65 (v : W64) : (evFn T SM2 L65b 34 Tryd.f56 [.u 64 v]).run = chk v 32 64 (mults 32) (chk v 16 32 (mults 16) (chk v 8 16 (mults 8) (chk v 4 8 (mults 4) (chk v 2 4 (mults 2) (some (.i .i64 2)))))) := by kernel_rfl
theorem ok65 : FnOk Tryd.prog 56 s65 := FnOk.of (L := L65b) tyOk SM2_ok mixed Tryd.func56 (by kernel_rfl) (by kernel_rfl) <| by
  intro xs r hs
  unfold s65 at hs; split at hs <;> cases hs
  rename_i v
  intro hp _ _ _ _
  refine ⟨34, FnLoops.no (by kernel_rfl), ?_⟩
  have s2 : isSz 2 := .inl rfl
  have s4 : isSz 4 := .inr (.inl rfl)
  have s8 : isSz 8 := .inr (.inr (.inl rfl))
  have s16 : isSz 16 := .inr (.inr (.inr (.inl rfl)))
  have s32 : isSz 32 := .inr (.inr (.inr (.inr (.inl rfl))))
  rw [run65, chk_eq, chk_eq, chk_eq, chk_eq, chk_eq, mults_per s2, mults_per s4, mults_per s8, mults_per s16, mults_per s32]
  unfold sizeV
  cases per v 32 <;> cases per v 16 <;> cases per v 8 <;> cases per v 4 <;> cases per v 2 <;> rfl
noncomputable abbrev SM3 : FuncId → CSpec := withS SM2 56 s65
theorem SM3_ok : ∀ f, FnOk Tryd.prog f (SM3 f) := withS_ok SM2_ok ok65
/- which code a word has -/
def fnd (z o : Int) (v : W64) : Option Nat := first (fun t => turned z o (t : Int) == v) z.toNat
def hasT (z o : Int) (v : W64) : Bool := (fnd z o v).isSome
def theT (z o : Int) (v : W64) : Int := ((fnd z o v).getD 0 : Nat)
theorem isSize_of {n : Nat} (hn : isSz n) : isSize (n : Int) = true := isSize_sz.2 ⟨n, rfl, hn⟩
theorem okT_of {n o t : Nat} (hn : isSz n) (h1 : 1 ≤ o) (h2 : o < n) (h3 : t < n) : okT (n : Int) (o : Int) (t : Int) = true := by
  simp only [okT, isSize_of hn, Bool.true_and, Bool.and_eq_true, decide_eq_true_eq]
  omega
theorem fnd_some {n o t : Nat} {v : W64} (hv : v ≠ 0#64) (hn : isSz n) (h : fnd n o v = some t) : 1 ≤ o ∧ o < n ∧ t < n ∧ turnedN n o t = v ∧ turned n o t = v := by
  obtain ⟨h1, h2, h3⟩ := first_some h
  simp only [Int.toNat_natCast] at h1
  have h2 : turned n o t = v := by simpa using h2
  have hk : okT (n : Int) (o : Int) (t : Int) = true := by
    cases hk : okT (n : Int) (o : Int) (t : Int) with
    | true => rfl
    | false => rw [turned, hk] at h2; exact absurd h2.symm hv
  have h4 := h2
  rw [turned, hk] at h4
  simp only [cond_true, Int.toNat_natCast] at h4
  simp only [okT, isSize_of hn, Bool.true_and, Bool.and_eq_true, decide_eq_true_eq] at hk
  exact ⟨by omega, by omega, h1, h4, h2⟩
theorem hasT_eq {v : W64} (hv : v ≠ 0#64) : hasT (sizeV v) (popN v.getLsbD (sizeV v)) v = alike v (sizeV v) := by
  have hn := (sizeV_spec v).1
  rw [Bool.eq_iff_iff]
  constructor
  · intro h
    obtain ⟨t, ht⟩ := Option.isSome_iff_exists.1 h
    obtain ⟨h1, h2, h3, h4, h5⟩ := fnd_some hv hn ht
    have h6 := turned_alike (t := t) hn h1 h2
    rwa [h4] at h6
  · intro h
    obtain ⟨t, h1, h2, h3, h4⟩ := alike_turned h
    unfold hasT
    cases hf : fnd (sizeV v) (popN v.getLsbD (sizeV v)) v with
    | some _ => rfl
    | none =>
      have := first_none.1 hf t (by simpa using h1)
      rw [turned, okT_of hn h2 h3 h1] at this
      simp only [cond_true, Int.toNat_natCast, h4, beq_self_eq_true] at this
      cases this
def enc2 (v : W64) : Bool := alike v (sizeV v)
def encT (v : W64) : Int := theT (sizeV v) (popN v.getLsbD (sizeV v)) v
def enc1 (v : W64) : W32 := if enc2 v = true then codeC (sizeV v) (popN v.getLsbD (sizeV v)) (encT v) else 0#32
theorem enc2_ne {v : W64} (h : enc2 v = true) : v ≠ 0#64 := by
  intro e
  have := const_edges (sizeV_spec v).1 (.inl e)
  rw [enc2, this] at h; cases h
theorem enc_spec {v : W64} (h : enc2 v = true) : ∃ n o t : Nat, isSz n ∧ 1 ≤ o ∧ o < n ∧ t < n ∧ sizeV v = n ∧ popN v.getLsbD (sizeV v) = o ∧ encT v = t ∧ turned n o t = v := by
  have hv := enc2_ne h
  have hn := (sizeV_spec v).1
  have := hasT_eq hv
  rw [show alike v (sizeV v) = true from h] at this
  obtain ⟨t, ht⟩ := Option.isSome_iff_exists.1 this
  obtain ⟨h1, h2, h3, h4, h5⟩ := fnd_some hv hn ht
  exact ⟨_, _, t, hn, h1, h2, h3, rfl, rfl, by rw [encT, theT, ht]; rfl, h5⟩
theorem enc_dec {v : W64} (h : enc2 v = true) : dec1 (enc1 v) = v ∧ dec2 (enc1 v) = true := by
  obtain ⟨n, o, t, hn, h1, h2, h3, e1, e2, e3, e4⟩ := enc_spec h
  obtain ⟨c1, c2, c3⟩ := code_ok hn h1 h2 h3
  have e : enc1 v = codeC n o t := by rw [enc1, if_pos h, e2, e3, e1]
  have : decide (8191 < (codeC n o t).toNat) = false := by simpa using c2
  rw [e, dec1, dec2, this, c3]
  exact ⟨e4, rfl⟩
def s34 : CSpec | [.u 64 v] => some ⟨[], .tup [.u 32 (enc1 v), .b (enc2 v)]⟩ | _ => none
/- the code's -/
def st34 (v : W64) (a : W32) (b : Bool) (z o y t : Int) : St := ⟨[(0, .u 64 v), (2, .u 32 a), (3, .b b), (4, .i .i64 z), (6, .i .i64 o), (23, .i .i64 y), (24, .i .i64 t)], [], [], 0⟩
def q34 : St → Tr (Ex × St)
  | ⟨[(0, .u 64 v), (2, .u 32 a), (3, .b b), (4, .i .i64 z), (6, .i .i64 o), (23, .i .i64 y), (24, .i .i64 t)], [], [], _⟩ => .need (y == z) (.need (t == 0) (.need (isSize z) (.ite (hasT z o v)
      (.leaf (.ret, st34 v (codeC z o (theT z o v)) true z o z (theT z o v)))
      (.leaf (.exit 0, st34 v a b z o z z)))))
  | _ => .fail
def L34c : Nat → Live := fun _ => ⟨[0, 2, 3, 4, 6, 23, 24], [], [], some q34⟩
theorem loop34 (N : Nat) : LoopOk T SM3 L34c 59 N (loopOf Tryd.f29 0) := LoopOk.sub rfl <| by
  intro τ e st hcut hr
  unfold q34 at hr
  split at hr
  case h_2 => exact (Tr.of_fail hr).elim
  rename_i v a b z o y t c
  obtain rfl : c = 0 := hcut
  replace hr := Tr.of_need3 hr
  obtain ⟨hy, ht, hz, hr⟩ := hr
  obtain rfl : y = z := by simpa using hy
  obtain rfl : t = 0 := by simpa using ht
  obtain ⟨n, rfl, hn⟩ := isSize_sz.1 hz
  have hn64 : n ≤ 64 := by rcases hn with rfl | rfl | rfl | rfl | rfl | rfl <;> omega
  have step : ∀ (z t : Int), (atHead (evCode T SM3 L34c 59 N (loopOf Tryd.f29 0)) (L34c (firstR (loopOf Tryd.f29 0))) (st34 v a b z o z t)).run =
      if decide (t < z) = true then
        if (turned z o t != v) = true then some (.normal, st34 v a b z o z (IntKind.i64.wrap (t + 1)))
        else if (z == 64) = true then some (.ret, st34 v (BitVec.ofInt 32 4096 ||| BitVec.ofInt 32 t <<< 6 ||| BitVec.ofInt 32 (IntKind.i64.wrap (o - 1))) true z o z t)
        else some (.ret, st34 v (BitVec.ofInt 32 t <<< 6 ||| (BitVec.ofInt 32 (IntKind.i64.wrap (o - 1)) ||| ~~~BitVec.ofInt 32 (IntKind.i64.wrap (IntKind.i64.wrap (2 * z) - 1)) &&& BitVec.ofInt 32 63)) true z o z t)
      else some (.exit 0, st34 v a b z o z t) := by
    intro z t
    kernel_rfl
  have round : ∀ j : Nat, j < n → (turned n o j == v) = false → (atHead (evCode T SM3 L34c 59 N (loopOf Tryd.f29 0)) (L34c (firstR (loopOf Tryd.f29 0))) (st34 v a b n o n j)).run = some (.normal, st34 v a b n o n ((j + 1 : Nat) : Int)) := by
    intro j hj he
    rw [step, if_pos (by simp; omega), if_pos (by rw [bne, he]; rfl), wrap_succ j (by omega)]
  rcases Tr.of_ite hr with ⟨hp, hr⟩ | ⟨hp, hr⟩
  · cases Tr.of_leaf hr
    obtain ⟨k, hk⟩ := Option.isSome_iff_exists.1 hp
    obtain ⟨h1, h2, h3⟩ := first_some hk
    simp only [Int.toNat_natCast] at h1
    have ek : theT n o v = (k : Int) := by rw [theT, hk]; rfl
    rw [ek]
    refine ⟨k + 1, st34 v (codeC n o k) true n o n k, iter_for (fun j => st34 v a b n o n (j : Nat)) k (fun j hj => round j (by omega) (h3 j hj)) (e := .ret) ?_ (by simp), fun _ _ h => h, rfl, rfl⟩
    rw [step, if_pos (by simp; omega), if_neg (by rw [bne, h2]; simp)]
    unfold codeC
    split <;> rfl
  · cases Tr.of_leaf hr
    have h1 : ∀ j, j < n → (turned n o j == v) = false := by
      cases hf : fnd n o v with
      | some k => rw [hasT, hf] at hp; cases hp
      | none => exact fun j hj => first_none.1 hf j (by simpa using hj)
    exact ⟨n + 1, st34 v a b n o n n, iter_for (fun j => st34 v a b n o n (j : Nat)) n (fun j hj => round j hj (h1 j hj)) (e := .exit 0) (by rw [step, if_neg (by simp)]) (by simp), fun _ _ h => h, rfl, rfl⟩
theorem low_and (v : W64) {n : Nat} (hn : n ≤ 64) : popN (v &&& (BitVec.allOnes 64 >>> (64 - n))).getLsbD 64 = popN v.getLsbD n := by
  have e := popN_above (f := (v &&& (BitVec.allOnes 64 >>> (64 - n))).getLsbD) (n := n) (d := 64 - n) (fun j hj => by
    rw [← low_eq_and v hn, low_get v hn]; simp; omega)
  rw [show n + (64 - n) = 64 by omega] at e
  rw [e]
  exact popN_congr fun j hj => by rw [← low_eq_and v hn, low_get v hn]; simp [hj]
theorem ok34 : FnOk Tryd.prog 29 s34 := FnOk.of tyOk SM3_ok mixed Tryd.func29 (by kernel_rfl) (by kernel_rfl) <| by
  intro xs r hs
  unfold s34 at hs; split at hs <;> cases hs
  rename_i v
  intro hp _ _ _ _
  refine ⟨1, FnLoops.one (by kernel_rfl) (loop34 1), ?_⟩
  have e : (evFn T SM3 L34c 1 Tryd.f29 [.u 64 v]).run = if (if (v == 0#64) = true then true else v == BitVec.allOnes 64) = true then some (.tup [.u 32 0#32, .b false]) else
      if decide (0 ≤ IntKind.i64.wrap (64 - (sizeV v : Int))) = true then if ((sizeV v : Int) == (sizeV v : Int)) = true then if isSize (sizeV v) = true then
        if hasT (sizeV v) (popN (v &&& (BitVec.allOnes 64 >>> (IntKind.i64.wrap (64 - (sizeV v : Int))).toNat)).getLsbD 64 : Nat) v = true then
          some (.tup [.u 32 (codeC (sizeV v) (popN (v &&& (BitVec.allOnes 64 >>> (IntKind.i64.wrap (64 - (sizeV v : Int))).toNat)).getLsbD 64 : Nat) (theT (sizeV v) (popN (v &&& (BitVec.allOnes 64 >>> (IntKind.i64.wrap (64 - (sizeV v : Int))).toNat)).getLsbD 64 : Nat) v)), .b true])
        else some (.tup [.u 32 0#32, .b false]) else none else none else none := by
    kernel_rfl
  have hn := (sizeV_spec v).1
  have hn64 : sizeV v ≤ 64 := by rcases hn with h | h | h | h | h | h <;> omega
  rw [e, isSize_of hn, wrap_small _ (by omega) (by omega), show (64 - (sizeV v : Int)).toNat = 64 - sizeV v by omega, low_and v hn64, show decide (0 ≤ 64 - (sizeV v : Int)) = true by (rw [decide_eq_true_eq]; omega), beq_self_eq_true]
  simp only [if_true]
  show _ = some (AV.tup [AV.u 32 (enc1 v), AV.b (enc2 v)])
  by_cases hc : v = 0#64 ∨ v = BitVec.allOnes 64
  · have h2 : enc2 v = false := const_edges hn hc
    rw [if_pos (by rcases hc with h | h <;> rw [h] <;> rfl), enc1, h2]; rfl
  · have h1 : (v == 0#64) = false := by rw [beq_eq_false_iff_ne]; exact fun h => hc (.inl h)
    have h2 : (v == BitVec.allOnes 64) = false := by rw [beq_eq_false_iff_ne]; exact fun h => hc (.inr h)
    rw [h1, h2, hasT_eq (fun h => hc (.inl h)), show alike v (sizeV v) = enc2 v by rfl, enc1, encT]
    cases enc2 v <;> rfl
/- the reference's -/
def st47a (v : W64) (a : W32) (b : Bool) (s n : Nat) (g : Nat → List AV) (e f : Int) (z o i : Int) : St := ⟨[(0, .u 64 v), (2, .u 32 a), (3, .b b), (5, .i .i64 z), (6, .i .i64 o), (7, .i .i64 i), (9, .ro s n g), (10, .i .i64 e), (11, .i .i64 f)], [], [], 0⟩
def st47b (v : W64) (a : W32) (b : Bool) (s n : Nat) (g : Nat → List AV) (e f : Int) (z o t : Int) : St := ⟨[(0, .u 64 v), (2, .u 32 a), (3, .b b), (5, .i .i64 z), (6, .i .i64 o), (8, .i .i64 t), (9, .ro s n g), (10, .i .i64 e), (11, .i .i64 f)], [], [], 0⟩
def q47a : St → Tr (Ex × St)
  | ⟨[(0, .u 64 v), (2, .u 32 a), (3, .b b), (5, .i .i64 z), (6, .i .i64 o), (7, .i .i64 i), (9, .ro s n g), (10, .i .i64 e), (11, .i .i64 f)], [], [], _⟩ => .need (isSize z) (.need (o == 0) (.need (i == 0)
      (.leaf (.exit 2, st47a v a b s n g e f z (popN v.getLsbD z.toNat) z))))
  | _ => .fail
def q47b : St → Tr (Ex × St)
  | ⟨[(0, .u 64 v), (2, .u 32 a), (3, .b b), (5, .i .i64 z), (6, .i .i64 o), (8, .i .i64 t), (9, .ro s n g), (10, .i .i64 e), (11, .i .i64 f)], [], [], _⟩ => .need (isSize z) (.need (t == 0) (.need (decide (0 ≤ o) && decide (o ≤ 64)) (.ite (hasT z o v)
      (.leaf (.ret, st47b v (codeR z o (theT z o v)) true s n g e f z o (theT z o v)))
      (.leaf (.exit 4, st47b v a b s n g e f z o z)))))
  | _ => .fail
def L47 : Nat → Live := fun r => match r with
  | 2 => ⟨[0, 2, 3, 9, 10, 11], [], [], none⟩
  | 7 => ⟨[0, 2, 3, 5, 6, 7, 9, 10, 11], [], [], some q47a⟩
  | _ => ⟨[0, 2, 3, 5, 6, 8, 9, 10, 11], [], [], some q47b⟩
theorem loop47a (N : Nat) : LoopOk T SM3 L47 66 N (loopOf Tryd.f39 1) := LoopOk.sub (q := q47a) (by kernel_rfl) <| by
  intro τ e st hcut hr
  unfold q47a at hr
  split at hr
  case h_2 => exact (Tr.of_fail hr).elim
  rename_i v a b z o i s n0 g e0 f c
  obtain rfl : c = 0 := hcut
  replace hr := Tr.of_need3 hr
  obtain ⟨hz, ho, hi, hr⟩ := hr
  cases Tr.of_leaf hr
  obtain rfl : o = 0 := by simpa using ho
  obtain rfl : i = 0 := by simpa using hi
  obtain ⟨n, rfl, hn⟩ := isSize_sz.1 hz
  have hn64 : n ≤ 64 := by rcases hn with rfl | rfl | rfl | rfl | rfl | rfl <;> omega
  have step : ∀ (z o i : Int), (atHead (evCode T SM3 L47 66 N (loopOf Tryd.f39 1)) (L47 (firstR (loopOf Tryd.f39 1))) (st47a v a b s n0 g e0 f z o i)).run =
      if decide (i < z) = true then some (.normal, st47a v a b s n0 g e0 f z (IntKind.i64.wrap (o + IntKind.i64.wrap ((x36 v i).toNat : Int))) (IntKind.i64.wrap (i + 1)))
      else some (.exit 2, st47a v a b s n0 g e0 f z o i) := by
    intro z o i
    kernel_rfl
  refine ⟨n + 1, st47a v a b s n0 g e0 f n (popN v.getLsbD n : Nat) (n : Nat), iter_for (fun j => st47a v a b s n0 g e0 f n (popN v.getLsbD j : Nat) (j : Nat)) n ?_ (e := .exit 2) (by rw [step, if_neg (by simp)]) (by simp), fun _ _ h => h, rfl, rfl⟩
  intro j hj
  have hle := popN_le v.getLsbD j
  have hb := Bool.toNat_le (v.getLsbD j)
  rw [step, if_pos (by simp; omega), x36_nat v j (by omega), bitB_toNat, wrap_succ j (by omega), wrap_small ((v.getLsbD j).toNat : Int) (by omega) (by omega), wrap_small _ (by omega) (by omega), popN]
  rfl
def ndN {α : Type} (c : Bool) (x : Option α) : Nat → Option α
  | 0 => x
  | k + 1 => if (if c = true then true else true) = true then ndN c x k else none
theorem ndN_eq {α : Type} (c : Bool) (x : Option α) : ∀ k, ndN c x k = x
  | 0 => rfl
  | k + 1 => by rw [ndN, ndN_eq c x k]; cases c <;> rfl
theorem quo64 {n : Nat} (hn : isSz n) : (n : Int).tdiv 64 = if ((n : Int) == 64) = true then 1 else 0 := by
  rcases hn with rfl | rfl | rfl | rfl | rfl | rfl <;> rfl
theorem loop47b (N : Nat) : LoopOk T SM3 L47 66 N (loopOf Tryd.f39 2) := LoopOk.sub (q := q47b) (by kernel_rfl) <| by
  intro τ e st hcut hr
  unfold q47b at hr
  split at hr
  case h_2 => exact (Tr.of_fail hr).elim
  rename_i v a b z o t s n0 g e0 f c
  obtain rfl : c = 0 := hcut
  replace hr := Tr.of_need3 hr
  obtain ⟨hz, ht, ho, hr⟩ := hr
  obtain rfl : t = 0 := by simpa using ht
  obtain ⟨n, rfl, hn⟩ := isSize_sz.1 hz
  have hn64 : n ≤ 64 := by rcases hn with rfl | rfl | rfl | rfl | rfl | rfl <;> omega
  have step : ∀ (t : Int), (atHead (evCode T SM3 L47 66 N (loopOf Tryd.f39 2)) (L47 (firstR (loopOf Tryd.f39 2))) (st47b v a b s n0 g e0 f n o t)).run =
      if decide (t < (n : Int)) = true then
        ndN (turned n o t == v) (if (turned n o t == v) = true then some (.ret, st47b v (codeR n o t) true s n0 g e0 f n o t)
        else some (.normal, st47b v a b s n0 g e0 f n o (IntKind.i64.wrap (t + 1)))) 5
      else some (.exit 4, st47b v a b s n0 g e0 f n o t) := by
    intro t
    clear hr
    rcases hn with rfl | rfl | rfl | rfl | rfl | rfl <;> (show _ = _; kernel_rfl)
  have round : ∀ j : Nat, j < n → (turned n o j == v) = false → (atHead (evCode T SM3 L47 66 N (loopOf Tryd.f39 2)) (L47 (firstR (loopOf Tryd.f39 2))) (st47b v a b s n0 g e0 f n o j)).run = some (.normal, st47b v a b s n0 g e0 f n o ((j + 1 : Nat) : Int)) := by
    intro j hj he
    rw [step, if_pos (by simp; omega), ndN_eq, if_neg (by rw [he]; simp), wrap_succ j (by omega)]
  rcases Tr.of_ite hr with ⟨hp, hr⟩ | ⟨hp, hr⟩
  · cases Tr.of_leaf hr
    obtain ⟨k, hk⟩ := Option.isSome_iff_exists.1 hp
    obtain ⟨h1, h2, h3⟩ := first_some hk
    simp only [Int.toNat_natCast] at h1
    have ek : theT n o v = (k : Int) := by rw [theT, hk]; rfl
    rw [ek]
    refine ⟨k + 1, st47b v (codeR n o k) true s n0 g e0 f n o k, iter_for (fun j => st47b v a b s n0 g e0 f n o (j : Nat)) k (fun j hj => round j (by omega) (h3 j hj)) (e := .ret) ?_ (by simp), fun _ _ h => h, rfl, rfl⟩
    rw [step, if_pos (by simp; omega), ndN_eq, if_pos h2]
  · cases Tr.of_leaf hr
    have h1 : ∀ j, j < n → (turned n o j == v) = false := by
      cases hf : fnd n o v with
      | some k => rw [hasT, hf] at hp; cases hp
      | none => exact fun j hj => first_none.1 hf j (by simpa using hj)
    exact ⟨n + 1, st47b v a b s n0 g e0 f n o n, iter_for (fun j => st47b v a b s n0 g e0 f n o (j : Nat)) n (fun j hj => round j hj (h1 j hj)) (e := .exit 4) (by rw [step, if_neg (by simp)]) (by simp), fun _ _ h => h, rfl, rfl⟩
/- one size after the other -/
def rnd47 (v : W64) (n : Nat) (k : Option AV) : Option AV := if (!alike v n) = true then k else
  if (decide (0 ≤ ((popN v.getLsbD n : Nat) : Int)) && decide (((popN v.getLsbD n : Nat) : Int) ≤ 64)) = true then
  if hasT n (popN v.getLsbD n : Nat) v = true then some (.tup [.u 32 (codeR n (popN v.getLsbD n : Nat) (theT n (popN v.getLsbD n : Nat) v)), .b true]) else k else none
theorem run47 (v : W64) : (evFn T SM3 L47 7 Tryd.f39 [.u 64 v]).run = rnd47 v 2 (rnd47 v 4 (rnd47 v 8 (rnd47 v 16 (rnd47 v 32 (rnd47 v 64 (some (.tup [.u 32 0#32, .b false])))))))  := by kernel_rfl
theorem rnd47_eq {v : W64} {n : Nat} (hn : isSz n) {x : AV} : rnd47 v n (some x) = some (if (alike v n && hasT n (popN v.getLsbD n : Nat) v) = true then .tup [.u 32 (codeR n (popN v.getLsbD n : Nat) (theT n (popN v.getLsbD n : Nat) v)), .b true] else x) := by
  have hle := popN_le v.getLsbD n
  have hn64 : n ≤ 64 := by rcases hn with rfl | rfl | rfl | rfl | rfl | rfl <;> omega
  unfold rnd47
  rw [show (decide (0 ≤ ((popN v.getLsbD n : Nat) : Int)) && decide (((popN v.getLsbD n : Nat) : Int) ≤ 64)) = true by simp; omega]
  cases alike v n <;> cases hasT n (popN v.getLsbD n : Nat) v <;> rfl
theorem ok47 : FnOk Tryd.prog 39 s34 := FnOk.of (L := L47) tyOk SM3_ok mixed Tryd.func39 (by kernel_rfl) (by kernel_rfl) <| by
  intro xs r hs
  unfold s34 at hs; split at hs <;> cases hs
  rename_i v
  intro hp _ _ _ _
  refine ⟨7, FnLoops.of 3 (by kernel_rfl) (fun j hj => ?_), ?_⟩
  · match j with
    | 0 => exact loopOk_none (by kernel_rfl)
    | 1 => exact loop47a 7
    | 2 => exact loop47b 7
  have s2 : isSz 2 := .inl rfl
  have s4 : isSz 4 := .inr (.inl rfl)
  have s8 : isSz 8 := .inr (.inr (.inl rfl))
  have s16 : isSz 16 := .inr (.inr (.inr (.inl rfl)))
  have s32 : isSz 32 := .inr (.inr (.inr (.inr (.inl rfl))))
  have s64 : isSz 64 := .inr (.inr (.inr (.inr (.inr rfl))))
  rw [run47, rnd47_eq s64, rnd47_eq s32, rnd47_eq s16, rnd47_eq s8, rnd47_eq s4, rnd47_eq s2]
  show _ = some (AV.tup [.u 32 (enc1 v), .b (enc2 v)])
  congr 1
  cases h2 : enc2 v with
  | true =>
    have hv := enc2_ne h2
    have hn := (sizeV_spec v).1
    have ht := hasT_eq hv
    rw [show alike v (sizeV v) = true from h2] at ht
    have hc : codeR (sizeV v) (popN v.getLsbD (sizeV v) : Nat) (theT (sizeV v) (popN v.getLsbD (sizeV v) : Nat) v) = enc1 v := by
      obtain ⟨n, o, t, hn, h1, h2', h3, e1, e2, e3, e4⟩ := enc_spec h2
      have hk := (code_ok hn h1 h2' h3).1
      rw [enc1, if_pos h2, show theT (sizeV v) (popN v.getLsbD (sizeV v) : Nat) v = encT v by rfl, e2, e3, e1, hk]
    have hne : ∀ n, isSz n → n ≠ sizeV v → alike v n = false := fun n hn hne => by
      cases h : alike v n with
      | false => rfl
      | true => exact absurd (alike_size hn h) hne
    have ha : alike v (sizeV v) = true := h2
    generalize sizeV v = m at *
    rcases hn with rfl | rfl | rfl | rfl | rfl | rfl
    · rw [ha, ht, hc]; rfl
    · rw [ha, ht, hc, hne 2 s2 (by decide)]; rfl
    · rw [ha, ht, hc, hne 2 s2 (by decide), hne 4 s4 (by decide)]; rfl
    · rw [ha, ht, hc, hne 2 s2 (by decide), hne 4 s4 (by decide), hne 8 s8 (by decide)]; rfl
    · rw [ha, ht, hc, hne 2 s2 (by decide), hne 4 s4 (by decide), hne 8 s8 (by decide), hne 16 s16 (by decide)]; rfl
    · rw [ha, ht, hc, hne 2 s2 (by decide), hne 4 s4 (by decide), hne 8 s8 (by decide), hne 16 s16 (by decide), hne 32 s32 (by decide)]; rfl
  | false =>
    have hne : ∀ n, isSz n → alike v n = false := fun n hn => by
      cases h : alike v n with
      | false => rfl
      | true => have := alike_size hn h; subst this; rw [enc2, h] at h2; cases h2
    rw [hne 2 s2, hne 4 s4, hne 8 s8, hne 16 s16, hne 32 s32, hne 64 s64, enc1, h2]; rfl
noncomputable abbrev SM4 : FuncId → CSpec := withS (withS (withS (withS (withS SM3 29 s34) 39 s34) 85 s70) 74 s45b) 78 s45b
theorem SM4_ok : ∀ f, FnOk Tryd.prog f (SM4 f) := withS_ok (withS_ok (withS_ok (withS_ok (withS_ok SM3_ok ok34) ok47) ok70) (ok45b ok45)) (ok45b ok46)
theorem has_arg {C : Ctx} {n : Int} {v : Value} (h : VR C (.i .i64 n) v) : IntKind.i64.has n := by
  cases h with
  | i _ h => exact h
theorem has_bounds {n : Int} (h : IntKind.i64.has n) : -9223372036854775808 ≤ n ∧ n ≤ 9223372036854775807 := by
  have := h.1; have := h.2
  simp only [IntKind.min, IntKind.max, IntKind.signed, IntKind.bits] at *
  simp at *; omega
/- the first place where a test fails -/
theorem first_from {p : Nat → Bool} {a b : Nat} : (∀ j, a ≤ j → j < b → p j = true) ∨ ∃ k, a ≤ k ∧ k < b ∧ p k = false ∧ ∀ j, a ≤ j → j < k → p j = true := by
  cases h : first (fun j => decide (a ≤ j) && !p j) b with
  | none =>
    left
    intro j h1 h2
    have := first_none.1 h j h2
    simp [h1] at this; exact this
  | some k =>
    obtain ⟨h1, h2, h3⟩ := first_some h
    simp only [Bool.and_eq_true, decide_eq_true_eq, Bool.not_eq_true'] at h2
    refine .inr ⟨k, h2.1, h1, h2.2, fun j hj hk => ?_⟩
    have := h3 j hk
    simp [hj] at this; exact this
theorem iter_from {g : St → Tr (Ex × St)} (τ : Nat → St) (a n : Nat) (han : a ≤ n) {e : Ex} {st' : St} (hs : ∀ j, a ≤ j → j < n → (g (τ j)).run = some (.normal, τ (j + 1))) (he : (g (τ n)).run = some (e, st')) (hne : e ≠ .normal) : ∃ N, (iter g N (τ a)).run = some (e, st') :=
  ⟨n - a + 1, iter_for (fun j => τ (a + j)) (n - a) (fun j hj => hs (a + j) (by omega) (by omega)) (by rw [show a + (n - a) = n by omega]; exact he) hne⟩
/- does it fit -/
theorem ok51 : FnOk Tryd.prog 65 s51 := okBy SB_ok Tryd.func65 (by kernel_rfl) (by kernel_rfl) 1 <| by
  intro xs r hs
  unfold s51 at hs; split at hs <;> cases hs
  rename_i v n
  intro hp ⟨w, R, vs, hvs⟩
  have hv : IntKind.i64.has v := by cases hvs with | cons h _ => exact has_arg h
  have e : (evFn T SB noL 1 Tryd.f65 [.i .i64 v, .i .i64 n]).run = if (if decide (n < 1) = true then true else decide (64 < n)) = true then some (.b false) else
      if decide (0 ≤ IntKind.i64.wrap (64 - n)) = true then if decide (0 ≤ IntKind.i64.wrap (64 - n)) = true then some (.b (IntKind.i64.wrap (v * 2 ^ (IntKind.i64.wrap (64 - n)).toNat) / 2 ^ (IntKind.i64.wrap (64 - n)).toNat == v)) else none else none := by kernel_rfl
  rw [e]
  show _ = some (AV.b (fits v n))
  by_cases h1 : 1 ≤ n
  · by_cases h2 : n ≤ 64
    · obtain ⟨m, rfl⟩ : ∃ m : Nat, n = m := ⟨n.toNat, by omega⟩
      rw [wrap_small _ (by omega) (by omega), show (64 - (m : Int)).toNat = 64 - m by omega, fits_code hv (by omega) (by omega)]
      have c1 : ¬ (m : Int) < 1 := by omega
      have c2 : ¬ (64 : Int) < m := by omega
      have c3 : (0 : Int) ≤ 64 - m := by omega
      simp [c1, c2, c3, fits, h1, h2]
    · have c1 : ¬ n < 1 := by omega
      have c2 : 64 < n := by omega
      simp [c1, c2, fits, h2]
  · have c1 : n < 1 := by omega
    simp [c1, fits, h1]
def st52 (v n : Int) (b : Bool) (i : Int) : St := ⟨[(0, .i .i64 v), (1, .i .i64 n), (4, .b b), (5, .i .i64 i)], [], [], 0⟩
def q52 : St → Tr (Ex × St)
  | ⟨[(0, .i .i64 v), (1, .i .i64 n), (4, .b b), (5, .i .i64 i)], [], [], _⟩ => .need (decide (1 ≤ n) && decide (n ≤ 64)) (.need (i == n - 1) (.ite (fits v n) (.leaf (.exit 0, st52 v n b 64)) (.leaf (.ret, ⟨[(4, .b false)], [], [], 0⟩))))
  | _ => .fail
def L52 : Nat → Live := fun _ => ⟨[0, 1, 4, 5], [], [], some q52⟩
noncomputable abbrev SG1 : FuncId → CSpec := withS (withS SM3 60 s71) 65 s51
theorem SG1_ok : ∀ f, FnOk Tryd.prog f (SG1 f) := withS_ok (withS_ok SM3_ok ok71) ok51
/- without a sign -/
def fitsU (v : W64) (n : Int) : Bool := decide (1 ≤ n) && (decide (n ≤ 64) && decide ((bitLen v : Int) ≤ n))
theorem bitLen_le {v : W64} {n : Nat} : bitLen v ≤ n ↔ v.toNat < 2 ^ n := by
  unfold bitLen
  split
  · rename_i h; rw [h]; simp [Nat.two_pow_pos]
  · rename_i h; rw [← Nat.log2_lt h]; omega
theorem bitLen_bits {v : W64} {n : Nat} : bitLen v ≤ n ↔ ∀ j, n ≤ j → j < 64 → v.getLsbD j = false := by
  rw [bitLen_le]
  constructor
  · intro h j hj _
    rw [← BitVec.testBit_toNat]
    exact Nat.testBit_lt_two_pow (Nat.lt_of_lt_of_le h (Nat.pow_le_pow_right (by omega) hj))
  · intro h
    refine Nat.lt_pow_two_of_testBit _ fun j hj => ?_
    rw [BitVec.testBit_toNat]
    by_cases h64 : j < 64
    · exact h j hj h64
    · exact BitVec.getLsbD_of_ge v j (by omega)
def s53 : CSpec | [.u 64 v, .i .i64 n] => some ⟨[], .b (fitsU v n)⟩ | _ => none
def st54 (v : W64) (n : Int) (b : Bool) (i : Int) : St := ⟨[(0, .u 64 v), (1, .i .i64 n), (4, .b b), (5, .i .i64 i)], [], [], 0⟩
def end54 (n : Int) : Int := if decide (1 ≤ n) = true then if decide (n < 64) = true then 64 else n else n
def q54 : St → Tr (Ex × St)
  | ⟨[(0, .u 64 v), (1, .i .i64 n), (4, .b b), (5, .i .i64 i)], [], [], _⟩ => .need (i == n) (.ite (if decide (1 ≤ n) = true then (if decide (n < 64) = true then decide ((bitLen v : Int) ≤ n) else true) else true) (.leaf (.exit 0, st54 v n b (end54 n))) (.leaf (.ret, ⟨[(4, .b false)], [], [], 0⟩)))
  | _ => .fail
def L54 : Nat → Live := fun _ => ⟨[0, 1, 4, 5], [], [], some q54⟩
/- how often 2 is doubled -/
def logN (n : Int) : Int := if decide (n < 2) = true then 0 else (bitLen (BitVec.ofInt 64 (n - 1)) : Int)
def s50 : CSpec | [.i .i64 n] => some ⟨[], .i .i64 (logN n)⟩ | _ => none
theorem ok50 : FnOk Tryd.prog 31 s50 := okBy SG1_ok Tryd.func31 (by kernel_rfl) (by kernel_rfl) 1 <| by
  intro xs r hs
  unfold s50 at hs; split at hs <;> cases hs
  rename_i n
  intro hp ⟨w, R, vs, hvs⟩
  have hn : IntKind.i64.has n := by cases hvs with | cons h _ => exact has_arg h
  have hn := has_bounds hn
  have e : (evFn T SG1 noL 1 Tryd.f31 [.i .i64 n]).run = if decide (n < 2) = true then some (.i .i64 0) else some (.i .i64 (bitLen (BitVec.ofInt 64 (IntKind.i64.wrap (n - 1))))) := by kernel_rfl
  rw [e]
  show _ = some (AV.i .i64 (logN n))
  unfold logN
  by_cases h : n < 2
  · simp [h]
  · rw [wrap_small _ (by omega) (by omega)]; simp [h]
def st57 (n k : Int) : St := ⟨[(0, .i .i64 n), (3, .i .i64 k)], [], [], 0⟩
def q57 : St → Tr (Ex × St)
  | ⟨[(0, .i .i64 n), (3, .i .i64 k)], [], [], _⟩ => .need (k == 0) (.need (decide (n ≤ 9223372036854775807)) (.leaf (.exit 0, st57 n (logN n))))
  | _ => .fail
def L57 : Nat → Live := fun _ => ⟨[0, 3], [], [], some q57⟩
theorem shl1 : ∀ j : Fin 63, IntKind.i64.wrap (1 * 2 ^ (BitVec.ofInt 64 (j.val : Int)).toNat) = ((2 ^ j.val : Nat) : Int) := by decide +kernel
/- ones -/
def st56 (v : W64) (o i : Int) : St := ⟨[(0, .u 64 v), (3, .i .i64 o), (4, .i .i64 i)], [], [], 0⟩
def q56b : St → Tr (Ex × St)
  | ⟨[(0, .u 64 v), (3, .i .i64 o), (4, .i .i64 i)], [], [], _⟩ => .need (o == 0) (.need (i == 0) (.leaf (.exit 0, st56 v (popN v.getLsbD 64) 64)))
  | _ => .fail
def L56b : Nat → Live := fun _ => ⟨[0, 3, 4], [], [], some q56b⟩
end Go.Proofs.YtocfkaihfjbfnaaDoor
