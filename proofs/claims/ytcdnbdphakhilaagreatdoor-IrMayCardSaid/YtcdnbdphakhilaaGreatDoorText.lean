/- Lemmas: the texts of steps, by the program and by the reference; both are alike. No condition. -/
import Derived.Test.YtcdnbdphakhilaaGreatDoorMayC
set_option linter.unusedVariables false
set_option linter.unusedSimpArgs false
set_option maxRecDepth 100000
namespace Go.Proofs.YtcdnbdphakhilaaGreatDoor
open Go.Proofs.YtcdnbdphakhilaaGreatDoor.Ev Go.RowKit
/- Numbers' texts, by the reference. -/
def dB (u : BitVec 64) : List UInt8 := Lib.decDigits u.toNat
theorem dB_len (u : BitVec 64) : (dB u).length ≤ 20 := dec_len _ u.isLt
def bnd117 : Nat → Nat
  | 0 => 0
  | d + 1 => 10 ^ (d + 1)
def s117 (d : Nat) : CSpec | [.u 64 u] => some ⟨[decide (u.toNat < bnd117 d)], .str (dB u)⟩ | _ => none
def tenS : List UInt8 := [48, 49, 50, 51, 52, 53, 54, 55, 56, 57]
def digS (u : BitVec 64) : List UInt8 := (tenS.drop (((u % BitVec.ofInt 64 10).toNat : Int)).toNat).take ((((u % BitVec.ofInt 64 10) + BitVec.ofInt 64 1).toNat : Int).toNat - (((u % BitVec.ofInt 64 10).toNat : Int)).toNat)
theorem mod10 (u : BitVec 64) : (u % BitVec.ofInt 64 10).toNat = u.toNat % 10 := by
  rw [BitVec.toNat_umod]; rfl
theorem div10 (u : BitVec 64) : (u / BitVec.ofInt 64 10).toNat = u.toNat / 10 := by
  rw [BitVec.toNat_udiv]; rfl
theorem mod10s (u : BitVec 64) : ((u % BitVec.ofInt 64 10) + BitVec.ofInt 64 1).toNat = u.toNat % 10 + 1 := by
  rw [BitVec.toNat_add, mod10]
  show (u.toNat % 10 + 1) % 18446744073709551616 = _
  omega
theorem digS_eq (u : BitVec 64) : digS u = [UInt8.ofNat (48 + u.toNat % 10)] := by
  unfold digS
  rw [mod10, mod10s, Int.toNat_natCast, Int.toNat_natCast]
  have h := Nat.mod_lt u.toNat (show 0 < 10 by decide)
  generalize u.toNat % 10 = m at h
  rw [show m + 1 - m = 1 by omega]
  have : ∀ m, m < 10 → (tenS.drop m).take 1 = [UInt8.ofNat (48 + m)] := by decide
  exact this m h
theorem dB_eq (u : BitVec 64) : dB u = if decide ((BitVec.ofInt 64 10).toNat ≤ u.toNat) = true then dB (u / BitVec.ofInt 64 10) ++ digS u else digS u := by
  rw [digS_eq]
  unfold dB
  rw [div10]
  conv => lhs; rw [Lib.decDigits]
  have hx : (BitVec.ofInt 64 10 : BitVec 64).toNat = 10 := rfl
  rw [hx]
  by_cases h : u.toNat < 10
  · rw [dif_pos h, if_neg (by simp; omega), Nat.mod_eq_of_lt h]
  · rw [dif_neg h, if_pos (by simp; omega)]
theorem ok117 : ∀ d, FnOk Tryz.prog 117 (s117 d)
  | 0 => okBy noS_ok Tryz.func117 (by kernel_rfl) (by kernel_rfl) 1 <| by
    intro xs r hs
    unfold s117 at hs; split at hs <;> cases hs
    intro hp _
    have := of_decide_eq_true (hp _ (List.mem_cons_self ..))
    exact absurd this (Nat.not_lt_zero _)
  | d + 1 => okBy (S := withS noS 117 (s117 d)) (withS_ok noS_ok (ok117 d)) Tryz.func117 (by kernel_rfl) (by kernel_rfl) 1 <| by
    intro xs r hs
    unfold s117 at hs; split at hs <;> cases hs
    rename_i u
    intro hp _
    have hb : u.toNat < 10 ^ (d + 1) := of_decide_eq_true (hp _ (List.mem_cons_self ..))
    have e : (evFn T (withS noS 117 (s117 d)) noL 1 Tryz.f117 [.u 64 u]).run =
      cnds [decide ((0 : Int) ≤ ((u % BitVec.ofInt 64 10).toNat : Int)), decide (((u % BitVec.ofInt 64 10).toNat : Int) ≤ (((u % BitVec.ofInt 64 10) + BitVec.ofInt 64 1).toNat : Int)), decide ((((u % BitVec.ofInt 64 10) + BitVec.ofInt 64 1).toNat : Int) ≤ (tenS.length : Int)),
        ifB (decide ((BitVec.ofInt 64 10).toNat ≤ u.toNat)) (decide ((dB (u / BitVec.ofInt 64 10)).length + (digS u).length ≤ 9223372036854775807)), ifB (decide ((BitVec.ofInt 64 10).toNat ≤ u.toNat)) (decide ((u / BitVec.ofInt 64 10).toNat < bnd117 d)), ifB (decide ((BitVec.ofInt 64 10).toNat ≤ u.toNat)) (!(BitVec.ofInt 64 10 == 0#64))]
        (if decide ((BitVec.ofInt 64 10).toNat ≤ u.toNat) = true then some (.str (dB (u / BitVec.ofInt 64 10) ++ digS u)) else some (.str (digS u))) := by kernel_rfl
    have hx : (BitVec.ofInt 64 10 : BitVec 64).toNat = 10 := rfl
    rw [e, cnds_of]
    · show _ = some (AV.str (dB u))
      rw [dB_eq u]
      cases decide ((BitVec.ofInt 64 10).toNat ≤ u.toNat) <;> rfl
    · have hl := dB_len (u / BitVec.ofInt 64 10)
      have hc : (!((BitVec.ofInt 64 10 : BitVec 64) == 0#64)) = true := by decide
      rw [hc, ifB_true, hx]
      simp only [List.all_cons, List.all_nil, id, Bool.and_true, Bool.and_eq_true]
      rw [mod10, mod10s]
      have hm := Nat.mod_lt u.toNat (show 0 < 10 by decide)
      refine ⟨decide_eq_true (by omega), decide_eq_true (by omega), decide_eq_true (by show _ ≤ ((10 : Nat) : Int); omega), ?_, ?_⟩
      · unfold ifB
        split
        · rw [digS_eq, decide_eq_true_eq, List.length_singleton]; omega
        · rfl
      · unfold ifB
        split
        · rename_i h
          have h := of_decide_eq_true h
          rw [decide_eq_true_eq, div10]
          cases d with
          | zero => omega
          | succ d =>
            show u.toNat / 10 < 10 ^ (d + 1)
            rw [Nat.div_lt_iff_lt_mul (by decide)]
            rw [Nat.pow_succ] at hb
            exact hb
        · rfl
noncomputable abbrev SD1 : FuncId → CSpec := withS noS 117 (s117 20)
theorem SD1_ok : ∀ f, FnOk Tryz.prog f (SD1 f) := withS_ok noS_ok (ok117 20)
theorem in117 (u : BitVec 64) : decide (u.toNat < bnd117 20) = true := by
  rw [decide_eq_true_eq]
  have := u.isLt
  show u.toNat < 10 ^ 20
  omega
end Go.Proofs.YtcdnbdphakhilaaGreatDoor
set_option maxRecDepth 100000
namespace Go.Proofs.YtcdnbdphakhilaaGreatDoor
open Go.Proofs.YtcdnbdphakhilaaGreatDoor.Ev Go.RowKit
/- Digits, number. -/
def s68 : CSpec | [.i .i64 n] => some ⟨[], .str (itoaS n)⟩ | _ => none
theorem has_of {n : Int} (h : ∃ w R vs, TR (baseC w R) [.i .i64 n] vs) : IntKind.i64.has n := by
  obtain ⟨w, R, vs, h⟩ := h
  cases h with
  | cons hv hl =>
    cases hv with
    | i hk h => exact h
theorem has_rng {n : Int} (h : IntKind.i64.has n) : -9223372036854775808 ≤ n ∧ n ≤ 9223372036854775807 := by
  obtain ⟨h1, h2⟩ := h
  simp [IntKind.min, IntKind.max, IntKind.bits, IntKind.signed] at h1 h2
  exact ⟨h1, h2⟩
theorem ofInt_toNat {n : Int} (h0 : 0 ≤ n) (h1 : n ≤ 18446744073709551615) : (BitVec.ofInt 64 n).toNat = n.toNat := by
  rw [BitVec.toNat_ofInt]
  show (n % 18446744073709551616).toNat = _
  rw [Int.emod_eq_of_lt h0 (by omega)]
theorem ok68 : FnOk Tryz.prog 68 s68 := okBy SD1_ok Tryz.func68 (by kernel_rfl) (by kernel_rfl) 1 <| by
  intro xs r hs
  unfold s68 at hs; split at hs <;> cases hs
  rename_i n
  intro hp hT
  have hh := has_of hT
  obtain ⟨h1, h2⟩ := has_rng hh
  have e : (evFn T SD1 noL 1 Tryz.f68 [.i .i64 n]).run =
    cnds [ifB (decide (n < 0)) (decide ([(45 : UInt8)].length + (dB (BitVec.ofInt 64 (IntKind.i64.wrap (-IntKind.i64.wrap (n + 1))) + BitVec.ofInt 64 1)).length ≤ 9223372036854775807)), ifB (decide (n < 0)) (decide ((BitVec.ofInt 64 (IntKind.i64.wrap (-IntKind.i64.wrap (n + 1))) + BitVec.ofInt 64 1).toNat < bnd117 20))]
      (if decide (n < 0) = true then some (.str ([(45 : UInt8)] ++ dB (BitVec.ofInt 64 (IntKind.i64.wrap (-IntKind.i64.wrap (n + 1))) + BitVec.ofInt 64 1))) else if decide ((BitVec.ofInt 64 n).toNat < bnd117 20) = true then some (.str (dB (BitVec.ofInt 64 n))) else none) := by kernel_rfl
  have hl := dB_len (BitVec.ofInt 64 (IntKind.i64.wrap (-IntKind.i64.wrap (n + 1))) + BitVec.ofInt 64 1)
  rw [e, cnds_of (by
    rw [in117, ifB_true]
    simp only [List.all_cons, List.all_nil, id, Bool.and_true]
    unfold ifB
    split
    · rw [decide_eq_true_eq, List.length_singleton]; omega
    · rfl), in117]
  show _ = some (AV.str (itoaS n))
  rw [← itoaS_eq hh]
  unfold Lib.itoa
  by_cases hn : n < 0
  · rw [if_pos (by simpa using hn), if_pos hn]
    rw [wrap_small (n + 1) (by omega) (by omega), wrap_small (-(n + 1)) (by omega) (by omega)]
    unfold dB
    have : (BitVec.ofInt 64 (-(n + 1)) + BitVec.ofInt 64 1).toNat = n.natAbs := by
      rw [BitVec.toNat_add, ofInt_toNat (by omega) (by omega)]
      show ((-(n + 1)).toNat + 1) % 18446744073709551616 = _
      omega
    rw [this]; rfl
  · rw [if_neg (by simpa using hn), if_neg hn]
    unfold dB
    rw [ofInt_toNat (by omega) (by omega)]; rfl
noncomputable abbrev SD2 : FuncId → CSpec := withS SD1 68 s68
theorem SD2_ok : ∀ f, FnOk Tryz.prog f (SD2 f) := withS_ok SD1_ok ok68
def s70 : CSpec | [.u 64 n] => some ⟨[], .str (numU n.toNat)⟩ | _ => none
theorem has_nat {m : Nat} (h : m ≤ 9223372036854775807) : IntKind.i64.has (m : Int) := by
  constructor <;> simp [IntKind.min, IntKind.max, IntKind.bits, IntKind.signed] <;> omega
theorem itoaS_nat {m : Nat} (h : m ≤ 9223372036854775807) : itoaS (IntKind.i64.wrap (m : Int)) = Lib.decDigits m := by
  rw [wrap_small _ (by omega) (by omega), ← itoaS_eq (has_nat h)]
  unfold Lib.itoa
  rw [if_neg (by omega)]; rfl
theorem ok70 : FnOk Tryz.prog 70 s70 := okBy SD2_ok Tryz.func70 (by kernel_rfl) (by kernel_rfl) 1 <| by
  intro xs r hs
  unfold s70 at hs; split at hs <;> cases hs
  rename_i n
  intro hp hT
  have e : (evFn T SD2 noL 1 Tryz.f70 [.u 64 n]).run = if decide (n.toNat < (BitVec.ofInt 64 10).toNat) = true then some (.str (itoaS (IntKind.i64.wrap (n.toNat : Int)))) else
    if decide ((itoaS (IntKind.i64.wrap ((n / BitVec.ofInt 64 10).toNat : Int))).length + (itoaS (IntKind.i64.wrap ((n % BitVec.ofInt 64 10).toNat : Int))).length ≤ 9223372036854775807) = true then
    if (!((BitVec.ofInt 64 10 : BitVec 64) == 0#64)) = true then some (.str (itoaS (IntKind.i64.wrap ((n / BitVec.ofInt 64 10).toNat : Int)) ++ itoaS (IntKind.i64.wrap ((n % BitVec.ofInt 64 10).toNat : Int)))) else none else none := by kernel_rfl
  have hx : (BitVec.ofInt 64 10 : BitVec 64).toNat = 10 := rfl
  have hn := n.isLt
  have hm := Nat.mod_lt n.toNat (show 0 < 10 by decide)
  rw [e, hx, div10, mod10, itoaS_nat (m := n.toNat / 10) (by omega), itoaS_nat (m := n.toNat % 10) (by omega)]
  show _ = some (AV.str (numU n.toNat))
  rw [numU_eq]
  have l1 := dec_len (n.toNat / 10) (by omega)
  have l2 := dec_len (n.toNat % 10) (by omega)
  by_cases h : n.toNat < 10
  · rw [if_pos (by simpa using h), itoaS_nat (m := n.toNat) (by omega)]
  · rw [if_neg (by simpa using h), if_pos (by rw [decide_eq_true_eq]; omega), if_pos (by decide)]
    conv => rhs; rw [Lib.decDigits]
    rw [dif_neg h, Lib.decDigits_one hm]
noncomputable abbrev SD3 : FuncId → CSpec := withS (withS (withS (withS (withS SR0 65 s65) 68 s68) 70 s70) 48 s48) 24 s24
theorem SD3_ok : ∀ f, FnOk Tryz.prog f (SD3 f) := withS_ok (withS_ok (withS_ok (withS_ok (withS_ok SR0_ok ok65) ok68) ok70) ok48) ok24
end Go.Proofs.YtcdnbdphakhilaaGreatDoor
set_option maxRecDepth 100000
namespace Go.Proofs.YtcdnbdphakhilaaGreatDoor
open Go.Proofs.YtcdnbdphakhilaaGreatDoor.Ev Go.RowKit
/- A step's text. -/
def vStep (out : List UInt8) (k : Dat 2) : List UInt8 := out ++ ([32, 118] ++ itoaS k)
def vAll (ks : List (Dat 2)) (out : List UInt8) : List UInt8 := ks.foldl vStep out
def okN (k : Dat 2) : Bool := decide ((itoaS k).length ≤ 21)
theorem vAll_len : ∀ (ks : List (Dat 2)) (out : List UInt8), ks.all okN = true → (vAll ks out).length ≤ out.length + 23 * ks.length
  | [], out, h => by simp [vAll]
  | k :: ks, out, h => by
    simp only [List.all_cons, Bool.and_eq_true] at h
    have hk : (itoaS k).length ≤ 21 := of_decide_eq_true h.1
    have := vAll_len ks (vStep out k) h.2
    have e : vAll (k :: ks) out = vAll ks (vStep out k) := rfl
    rw [e]
    have e2 : (vStep out k).length = out.length + (2 + (itoaS k).length) := by unfold vStep; rw [List.length_append, List.length_append]; rfl
    rw [List.length_cons]
    omega
def s105 : CSpec | [] => some ⟨[], .vw 5 kindsT⟩ | _ => none
noncomputable abbrev SI55 : FuncId → CSpec := withS noS 159 s55
theorem SI55_ok : ∀ f, FnOk Tryz.prog f (SI55 f) := withS_ok noS_ok ok55
theorem ok105 : FnOk Tryz.prog 105 s105 := okBy SI55_ok Tryz.func105 (by kernel_rfl) (by kernel_rfl) 1 <| by
  intro xs r hs
  unfold s105 at hs; split at hs <;> cases hs
  rintro hp _
  kernel_rfl
def s106 : CSpec | [] => some ⟨[], .vw 5 funsT⟩ | _ => none
theorem ok106 : FnOk Tryz.prog 106 s106 := okBy SI55_ok Tryz.func106 (by kernel_rfl) (by kernel_rfl) 1 <| by
  intro xs r hs
  unfold s106 at hs; split at hs <;> cases hs
  rintro hp _
  kernel_rfl
noncomputable abbrev SU : FuncId → CSpec := withS noS 161 s57
theorem SU_ok : ∀ f, FnOk Tryz.prog f (SU f) := withS_ok noS_ok ok57
def s108 : CSpec | [.u 64 x, .i .i64 b] => (match b == 10 with
    | true => some ⟨[], .str (numU x.toNat)⟩
    | false => none) | _ => none
theorem ok108 : FnOk Tryz.prog 108 s108 := okBy SU_ok Tryz.func108 (by kernel_rfl) (by kernel_rfl) 1 <| by
  intro xs r hs
  unfold s108 at hs; split at hs <;> try cases hs
  rename_i x b
  split at hs <;> cases hs
  rename_i hb
  obtain rfl : b = 10 := by simpa using hb
  rintro hp _
  show (evFn T SU noL 1 Tryz.f108 [.u 64 x, .i .i64 10]).run = some (.str (numU x.toNat))
  kernel_rfl
noncomputable abbrev SP9 : FuncId → CSpec := withS (withS (withS (withS (withS SP8 16 s16) 107 s38) 108 s108) 105 s105) 106 s106
theorem SP9_ok : ∀ f, FnOk Tryz.prog f (SP9 f) := withS_ok (withS_ok (withS_ok (withS_ok (withS_ok SP8_ok ok16) ok38) ok108) ok105) ok106
def st58 (k f w a b c : Int) (n : BitVec 64) (s : Bool) (o : Int) (ks : List (Dat 2)) (out : List UInt8) (j : Int) : St := ⟨[(2, .ptr 2 0), (5, .str out), (67, .vw 2 ks), (68, .i .i64 (ks.length : Int)), (69, .i .i64 j)],
  [((2,0), .i .i64 k), ((2,1), .i .i64 f), ((2,2), .i .i64 w), ((2,3), .i .i64 a), ((2,4), .i .i64 b), ((2,5), .i .i64 c), ((2,6), .u 64 n), ((2,7), .b s), ((2,8), .i .i64 o)], [(2, 9)], 0⟩
def q58 : St → Tr (Ex × St)
  | ⟨[(2, .ptr p2 o2), (5, .str out), (67, .vw 2 ks), (68, .i .i64 m), (69, .i .i64 j)], [(h0, .i .i64 x0), (h1, .i .i64 x1), (h2, .i .i64 x2), (h3, .i .i64 x3), (h4, .i .i64 x4), (h5, .i .i64 x5), (h6, .u 64 x6), (h7, .b x7), (h8, .i .i64 x8)], ids, _⟩ =>
    .need ((p2 == 2 && o2 == 0) && ([h0, h1, h2, h3, h4, h5, h6, h7, h8] == K9 2 && ids == [(2, 9)]))
      (.need ((m == (ks.length : Int) && j == 0) && (decide (out.length ≤ 1000) && (decide (ks.length ≤ 1000) && ks.all okN)))
        (.leaf (.exit 1, st58 x0 x1 x2 x3 x4 x5 x6 x7 x8 ks (vAll ks out) (ks.length : Int))))
  | _ => .fail
def L58 : Nat → Live := fun _ => ⟨[2, 5, 67, 68, 69], K9 2, [2], some q58⟩
theorem step58 (k f w a b c : Int) (n : BitVec 64) (s : Bool) (o : Int) (ks : List (Dat 2)) (out : List UInt8) (j : Int) : (atHead (evCode T SP9 L58 85 1 (loopOf Tryz.f58 0)) (L58 (firstR (loopOf Tryz.f58 0))) (st58 k f w a b c n s o ks out j)).run =
    if decide (j < (ks.length : Int)) = true then if decide (0 ≤ j) = true then if decide (j < (ks.length : Int)) = true then
      if decide (out.length + ([(32 : UInt8), 118] ++ itoaS (ks.getD j.toNat (dat0 2))).length ≤ 9223372036854775807) = true then if decide ([(32 : UInt8), 118].length + (itoaS (ks.getD j.toNat (dat0 2))).length ≤ 9223372036854775807) = true then
      some (.normal, st58 k f w a b c n s o ks (vStep out (ks.getD j.toNat (dat0 2))) (IntKind.i64.wrap (j + 1)))
      else none else none else none else none else some (.exit 1, st58 k f w a b c n s o ks out j) := by kernel_rfl
theorem loop58 (N : Nat) : LoopOk T SP9 L58 85 N (loopOf Tryz.f58 0) := LoopOk.sub rfl <| by
  intro τ e st hcut hr
  unfold q58 at hr
  split at hr
  case h_2 => exact (Tr.of_fail hr).elim
  rename_i p2 o2 out ks m j h0 x0 h1 x1 h2 x2 h3 x3 h4 x4 h5 x5 h6 x6 h7 x7 h8 x8 ids cu
  obtain rfl : cu = 0 := hcut
  obtain ⟨hc, hr1⟩ := Tr.of_need hr
  obtain ⟨hd, hr2⟩ := Tr.of_need hr1
  clear hr hr1
  simp only [Bool.and_eq_true, beq_iff_eq] at hc
  obtain ⟨⟨rfl, rfl⟩, hk, rfl⟩ := hc
  have hk9 : K9 2 = [(2,0),(2,1),(2,2),(2,3),(2,4),(2,5),(2,6),(2,7),(2,8)] := rfl
  rw [hk9] at hk
  simp only [List.cons.injEq, and_true] at hk
  obtain ⟨rfl, rfl, rfl, rfl, rfl, rfl, rfl, rfl, rfl⟩ := hk
  simp only [Bool.and_eq_true, beq_iff_eq, decide_eq_true_eq] at hd
  obtain ⟨⟨rfl, rfl⟩, hout, hlen, hall⟩ := hd
  have hlen : ks.length ≤ 1000 := hlen
  simp only [Tr.run, Option.some.injEq, Prod.mk.injEq] at hr2
  obtain ⟨rfl, rfl⟩ := hr2
  have sameN : ∀ τ, atHead (evCode T SP9 L58 85 N (loopOf Tryz.f58 0)) (L58 (firstR (loopOf Tryz.f58 0))) τ = atHead (evCode T SP9 L58 85 1 (loopOf Tryz.f58 0)) (L58 (firstR (loopOf Tryz.f58 0))) τ := fun τ => rfl
  obtain ⟨n', hn⟩ := iter_from (g := atHead (evCode T SP9 L58 85 N (loopOf Tryz.f58 0)) (L58 (firstR (loopOf Tryz.f58 0)))) (fun j => st58 x0 x1 x2 x3 x4 x5 x6 x7 x8 ks (vAll (ks.take j) out) (j : Int)) 0 ks.length (Nat.zero_le _)
    (fun j _ hj => by
      have hl := vAll_len (ks.take j) out (List.all_eq_true.2 fun x hx => List.all_eq_true.1 hall x (List.mem_of_mem_take hx))
      have hx : (itoaS ks[j]).length ≤ 21 := of_decide_eq_true (List.all_eq_true.1 hall _ (List.getElem_mem hj))
      rw [List.length_take] at hl
      have ev : vAll (ks.take (j + 1)) out = vStep (vAll (ks.take j) out) ks[j] := by
        unfold vAll
        rw [List.take_succ_eq_append_getElem hj, List.foldl_append]; rfl
      have hc1 : decide ((vAll (ks.take j) out).length + ([(32 : UInt8), 118] ++ itoaS ks[j]).length ≤ 9223372036854775807) = true := by
        rw [decide_eq_true_eq, List.length_append]
        show _ + (2 + _) ≤ _
        omega
      have hc2 : decide ([(32 : UInt8), 118].length + (itoaS ks[j]).length ≤ 9223372036854775807) = true := by
        rw [decide_eq_true_eq]
        show 2 + _ ≤ _
        omega
      rw [sameN, step58, if_pos (by simpa using hj), if_pos (by simp), if_pos (by simpa using hj), Int.toNat_natCast, getD_at hj, if_pos hc1, if_pos hc2, wrap_succ j (by omega), ev])
    (by rw [sameN, step58, if_neg (by simp), List.take_length]) (by simp)
  exact ⟨n', _, hn, fun _ _ h => h, rfl, rfl⟩
def st18 (k f w a b c : Int) (n : BitVec 64) (s : Bool) (o : Int) (ks : List (Dat 2)) (out : List UInt8) (j : Int) : St := ⟨[(2, .ptr 2 0), (5, .str out), (63, .vw 2 ks), (64, .i .i64 (ks.length : Int)), (65, .i .i64 j)],
  [((2,0), .i .i64 k), ((2,1), .i .i64 f), ((2,2), .i .i64 w), ((2,3), .i .i64 a), ((2,4), .i .i64 b), ((2,5), .i .i64 c), ((2,6), .u 64 n), ((2,7), .b s), ((2,8), .i .i64 o)], [(2, 9)], 0⟩
def q18 : St → Tr (Ex × St)
  | ⟨[(2, .ptr p2 o2), (5, .str out), (63, .vw 2 ks), (64, .i .i64 m), (65, .i .i64 j)], [(h0, .i .i64 x0), (h1, .i .i64 x1), (h2, .i .i64 x2), (h3, .i .i64 x3), (h4, .i .i64 x4), (h5, .i .i64 x5), (h6, .u 64 x6), (h7, .b x7), (h8, .i .i64 x8)], ids, _⟩ =>
    .need ((p2 == 2 && o2 == 0) && ([h0, h1, h2, h3, h4, h5, h6, h7, h8] == K9 2 && ids == [(2, 9)]))
      (.need ((m == (ks.length : Int) && j == 0) && (decide (out.length ≤ 1000) && (decide (ks.length ≤ 1000) && ks.all okN)))
        (.leaf (.exit 0, st18 x0 x1 x2 x3 x4 x5 x6 x7 x8 ks (vAll ks out) (ks.length : Int))))
  | _ => .fail
def L18 : Nat → Live := fun _ => ⟨[2, 5, 63, 64, 65], K9 2, [2], some q18⟩
theorem step18 (k f w a b c : Int) (n : BitVec 64) (s : Bool) (o : Int) (ks : List (Dat 2)) (out : List UInt8) (j : Int) : (atHead (evCode T SD3 L18 81 1 (loopOf Tryz.f18 0)) (L18 (firstR (loopOf Tryz.f18 0))) (st18 k f w a b c n s o ks out j)).run =
    if decide (j < (ks.length : Int)) = true then if decide (0 ≤ j) = true then if decide (j < (ks.length : Int)) = true then
      if decide (out.length + ([(32 : UInt8), 118] ++ itoaS (ks.getD j.toNat (dat0 2))).length ≤ 9223372036854775807) = true then if decide ([(32 : UInt8), 118].length + (itoaS (ks.getD j.toNat (dat0 2))).length ≤ 9223372036854775807) = true then
      some (.normal, st18 k f w a b c n s o ks (vStep out (ks.getD j.toNat (dat0 2))) (IntKind.i64.wrap (j + 1)))
      else none else none else none else none else some (.exit 0, st18 k f w a b c n s o ks out j) := by kernel_rfl
theorem loop18 (N : Nat) : LoopOk T SD3 L18 81 N (loopOf Tryz.f18 0) := LoopOk.sub rfl <| by
  intro τ e st hcut hr
  unfold q18 at hr
  split at hr
  case h_2 => exact (Tr.of_fail hr).elim
  rename_i p2 o2 out ks m j h0 x0 h1 x1 h2 x2 h3 x3 h4 x4 h5 x5 h6 x6 h7 x7 h8 x8 ids cu
  obtain rfl : cu = 0 := hcut
  obtain ⟨hc, hr1⟩ := Tr.of_need hr
  obtain ⟨hd, hr2⟩ := Tr.of_need hr1
  clear hr hr1
  simp only [Bool.and_eq_true, beq_iff_eq] at hc
  obtain ⟨⟨rfl, rfl⟩, hk, rfl⟩ := hc
  have hk9 : K9 2 = [(2,0),(2,1),(2,2),(2,3),(2,4),(2,5),(2,6),(2,7),(2,8)] := rfl
  rw [hk9] at hk
  simp only [List.cons.injEq, and_true] at hk
  obtain ⟨rfl, rfl, rfl, rfl, rfl, rfl, rfl, rfl, rfl⟩ := hk
  simp only [Bool.and_eq_true, beq_iff_eq, decide_eq_true_eq] at hd
  obtain ⟨⟨rfl, rfl⟩, hout, hlen, hall⟩ := hd
  have hlen : ks.length ≤ 1000 := hlen
  simp only [Tr.run, Option.some.injEq, Prod.mk.injEq] at hr2
  obtain ⟨rfl, rfl⟩ := hr2
  have sameN : ∀ τ, atHead (evCode T SD3 L18 81 N (loopOf Tryz.f18 0)) (L18 (firstR (loopOf Tryz.f18 0))) τ = atHead (evCode T SD3 L18 81 1 (loopOf Tryz.f18 0)) (L18 (firstR (loopOf Tryz.f18 0))) τ := fun τ => rfl
  obtain ⟨n', hn⟩ := iter_from (g := atHead (evCode T SD3 L18 81 N (loopOf Tryz.f18 0)) (L18 (firstR (loopOf Tryz.f18 0)))) (fun j => st18 x0 x1 x2 x3 x4 x5 x6 x7 x8 ks (vAll (ks.take j) out) (j : Int)) 0 ks.length (Nat.zero_le _)
    (fun j _ hj => by
      have hl := vAll_len (ks.take j) out (List.all_eq_true.2 fun x hx => List.all_eq_true.1 hall x (List.mem_of_mem_take hx))
      have hx : (itoaS ks[j]).length ≤ 21 := of_decide_eq_true (List.all_eq_true.1 hall _ (List.getElem_mem hj))
      rw [List.length_take] at hl
      have ev : vAll (ks.take (j + 1)) out = vStep (vAll (ks.take j) out) ks[j] := by
        unfold vAll
        rw [List.take_succ_eq_append_getElem hj, List.foldl_append]; rfl
      have hc1 : decide ((vAll (ks.take j) out).length + ([(32 : UInt8), 118] ++ itoaS ks[j]).length ≤ 9223372036854775807) = true := by
        rw [decide_eq_true_eq, List.length_append]
        show _ + (2 + _) ≤ _
        omega
      have hc2 : decide ([(32 : UInt8), 118].length + (itoaS ks[j]).length ≤ 9223372036854775807) = true := by
        rw [decide_eq_true_eq]
        show 2 + _ ≤ _
        omega
      rw [sameN, step18, if_pos (by simpa using hj), if_pos (by simp), if_pos (by simpa using hj), Int.toNat_natCast, getD_at hj, if_pos hc1, if_pos hc2, wrap_succ j (by omega), ev])
    (by rw [sameN, step18, if_neg (by simp), List.take_length]) (by simp)
  exact ⟨n', _, hn, fun _ _ h => h, rfl, rfl⟩
end Go.Proofs.YtcdnbdphakhilaaGreatDoor
set_option maxRecDepth 100000
namespace Go.Proofs.YtcdnbdphakhilaaGreatDoor
open Go.Proofs.YtcdnbdphakhilaaGreatDoor.Ev Go.RowKit
/- A step's text, by both. -/
abbrev Str := List UInt8
def okL2 (a b : Str) : Bool := decide (a.length + b.length ≤ 9223372036854775807)
def eqS : Str := [32, 61, 32]
def defS (i : Int) (t : Str) : Str := (([118] ++ itoaS i) ++ eqS) ++ t
def tP1 (k f : Int) : Str := if (k == 4) = true then funsT.getD (IntKind.i64.wrap (f - 1)).toNat [] else kindsT.getD (IntKind.i64.wrap (k - 1)).toNat []
def tP2 (k f i : Int) : Str := if makesP k = true then defS i (tP1 k f) else tP1 k f
def tP3 (k f w i : Int) : Str := if decide (0 < w) = true then tP2 k f i ++ ([46] ++ itoaS w) else tP2 k f i
def tP4 (k f w i : Int) (s : Bool) : Str := if s = true then tP3 k f w i ++ [115] else tP3 k f w i
def tP5 (k f w i : Int) (s : Bool) (n : BitVec 64) : Str := if c1 k = true then tP4 k f w i s ++ ([32] ++ numU n.toNat) else if (k == 11) = true then tP4 k f w i s ++ ([32] ++ itoaS f) else tP4 k f w i s
def tP6 (k f w a b c i : Int) (s : Bool) (n : BitVec 64) : Str := vAll (usesP k a b c) (tP5 k f w i s n)
def showP (k f w a b c : Int) (n : BitVec 64) (s : Bool) (o i : Int) : Str := if (o == 1) = true then tP6 k f w a b c i s n ++ [32, 33] else tP6 k f w a b c i s n
theorem run58 (k f w a b c : Int) (n : BitVec 64) (s : Bool) (o i : Int) : (evFn T SP9 L58 1 Tryz.f58 [.agg (opC k f w a b c n s o), .i .i64 i]).run =
    cnds [decide (0 ≤ IntKind.i64.wrap (k - 1)), decide (IntKind.i64.wrap (k - 1) < (kindsT.length : Int)), ifB (k == 4) (decide (0 ≤ IntKind.i64.wrap (f - 1))), ifB (k == 4) (decide (IntKind.i64.wrap (f - 1) < (funsT.length : Int))),
      ifB (makesP k) (okL2 (([118] ++ itoaS i) ++ eqS) (tP1 k f)), ifB (makesP k) (okL2 ([118] ++ itoaS i) eqS), ifB (makesP k) (okL2 [118] (itoaS i)),
      ifB (decide (0 < w)) (okL2 (tP2 k f i) ([46] ++ itoaS w)), ifB (decide (0 < w)) (okL2 [46] (itoaS w)), ifB s (okL2 (tP3 k f w i) [115]),
      ifB (c1 k) (okL2 (tP4 k f w i s) ([32] ++ numU n.toNat)), ifB (c1 k) (okL2 [32] (numU n.toNat)),
      (if c1 k = true then true else ifB (k == 11) (okL2 (tP4 k f w i s) ([32] ++ itoaS f))), (if c1 k = true then true else ifB (k == 11) (okL2 [32] (itoaS f))),
      ((((usesP k a b c).length : Int) == ((usesP k a b c).length : Int) && (0 : Int) == 0) && (decide ((tP5 k f w i s n).length ≤ 1000) && (decide ((usesP k a b c).length ≤ 1000) && (usesP k a b c).all okN))),
      ifB (o == 1) (okL2 (tP6 k f w a b c i s n) [32, 33])] (some (.str (showP k f w a b c n s o i))) := by kernel_rfl
def fS : Str := [102, 101, 110, 99, 101]
def tR1 (k f : Int) : Str := if (wordS k == [97, 108, 117]) = true then functT.getD f.toNat [] else wordS k
def tR2 (k f i : Int) : Str := if makesR k = true then defS i (tR1 k f) else tR1 k f
def tR3 (k f w i : Int) : Str := if hasB k 119#8 = true then tR2 k f i ++ ([46] ++ itoaS w) else tR2 k f i
def tR4 (k f w i : Int) (s : Bool) : Str := if s = true then tR3 k f w i ++ [115] else tR3 k f w i
def tR5 (k f w i : Int) (s : Bool) (n : BitVec 64) : Str := if hasB k 110#8 = true then tR4 k f w i s ++ ([32] ++ numU n.toNat) else tR4 k f w i s
def tR6 (k f w i : Int) (s : Bool) (n : BitVec 64) : Str := if (wordS k == fS) = true then tR5 k f w i s n ++ ([32] ++ itoaS f) else tR5 k f w i s n
def tR7 (k f w a b c i : Int) (s : Bool) (n : BitVec 64) : Str := vAll (usesR k a b c) (tR6 k f w i s n)
def showR (k f w a b c : Int) (n : BitVec 64) (s : Bool) (o i : Int) : Str := if (o == 1) = true then tR7 k f w a b c i s n ++ [32, 33] else tR7 k f w a b c i s n
theorem run18 (k f w a b c : Int) (n : BitVec 64) (s : Bool) (o i : Int) : (evFn T SD3 L18 1 Tryz.f18 [.agg (opC k f w a b c n s o), .i .i64 i]).run =
    cnds [decide (0 ≤ k), decide (k < (wordsT.length : Int)), ifB (wordS k == [97, 108, 117]) (decide (0 ≤ f)), ifB (wordS k == [97, 108, 117]) (decide (f < (functT.length : Int))),
      ifB (makesR k) (okL2 (([118] ++ itoaS i) ++ eqS) (tR1 k f)), ifB (makesR k) (okL2 ([118] ++ itoaS i) eqS), ifB (makesR k) (okL2 [118] (itoaS i)),
      ifB (hasB k 119#8) (okL2 (tR2 k f i) ([46] ++ itoaS w)), ifB (hasB k 119#8) (okL2 [46] (itoaS w)), ifB s (okL2 (tR3 k f w i) [115]),
      ifB (hasB k 110#8) (okL2 (tR4 k f w i s) ([32] ++ numU n.toNat)), ifB (hasB k 110#8) (okL2 [32] (numU n.toNat)),
      decide (0 ≤ k), decide (k < (wordsT.length : Int)),
      ifB (wordS k == fS) (okL2 (tR5 k f w i s n) ([32] ++ itoaS f)), ifB (wordS k == fS) (okL2 [32] (itoaS f)),
      ((((usesR k a b c).length : Int) == ((usesR k a b c).length : Int) && (0 : Int) == 0) && (decide ((tR6 k f w i s n).length ≤ 1000) && (decide ((usesR k a b c).length ≤ 1000) && (usesR k a b c).all okN))),
      ifB (o == 1) (okL2 (tR7 k f w a b c i s n) [32, 33])] (some (.str (showR k f w a b c n s o i))) := by kernel_rfl
end Go.Proofs.YtcdnbdphakhilaaGreatDoor
set_option maxRecDepth 100000
namespace Go.Proofs.YtcdnbdphakhilaaGreatDoor
open Go.Proofs.YtcdnbdphakhilaaGreatDoor.Ev Go.RowKit
/- Texts are short; both show alike what may be. -/
theorem getD_len {l : List Str} {m : Nat} (h : l.all (fun x => decide (x.length ≤ m)) = true) (i : Nat) : (l.getD i []).length ≤ m := by
  rw [List.getD_eq_getElem?_getD]
  cases hi : l[i]? with
  | none => exact Nat.zero_le _
  | some x => exact of_decide_eq_true (List.all_eq_true.1 h x (List.mem_of_getElem? hi))
theorem itoaS_len {n : Int} (h : IntKind.i64.has n) : (itoaS n).length ≤ 21 := by rw [← itoaS_eq h]; exact itoa_len h
theorem numU_len (n : BitVec 64) : (numU n.toNat).length ≤ 20 := by rw [numU_eq]; exact dec_len _ n.isLt
theorem okL2_of {a b : Str} (ha : a.length ≤ 1000) (hb : b.length ≤ 1000) : okL2 a b = true := by
  unfold okL2; rw [decide_eq_true_eq]; omega
theorem ifB_of {c d : Bool} (h : d = true) : ifB c d = true := by rw [h]; exact ifB_true c
theorem tP1_len (k f : Int) : (tP1 k f).length ≤ 5 := by
  unfold tP1; split
  · exact getD_len (by decide) _
  · exact getD_len (by decide) _
theorem tR1_len (k f : Int) : (tR1 k f).length ≤ 5 := by
  unfold tR1 wordS; split
  · exact getD_len (by decide) _
  · exact getD_len (by decide) _
theorem defS_len (i : Int) (t : Str) : (defS i t).length = 4 + (itoaS i).length + t.length := by
  unfold defS
  simp only [List.length_append]
  show 1 + (itoaS i).length + 3 + t.length = _
  omega
theorem one_len (x : UInt8) (t : Str) : ([x] ++ t).length = 1 + t.length := by simp; omega
structure HasO (f w a b c i : Int) : Prop where
  f : IntKind.i64.has f
  w : IntKind.i64.has w
  a : IntKind.i64.has a
  b : IntKind.i64.has b
  c : IntKind.i64.has c
  i : IntKind.i64.has i
theorem hasI {C : Ctx} {n : Int} {v : Value} (h : VR C (.i .i64 n) v) : IntKind.i64.has n := by
  cases h with | i hk h => exact h
theorem op_has {k f w a b c : Int} {n : BitVec 64} {s : Bool} {o i : Int} {C : Ctx} {vs : List Value} (h : TR C [.agg (opC k f w a b c n s o), .i .i64 i] vs) : HasO f w a b c i := by
  cases h with
  | cons h1 h2 =>
    cases h2 with
    | cons h2 h3 =>
      cases h1 with
      | agg hc =>
        cases hc with
        | one _ _ x0 hc => cases hc with
          | one _ _ x1 hc => cases hc with
            | one _ _ x2 hc => cases hc with
              | one _ _ x3 hc => cases hc with
                | one _ _ x4 hc => cases hc with
                  | one _ _ x5 hc => exact ⟨hasI x1, hasI x2, hasI x3, hasI x4, hasI x5, hasI h2⟩
theorem usesP_ok {k a b c : Int} (ha : IntKind.i64.has a) (hb : IntKind.i64.has b) (hc : IntKind.i64.has c) : (usesP k a b c).all okN = true ∧ (usesP k a b c).length ≤ 3 := by
  have e : ∀ {n : Int}, IntKind.i64.has n → okN n = true := fun h => decide_eq_true (itoaS_len h)
  unfold usesP
  split
  · exact ⟨by simp [e ha, e hb, e hc], by simp⟩
  · split
    · exact ⟨by simp [e ha, e hb], by simp⟩
    · split
      · exact ⟨by simp [e ha], by simp⟩
      · exact ⟨rfl, by simp⟩
theorem tP_len {k f w a b c i : Int} {s : Bool} {n : BitVec 64} (h : HasO f w a b c i) : (tP2 k f i).length ≤ 30 ∧ (tP3 k f w i).length ≤ 52 ∧ (tP4 k f w i s).length ≤ 53 ∧ (tP5 k f w i s n).length ≤ 75 ∧ (tP6 k f w a b c i s n).length ≤ 144 := by
  have l1 := tP1_len k f
  have li := itoaS_len h.i
  have lw := itoaS_len h.w
  have lf := itoaS_len h.f
  have ln := numU_len n
  have h2 : (tP2 k f i).length ≤ 30 := by
    unfold tP2; split
    · rw [defS_len]; omega
    · omega
  have h3 : (tP3 k f w i).length ≤ 52 := by
    unfold tP3; split
    · rw [List.length_append, one_len]; omega
    · omega
  have h4 : (tP4 k f w i s).length ≤ 53 := by
    unfold tP4; split
    · rw [List.length_append, List.length_singleton]; omega
    · omega
  have h5 : (tP5 k f w i s n).length ≤ 75 := by
    unfold tP5; split
    · rw [List.length_append, one_len]; omega
    · split
      · rw [List.length_append, one_len]; omega
      · omega
  obtain ⟨u1, u2⟩ := usesP_ok (k := k) h.a h.b h.c
  have h6 := vAll_len _ (tP5 k f w i s n) u1
  refine ⟨h2, h3, h4, h5, ?_⟩
  unfold tP6; omega
theorem tR_len {k f w a b c i : Int} {s : Bool} {n : BitVec 64} (h : HasO f w a b c i) : (tR2 k f i).length ≤ 30 ∧ (tR3 k f w i).length ≤ 52 ∧ (tR4 k f w i s).length ≤ 53 ∧ (tR5 k f w i s n).length ≤ 75 ∧ (tR6 k f w i s n).length ≤ 97 ∧ (tR7 k f w a b c i s n).length ≤ 166 := by
  have l1 := tR1_len k f
  have li := itoaS_len h.i
  have lw := itoaS_len h.w
  have lf := itoaS_len h.f
  have ln := numU_len n
  have h2 : (tR2 k f i).length ≤ 30 := by
    unfold tR2; split
    · rw [defS_len]; omega
    · omega
  have h3 : (tR3 k f w i).length ≤ 52 := by
    unfold tR3; split
    · rw [List.length_append, one_len]; omega
    · omega
  have h4 : (tR4 k f w i s).length ≤ 53 := by
    unfold tR4; split
    · rw [List.length_append, List.length_singleton]; omega
    · omega
  have h5 : (tR5 k f w i s n).length ≤ 75 := by
    unfold tR5; split
    · rw [List.length_append, one_len]; omega
    · omega
  have h6 : (tR6 k f w i s n).length ≤ 97 := by
    unfold tR6; split
    · rw [List.length_append, one_len]; omega
    · omega
  obtain ⟨u1, u2⟩ := usesP_ok (k := k) h.a h.b h.c
  rw [usesP_eq] at u1 u2
  have h7 := vAll_len _ (tR6 k f w i s n) u1
  refine ⟨h2, h3, h4, h5, h6, ?_⟩
  unfold tR7; omega
def fOk (k f : Int) : Bool := ifB (k == 4) (decide (1 ≤ f) && decide (f ≤ 16))
def s58 : CSpec | [.agg (opC k f w a b c n s o), .i .i64 i] => some ⟨[decide (1 ≤ k) && decide (k ≤ 13), fOk k f], .str (showP k f w a b c n s o i)⟩ | _ => none
theorem ok58 : FnOk Tryz.prog 58 s58 := FnOk.of tyOk SP9_ok mixed (L := L58) Tryz.func58 (by kernel_rfl) (by kernel_rfl) (fun xs r hs hp w R vs hvs => by
  unfold s58 at hs; split at hs <;> cases hs
  rename_i k f w a b c n s o i
  have h := op_has hvs
  refine ⟨1, FnLoops.one (by kernel_rfl) (loop58 1), ?_⟩
  show (evFn T SP9 L58 1 Tryz.f58 [.agg (opC k f w a b c n s o), .i .i64 i]).run = some (.str (showP k f w a b c n s o i))
  have hk := hp _ (List.mem_cons_self ..)
  have hf : fOk k f = true := hp _ (List.mem_cons_of_mem _ (List.mem_cons_self ..))
  rw [Bool.and_eq_true, decide_eq_true_eq, decide_eq_true_eq] at hk
  obtain ⟨k1, k2⟩ := hk
  obtain ⟨l2, l3, l4, l5, l6⟩ := tP_len (k := k) (s := s) (n := n) h
  have l1 := tP1_len k f
  have li := itoaS_len h.i
  have lw := itoaS_len h.w
  have lf := itoaS_len h.f
  have ln := numU_len n
  obtain ⟨u1, u2⟩ := usesP_ok (k := k) h.a h.b h.c
  rw [run58]
  refine cnds_of ?_
  rw [wrap_small (k - 1) (by omega) (by omega)]
  have e13 : (kindsT.length : Int) = 13 := rfl
  have e16 : (funsT.length : Int) = 16 := rfl
  rw [e13, e16]
  obtain ⟨f1, f2⟩ := has_rng h.f
  have hf2 : ifB (k == 4) (decide (0 ≤ IntKind.i64.wrap (f - 1))) = true ∧ ifB (k == 4) (decide (IntKind.i64.wrap (f - 1) < 16)) = true := by
    unfold fOk ifB at hf
    unfold ifB
    cases hk4 : k == 4 with
    | false => exact ⟨rfl, rfl⟩
    | true =>
      rw [hk4, if_pos rfl, Bool.and_eq_true, decide_eq_true_eq, decide_eq_true_eq] at hf
      rw [wrap_small (f - 1) (by omega) (by omega)]
      exact ⟨by rw [if_pos rfl, decide_eq_true_eq]; omega, by rw [if_pos rfl, decide_eq_true_eq]; omega⟩
  simp only [List.all_cons, List.all_nil, id, Bool.and_true, Bool.and_eq_true]
  refine ⟨decide_eq_true (by omega), decide_eq_true (by omega), hf2.1, hf2.2, ifB_of (okL2_of ?_ (by omega)), ifB_of (okL2_of ?_ (by decide)), ifB_of (okL2_of (by simp) (by omega)), ifB_of (okL2_of (by omega) ?_), ifB_of (okL2_of (by simp) (by omega)), ifB_of (okL2_of (by omega) (by simp)),
    ifB_of (okL2_of (by omega) ?_), ifB_of (okL2_of (by simp) (by omega)), ?_, ?_, ⟨⟨by simp, rfl⟩, decide_eq_true (by omega), decide_eq_true (by omega), u1⟩, ifB_of (okL2_of (by omega) (by simp))⟩
  · rw [List.length_append, one_len]; show _ + 3 ≤ _; omega
  · rw [one_len]; omega
  · rw [one_len]; omega
  · rw [one_len]; omega
  · split
    · rfl
    · exact ifB_of (okL2_of (by omega) (by rw [one_len]; omega))
  · split
    · rfl
    · exact ifB_of (okL2_of (by simp) (by omega)))
def fOkR (k f : Int) : Bool := ifB (wordS k == [97, 108, 117]) (decide (0 ≤ f) && decide (f < 17))
def s18 : CSpec | [.agg (opC k f w a b c n s o), .i .i64 i] => some ⟨[decide (1 ≤ k) && decide (k ≤ 13), fOkR k f], .str (showR k f w a b c n s o i)⟩ | _ => none
theorem ok18 : FnOk Tryz.prog 18 s18 := FnOk.of tyOk SD3_ok mixed (L := L18) Tryz.func18 (by kernel_rfl) (by kernel_rfl) (fun xs r hs hp w R vs hvs => by
  unfold s18 at hs; split at hs <;> cases hs
  rename_i k f w a b c n s o i
  have h := op_has hvs
  refine ⟨1, FnLoops.one (by kernel_rfl) (loop18 1), ?_⟩
  show (evFn T SD3 L18 1 Tryz.f18 [.agg (opC k f w a b c n s o), .i .i64 i]).run = some (.str (showR k f w a b c n s o i))
  have hk := hp _ (List.mem_cons_self ..)
  have hf : fOkR k f = true := hp _ (List.mem_cons_of_mem _ (List.mem_cons_self ..))
  rw [Bool.and_eq_true, decide_eq_true_eq, decide_eq_true_eq] at hk
  obtain ⟨k1, k2⟩ := hk
  obtain ⟨l2, l3, l4, l5, l6, l7⟩ := tR_len (k := k) (s := s) (n := n) h
  have l1 := tR1_len k f
  have li := itoaS_len h.i
  have lw := itoaS_len h.w
  have lf := itoaS_len h.f
  have ln := numU_len n
  obtain ⟨u1, u2⟩ := usesP_ok (k := k) h.a h.b h.c
  rw [usesP_eq] at u1 u2
  rw [run18]
  refine cnds_of ?_
  have e14 : (wordsT.length : Int) = 14 := rfl
  have e17 : (functT.length : Int) = 17 := rfl
  rw [e14, e17]
  have hf2 : ifB (wordS k == [97, 108, 117]) (decide (0 ≤ f)) = true ∧ ifB (wordS k == [97, 108, 117]) (decide (f < 17)) = true := by
    unfold fOkR ifB at hf
    unfold ifB
    cases hk4 : wordS k == [97, 108, 117] with
    | false => exact ⟨rfl, rfl⟩
    | true =>
      rw [hk4, if_pos rfl, Bool.and_eq_true] at hf
      exact ⟨by rw [if_pos rfl]; exact hf.1, by rw [if_pos rfl]; exact hf.2⟩
  simp only [List.all_cons, List.all_nil, id, Bool.and_true, Bool.and_eq_true]
  refine ⟨decide_eq_true (by omega), decide_eq_true (by omega), hf2.1, hf2.2, ifB_of (okL2_of ?_ (by omega)), ifB_of (okL2_of ?_ (by decide)), ifB_of (okL2_of (by simp) (by omega)), ifB_of (okL2_of (by omega) ?_), ifB_of (okL2_of (by simp) (by omega)), ifB_of (okL2_of (by omega) (by simp)),
    ifB_of (okL2_of (by omega) ?_), ifB_of (okL2_of (by simp) (by omega)), decide_eq_true (by omega), decide_eq_true (by omega), ifB_of (okL2_of (by omega) ?_), ifB_of (okL2_of (by simp) (by omega)), ⟨⟨by simp, rfl⟩, decide_eq_true (by omega), decide_eq_true (by omega), u1⟩, ifB_of (okL2_of (by omega) (by simp))⟩
  · rw [List.length_append, one_len]; show _ + 3 ≤ _; omega
  · rw [one_len]; omega
  · rw [one_len]; omega
  · rw [one_len]; omega
  · rw [one_len]; omega)
/-- What may be: of the kinds, with a function and a width if there has to be one. -/
theorem may_facts {xs : List IOp} {j : Int} {p : IOp} (h : mayR xs j p = true) : (1 ≤ p.Kind ∧ p.Kind ≤ 13) ∧ (p.Kind = 4 → 1 ≤ p.F ∧ p.F ≤ 16) ∧ decide (0 < p.W) = hasB p.Kind 119#8 := by
  have hk := mayR_kind h
  unfold mayR at h
  cases hb : badR p with
  | true => rw [hb] at h; cases h
  | false =>
    rw [hb] at h
    cases hu : (usesO p).any (badU xs j) with
    | true => rw [hu] at h; cases h
    | false =>
      rw [hu] at h
      cases hw : wrongR p with
      | true => rw [hw] at h; cases h
      | false =>
        rw [hw] at h
        have hg : goodR p = true := h
        refine ⟨hk, ?_, ?_⟩
        · intro h4
          unfold goodR at hg
          rw [h4] at hg
          have e : (if (if (wordS 4 == [103, 101, 116]) = true then wordS 4 == [103, 101, 116] else wordS 4 == [112, 117, 116]) = true then decide (p.N.toNat < (BitVec.ofInt 64 19).toNat)
            else if (wordS 4 == [97, 108, 117]) = true then andB (decide (1 ≤ p.F)) (decide (p.F ≤ 16))
            else if (wordS 4 == [102, 101, 110, 99, 101]) = true then andB (decide (1 ≤ p.F)) (decide (p.F ≤ 3))
            else if (wordS 4 == [116, 114, 97, 112]) = true then andB (decide ((BitVec.ofInt 64 1).toNat ≤ p.N.toNat)) (decide (p.N.toNat ≤ (BitVec.ofInt 64 6).toNat))
            else true) = andB (decide (1 ≤ p.F)) (decide (p.F ≤ 16)) := rfl
          rw [e, andB_eq, Bool.and_eq_true, decide_eq_true_eq, decide_eq_true_eq] at hg
          exact hg
        · cases hh : hasB p.Kind 119#8 with
          | true =>
            unfold wrongR at hw
            rw [hh] at hw
            have := (orB_false hw).1
            rw [andB_eq, Bool.true_and] at this
            have hW : A.isW p.W = true := by simpa using this
            unfold A.isW at hW
            simp only [Bool.or_eq_true, beq_iff_eq] at hW
            rw [decide_eq_true_eq]; omega
          | false =>
            unfold badR at hb
            have h1 := (orB_false (orB_false (orB_false hb).1).1).2
            rw [hh, andB_eq] at h1
            have : p.W = 0 := by simpa using h1
            rw [this]; rfl
theorem funs_at {f : Int} (h1 : 1 ≤ f) (h2 : f ≤ 16) : funsT.getD (IntKind.i64.wrap (f - 1)).toNat [] = functT.getD f.toNat [] := by
  rw [wrap_small (f - 1) (by omega) (by omega)]
  have e : f.toNat = (f - 1).toNat + 1 := by omega
  rw [e]; rfl
theorem show_eq {xs : List IOp} {j : Int} {p : IOp} (h : mayR xs j p = true) (i : Int) : showP p.Kind p.F p.W p.A p.B p.C p.N p.Signed p.Ord i = showR p.Kind p.F p.W p.A p.B p.C p.N p.Signed p.Ord i := by
  obtain ⟨⟨k1, k2⟩, hf, hw⟩ := may_facts h
  clear h
  obtain ⟨k, f, w, a, b, c, n, s, o⟩ := p
  simp only at k1 k2 hf hw ⊢
  have e1 : tP1 k f = tR1 k f := by
    rcases kind_cases k with h | rfl | rfl | rfl | rfl | rfl | rfl | rfl | rfl | rfl | rfl | rfl | rfl | rfl
    · omega
    case inr.inr.inr.inr.inl =>
      obtain ⟨f1, f2⟩ := hf rfl
      exact funs_at f1 f2
    all_goals rfl
  have e2 : tP2 k f i = tR2 k f i := by unfold tP2 tR2; rw [makesP_eq, e1]
  have e3 : tP3 k f w i = tR3 k f w i := by unfold tP3 tR3; rw [hw, e2]
  have e4 : tP4 k f w i s = tR4 k f w i s := by unfold tP4 tR4; rw [e3]
  have e5 : tP5 k f w i s n = tR6 k f w i s n := by
    unfold tP5 tR6 tR5
    rw [e4]
    rcases kind_cases k with h | rfl | rfl | rfl | rfl | rfl | rfl | rfl | rfl | rfl | rfl | rfl | rfl | rfl
    · omega
    all_goals rfl
  unfold showP showR tP6 tR7
  rw [usesP_eq, e5]
end Go.Proofs.YtcdnbdphakhilaaGreatDoor
