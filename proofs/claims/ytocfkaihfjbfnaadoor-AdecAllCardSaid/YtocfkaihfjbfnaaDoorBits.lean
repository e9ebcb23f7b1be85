/- Lemmas: the types of the program, and what the functions of bits and their reference compute, each shown by the evaluator. No condition. -/
import Derived.Test.YtocfkaihfjbfnaaDoorEvC
import Derived.Lib.ItoaNum
import Derived.Test.YtocfkaihfjbfnaaDoorProg
set_option linter.unusedVariables false
set_option linter.unusedSimpArgs false
set_option maxRecDepth 100000
namespace Go.Proofs.YtocfkaihfjbfnaaDoor
open Go.Proofs.YtocfkaihfjbfnaaDoor.Ev

def zv24 : List Value := [Value.int .i64 0] ++ [Value.int .i64 0] ++ [Value.int .i64 0] ++ [Value.int .i64 0] ++ [Value.int .i64 0] ++ [Value.int .i64 0] ++ [Value.int .u64 0] ++ [Value.int .i64 0] ++ [Value.int .i64 0] ++ [Value.int .i64 0] ++ [Value.int .i64 0] ++ []
theorem zero24 (C : Ctx) : CR C ([.i .i64 0, .i .i64 0, .i .i64 0, .i .i64 0, .i .i64 0, .i .i64 0, .u 64 0#64, .i .i64 0, .i .i64 0, .i .i64 0, .i .i64 0]) (zv24) := (.one rfl rfl (.i rfl ⟨by decide, by decide⟩) (.one rfl rfl (.i rfl ⟨by decide, by decide⟩) (.one rfl rfl (.i rfl ⟨by decide, by decide⟩) (.one rfl rfl (.i rfl ⟨by decide, by decide⟩) (.one rfl rfl (.i rfl ⟨by decide, by decide⟩) (.one rfl rfl (.i rfl ⟨by decide, by decide⟩) (.one rfl rfl (vz_u (k := .u64) rfl) (.one rfl rfl (.i rfl ⟨by decide, by decide⟩) (.one rfl rfl (.i rfl ⟨by decide, by decide⟩) (.one rfl rfl (.i rfl ⟨by decide, by decide⟩) (.one rfl rfl (.i rfl ⟨by decide, by decide⟩) .nil)))))))))))
theorem eqt24 : EqT Tryd.prog 24 ([.i .i64 0, .i .i64 0, .i .i64 0, .i .i64 0, .i .i64 0, .i .i64 0, .u 64 0#64, .i .i64 0, .i .i64 0, .i .i64 0, .i .i64 0]) 2 true := (.st Tryd.underlying24 (by kernel_rfl) (.cons (d' := 1) (by decide) rfl (.i (k := .i64) rfl Tryd.underlying3) (by decide) rfl (by kernel_rfl) (.cons (d' := 1) (by decide) rfl (.i (k := .i64) rfl Tryd.underlying3) (by decide) rfl (by kernel_rfl) (.cons (d' := 1) (by decide) rfl (.i (k := .i64) rfl Tryd.underlying3) (by decide) rfl (by kernel_rfl) (.cons (d' := 1) (by decide) rfl (.i (k := .i64) rfl Tryd.underlying3) (by decide) rfl (by kernel_rfl) (.cons (d' := 1) (by decide) rfl (.i (k := .i64) rfl Tryd.underlying3) (by decide) rfl (by kernel_rfl) (.cons (d' := 1) (by decide) rfl (.i (k := .i64) rfl Tryd.underlying3) (by decide) rfl (by kernel_rfl) (.cons (d' := 1) (by decide) rfl (.u (k := .u64) rfl Tryd.underlying22) (by decide) rfl (by kernel_rfl) (.cons (d' := 1) (by decide) rfl (.i (k := .i64) rfl Tryd.underlying2) (by decide) rfl (by kernel_rfl) (.cons (d' := 1) (by decide) rfl (.i (k := .i64) rfl Tryd.underlying3) (by decide) rfl (by kernel_rfl) (.cons (d' := 1) (by decide) rfl (.i (k := .i64) rfl Tryd.underlying3) (by decide) rfl (by kernel_rfl) (.cons (d' := 1) (by decide) rfl (.i (k := .i64) rfl Tryd.underlying3) (by decide) rfl (by kernel_rfl) .nil))))))))))))
def zv25 : List Value := [Value.int .i64 0] ++ [Value.int .i64 0] ++ [Value.int .i64 0] ++ [Value.int .i64 0] ++ [Value.int .i64 0] ++ [Value.int .i64 0] ++ [Value.int .u64 0] ++ [Value.int .i64 0] ++ [Value.int .i64 0] ++ [Value.int .i64 0] ++ [Value.int .i64 0] ++ []
theorem zero25 (C : Ctx) : CR C ([.i .i64 0, .i .i64 0, .i .i64 0, .i .i64 0, .i .i64 0, .i .i64 0, .u 64 0#64, .i .i64 0, .i .i64 0, .i .i64 0, .i .i64 0]) (zv25) := (.one rfl rfl (.i rfl ⟨by decide, by decide⟩) (.one rfl rfl (.i rfl ⟨by decide, by decide⟩) (.one rfl rfl (.i rfl ⟨by decide, by decide⟩) (.one rfl rfl (.i rfl ⟨by decide, by decide⟩) (.one rfl rfl (.i rfl ⟨by decide, by decide⟩) (.one rfl rfl (.i rfl ⟨by decide, by decide⟩) (.one rfl rfl (vz_u (k := .u64) rfl) (.one rfl rfl (.i rfl ⟨by decide, by decide⟩) (.one rfl rfl (.i rfl ⟨by decide, by decide⟩) (.one rfl rfl (.i rfl ⟨by decide, by decide⟩) (.one rfl rfl (.i rfl ⟨by decide, by decide⟩) .nil)))))))))))
theorem eqt25 : EqT Tryd.prog 25 ([.i .i64 0, .i .i64 0, .i .i64 0, .i .i64 0, .i .i64 0, .i .i64 0, .u 64 0#64, .i .i64 0, .i .i64 0, .i .i64 0, .i .i64 0]) 2 true := (.st Tryd.underlying25 (by kernel_rfl) (.cons (d' := 1) (by decide) rfl (.i (k := .i64) rfl Tryd.underlying3) (by decide) rfl (by kernel_rfl) (.cons (d' := 1) (by decide) rfl (.i (k := .i64) rfl Tryd.underlying3) (by decide) rfl (by kernel_rfl) (.cons (d' := 1) (by decide) rfl (.i (k := .i64) rfl Tryd.underlying3) (by decide) rfl (by kernel_rfl) (.cons (d' := 1) (by decide) rfl (.i (k := .i64) rfl Tryd.underlying3) (by decide) rfl (by kernel_rfl) (.cons (d' := 1) (by decide) rfl (.i (k := .i64) rfl Tryd.underlying3) (by decide) rfl (by kernel_rfl) (.cons (d' := 1) (by decide) rfl (.i (k := .i64) rfl Tryd.underlying3) (by decide) rfl (by kernel_rfl) (.cons (d' := 1) (by decide) rfl (.u (k := .u64) rfl Tryd.underlying22) (by decide) rfl (by kernel_rfl) (.cons (d' := 1) (by decide) rfl (.i (k := .i64) rfl Tryd.underlying2) (by decide) rfl (by kernel_rfl) (.cons (d' := 1) (by decide) rfl (.i (k := .i64) rfl Tryd.underlying3) (by decide) rfl (by kernel_rfl) (.cons (d' := 1) (by decide) rfl (.i (k := .i64) rfl Tryd.underlying3) (by decide) rfl (by kernel_rfl) (.cons (d' := 1) (by decide) rfl (.i (k := .i64) rfl Tryd.underlying3) (by decide) rfl (by kernel_rfl) .nil))))))))))))
def zv38 : List Value := [Value.string ⟨#[]⟩] ++ [Value.int .u64 0] ++ [Value.string ⟨#[]⟩] ++ []
theorem zero38 (C : Ctx) : CR C ([.str [], .u 64 0#64, .str []]) (zv38) := (.one rfl rfl vz_str (.one rfl rfl (vz_u (k := .u64) rfl) (.one rfl rfl vz_str .nil)))
theorem eqt38 : EqT Tryd.prog 38 ([.str [], .u 64 0#64, .str []]) 2 true := (.st Tryd.underlying38 (by kernel_rfl) (.cons (d' := 1) (by decide) rfl (.str Tryd.underlying9) (by decide) rfl (by kernel_rfl) (.cons (d' := 1) (by decide) rfl (.u (k := .u64) rfl Tryd.underlying22) (by decide) rfl (by kernel_rfl) (.cons (d' := 1) (by decide) rfl (.str Tryd.underlying9) (by decide) rfl (by kernel_rfl) .nil))))
def zv81 : List Value := List.replicate 48 (Value.int .u32 0) ++ []
theorem zero81 (C : Ctx) : CR C ([.ar 48 fun _ => .u 32 0#32]) (zv81) := (crz_ar (by decide) (vz_u (k := .u32) rfl) rfl rfl .nil)
theorem eqt81 : EqT Tryd.prog 81 ([.ar 48 fun _ => .u 32 0#32]) 2 true := (.ar Tryd.underlying81 (.u (k := .u32) rfl Tryd.underlying27) (by kernel_rfl))
def zv87 : List Value := [Value.bool false] ++ [Value.string ⟨#[]⟩] ++ []
theorem zero87 (C : Ctx) : CR C ([.b false, .str []]) (zv87) := (.one rfl rfl (.b false) (.one rfl rfl vz_str .nil))
theorem eqt87 : EqT Tryd.prog 87 ([.b false, .str []]) 2 true := (.st Tryd.underlying87 (by kernel_rfl) (.cons (d' := 1) (by decide) rfl (.b Tryd.underlying4) (by decide) rfl (by kernel_rfl) (.cons (d' := 1) (by decide) rfl (.str Tryd.underlying9) (by decide) rfl (by kernel_rfl) .nil)))
def zv92 : List Value := List.replicate 4 (Value.int .i64 0) ++ []
theorem zero92 (C : Ctx) : CR C ([.ar 4 fun _ => .i .i64 0]) (zv92) := (crz_ar (by decide) (.i rfl ⟨by decide, by decide⟩) rfl rfl .nil)
theorem eqt92 : EqT Tryd.prog 92 ([.ar 4 fun _ => .i .i64 0]) 2 true := (.ar Tryd.underlying92 (.i (k := .i64) rfl Tryd.underlying3) (by kernel_rfl))
def tyL : List (Nat × TyI) := [
  (2, ⟨.int .i64, 1, true, [.i .i64 0]⟩),
  (3, ⟨.int .i64, 1, true, [.i .i64 0]⟩),
  (4, ⟨.bool, 1, true, [.b false]⟩),
  (5, ⟨.int .u8, 1, true, [.u 8 0#8]⟩),
  (9, ⟨.string, 1, true, [.str []]⟩),
  (21, ⟨.int .i32, 1, true, [.i .i32 0]⟩),
  (22, ⟨.int .u64, 1, true, [.u 64 0#64]⟩),
  (24, ⟨.struct [(0, 3), (1, 3), (2, 3), (3, 3), (4, 3), (5, 3), (6, 22), (7, 2), (8, 3), (9, 3), (10, 3)], 11, true, [.i .i64 0, .i .i64 0, .i .i64 0, .i .i64 0, .i .i64 0, .i .i64 0, .u 64 0#64, .i .i64 0, .i .i64 0, .i .i64 0, .i .i64 0]⟩),
  (25, ⟨.struct [(0, 3), (1, 3), (2, 3), (3, 3), (4, 3), (5, 3), (6, 22), (7, 2), (8, 3), (9, 3), (10, 3)], 11, true, [.i .i64 0, .i .i64 0, .i .i64 0, .i .i64 0, .i .i64 0, .i .i64 0, .u 64 0#64, .i .i64 0, .i .i64 0, .i .i64 0, .i .i64 0]⟩),
  (27, ⟨.int .u32, 1, true, [.u 32 0#32]⟩),
  (28, ⟨.int .i64, 1, true, [.i .i64 0]⟩),
  (38, ⟨.struct [(0, 9), (1, 22), (2, 9)], 3, true, [.str [], .u 64 0#64, .str []]⟩),
  (53, ⟨.int .u64, 1, true, [.u 64 0#64]⟩),
  (69, ⟨.slice 9, 1, false, [.nils]⟩),
  (74, ⟨.slice 3, 1, false, [.nils]⟩),
  (77, ⟨.int .u32, 1, true, [.u 32 0#32]⟩),
  (81, ⟨.array 48 27, 48, true, [.ar 48 fun _ => .u 32 0#32]⟩),
  (87, ⟨.struct [(0, 4), (1, 9)], 2, true, [.b false, .str []]⟩),
  (88, ⟨.slice 87, 1, false, [.nils]⟩),
  (92, ⟨.array 4 3, 4, true, [.ar 4 fun _ => .i .i64 0]⟩),
  (96, ⟨.pointer 25, 1, false, [.nilp]⟩)]
abbrev T : TypeId → Option TyI := tyList tyL
theorem ty2 : TyOk1 Tryd.prog 2 ⟨.int .i64, 1, true, [.i .i64 0]⟩ := (.i rfl ⟨by decide, by decide⟩ Tryd.underlying2 (by kernel_rfl))
theorem ty3 : TyOk1 Tryd.prog 3 ⟨.int .i64, 1, true, [.i .i64 0]⟩ := (.i rfl ⟨by decide, by decide⟩ Tryd.underlying3 (by kernel_rfl))
theorem ty4 : TyOk1 Tryd.prog 4 ⟨.bool, 1, true, [.b false]⟩ := (.b Tryd.underlying4 (by kernel_rfl))
theorem ty5 : TyOk1 Tryd.prog 5 ⟨.int .u8, 1, true, [.u 8 0#8]⟩ := (.u (k := .u8) rfl Tryd.underlying5 (by kernel_rfl))
theorem ty9 : TyOk1 Tryd.prog 9 ⟨.string, 1, true, [.str []]⟩ := (.str Tryd.underlying9 (by kernel_rfl))
theorem ty21 : TyOk1 Tryd.prog 21 ⟨.int .i32, 1, true, [.i .i32 0]⟩ := (.i rfl ⟨by decide, by decide⟩ Tryd.underlying21 (by kernel_rfl))
theorem ty22 : TyOk1 Tryd.prog 22 ⟨.int .u64, 1, true, [.u 64 0#64]⟩ := (.u (k := .u64) rfl Tryd.underlying22 (by kernel_rfl))
theorem ty24 : TyOk1 Tryd.prog 24 ⟨.struct [(0, 3), (1, 3), (2, 3), (3, 3), (4, 3), (5, 3), (6, 22), (7, 2), (8, 3), (9, 3), (10, 3)], 11, true, [.i .i64 0, .i .i64 0, .i .i64 0, .i .i64 0, .i .i64 0, .i .i64 0, .u 64 0#64, .i .i64 0, .i .i64 0, .i .i64 0, .i .i64 0]⟩ := (.agg Tryd.underlying24 rfl ⟨.agg zv24.toArray, (by kernel_rfl), fun C => zero24 C⟩ (fun _ => EqRuns.of eqt24 (by decide) (by kernel_rfl)) (fun fs e => by cases e; kernel_rfl))
theorem ty25 : TyOk1 Tryd.prog 25 ⟨.struct [(0, 3), (1, 3), (2, 3), (3, 3), (4, 3), (5, 3), (6, 22), (7, 2), (8, 3), (9, 3), (10, 3)], 11, true, [.i .i64 0, .i .i64 0, .i .i64 0, .i .i64 0, .i .i64 0, .i .i64 0, .u 64 0#64, .i .i64 0, .i .i64 0, .i .i64 0, .i .i64 0]⟩ := (.agg Tryd.underlying25 rfl ⟨.agg zv25.toArray, (by kernel_rfl), fun C => zero25 C⟩ (fun _ => EqRuns.of eqt25 (by decide) (by kernel_rfl)) (fun fs e => by cases e; kernel_rfl))
theorem ty27 : TyOk1 Tryd.prog 27 ⟨.int .u32, 1, true, [.u 32 0#32]⟩ := (.u (k := .u32) rfl Tryd.underlying27 (by kernel_rfl))
theorem ty28 : TyOk1 Tryd.prog 28 ⟨.int .i64, 1, true, [.i .i64 0]⟩ := (.i rfl ⟨by decide, by decide⟩ Tryd.underlying28 (by kernel_rfl))
theorem ty38 : TyOk1 Tryd.prog 38 ⟨.struct [(0, 9), (1, 22), (2, 9)], 3, true, [.str [], .u 64 0#64, .str []]⟩ := (.agg Tryd.underlying38 rfl ⟨.agg zv38.toArray, (by kernel_rfl), fun C => zero38 C⟩ (fun _ => EqRuns.of eqt38 (by decide) (by kernel_rfl)) (fun fs e => by cases e; kernel_rfl))
theorem ty53 : TyOk1 Tryd.prog 53 ⟨.int .u64, 1, true, [.u 64 0#64]⟩ := (.u (k := .u64) rfl Tryd.underlying53 (by kernel_rfl))
theorem ty69 : TyOk1 Tryd.prog 69 ⟨.slice 9, 1, false, [.nils]⟩ := (.nils Tryd.underlying69 (by kernel_rfl))
theorem ty74 : TyOk1 Tryd.prog 74 ⟨.slice 3, 1, false, [.nils]⟩ := (.nils Tryd.underlying74 (by kernel_rfl))
theorem ty77 : TyOk1 Tryd.prog 77 ⟨.int .u32, 1, true, [.u 32 0#32]⟩ := (.u (k := .u32) rfl Tryd.underlying77 (by kernel_rfl))
theorem ty81 : TyOk1 Tryd.prog 81 ⟨.array 48 27, 48, true, [.ar 48 fun _ => .u 32 0#32]⟩ := (.agg Tryd.underlying81 rfl ⟨.agg zv81.toArray, (by kernel_rfl), fun C => zero81 C⟩ (fun _ => EqRuns.of eqt81 (by decide) (by kernel_rfl)) (fun fs e => by cases e))
theorem ty87 : TyOk1 Tryd.prog 87 ⟨.struct [(0, 4), (1, 9)], 2, true, [.b false, .str []]⟩ := (.agg Tryd.underlying87 rfl ⟨.agg zv87.toArray, (by kernel_rfl), fun C => zero87 C⟩ (fun _ => EqRuns.of eqt87 (by decide) (by kernel_rfl)) (fun fs e => by cases e; kernel_rfl))
theorem ty88 : TyOk1 Tryd.prog 88 ⟨.slice 87, 1, false, [.nils]⟩ := (.nils Tryd.underlying88 (by kernel_rfl))
theorem ty92 : TyOk1 Tryd.prog 92 ⟨.array 4 3, 4, true, [.ar 4 fun _ => .i .i64 0]⟩ := (.agg Tryd.underlying92 rfl ⟨.agg zv92.toArray, (by kernel_rfl), fun C => zero92 C⟩ (fun _ => EqRuns.of eqt92 (by decide) (by kernel_rfl)) (fun fs e => by cases e))
theorem ty96 : TyOk1 Tryd.prog 96 ⟨.pointer 25, 1, false, [.nilp]⟩ := (.nilp Tryd.underlying96 (by kernel_rfl))
theorem tyOk : TyOk Tryd.prog T := .cons ty2 <| .cons ty3 <| .cons ty4 <| .cons ty5 <| .cons ty9 <| .cons ty21 <| .cons ty22 <| .cons ty24 <| .cons ty25 <| .cons ty27 <| .cons ty28 <| .cons ty38 <| .cons ty53 <| .cons ty69 <| .cons ty74 <| .cons ty77 <| .cons ty81 <| .cons ty87 <| .cons ty88 <| .cons ty92 <| .cons ty96 <| .nil
/-- What is known of the program's own variables: the greatest length of a short search, and the powers of ten. -/
def Vars (w : World) (R : Nat → Prop) : Prop := (R 1 ∧ ∃ m, w.cell? ⟨1, 0, none⟩ = some (.int .i64 m)) ∧ R 0 ∧ ∃ e f, w.heap[0]? = some (.cells (Lib.pow10Tab.map fun z => Value.int .u64 z).toArray e f)
theorem Vars.mono {w : World} {R : Nat → Prop} {w' : World} {R' : Nat → Prop} (h : Vars w R) (hle : ∀ b, R b → R' b ∧ w'.heap[b]? = w.heap[b]?) : Vars w' R' := by
  obtain ⟨⟨h1, m, hm⟩, h0, e, f, hf⟩ := h
  exact ⟨⟨(hle 1 h1).1, m, (cell_of_block (hle 1 h1).2 0 none).trans hm⟩, (hle 0 h0).1, e, f, (hle 0 h0).2.trans hf⟩
instance : Glob := ⟨Vars, Vars.mono⟩
theorem mixed : Tryd.prog.follows .mixedOrders = true := by kernel_rfl
end Go.Proofs.YtocfkaihfjbfnaaDoor
namespace Go.Proofs.YtocfkaihfjbfnaaDoor
open Go.Proofs.YtocfkaihfjbfnaaDoor.Ev Go.RowKit
/- Plain: what the functions of bits compute. -/
abbrev W64 := BitVec 64
def isW (w : Int) : Bool := w == 1 || w == 2 || w == 4 || w == 8
/-- bits of a width -/
def nb (w : Int) : Nat := bif isW w then 8 * w.toNat else 0
def bitB (b : Bool) : W64 := bif b then 1#64 else 0#64
/-- bits told by a function, from the least on -/
def sumBits (f : Nat → Bool) : Nat → W64
  | 0 => 0#64
  | n + 1 => sumBits f n + bitB (f n) <<< n
def low (v : W64) (n : Nat) : W64 := sumBits v.getLsbD n
def zx (v : W64) (w : Int) : W64 := low v (nb w)
def sx (v : W64) (w : Int) : W64 := bif isW w then sumBits (fun j => v.getLsbD (min j (nb w - 1))) 64 else 0#64
def neg (v : W64) (w : Int) : Bool := isW w && v.getLsbD (nb w - 1)
def sum1 (a b : W64) (c : Bool) (w : Int) : W64 := low (a + b + bitB c) (nb w)
def sum2 (a b : W64) (c : Bool) (w : Int) : Bool := isW w && BitVec.carry (nb w) a b c
def sum3 (a b : W64) (c : Bool) (w : Int) : Bool := isW w && (BitVec.carry (nb w) a b c != BitVec.carry (nb w - 1) a b c)

theorem isW_cases {w : Int} (h : isW w = true) : w = 1 ∨ w = 2 ∨ w = 4 ∨ w = 8 := by
  simp only [isW, Bool.or_eq_true, beq_iff_eq] at h; omega
theorem nb_le (w : Int) : nb w ≤ 64 := by
  unfold nb
  cases h : isW w with
  | false => simp
  | true => rcases isW_cases h with rfl | rfl | rfl | rfl <;> decide

theorem bitB_toNat (b : Bool) : (bitB b).toNat = b.toNat := by cases b <;> rfl

theorem sumBits_toNat_lt (f : Nat → Bool) : ∀ n, n ≤ 64 → (sumBits f n).toNat < 2 ^ n
  | 0, h => by simp [sumBits]
  | n + 1, h => by
    have ih := sumBits_toNat_lt f n (by omega)
    have h64 : (2:Nat) ^ (n + 1) ≤ 2 ^ 64 := Nat.pow_le_pow_right (by omega) h
    have hp : (2:Nat) ^ (n + 1) = 2 ^ n * 2 := Nat.pow_succ ..
    have hb : (bitB (f n) <<< n).toNat = (f n).toNat * 2 ^ n := by
      rw [BitVec.toNat_shiftLeft, bitB_toNat, Nat.shiftLeft_eq]
      apply Nat.mod_eq_of_lt
      cases f n <;> simp <;> omega
    rw [sumBits, BitVec.toNat_add, hb]
    have : (f n).toNat * 2 ^ n ≤ 2 ^ n := by cases f n <;> simp
    rw [Nat.mod_eq_of_lt (by omega)]
    omega

theorem sumBits_succ_toNat (f : Nat → Bool) (n : Nat) (h : n < 64) : (sumBits f (n + 1)).toNat = (sumBits f n).toNat + (f n).toNat * 2 ^ n := by
  have ih := sumBits_toNat_lt f n (by omega)
  have h64 : (2:Nat) ^ (n + 1) ≤ 2 ^ 64 := Nat.pow_le_pow_right (by omega) h
  have hp : (2:Nat) ^ (n + 1) = 2 ^ n * 2 := Nat.pow_succ ..
  have hb : (bitB (f n) <<< n).toNat = (f n).toNat * 2 ^ n := by
    rw [BitVec.toNat_shiftLeft, bitB_toNat, Nat.shiftLeft_eq]
    apply Nat.mod_eq_of_lt
    cases f n <;> simp <;> omega
  rw [sumBits, BitVec.toNat_add, hb]
  have : (f n).toNat * 2 ^ n ≤ 2 ^ n := by cases f n <;> simp
  rw [Nat.mod_eq_of_lt (by omega)]

theorem sumBits_testBit (f : Nat → Bool) : ∀ n, n ≤ 64 → ∀ j, (sumBits f n).toNat.testBit j = (decide (j < n) && f j)
  | 0, _, j => by simp [sumBits]
  | n + 1, h, j => by
    have ih := sumBits_testBit f n (by omega)
    rw [sumBits_succ_toNat f n (by omega), Nat.add_comm, Nat.mul_comm, Nat.testBit_two_pow_mul_add _ (sumBits_toNat_lt f n (by omega)), ih]
    split
    · rename_i hj; have : j < n + 1 := by omega
      simp [hj, this]
    · rename_i hj
      by_cases hjn : j = n
      · subst hjn; simp; cases f j <;> rfl
      · have h1 : ¬ j < n + 1 := by omega
        have : (f n).toNat.testBit (j - n) = false := by
          obtain ⟨k, hk⟩ : ∃ k, j - n = k + 1 := ⟨j - n - 1, by omega⟩
          rw [hk]
          cases f n <;> simp [Nat.testBit_succ]
        simp [h1, this]

theorem sumBits_get (f : Nat → Bool) {n : Nat} (h : n ≤ 64) (j : Nat) : (sumBits f n).getLsbD j = (decide (j < n) && f j) := by
  rw [BitVec.getLsbD, sumBits_testBit f n h]

theorem low_get (v : W64) {n : Nat} (h : n ≤ 64) (j : Nat) : (low v n).getLsbD j = (decide (j < n) && v.getLsbD j) := sumBits_get _ h j

theorem low_toNat (v : W64) {n : Nat} (h : n ≤ 64) : (low v n).toNat = v.toNat % 2 ^ n := by
  apply Nat.eq_of_testBit_eq
  intro j
  rw [low, sumBits_testBit _ _ h, Nat.testBit_mod_two_pow]; rfl

theorem low_eq_and (v : W64) {n : Nat} (h : n ≤ 64) : low v n = v &&& (BitVec.allOnes 64 >>> (64 - n)) := by
  apply BitVec.eq_of_getLsbD_eq
  intro j hj
  rw [low_get v h, BitVec.getLsbD_and, BitVec.getLsbD_ushiftRight, BitVec.getLsbD_allOnes, Bool.and_comm]
  congr 1
  simp; omega

theorem bit_eq (v : W64) (n : Nat) : (v >>> n) % 2#64 = bitB (v.getLsbD n) := by
  apply BitVec.eq_of_toNat_eq
  rw [bitB_toNat, BitVec.toNat_umod, BitVec.toNat_ushiftRight, BitVec.getLsbD, Nat.testBit_eq_decide_div_mod_eq, Nat.shiftRight_eq_div_pow]
  show _ % 2 = _
  rcases Nat.mod_two_eq_zero_or_one (v.toNat / 2 ^ n) with e | e <;> simp [e]

/- Plain: what the functions of bits compute, by the operations on words. -/
theorem nb_cases {w : Int} (h : isW w = true) : nb w = 8 ∨ nb w = 16 ∨ nb w = 32 ∨ nb w = 64 := by
  rcases isW_cases h with rfl | rfl | rfl | rfl <;> simp [nb, isW]
theorem sumBits_congr {f g : Nat → Bool} : ∀ {n : Nat}, (∀ j, j < n → f j = g j) → sumBits f n = sumBits g n
  | 0, _ => rfl
  | n + 1, h => by rw [sumBits, sumBits, sumBits_congr (fun j hj => h j (by omega)), h n (by omega)]
theorem eq_sumBits {x : W64} {f : Nat → Bool} {n : Nat} (hn : n ≤ 64) (h : ∀ j, j < 64 → x.getLsbD j = (decide (j < n) && f j)) : x = sumBits f n := by
  apply BitVec.eq_of_getLsbD_eq
  intro j hj
  rw [h j hj, sumBits_get f hn]

theorem sx_eq (v : W64) {w : Int} (h : isW w = true) : (v <<< (64 - nb w)).sshiftRight (64 - nb w) = sx v w := by
  simp only [sx, h, cond_true]
  apply eq_sumBits (Nat.le_refl _)
  intro j hj
  have hp : nb w ≤ 64 := nb_le w
  have hp0 : 0 < nb w := by rcases nb_cases h with e | e | e | e <;> omega
  rw [BitVec.getLsbD_sshiftRight]
  simp only [hj, decide_true, Bool.true_and]
  have h1 : ¬ 64 ≤ j := by omega
  simp only [h1, decide_false, Bool.not_false, Bool.true_and]
  split
  · rename_i hlt
    rw [BitVec.getLsbD_shiftLeft]
    have e1 : 64 - nb w + j - (64 - nb w) = j := by omega
    have e2 : min j (nb w - 1) = j := by omega
    have e3 : ¬ (64 - nb w + j < 64 - nb w) := by omega
    simp only [hlt, e1, e2, e3, decide_true, decide_false, Bool.not_false, Bool.true_and]
  · rename_i hlt
    rw [BitVec.msb_eq_getLsbD_last, BitVec.getLsbD_shiftLeft]
    have e1 : 64 - 1 - (64 - nb w) = nb w - 1 := by omega
    have e2 : min j (nb w - 1) = nb w - 1 := by omega
    have e3 : ¬ (64 - 1 < 64 - nb w) := by omega
    simp only [e1, e2, e3, decide_true, decide_false, Bool.not_false, Bool.true_and, Nat.sub_lt (by decide : 0 < 64) (by decide : 0 < 1)]

theorem and1_eq (v : W64) (n : Nat) : ((v >>> n) &&& 1#64) = bitB (v.getLsbD n) := by
  rw [← bit_eq]
  apply BitVec.eq_of_toNat_eq
  rw [BitVec.toNat_and, BitVec.toNat_umod]
  exact Nat.and_one_is_mod _
theorem bitB_is (b : Bool) : (bitB b == 1#64) = b := by cases b <;> rfl

theorem low_congr {x y : W64} {n : Nat} (hn : n ≤ 64) (h : x.toNat % 2 ^ n = y.toNat % 2 ^ n) : low x n = low y n := by
  apply BitVec.eq_of_toNat_eq
  rw [low_toNat x hn, low_toNat y hn, h]

theorem sum1_eq (a b : W64) (c : Bool) (w : Int) : zx (zx a w + zx b w + bitB c) w = sum1 a b c w := by
  have hn := nb_le w
  refine low_congr hn ?_
  have hd : 2 ^ nb w ∣ 2 ^ 64 := Nat.pow_dvd_pow 2 hn
  simp only [BitVec.toNat_add, zx, low_toNat _ hn, bitB_toNat]
  rw [Nat.mod_mod_of_dvd _ hd, Nat.mod_mod_of_dvd _ hd]
  rw [Nat.add_mod ((a.toNat % 2 ^ nb w + b.toNat % 2 ^ nb w) % 2 ^ 64), Nat.mod_mod_of_dvd _ hd, ← Nat.add_mod a.toNat, Nat.add_mod ((a.toNat + b.toNat) % 2 ^ 64), Nat.mod_mod_of_dvd _ hd]

theorem carry_eq (a b : W64) (c : Bool) {n : Nat} : BitVec.carry n a b c = decide (2 ^ n ≤ a.toNat % 2 ^ n + b.toNat % 2 ^ n + c.toNat) := rfl

theorem sum2_eq (a b : W64) (c : Bool) {w : Int} (h : isW w = true) :
    (if (bitB (decide (2 ^ 64 ≤ (zx a w).toNat + (zx b w).toNat + (bitB c).toNat)) == 1#64) = true then true else (zx a w + zx b w + bitB c) != zx (zx a w + zx b w + bitB c) w) = sum2 a b c w := by
  have hn := nb_le w
  simp only [sum2, h, Bool.true_and, carry_eq, bitB_is, bitB_toNat]
  have e : ((zx a w + zx b w + bitB c) != zx (zx a w + zx b w + bitB c) w) = decide ((zx a w + zx b w + bitB c).toNat ≠ (zx a w + zx b w + bitB c).toNat % 2 ^ nb w) := by
    rw [Bool.eq_iff_iff, bne_iff_ne, decide_eq_true_eq, ← low_toNat _ hn]
    exact not_congr ⟨fun e => congrArg BitVec.toNat e, fun e => BitVec.eq_of_toNat_eq e⟩
  rw [e]
  simp only [BitVec.toNat_add, zx, low_toNat _ hn, bitB_toNat]
  have := c.toNat_le
  have ha := a.isLt
  have hb := b.isLt
  rcases nb_cases h with e | e | e | e <;> rw [e] <;> simp only [decide_eq_true_eq] <;> split <;> (first | (symm; rw [decide_eq_true_eq]; omega) | (rw [decide_eq_decide]; omega))

theorem bitB_eq (c : Bool) : bitB c = BitVec.setWidth 64 (BitVec.ofBool c) := by cases c <;> rfl
theorem sum_bit (a b : W64) (c : Bool) {j : Nat} (hj : j < 64) : (a + b + bitB c).getLsbD j = (a.getLsbD j ^^ (b.getLsbD j ^^ BitVec.carry j a b c)) := by
  rw [bitB_eq, BitVec.getLsbD_add_add_bool hj]

theorem neg_and (x y : W64) {w : Int} (h : isW w = true) : neg (x &&& y) w = (x.getLsbD (nb w - 1) && y.getLsbD (nb w - 1)) := by
  simp [neg, h]
theorem zx_top (a : W64) {w : Int} (h : isW w = true) : (zx a w).getLsbD (nb w - 1) = a.getLsbD (nb w - 1) := by
  rw [zx, low_get _ (nb_le w)]
  have : nb w - 1 < nb w := by rcases nb_cases h with e | e | e | e <;> omega
  simp [this]
theorem carry_top (a b : W64) (c : Bool) {w : Int} (h : isW w = true) : BitVec.carry (nb w) a b c = Bool.atLeastTwo (a.getLsbD (nb w - 1)) (b.getLsbD (nb w - 1)) (BitVec.carry (nb w - 1) a b c) := by
  rw [← BitVec.carry_succ]
  congr 1
  rcases nb_cases h with e | e | e | e <;> omega

theorem sum3_eq (a b : W64) (c : Bool) {w : Int} (h : isW w = true) : neg ((zx a w ^^^ sum1 a b c w) &&& (zx b w ^^^ sum1 a b c w)) w = sum3 a b c w := by
  have hlt : nb w - 1 < 64 := by have := nb_le w; rcases nb_cases h with e | e | e | e <;> omega
  rw [neg_and _ _ h, BitVec.getLsbD_xor, BitVec.getLsbD_xor, zx_top a h, zx_top b h]
  rw [show sum1 a b c w = zx (a + b + bitB c) w from rfl, zx_top _ h, sum_bit _ _ _ hlt, sum3, carry_top a b c h, h]
  generalize a.getLsbD (nb w - 1) = x
  generalize b.getLsbD (nb w - 1) = y
  generalize BitVec.carry (nb w - 1) a b c = z
  cases x <;> cases y <;> cases z <;> rfl

/- the difference -/
theorem low_not (b : W64) {n : Nat} (hn : n ≤ 64) : (~~~ b).toNat % 2 ^ n = 2 ^ n - 1 - b.toNat % 2 ^ n := by
  apply Nat.eq_of_testBit_eq
  intro j
  rw [Nat.testBit_mod_two_pow, show 2 ^ n - 1 - b.toNat % 2 ^ n = 2 ^ n - (b.toNat % 2 ^ n + 1) by omega, Nat.testBit_two_pow_sub_succ (Nat.mod_lt _ (Nat.two_pow_pos n)), Nat.testBit_mod_two_pow]
  by_cases h : j < n
  · simp only [h, decide_true, Bool.true_and]
    rw [← BitVec.getLsbD, BitVec.getLsbD_not, BitVec.getLsbD]
    have : j < 64 := by omega
    simp [this]
  · simp [h]

theorem sub_as_sum (a b : W64) (c : Bool) : a - b - bitB c = a + ~~~ b + bitB (!c) := by
  rw [BitVec.not_eq_neg_add]
  cases c
  · simp only [bitB, cond_false, Bool.not_false, cond_true]
    rw [BitVec.sub_eq_add_neg a b, BitVec.sub_eq_add_neg (-b), BitVec.add_assoc a, BitVec.add_assoc (-b)]
    simp
  · simp only [bitB, cond_false, Bool.not_true, cond_true, BitVec.add_zero]
    rw [BitVec.sub_eq_add_neg (a - b), BitVec.sub_eq_add_neg a, BitVec.sub_eq_add_neg (-b), BitVec.add_assoc]

theorem less1_eq (a b : W64) (c : Bool) (w : Int) : zx (zx a w - zx b w - bitB c) w = sum1 a (~~~ b) (!c) w := by
  have hn := nb_le w
  rw [sum1, ← sub_as_sum]
  refine low_congr hn ?_
  have hd : (2:Int) ^ nb w ∣ 2 ^ 64 := ⟨2 ^ (64 - nb w), by rw [← Int.pow_add]; congr 1; omega⟩
  apply Int.ofNat.inj
  show ((_ % 2 ^ nb w : Nat) : Int) = ((_ % 2 ^ nb w : Nat) : Int)
  have key : ∀ x y : W64, ((x - y - bitB c).toNat % 2 ^ nb w : Nat) = ((x.toNat : Int) - y.toNat - (bitB c).toNat) % 2 ^ nb w := by
    intro x y
    have e : ((x - y - bitB c).toNat : Int) = ((x.toNat : Int) - y.toNat - (bitB c).toNat) % 2 ^ 64 := by
      rw [BitVec.toNat_sub, BitVec.toNat_sub]
      have := x.isLt; have := y.isLt; have := (bitB c).isLt
      omega
    rw [Int.natCast_emod, e]
    push_cast
    rw [show (18446744073709551616:Int) = 2 ^ 64 by decide, Int.emod_emod_of_dvd _ hd]
  rw [key, key]
  simp only [zx, low_toNat _ hn]
  push_cast
  rw [Int.sub_emod ((a.toNat : Int) % 2 ^ nb w - _), ← Int.sub_emod (a.toNat : Int), ← Int.sub_emod]

theorem less2_eq (a b : W64) (c : Bool) {w : Int} (h : isW w = true) : (bitB (decide ((zx a w).toNat < (zx b w).toNat + (bitB c).toNat)) == 1#64) = !sum2 a (~~~ b) (!c) w := by
  have hn := nb_le w
  simp only [bitB_is, sum2, h, Bool.true_and, carry_eq, low_not b hn, zx, low_toNat _ hn, bitB_toNat]
  have h1 := Nat.mod_lt a.toNat (Nat.two_pow_pos (nb w))
  have h2 := Nat.mod_lt b.toNat (Nat.two_pow_pos (nb w))
  rw [← decide_not, decide_eq_decide]
  cases c <;> simp <;> omega

theorem less3_eq (a b : W64) (c : Bool) {w : Int} (h : isW w = true) : neg ((zx a w ^^^ zx b w) &&& (zx a w ^^^ sum1 a (~~~ b) (!c) w)) w = sum3 a (~~~ b) (!c) w := by
  have hlt : nb w - 1 < 64 := by have := nb_le w; rcases nb_cases h with e | e | e | e <;> omega
  rw [neg_and _ _ h, BitVec.getLsbD_xor, BitVec.getLsbD_xor, zx_top a h, zx_top b h]
  rw [show sum1 a (~~~ b) (!c) w = zx (a + ~~~ b + bitB (!c)) w from rfl, zx_top _ h, sum_bit _ _ _ hlt, sum3, carry_top a (~~~ b) (!c) h, h]
  rw [BitVec.getLsbD_not]
  simp only [hlt, decide_true, Bool.true_and]
  generalize a.getLsbD (nb w - 1) = x
  generalize b.getLsbD (nb w - 1) = y
  generalize BitVec.carry (nb w - 1) a (~~~ b) (!c) = z
  cases x <;> cases y <;> cases z <;> rfl
/- Plain: turning, counting. -/
def turnN (v : W64) (m n : Nat) : W64 := sumBits (fun j => v.getLsbD ((j + (n - m)) % n)) n
def turn (v : W64) (k : Int) (w : Int) : W64 := turnN v (k % (nb w : Int)).toNat (nb w)

theorem idx1 {j m n : Nat} (hj : j < n) (hm : m < n) : (j + (n - m)) % n = if j < m then j + n - m else j - m := by
  split
  · rw [Nat.mod_eq_of_lt (by omega)]; omega
  · rw [show j + (n - m) = (j - m) + n by omega, Nat.add_mod_right, Nat.mod_eq_of_lt (by omega)]
theorem idx2 {i m n : Nat} (hi : i < n) (hm : m < n) : (i + m) % n = if i + m < n then i + m else i + m - n := by
  split
  · rw [Nat.mod_eq_of_lt (by omega)]
  · rw [show i + m = (i + m - n) + n by omega, Nat.add_mod_right, Nat.mod_eq_of_lt (by omega)]; omega

theorem turn_code (v : W64) {m n : Nat} (hm : m < n) (hn : n ≤ 64) : low (low v n <<< m ||| low v n >>> (n - m)) n = turnN v m n := by
  apply sumBits_congr
  intro j hj
  have hj64 : j < 64 := by omega
  rw [idx1 hj hm, BitVec.getLsbD_or, BitVec.getLsbD_shiftLeft, BitVec.getLsbD_ushiftRight, low_get v hn, low_get v hn]
  simp only [hj64, decide_true, Bool.true_and]
  split
  · rename_i h
    simp only [h, decide_true, Bool.not_true, Bool.false_and, Bool.false_or]
    have e1 : n - m + j < n := by omega
    have e2 : n - m + j = j + n - m := by omega
    have e3 : j + n - m < n := by omega
    simp only [e1, decide_true, Bool.true_and, e2, e3]
  · rename_i h
    have e1 : ¬ n - m + j < n := by omega
    have e2 : j - m < n := by omega
    simp only [h, e1, e2, decide_false, decide_true, Bool.not_false, Bool.true_and, Bool.false_and, Bool.or_false]

def part (v : W64) (m n i : Nat) : W64 := sumBits (fun j => decide ((j + (n - m)) % n < i) && v.getLsbD ((j + (n - m)) % n)) n
theorem sumBits_false {f : Nat → Bool} : ∀ {n : Nat}, (∀ j, j < n → f j = false) → sumBits f n = 0#64
  | 0, _ => rfl
  | n + 1, h => by rw [sumBits, sumBits_false (fun j hj => h j (by omega)), h n (by omega)]; simp [bitB]
theorem part_zero (v : W64) (m n : Nat) : part v m n 0 = 0#64 := sumBits_false fun j _ => by simp
theorem part_all (v : W64) {m n : Nat} (hn : 0 < n) : part v m n n = turnN v m n := sumBits_congr fun j _ => by
  have : (j + (n - m)) % n < n := Nat.mod_lt _ hn
  simp [this]
theorem bitB_shift_get (b : Bool) (p j : Nat) (hp : p < 64) : (bitB b <<< p).getLsbD j = (decide (j = p) && b) := by
  rw [BitVec.getLsbD_shiftLeft]
  cases b
  · simp [bitB]
  · simp only [bitB, cond_true, Bool.and_true]
    by_cases h : j = p
    · subst h; simp [hp]
    · by_cases h2 : j < p
      · simp [h, h2]
      · obtain ⟨d, hd⟩ : ∃ d, j - p = d + 1 := ⟨j - p - 1, by omega⟩
        simp [h, hd, BitVec.getLsbD_one]
theorem part_succ (v : W64) {m n i : Nat} (hm : m < n) (hi : i < n) (hn : n ≤ 64) : part v m n i + bitB (v.getLsbD i) <<< ((i + m) % n) = part v m n (i + 1) := by
  have hp : (i + m) % n < n := Nat.mod_lt _ (by omega)
  have hg : ∀ i' j, (part v m n i').getLsbD j = (decide (j < n) && (decide ((j + (n - m)) % n < i') && v.getLsbD ((j + (n - m)) % n))) := fun i' j => sumBits_get _ hn j
  have key : ∀ j, j < n → (j = (i + m) % n ↔ (j + (n - m)) % n = i) := by
    intro j hj
    rw [idx1 hj hm, idx2 hi hm]
    split <;> split <;> omega
  rw [BitVec.add_eq_or_of_and_eq_zero]
  · apply BitVec.eq_of_getLsbD_eq
    intro j _
    rw [BitVec.getLsbD_or, hg, hg, bitB_shift_get _ _ _ (by omega)]
    by_cases hj : j < n
    · simp only [hj, decide_true, Bool.true_and, decide_eq_decide.2 (key j hj)]
      by_cases h1 : (j + (n - m)) % n = i
      · simp [h1]
      · have : (j + (n - m)) % n < i + 1 ↔ (j + (n - m)) % n < i := by omega
        simp [h1, this]
    · have : j ≠ (i + m) % n := by omega
      simp [hj, this]
  · apply BitVec.eq_of_getLsbD_eq
    intro j _
    rw [BitVec.getLsbD_and, hg, bitB_shift_get _ _ _ (by omega)]
    by_cases hj : j < n
    · simp only [hj, decide_true, Bool.true_and, decide_eq_decide.2 (key j hj)]
      by_cases h1 : (j + (n - m)) % n = i
      · simp [h1]
      · simp [h1]
    · simp [hj]

theorem turn_turn (v : W64) {m p n : Nat} (hm : m < n) (hp : p < n) (hn : n ≤ 64) (h : m + p = 0 ∨ m + p = n) : turnN (turnN v m n) p n = low v n := by
  apply sumBits_congr
  intro j hj
  have h1 : (j + (n - p)) % n < n := Nat.mod_lt _ (by omega)
  rw [turnN, sumBits_get _ hn]
  simp only [h1, decide_true, Bool.true_and]
  congr 1
  rw [idx1 h1 hm, idx1 hj hp]
  split <;> split <;> omega

theorem tmod_turn (k : Int) {n : Nat} (h0 : 0 < n) (h : n ≤ 64) : (k.tmod n + n) % (n : Int) = k % n ∧ 0 < k.tmod n + n ∧ k.tmod n + n < 2 * n := by
  have hn : (0 : Int) < n := by omega
  refine ⟨?_, ?_, ?_⟩
  · rw [Int.add_emod_right, Int.tmod_def, Int.sub_mul_emod_self_left]
  · have := Int.lt_tmod_of_pos k hn; omega
  · have := Int.tmod_lt_of_pos k hn; omega

def popN (f : Nat → Bool) : Nat → Nat
  | 0 => 0
  | n + 1 => popN f n + (f n).toNat
theorem popN_congr {f g : Nat → Bool} : ∀ {n : Nat}, (∀ j, j < n → f j = g j) → popN f n = popN g n
  | 0, _ => rfl
  | n + 1, h => by rw [popN, popN, popN_congr (fun j hj => h j (by omega)), h n (by omega)]
theorem popN_le (f : Nat → Bool) : ∀ n, popN f n ≤ n
  | 0 => Nat.le_refl 0
  | n + 1 => by have := popN_le f n; have := (f n).toNat_le; rw [popN]; omega
theorem popN_above {f : Nat → Bool} {n : Nat} : ∀ {d : Nat}, (∀ j, n ≤ j → f j = false) → popN f (n + d) = popN f n
  | 0, _ => rfl
  | d + 1, h => by rw [← Nat.add_assoc, popN, popN_above h, h _ (by omega)]; rfl
def noL : Nat → Live := fun _ => ⟨[], [], [], none⟩
theorem noL_ok {S : FuncId → CSpec} {N : Nat} {fn : Func} : FnLoops T S noL N fn := FnLoops.no (by simp [noSum, noL])

/-- A function without summaries of loops. -/
theorem okBy {S : FuncId → CSpec} (hS : ∀ f, FnOk Tryd.prog f (S f)) {f : FuncId} {fn : Func} (hf : Tryd.prog.funcs[f]? = some fn) (hname : (fn.name == "runtime.NumGoroutine") = false) (hbody : fn.body.isNone = false) {s : CSpec} (N : Nat)
    (h : ∀ xs r, s xs = some r → (∀ c ∈ r.pre, c = true) → (∃ w R vs, TR (baseC w R) xs vs) → (evFn T S noL N fn xs).run = some r.res) (hlt : f < offO := by decide) : FnOk Tryd.prog f s :=
  FnOk.of tyOk hS mixed hf hname hbody (fun xs r hs hp w R vs hvs => ⟨N, noL_ok, h xs r hs hp ⟨w, R, vs, hvs⟩⟩) hlt

def s14 : CSpec | [.i .i64 w] => some ⟨[], .b (isW w)⟩ | _ => none
theorem ok14 : FnOk Tryd.prog 34 s14 := okBy noS_ok Tryd.func34 (by kernel_rfl) (by kernel_rfl) 1 <| by
  intro xs r hs
  unfold s14 at hs; split at hs <;> cases hs
  rename_i w
  intro hp _
  have e : evFn T noS noL 1 Tryd.f34 [.i .i64 w] = .leaf (.b (if (if (if (w == 1) = true then true else w == 2) = true then true else w == 4) = true then true else w == 8)) := by kernel_rfl
  rw [e]
  simp only [Tr.run, isW]
  cases w == 1 <;> cases w == 2 <;> cases w == 4 <;> rfl
def s49 : CSpec | [.u 64 v, .i .i64 i] => some ⟨[], .u 64 (bitB (v.getLsbD (BitVec.ofInt 64 i).toNat))⟩ | _ => none
def s59 : CSpec | [.b c] => some ⟨[], .u 64 (bitB c)⟩ | _ => none
def add1 (a b c : W64) : W64 := a + b + c
def add2 (a b c : W64) : W64 := bitB (decide (2 ^ 64 ≤ a.toNat + b.toNat + c.toNat))
def sub1 (a b c : W64) : W64 := a - b - c
def sub2 (a b c : W64) : W64 := bitB (decide (a.toNat < b.toNat + c.toNat))
def s58 : CSpec | [.u 64 a, .u 64 b, .u 64 c] => some ⟨[decide (c.toNat ≤ 1)], .tup [.u 64 (add1 a b c), .u 64 (add2 a b c)]⟩ | _ => none
def s61 : CSpec | [.u 64 a, .u 64 b, .u 64 c] => some ⟨[decide (c.toNat ≤ 1)], .tup [.u 64 (sub1 a b c), .u 64 (sub2 a b c)]⟩ | _ => none

theorem u64_of {k : IntKind} (h : isU k = some 64) : k = .u64 := by cases k <;> simp [isU] at h <;> rfl
theorem uv {C : Ctx} {x : W64} {v : Value} (h : VR C (.u 64 x) v) : v = .int .u64 (x.toNat : Int) := by
  cases h with
  | u hk => rw [u64_of hk]
theorem args3 {C : Ctx} {a b c : W64} {vs : List Value} (h : TR C [.u 64 a, .u 64 b, .u 64 c] vs) : vs = [.int .u64 (a.toNat : Int), .int .u64 (b.toNat : Int), .int .u64 (c.toNat : Int)] := by
  cases h with | cons h1 h => cases h with | cons h2 h => cases h with | cons h3 h => cases h; rw [uv h1, uv h2, uv h3]
theorem vu {C : Ctx} (x : W64) {n : Nat} (h : n = x.toNat) : VR C (.u 64 x) (.int .u64 (Int.ofNat n)) := by subst h; exact .u rfl

theorem run_three' (nm : String) (x y : Nat) (w : World) : ∀ m : Nat, m ≤ 1 → (Extern.MathBitsCarry.three nm #[.int .u64 (x : Int), .int .u64 (y : Int), .int .u64 (m : Int)]).run Tryd.prog w = .ok (x, y, m) w
  | 0, _ => by kernel_rfl
  | 1, _ => by kernel_rfl
  | n + 2, h => by omega
theorem run_three (nm : String) (a b c : W64) (hc : c.toNat ≤ 1) (w : World) : (Extern.MathBitsCarry.three nm #[.int .u64 (a.toNat : Int), .int .u64 (b.toNat : Int), .int .u64 (c.toNat : Int)]).run Tryd.prog w = .ok (a.toNat, b.toNat, c.toNat) w :=
  run_three' nm _ _ w _ hc

noncomputable abbrev S1 : FuncId → CSpec := withS noS 34 s14
theorem S1_ok : ∀ f, FnOk Tryd.prog f (S1 f) := withS_ok noS_ok ok14
theorem LoopOk.of {S : FuncId → CSpec} {L : Nat → Live} {nt N : Nat} {a : Code} {q : St → Option LRes} (hs : (L (firstR a)).sum = some (evSum q))
    (h : ∀ τ r, τ.cut = 0 → q τ = some r → (∀ b ∈ r.pre, b = true) → ∃ n, (iter (atHead (evCode T S L nt N a) (L (firstR a))) n τ).run = some (r.e, ⟨r.env, r.mem, r.ids, 0⟩)) : LoopOk T S L nt N a := by
  intro q' hq'
  rw [hs] at hq'
  cases hq'
  intro τ e st h1 h2
  unfold evSum at h2
  split at h2
  · rename_i r hr
    obtain ⟨hn, h'⟩ := Tr.run_needs h2
    simp only [Tr.run, Option.some.injEq, Prod.mk.injEq] at h'
    obtain ⟨rfl, rfl⟩ := h'
    obtain ⟨n, hn⟩ := h τ r h1 hr hn
    exact ⟨n, _, hn, fun _ _ h => h, rfl, rfl⟩
  · simp [Tr.run] at h2
theorem LoopOk.sub {S : FuncId → CSpec} {L : Nat → Live} {nt N : Nat} {a : Code} {q : St → Tr (Ex × St)} (hs : (L (firstR a)).sum = some q)
    (h : ∀ τ e st, τ.cut = 0 → (q τ).run = some (e, st) → ∃ n st', (iter (atHead (evCode T S L nt N a) (L (firstR a))) n τ).run = some (e, st') ∧ (∀ t v, Ev.look st.env t = some v → Ev.look st'.env t = some v) ∧ st'.mem = st.mem ∧ st'.ids = st.ids) : LoopOk T S L nt N a := by
  intro q' hq'
  rw [hs] at hq'
  cases hq'
  exact h
theorem ofInt_nat (j : Nat) (h : j < 2 ^ 62) : (BitVec.ofInt 64 (j : Int)).toNat = j := by
  rw [BitVec.toNat_ofInt]; omega
theorem wrap_small (x : Int) (h0 : -9223372036854775808 ≤ x) (h1 : x ≤ 9223372036854775807) : IntKind.i64.wrap x = x := wrap_of_has ⟨by simpa [IntKind.min, IntKind.signed, IntKind.bits] using h0, by simpa [IntKind.max, IntKind.signed, IntKind.bits] using h1⟩
theorem wrap_succ (j : Nat) (h : j < 2 ^ 62) : IntKind.i64.wrap ((j : Int) + 1) = ((j + 1 : Nat) : Int) := by
  rw [wrap_small] <;> omega
theorem nb_eq {w : Int} (h : isW w = true) : (nb w : Int) = 8 * w := by
  rcases isW_cases h with rfl | rfl | rfl | rfl <;> decide
theorem wrap8 {w : Int} (h : isW w = true) : IntKind.i64.wrap (8 * w) = (nb w : Int) := by
  rcases isW_cases h with rfl | rfl | rfl | rfl <;> decide
theorem nb0 {w : Int} (h : isW w = false) : nb w = 0 := by simp [nb, h]
theorem nb_pos {w : Int} (h : isW w = true) : 0 < nb w := by
  rcases isW_cases h with rfl | rfl | rfl | rfl <;> decide

def maskW (w : Int) : W64 := BitVec.allOnes 64 >>> (64 - nb w)
def s16 : CSpec | [.i .i64 w] => some ⟨[], .u 64 (maskW w)⟩ | _ => none
def s18 : CSpec | [.u 64 v, .i .i64 w] => some ⟨[], .u 64 (zx v w)⟩ | _ => none
noncomputable abbrev S2 : FuncId → CSpec := S1
theorem S2_ok : ∀ f, FnOk Tryd.prog f (S2 f) := S1_ok
/- the reference's -/
def q17 : St → Option LRes
  | ⟨[(0, .u 64 v), (1, .i .i64 w), (5, .u 64 r), (6, .i .i64 i)], [], [], _⟩ => some ⟨[r == 0#64, i == 0], .exit 0, [(0, .u 64 v), (1, .i .i64 w), (5, .u 64 (zx v w)), (6, .i .i64 (nb w))], [], []⟩
  | _ => none
def L17 : Nat → Live := fun _ => ⟨[0, 1, 5, 6], [], [], some (evSum q17)⟩
noncomputable abbrev S3 : FuncId → CSpec := S2
theorem S3_ok : ∀ f, FnOk Tryd.prog f (S3 f) := S2_ok
theorem ofNat_nb {w : Int} (h : isW w = true) : (IntKind.i64.wrap (64 - IntKind.i64.wrap (8 * w))).toNat = 64 - nb w := by
  rcases isW_cases h with rfl | rfl | rfl | rfl <;> decide
theorem top_nb {w : Int} (h : isW w = true) : IntKind.i64.wrap (IntKind.i64.wrap (8 * w) - 1) = ((nb w - 1 : Nat) : Int) := by
  rcases isW_cases h with rfl | rfl | rfl | rfl <;> decide
theorem sshr_eq (x : W64) (n : Nat) : BitVec.ofInt 64 (IntKind.i64.wrap (x.toNat : Int) / 2 ^ n) = x.sshiftRight n := by
  rw [show IntKind.i64.wrap (x.toNat : Int) = x.toInt from wrap_toInt (k := .i64) rfl x]
  show _ = BitVec.ofInt 64 (x.toInt >>> n)
  rw [Int.shiftRight_eq_div_pow]; rfl

def s19 : CSpec | [.u 64 v, .i .i64 w] => some ⟨[], .u 64 (sx v w)⟩ | _ => none
def s21 : CSpec | [.u 64 v, .i .i64 w] => some ⟨[], .b (neg v w)⟩ | _ => none
theorem sumBits_succ (f : Nat → Bool) (n : Nat) : sumBits f (n + 1) = sumBits f n + bitB (f n) <<< n := rfl
def q20 : St → Option LRes
  | ⟨[(0, .u 64 v), (1, .i .i64 w), (5, .u 64 r), (6, .i .i64 i)], [], [], _⟩ => some ⟨[r == zx v w, i == IntKind.i64.wrap (8 * w)], .exit 0, [(0, .u 64 v), (1, .i .i64 w), (5, .u 64 (sx v w)), (6, .i .i64 (bif isW w then 64 else IntKind.i64.wrap (8 * w)))], [], []⟩
  | _ => none
def L20 : Nat → Live := fun _ => ⟨[0, 1, 5, 6], [], [], some (evSum q20)⟩
noncomputable abbrev S4 : FuncId → CSpec := S3
theorem S4_ok : ∀ f, FnOk Tryd.prog f (S4 f) := S3_ok
def s24 : CSpec | [.u 64 a, .u 64 b, .b c, .i .i64 w] => some ⟨[], .tup [.u 64 (sum1 a b c w), .b (sum2 a b c w), .b (sum3 a b c w)]⟩ | _ => none
def s26 : CSpec | [.u 64 a, .u 64 b, .b c, .i .i64 w] => some ⟨[], .tup [.u 64 (sum1 a (~~~ b) (!c) w), .b (isW w && !sum2 a (~~~ b) (!c) w), .b (sum3 a (~~~ b) (!c) w)]⟩ | _ => none
theorem bitB_le (c : Bool) : (bitB c).toNat ≤ 1 := by cases c <;> decide
theorem sum_none (a b : W64) (c : Bool) {w : Int} (h : isW w = false) : sum1 a b c w = 0#64 ∧ sum2 a b c w = false ∧ sum3 a b c w = false := by
  simp [sum1, sum2, sum3, h, nb, low, sumBits]
noncomputable abbrev S5 : FuncId → CSpec := S4
theorem S5_ok : ∀ f, FnOk Tryd.prog f (S5 f) := S4_ok
theorem col_mod (x y z : Bool) : (bitB x + bitB y + bitB z) % 2#64 = bitB (x ^^ (y ^^ z)) := by cases x <;> cases y <;> cases z <;> rfl
theorem col_div (x y z : Bool) : (bitB x + bitB y + bitB z) / 2#64 = bitB (Bool.atLeastTwo x y z) := by cases x <;> cases y <;> cases z <;> rfl
theorem carry_zero (a b : W64) (c : Bool) : BitVec.carry 0 a b c = c := by cases c <;> simp [BitVec.carry, Nat.mod_one]
theorem low_succ (v : W64) (j : Nat) : low v (j + 1) = low v j + bitB (v.getLsbD j) <<< j := rfl
def q25 : St → Option LRes
  | ⟨[(0, .u 64 a), (1, .u 64 b), (2, .b x), (3, .i .i64 w), (11, .u 64 r), (12, .u 64 c), (13, .u 64 d), (14, .i .i64 i)], [], [], _⟩ =>
    some ⟨[isW w, r == 0#64, c == bitB x, d == bitB x, i == 0], .exit 0, [(0, .u 64 a), (1, .u 64 b), (2, .b x), (3, .i .i64 w), (11, .u 64 (sum1 a b x w)), (12, .u 64 (bitB (BitVec.carry (nb w) a b x))), (13, .u 64 (bitB (BitVec.carry (nb w - 1) a b x))), (14, .i .i64 (nb w))], [], []⟩
  | _ => none
def L25 : Nat → Live := fun _ => ⟨[0, 1, 2, 3, 11, 12, 13, 14], [], [], some (evSum q25)⟩
noncomputable abbrev S6 : FuncId → CSpec := S5
theorem S6_ok : ∀ f, FnOk Tryd.prog f (S6 f) := S5_ok
noncomputable abbrev S7 : FuncId → CSpec := S6
theorem S7_ok : ∀ f, FnOk Tryd.prog f (S7 f) := S6_ok
def s28 : CSpec | [.u 64 v, .i .i64 k, .i .i64 w] => some ⟨[], .u 64 (turn v k w)⟩ | _ => none
theorem turn_none (v : W64) (k : Int) {w : Int} (h : isW w = false) : turn v k w = 0#64 := by simp [turn, nb, h, turnN, sumBits]
theorem wrap_turn (k : Int) {n : Nat} (h0 : 0 < n) (h : n ≤ 64) : IntKind.i64.wrap (k.tmod n + n) = k.tmod n + n := by
  obtain ⟨_, h1, h2⟩ := tmod_turn k h0 h
  rw [wrap_small] <;> omega
theorem turn_mod (k : Int) {n : Nat} (h0 : 0 < n) (h : n ≤ 64) : (IntKind.i64.wrap (k.tmod n + n)).tmod n = k % n := by
  obtain ⟨h1, h2, h3⟩ := tmod_turn k h0 h
  rw [wrap_turn k h0 h, Int.tmod_eq_emod_of_nonneg (by omega), h1]
def q31 : St → Option LRes
  | ⟨[(0, .u 64 v), (1, .i .i64 k), (7, .i .i64 n), (8, .u 64 r), (9, .i .i64 i)], [], [], _⟩ => some ⟨[decide (0 ≤ k), decide (k < n), decide (n ≤ 64), r == 0#64, i == 0], .exit 0, [(0, .u 64 v), (1, .i .i64 k), (7, .i .i64 n), (8, .u 64 (turnN v k.toNat n.toNat)), (9, .i .i64 n)], [], []⟩
  | _ => none
def L31 : Nat → Live := fun _ => ⟨[0, 1, 7, 8, 9], [], [], some (evSum q31)⟩
/- counting -/
def s56 : CSpec | [.u 64 v] => some ⟨[], .i .i64 (popN v.getLsbD 64)⟩ | _ => none
def s62 : CSpec | [.u 8 v] => some ⟨[], .i .i64 (popN v.getLsbD 8)⟩ | _ => none
def q56 : St → Option LRes
  | ⟨[(0, .u 64 v), (3, .i .i64 n), (4, .i .i64 i)], [], [], _⟩ => some ⟨[n == 0, i == 0], .exit 0, [(0, .u 64 v), (3, .i .i64 (popN v.getLsbD 64)), (4, .i .i64 64)], [], []⟩
  | _ => none
def L56 : Nat → Live := fun _ => ⟨[0, 3, 4], [], [], some (evSum q56)⟩
def tab8 : List UInt8 := [0, 1, 1, 2, 1, 2, 2, 3, 1, 2, 2, 3, 2, 3, 3, 4, 1, 2, 2, 3, 2, 3, 3, 4, 2, 3, 3, 4, 3, 4, 4, 5, 1, 2, 2, 3, 2, 3, 3, 4, 2, 3, 3, 4, 3, 4, 4, 5, 2, 3, 3, 4, 3, 4, 4, 5, 3, 4, 4, 5, 4, 5, 5, 6, 1, 2, 2, 3, 2, 3, 3, 4, 2, 3, 3, 4, 3, 4, 4, 5, 2, 3, 3, 4, 3, 4, 4, 5, 3, 4, 4, 5, 4, 5, 5, 6, 2, 3, 3, 4, 3, 4, 4, 5, 3, 4, 4, 5, 4, 5, 5, 6, 3, 4, 4, 5, 4, 5, 5, 6, 4, 5, 5, 6, 5, 6, 6, 7, 1, 2, 2, 3, 2, 3, 3, 4, 2, 3, 3, 4, 3, 4, 4, 5, 2, 3, 3, 4, 3, 4, 4, 5, 3, 4, 4, 5, 4, 5, 5, 6, 2, 3, 3, 4, 3, 4, 4, 5, 3, 4, 4, 5, 4, 5, 5, 6, 3, 4, 4, 5, 4, 5, 5, 6, 4, 5, 5, 6, 5, 6, 6, 7, 2, 3, 3, 4, 3, 4, 4, 5, 3, 4, 4, 5, 4, 5, 5, 6, 3, 4, 4, 5, 4, 5, 5, 6, 4, 5, 5, 6, 5, 6, 6, 7, 3, 4, 4, 5, 4, 5, 5, 6, 4, 5, 5, 6, 5, 6, 6, 7, 4, 5, 5, 6, 5, 6, 6, 7, 5, 6, 6, 7, 6, 7, 7, 8]
theorem tab8_all : ∀ n : Fin 256, (tab8.getD n.val 0).toNat = popN (BitVec.ofNat 8 n.val).getLsbD 8 := by decide +kernel
theorem tab8_at (v : BitVec 8) : (tab8.getD v.toNat 0).toNat = popN v.getLsbD 8 := by
  have := tab8_all ⟨v.toNat, v.isLt⟩
  simpa using this
noncomputable abbrev S8 : FuncId → CSpec := S7
theorem S8_ok : ∀ f, FnOk Tryd.prog f (S8 f) := S7_ok
def s29 : CSpec | [.u 64 v] => some ⟨[], .b ((popN v.getLsbD 8 : Int).tmod 2 == 0)⟩ | _ => none
noncomputable abbrev S9 : FuncId → CSpec := S8
theorem S9_ok : ∀ f, FnOk Tryd.prog f (S9 f) := S8_ok
def sTrue : CSpec | [] => some ⟨[], .b true⟩ | _ => none
noncomputable abbrev SB : FuncId → CSpec := S9
theorem SB_ok : ∀ f, FnOk Tryd.prog f (SB f) := S9_ok
/-- A law that is true, as a call. -/
theorem law_calls {S : FuncId → CSpec} (hS : ∀ f, FnOk Tryd.prog f (S f)) {L : Nat → Live} {N : Nat} {f : FuncId} {fn : Func} (hf : Tryd.prog.funcs[f]? = some fn) (hL : FnLoops T S L N fn) {xs : List AV} (h : (evFn T S L N fn xs).run = some (.b true))
    {W : World} {R : Nat → Prop} (hR : ∀ b, R b → b < W.heap.size) (hG : Glob.G W R) {vs : List Value} (hvs : TR (baseC W R) xs vs) : Calls Tryd.prog f vs.toArray W fun e W' => e = .returned (.bool true) ∧ Below W.heap.size W W' := by
  refine (calls_ev tyOk hS mixed hf hL h hR hG hvs).mono fun e W' hd => ?_
  obtain ⟨v, rfl, R', hd⟩ := hd
  have hv := hd.res
  cases hv
  exact ⟨rfl, hd.fr.os, hd.fr.tape, hd.fr.output, hd.fr.size, fun k hk => hd.fr.block k hk (fun h => h)⟩
theorem noR (W : World) : ∀ b, (fun _ => False : Nat → Prop) b → b < W.heap.size := fun _ h => h.elim
theorem wf_u64 {a : Int} (h : (Lit.int .u64 a).wf = true) : ∃ x : W64, a = (x.toNat : Int) := by
  simp [Lit.wf, IntKind.min, IntKind.max, IntKind.signed, IntKind.bits] at h
  exact ⟨BitVec.ofInt 64 a, by rw [BitVec.toNat_ofInt]; omega⟩
theorem wf_u32 {a : Int} (h : (Lit.int .u32 a).wf = true) : ∃ x : BitVec 32, a = (x.toNat : Int) := by
  simp [Lit.wf, IntKind.min, IntKind.max, IntKind.signed, IntKind.bits] at h
  exact ⟨BitVec.ofInt 32 a, by rw [BitVec.toNat_ofInt]; omega⟩
theorem wf_i64 {a : Int} (h : (Lit.int .i64 a).wf = true) : IntKind.i64.has a := by
  simp only [Lit.wf, Bool.and_eq_true, decide_eq_true_eq] at h
  exact h

/- the four laws on widths, sums, turns: plain -/
theorem zx_get (v : W64) (w : Int) (j : Nat) : (zx v w).getLsbD j = (decide (j < nb w) && v.getLsbD j) := low_get v (nb_le w) j
theorem mask_is (w : Int) : maskW w = zx (BitVec.ofInt 64 18446744073709551615) w := by
  rw [zx, low_eq_and _ (nb_le w), maskW]
  apply BitVec.eq_of_getLsbD_eq
  intro j hj
  rw [BitVec.getLsbD_and, show (BitVec.ofInt 64 18446744073709551615) = BitVec.allOnes 64 from rfl]
  rw [BitVec.getLsbD_allOnes]
  simp only [hj, decide_true, Bool.true_and]
theorem zx_sx (v : W64) (w : Int) : zx (sx v w) w = zx v w := by
  apply BitVec.eq_of_getLsbD_eq
  intro j hj
  rw [zx_get, zx_get]
  cases h : isW w with
  | false => simp [nb, h]
  | true =>
    by_cases hj' : j < nb w
    · simp only [hj', decide_true, Bool.true_and, sx, h, cond_true]
      rw [sumBits_get _ (Nat.le_refl _), show min j (nb w - 1) = j by omega]
      simp [hj]
    · simp [hj']
theorem sx_zx (v : W64) (w : Int) : sx (zx v w) w = sx v w := by
  cases h : isW w with
  | false => simp [sx, h]
  | true =>
    have := nb_pos h
    simp only [sx, h, cond_true]
    refine sumBits_congr fun j _ => ?_
    rw [zx_get, decide_eq_true (by omega : min j (nb w - 1) < nb w), Bool.true_and]
theorem sum_back (a b : W64) (w : Int) : sum1 (sum1 a b false w) (~~~ b) true w = zx a w := by
  have hn := nb_le w
  have e2 : ∀ x, zx (zx x w - zx b w - bitB false) w = sum1 x (~~~ b) true w := fun x => less1_eq x b false w
  have e1 : sum1 (sum1 a b false w) (~~~ b) true w = sum1 (a + b) (~~~ b) true w := by
    rw [← e2, ← e2]
    congr 1
    rw [show sum1 a b false w = zx (a + b) w by simp [sum1, zx, bitB]]
    rw [show zx (zx (a + b) w) w = zx (a + b) w from by
      apply BitVec.eq_of_getLsbD_eq; intro j _; rw [zx_get, zx_get]; by_cases h : j < nb w <;> simp [h]]
  rw [e1, sum1, show a + b + ~~~ b + bitB true = a by
    rw [BitVec.not_eq_neg_add]; simp only [bitB, cond_true]
    rw [BitVec.add_assoc a b, BitVec.sub_eq_add_neg, ← BitVec.add_assoc b, ← BitVec.sub_eq_add_neg b b, BitVec.sub_self, BitVec.zero_add, BitVec.add_assoc, BitVec.add_comm (-1#64), ← BitVec.sub_eq_add_neg, BitVec.sub_self, BitVec.add_zero]]
  rfl
theorem carry_back (a b : W64) {w : Int} (h : isW w = true) : sum2 a b false w = !sum2 (sum1 a b false w) (~~~ b) true w := by
  have hn := nb_le w
  have hs : (sum1 a b false w).toNat = (a.toNat + b.toNat) % 2 ^ nb w := by
    rw [sum1, low_toNat _ hn]
    simp only [bitB, cond_false, BitVec.add_zero, BitVec.toNat_add]
    rw [Nat.mod_mod_of_dvd _ (Nat.pow_dvd_pow 2 hn)]
  have hb := Nat.mod_lt b.toNat (Nat.two_pow_pos (nb w))
  have ha := Nat.mod_lt a.toNat (Nat.two_pow_pos (nb w))
  simp only [sum2, h, Bool.true_and, carry_eq, low_not b hn, hs, Nat.mod_mod]
  rw [← decide_not, decide_eq_decide, Nat.add_mod]
  generalize a.toNat % 2 ^ nb w = x at *
  generalize b.toNat % 2 ^ nb w = y at *
  generalize 2 ^ nb w = m at *
  by_cases hc : m ≤ x + y
  · rw [show (x + y) % m = x + y - m from by rw [Nat.mod_eq_sub_mod hc, Nat.mod_eq_of_lt (by omega)]]
    simp; omega
  · rw [Nat.mod_eq_of_lt (by omega)]
    simp; omega
theorem turn_back (v : W64) (k w : Int) (h0 : -64 < k) (h1 : k < 64) : turn (turn v k w) (IntKind.i64.wrap (0 - k)) w = zx v w := by
  rw [wrap_small _ (by omega) (by omega)]
  cases h : isW w with
  | false => rw [turn_none _ _ h]; simp [zx, nb, h, low, sumBits]
  | true =>
    have hp := nb_pos h
    have hm0 := Int.emod_nonneg k (by omega : (nb w : Int) ≠ 0)
    have hm1 := Int.emod_lt_of_pos k (by omega : (0 : Int) < nb w)
    have hp0 := Int.emod_nonneg (0 - k) (by omega : (nb w : Int) ≠ 0)
    have hp1 := Int.emod_lt_of_pos (0 - k) (by omega : (0 : Int) < nb w)
    refine turn_turn v (by omega) (by omega) (nb_le w) ?_
    rcases nb_cases h with e | e | e | e <;> rw [e] at * <;> omega
/- Plain: fields of words of 32 bits. -/
abbrev W32 := BitVec 32
def bitB_32 (b : Bool) : W32 := bif b then 1#32 else 0#32
/-- bits told by a function, from the least on -/
def sumBits_32 (f : Nat → Bool) : Nat → W32
  | 0 => 0#32
  | n + 1 => sumBits_32 f n + bitB_32 (f n) <<< n
theorem bitB_toNat_32 (b : Bool) : (bitB_32 b).toNat = b.toNat := by cases b <;> rfl

theorem sumBits_toNat_lt_32 (f : Nat → Bool) : ∀ n, n ≤ 32 → (sumBits_32 f n).toNat < 2 ^ n
  | 0, h => by simp [sumBits_32]
  | n + 1, h => by
    have ih := sumBits_toNat_lt_32 f n (by omega)
    have h64 : (2:Nat) ^ (n + 1) ≤ 2 ^ 32 := Nat.pow_le_pow_right (by omega) h
    have hp : (2:Nat) ^ (n + 1) = 2 ^ n * 2 := Nat.pow_succ ..
    have hb : (bitB_32 (f n) <<< n).toNat = (f n).toNat * 2 ^ n := by
      rw [BitVec.toNat_shiftLeft, bitB_toNat_32, Nat.shiftLeft_eq]
      apply Nat.mod_eq_of_lt
      cases f n <;> simp <;> omega
    rw [sumBits_32, BitVec.toNat_add, hb]
    have : (f n).toNat * 2 ^ n ≤ 2 ^ n := by cases f n <;> simp
    rw [Nat.mod_eq_of_lt (by omega)]
    omega

theorem sumBits_succ_toNat_32 (f : Nat → Bool) (n : Nat) (h : n < 32) : (sumBits_32 f (n + 1)).toNat = (sumBits_32 f n).toNat + (f n).toNat * 2 ^ n := by
  have ih := sumBits_toNat_lt_32 f n (by omega)
  have h64 : (2:Nat) ^ (n + 1) ≤ 2 ^ 32 := Nat.pow_le_pow_right (by omega) h
  have hp : (2:Nat) ^ (n + 1) = 2 ^ n * 2 := Nat.pow_succ ..
  have hb : (bitB_32 (f n) <<< n).toNat = (f n).toNat * 2 ^ n := by
    rw [BitVec.toNat_shiftLeft, bitB_toNat_32, Nat.shiftLeft_eq]
    apply Nat.mod_eq_of_lt
    cases f n <;> simp <;> omega
  rw [sumBits_32, BitVec.toNat_add, hb]
  have : (f n).toNat * 2 ^ n ≤ 2 ^ n := by cases f n <;> simp
  rw [Nat.mod_eq_of_lt (by omega)]

theorem sumBits_testBit_32 (f : Nat → Bool) : ∀ n, n ≤ 32 → ∀ j, (sumBits_32 f n).toNat.testBit j = (decide (j < n) && f j)
  | 0, _, j => by simp [sumBits_32]
  | n + 1, h, j => by
    have ih := sumBits_testBit_32 f n (by omega)
    rw [sumBits_succ_toNat_32 f n (by omega), Nat.add_comm, Nat.mul_comm, Nat.testBit_two_pow_mul_add _ (sumBits_toNat_lt_32 f n (by omega)), ih]
    split
    · rename_i hj; have : j < n + 1 := by omega
      simp [hj, this]
    · rename_i hj
      by_cases hjn : j = n
      · subst hjn; simp; cases f j <;> rfl
      · have h1 : ¬ j < n + 1 := by omega
        have : (f n).toNat.testBit (j - n) = false := by
          obtain ⟨k, hk⟩ : ∃ k, j - n = k + 1 := ⟨j - n - 1, by omega⟩
          rw [hk]
          cases f n <;> simp [Nat.testBit_succ]
        simp [h1, this]

theorem sumBits_get_32 (f : Nat → Bool) {n : Nat} (h : n ≤ 32) (j : Nat) : (sumBits_32 f n).getLsbD j = (decide (j < n) && f j) := by
  rw [BitVec.getLsbD, sumBits_testBit_32 f n h]

theorem bit_eq_32 (v : W32) (n : Nat) : (v >>> n) % 2#32 = bitB_32 (v.getLsbD n) := by
  apply BitVec.eq_of_toNat_eq
  rw [bitB_toNat_32, BitVec.toNat_umod, BitVec.toNat_ushiftRight, BitVec.getLsbD, Nat.testBit_eq_decide_div_mod_eq, Nat.shiftRight_eq_div_pow]
  show _ % 2 = _
  rcases Nat.mod_two_eq_zero_or_one (v.toNat / 2 ^ n) with e | e <;> simp [e]


theorem sumBits_congr_32 {f g : Nat → Bool} : ∀ {n : Nat}, (∀ j, j < n → f j = g j) → sumBits_32 f n = sumBits_32 g n
  | 0, _ => rfl
  | n + 1, h => by rw [sumBits_32, sumBits_32, sumBits_congr_32 (fun j hj => h j (by omega)), h n (by omega)]
theorem eq_sumBits_32 {x : W32} {f : Nat → Bool} {n : Nat} (hn : n ≤ 32) (h : ∀ j, j < 32 → x.getLsbD j = (decide (j < n) && f j)) : x = sumBits_32 f n := by
  apply BitVec.eq_of_getLsbD_eq
  intro j hj
  rw [h j hj, sumBits_get_32 f hn]
theorem sumBits_succ_32 (f : Nat → Bool) (n : Nat) : sumBits_32 f (n + 1) = sumBits_32 f n + bitB_32 (f n) <<< n := rfl
def within (at_ n : Int) : Bool := decide (0 ≤ at_) && decide (at_ < 32) && decide (1 ≤ n) && decide (n ≤ 32 - at_)
theorem within_nat {at_ n : Int} (h : within at_ n = true) : ∃ a m : Nat, at_ = a ∧ n = m ∧ 1 ≤ m ∧ a + m ≤ 32 := by
  simp only [within, Bool.and_eq_true, decide_eq_true_eq] at h
  exact ⟨at_.toNat, n.toNat, by omega, by omega, by omega, by omega⟩
def fieldN (v : W32) (a m : Nat) : W32 := sumBits_32 (fun i => v.getLsbD (a + i)) m
def field (v : W32) (at_ n : Int) : W32 := bif within at_ n then fieldN v at_.toNat n.toNat else 0#32
def withN (v : W32) (a m : Nat) (f : W32) : W32 := sumBits_32 (fun i => bif decide (a ≤ i) && decide (i - a < m) then f.getLsbD (i - a) else v.getLsbD i) 32
def with_ (v : W32) (at_ n : Int) (f : W32) : W32 := bif within at_ n then withN v at_.toNat n.toNat f else v
theorem ones_get {m : Nat} (h : m ≤ 32) (j : Nat) : (BitVec.allOnes 32 >>> (32 - m)).getLsbD j = decide (j < m) := by
  rw [BitVec.getLsbD_ushiftRight, BitVec.getLsbD_allOnes, decide_eq_decide]; omega
theorem field_code (v : W32) {a m : Nat} (h : a + m ≤ 32) : v >>> a &&& (BitVec.allOnes 32 >>> (32 - m)) = fieldN v a m := by
  refine eq_sumBits_32 (by omega) fun j hj => ?_
  rw [BitVec.getLsbD_and, ones_get (by omega), BitVec.getLsbD_ushiftRight, Bool.and_comm]
theorem with_code (v f : W32) {a m : Nat} (h : a + m ≤ 32) : (v &&& ~~~((BitVec.allOnes 32 >>> (32 - m)) <<< a)) ||| (f <<< a &&& (BitVec.allOnes 32 >>> (32 - m)) <<< a) = withN v a m f := by
  refine eq_sumBits_32 (by omega) fun j hj => ?_
  rw [BitVec.getLsbD_or, BitVec.getLsbD_and, BitVec.getLsbD_and, BitVec.getLsbD_not, BitVec.getLsbD_shiftLeft, BitVec.getLsbD_shiftLeft, ones_get (by omega)]
  simp only [hj, decide_true, Bool.true_and]
  by_cases h1 : j < a
  · have : ¬ a ≤ j := by omega
    simp [h1, this]
  · have h2 : a ≤ j := by omega
    by_cases h3 : j - a < m <;> simp [h1, h2, h3]
theorem field_with (v f : W32) {a m : Nat} (h : a + m ≤ 32) : withN (withN v a m f) a m (fieldN v a m) = v := by
  symm
  refine eq_sumBits_32 (by omega) fun j hj => ?_
  simp only [fieldN, withN]
  rw [sumBits_get_32 _ (by omega), sumBits_get_32 _ (by omega)]
  by_cases h1 : a ≤ j
  · by_cases h2 : j - a < m
    · rw [show a + (j - a) = j by omega]; simp [hj, h1, h2]
    · simp [hj, h1, h2]
  · simp [hj, h1]
def s66 : CSpec | [.i .i64 a, .i .i64 n] => some ⟨[], .b (within a n)⟩ | _ => none
theorem within_code (a n : Int) : (if (if (if decide (0 ≤ a) = true then decide (a < 32) else false) = true then decide (1 ≤ n) else false) = true then decide (n ≤ IntKind.i64.wrap (32 - a)) else false) = within a n := by
  by_cases h1 : 0 ≤ a
  · by_cases h2 : a < 32
    · rw [wrap_small (32 - a) (by omega) (by omega)]
      by_cases h3 : 1 ≤ n <;> simp [within, h1, h2, h3]
    · simp [within, h1, h2]
  · simp [within, h1]
theorem ok66 : FnOk Tryd.prog 61 s66 := okBy noS_ok Tryd.func61 (by kernel_rfl) (by kernel_rfl) 1 <| by
  intro xs r hs
  unfold s66 at hs; split at hs <;> cases hs
  rename_i a n
  intro hp _
  have e : (evFn T noS noL 1 Tryd.f61 [.i .i64 a, .i .i64 n]).run = some (.b (if (if (if decide (0 ≤ a) = true then decide (a < 32) else false) = true then decide (1 ≤ n) else false) = true then decide (n ≤ IntKind.i64.wrap (32 - a)) else false)) := by kernel_rfl
  rw [e, within_code]
def s67 : CSpec | [.i .i64 n] => some ⟨[decide (0 ≤ IntKind.i64.wrap (32 - n))], .u 32 (BitVec.allOnes 32 >>> (IntKind.i64.wrap (32 - n)).toNat)⟩ | _ => none
theorem ok67 : FnOk Tryd.prog 62 s67 := okBy noS_ok Tryd.func62 (by kernel_rfl) (by kernel_rfl) 1 <| by
  intro xs r hs
  unfold s67 at hs; split at hs <;> cases hs
  rename_i n
  intro hp _
  have hp : decide (0 ≤ IntKind.i64.wrap (32 - n)) = true := by simpa using hp
  have e : (evFn T noS noL 1 Tryd.f62 [.i .i64 n]).run = if decide (0 ≤ IntKind.i64.wrap (32 - n)) = true then some (.u 32 (BitVec.allOnes 32 >>> (IntKind.i64.wrap (32 - n)).toNat)) else none := by kernel_rfl
  rw [e, if_pos hp]
noncomputable abbrev S10 : FuncId → CSpec := withS (withS SB 61 s66) 62 s67
theorem S10_ok : ∀ f, FnOk Tryd.prog f (S10 f) := withS_ok (withS_ok SB_ok ok66) ok67
def s38 : CSpec | [.u 32 v, .i .i64 a, .i .i64 n] => some ⟨[], .u 32 (field v a n)⟩ | _ => none
def s37 : CSpec | [.u 32 v, .i .i64 a, .i .i64 n, .u 32 f] => some ⟨[], .u 32 (with_ v a n f)⟩ | _ => none
theorem ok38 : FnOk Tryd.prog 32 s38 := okBy S10_ok Tryd.func32 (by kernel_rfl) (by kernel_rfl) 1 <| by
  intro xs r hs
  unfold s38 at hs; split at hs <;> cases hs
  rename_i v a n
  intro hp _
  have e : (evFn T S10 noL 1 Tryd.f32 [.u 32 v, .i .i64 a, .i .i64 n]).run = if (!within a n) = true then some (.u 32 0#32) else if decide (0 ≤ IntKind.i64.wrap (32 - n)) = true then if decide (0 ≤ a) = true then
     some (.u 32 (v >>> a.toNat &&& BitVec.allOnes 32 >>> (IntKind.i64.wrap (32 - n)).toNat)) else none else none := by kernel_rfl
  rw [e]
  cases h : within a n with
  | false => simp [field, h]
  | true =>
    obtain ⟨a, m, rfl, rfl, h1, h2⟩ := within_nat h
    rw [wrap_small (32 - (m : Int)) (by omega) (by omega), show (32 - (m : Int)).toNat = 32 - m by omega, Int.toNat_natCast, field_code v h2]
    rw [if_neg (by simp), if_pos (by simp; omega), if_pos (by simp)]
    simp [field, h]
def q39 : St → Option LRes
  | ⟨[(0, .u 32 v), (1, .i .i64 a), (2, .i .i64 n), (7, .u 32 r), (8, .i .i64 i)], [], [], _⟩ => some ⟨[r == 0#32, i == 0], .exit 0, [(0, .u 32 v), (1, .i .i64 a), (2, .i .i64 n), (7, .u 32 (field v a n)), (8, .i .i64 (bif within a n then n else 0))], [], []⟩
  | _ => none
def L39 : Nat → Live := fun _ => ⟨[0, 1, 2, 7, 8], [], [], some (evSum q39)⟩
def q40 : St → Option LRes
  | ⟨[(0, .u 32 v), (1, .i .i64 a), (2, .i .i64 n), (3, .u 32 f), (9, .u 32 r), (10, .i .i64 i)], [], [], _⟩ => some ⟨[r == 0#32, i == 0], .exit 0, [(0, .u 32 v), (1, .i .i64 a), (2, .i .i64 n), (3, .u 32 f), (9, .u 32 (with_ v a n f)), (10, .i .i64 32)], [], []⟩
  | _ => none
def L40 : Nat → Live := fun _ => ⟨[0, 1, 2, 3, 9, 10], [], [], some (evSum q40)⟩
def wbit (v f : W32) (a n : Int) (i : Nat) : Bool := bif within a n then bif decide (a.toNat ≤ i) && decide (i - a.toNat < n.toNat) then f.getLsbD (i - a.toNat) else v.getLsbD i else v.getLsbD i
theorem with_bits (v f : W32) (a n : Int) : with_ v a n f = sumBits_32 (wbit v f a n) 32 := by
  cases h : within a n with
  | true => simp only [with_, h, cond_true, withN]; exact sumBits_congr_32 fun j _ => by simp [wbit, h]
  | false =>
    simp only [with_, h, cond_false]
    refine eq_sumBits_32 (Nat.le_refl _) fun j hj => ?_
    simp [wbit, h, hj]
noncomputable abbrev S11 : FuncId → CSpec := withS S10 32 s38
theorem S11_ok : ∀ f, FnOk Tryd.prog f (S11 f) := withS_ok S10_ok ok38
theorem with_back (v f : W32) (a n : Int) : with_ (with_ v a n f) a n (field v a n) = v := by
  cases h : within a n with
  | false => simp [with_, h]
  | true =>
    obtain ⟨a, m, rfl, rfl, h1, h2⟩ := within_nat h
    simp only [with_, field, h, cond_true, Int.toNat_natCast]
    exact field_with v f h2
/- Plain: products. -/
def mulHi (a b : W64) : W64 := BitVec.ofNat 64 (a.toNat * b.toNat / 2 ^ 64)
theorem mulHi_toNat (a b : W64) : (mulHi a b).toNat = a.toNat * b.toNat / 2 ^ 64 := by
  rw [mulHi, BitVec.toNat_ofNat]
  apply Nat.mod_eq_of_lt
  have ha := a.isLt; have hb := b.isLt
  have : a.toNat * b.toNat < 2 ^ 64 * 2 ^ 64 := Nat.mul_lt_mul_of_lt_of_lt ha hb
  omega
theorem halves (v : W64) : (v &&& 4294967295#64).toNat = v.toNat % 4294967296 ∧ (v >>> 32).toNat = v.toNat / 4294967296 := by
  refine ⟨?_, ?_⟩
  · rw [BitVec.toNat_and]; exact Nat.and_two_pow_sub_one_eq_mod v.toNat 32
  · rw [BitVec.toNat_ushiftRight, Nat.shiftRight_eq_div_pow]
theorem mul_lt {x y : Nat} (hx : x < 4294967296) (hy : y < 4294967296) : x * y ≤ 18446744065119617025 := by
  have : x * y ≤ 4294967295 * 4294967295 := Nat.mul_le_mul (by omega) (by omega)
  omega
theorem mul_code (a b : W64) :
    a >>> 32 * b >>> 32 + (a >>> 32 * (b &&& 4294967295#64) + ((a &&& 4294967295#64) * (b &&& 4294967295#64)) >>> 32) >>> 32 +
    ((a >>> 32 * (b &&& 4294967295#64) + ((a &&& 4294967295#64) * (b &&& 4294967295#64)) >>> 32 &&& 4294967295#64) + (a &&& 4294967295#64) * b >>> 32) >>> 32 = mulHi a b := by
  apply BitVec.eq_of_toNat_eq
  rw [mulHi_toNat]
  obtain ⟨ha0, ha1⟩ := halves a
  obtain ⟨hb0, hb1⟩ := halves b
  have ha := a.isLt; have hb := b.isLt
  have ea : a.toNat = (a >>> 32).toNat * 4294967296 + (a &&& 4294967295#64).toNat := by rw [ha0, ha1]; omega
  have eb : b.toNat = (b >>> 32).toNat * 4294967296 + (b &&& 4294967295#64).toNat := by rw [hb0, hb1]; omega
  have la0 : (a &&& 4294967295#64).toNat < 4294967296 := by rw [ha0]; omega
  have la1 : (a >>> 32).toNat < 4294967296 := by rw [ha1]; omega
  have lb0 : (b &&& 4294967295#64).toNat < 4294967296 := by rw [hb0]; omega
  have lb1 : (b >>> 32).toNat < 4294967296 := by rw [hb1]; omega
  rw [ea, eb]
  generalize a >>> 32 = a1 at *
  generalize a &&& 4294967295#64 = a0 at *
  generalize b >>> 32 = b1 at *
  generalize b &&& 4294967295#64 = b0 at *
  have h00 := mul_lt la0 lb0
  have h01 := mul_lt la0 lb1
  have h10 := mul_lt la1 lb0
  have h11 := mul_lt la1 lb1
  have e00 : (a0 * b0).toNat = a0.toNat * b0.toNat := by rw [BitVec.toNat_mul]; exact Nat.mod_eq_of_lt (by omega)
  have e01 : (a0 * b1).toNat = a0.toNat * b1.toNat := by rw [BitVec.toNat_mul]; exact Nat.mod_eq_of_lt (by omega)
  have e10 : (a1 * b0).toNat = a1.toNat * b0.toNat := by rw [BitVec.toNat_mul]; exact Nat.mod_eq_of_lt (by omega)
  have e11 : (a1 * b1).toNat = a1.toNat * b1.toNat := by rw [BitVec.toNat_mul]; exact Nat.mod_eq_of_lt (by omega)
  have ht : (a1 * b0 + (a0 * b0) >>> 32).toNat = a1.toNat * b0.toNat + a0.toNat * b0.toNat / 4294967296 := by
    rw [BitVec.toNat_add, (halves _).2, e10, e00]; exact Nat.mod_eq_of_lt (by omega)
  generalize a1 * b0 + (a0 * b0) >>> 32 = t at *
  rw [BitVec.toNat_add, BitVec.toNat_add, (halves _).2, (halves _).2, BitVec.toNat_add, (halves t).1, e01, e11, ht]
  have ex : (a1.toNat * 4294967296 + a0.toNat) * (b1.toNat * 4294967296 + b0.toNat) = a1.toNat * b1.toNat * 18446744073709551616 + a1.toNat * b0.toNat * 4294967296 + a0.toNat * b1.toNat * 4294967296 + a0.toNat * b0.toNat := by
    rw [Nat.add_mul, Nat.mul_add, Nat.mul_add]
    rw [show a1.toNat * 4294967296 * (b1.toNat * 4294967296) = a1.toNat * b1.toNat * 18446744073709551616 by rw [Nat.mul_assoc, Nat.mul_left_comm 4294967296, ← Nat.mul_assoc]]
    rw [show a1.toNat * 4294967296 * b0.toNat = a1.toNat * b0.toNat * 4294967296 by rw [Nat.mul_right_comm]]
    rw [← Nat.mul_assoc]; omega
  rw [ex]
  generalize a0.toNat * b0.toNat = p00 at *
  generalize a0.toNat * b1.toNat = p01 at *
  generalize a1.toNat * b0.toNat = p10 at *
  generalize a1.toNat * b1.toNat = p11 at *
  omega

/- by rounds: the product by the top j bits of b -/
def prod (a b : W64) (j : Nat) : Nat := a.toNat * (b.toNat / 2 ^ (64 - j))
theorem prod_succ (a b : W64) {j : Nat} (hj : j < 64) : prod a b (j + 1) = 2 * prod a b j + (bif b.getLsbD (63 - j) then a.toNat else 0) := by
  have e : b.toNat / 2 ^ (64 - (j + 1)) = 2 * (b.toNat / 2 ^ (64 - j)) + (b.getLsbD (63 - j)).toNat := by
    rw [show 64 - j = (64 - (j + 1)) + 1 by omega, show 63 - j = 64 - (j + 1) by omega, Nat.pow_succ, ← Nat.div_div_eq_div_mul, BitVec.getLsbD, Nat.testBit_eq_decide_div_mod_eq]
    generalize b.toNat / 2 ^ (64 - (j + 1)) = x
    rcases Nat.mod_two_eq_zero_or_one x with h | h <;> simp [h] <;> omega
  rw [prod, e, Nat.mul_add, prod, Nat.mul_left_comm]
  cases b.getLsbD (63 - j) <;> simp
theorem prod_lt (a b : W64) (j : Nat) : prod a b j < 2 ^ 64 * 2 ^ 64 := by
  refine Nat.mul_lt_mul_of_lt_of_lt a.isLt (Nat.lt_of_le_of_lt (Nat.div_le_self _ _) b.isLt)
theorem top_bit (l : W64) : (l.getLsbD 63).toNat = l.toNat / 9223372036854775808 := by
  have := l.isLt
  rw [BitVec.getLsbD, Nat.testBit_eq_decide_div_mod_eq]
  show (decide (l.toNat / 9223372036854775808 % 2 = 1)).toNat = _
  rcases (by omega : l.toNat / 9223372036854775808 = 0 ∨ l.toNat / 9223372036854775808 = 1) with h | h <;> simp [h]
def hiR (h l a : W64) (x : Bool) : W64 := if x = true then (if decide ((l * 2#64 + a).toNat < a.toNat) = true then h * 2#64 + bitB (l.getLsbD 63) + 1#64 else h * 2#64 + bitB (l.getLsbD 63)) else h * 2#64 + bitB (l.getLsbD 63)
def loR (l a : W64) (x : Bool) : W64 := if x = true then l * 2#64 + a else l * 2#64
def hiJ (a b : W64) (j : Nat) : W64 := BitVec.ofNat 64 (prod a b j / 2 ^ 64)
def loJ (a b : W64) (j : Nat) : W64 := BitVec.ofNat 64 (prod a b j)
theorem round_prod (a b : W64) {j : Nat} (hj : j < 64) : hiR (hiJ a b j) (loJ a b j) a (b.getLsbD (63 - j)) = hiJ a b (j + 1) ∧ loR (loJ a b j) a (b.getLsbD (63 - j)) = loJ a b (j + 1) := by
  have h1 := prod_lt a b j
  have h2 := prod_lt a b (j + 1)
  have e := prod_succ a b hj
  have ha := a.isLt
  have hh : (hiJ a b j).toNat = prod a b j / 18446744073709551616 := by rw [hiJ, BitVec.toNat_ofNat]; exact Nat.mod_eq_of_lt (by omega)
  have hl : (loJ a b j).toNat = prod a b j % 18446744073709551616 := by rw [loJ, BitVec.toNat_ofNat]
  have hh' : (hiJ a b (j + 1)).toNat = prod a b (j + 1) / 18446744073709551616 := by rw [hiJ, BitVec.toNat_ofNat]; exact Nat.mod_eq_of_lt (by omega)
  have hl' : (loJ a b (j + 1)).toNat = prod a b (j + 1) % 18446744073709551616 := by rw [loJ, BitVec.toNat_ofNat]
  have ht := top_bit (loJ a b j)
  generalize hP : prod a b j = P at *
  generalize hP' : prod a b (j + 1) = P' at *
  cases hx : b.getLsbD (63 - j) with
  | false =>
    rw [hx] at e
    simp only [cond_false, Nat.add_zero] at e
    refine ⟨?_, ?_⟩
    · apply BitVec.eq_of_toNat_eq
      simp only [hiR, Bool.false_eq_true, if_false]
      rw [BitVec.toNat_add, BitVec.toNat_mul, bitB_toNat, ht, hl, hh, hh']
      simp; omega
    · apply BitVec.eq_of_toNat_eq
      simp only [loR, Bool.false_eq_true, if_false]
      rw [BitVec.toNat_mul, hl, hl', e]
      simp only [BitVec.reduceToNat]; omega
  | true =>
    rw [hx] at e
    simp only [cond_true] at e
    have hlo : (loJ a b j * 2#64 + a).toNat = (prod a b j * 2 + a.toNat) % 18446744073709551616 := by
      rw [BitVec.toNat_add, BitVec.toNat_mul, hl, hP]; simp
    refine ⟨?_, ?_⟩
    · apply BitVec.eq_of_toNat_eq
      simp only [hiR, if_true]
      rw [hlo, hP, hh']
      by_cases hc : (P * 2 + a.toNat) % 18446744073709551616 < a.toNat
      · rw [if_pos (by simpa using hc), BitVec.toNat_add, BitVec.toNat_add, BitVec.toNat_mul, bitB_toNat, ht, hl, hh]
        simp; omega
      · rw [if_neg (by simpa using hc), BitVec.toNat_add, BitVec.toNat_mul, bitB_toNat, ht, hl, hh]
        simp; omega
    · apply BitVec.eq_of_toNat_eq
      simp only [loR, if_true]
      rw [hlo, hP, hl']
      omega

/- with signs -/
def mulsHi (a b : W64) : W64 := mulHi a b - (bif b.getLsbD 63 then a else 0#64) - (bif a.getLsbD 63 then b else 0#64)
def absW (a : W64) : W64 := if a.getLsbD 63 = true then 0#64 - a else a
def mulsR (a b : W64) : W64 := if (a.getLsbD 63 != b.getLsbD 63) = true then (if (0#64 - absW a * absW b == 0#64) = true then 18446744073709551615#64 - mulHi (absW a) (absW b) + 1#64 else 18446744073709551615#64 - mulHi (absW a) (absW b)) else mulHi (absW a) (absW b)
def mulsL (a b : W64) : W64 := if (a.getLsbD 63 != b.getLsbD 63) = true then 0#64 - absW a * absW b else absW a * absW b
theorem mulsL_eq (a b : W64) : mulsL a b = a * b := by
  simp only [mulsL, absW, BitVec.zero_sub]
  cases a.getLsbD 63 <;> cases b.getLsbD 63 <;> simp [BitVec.neg_mul, BitVec.mul_neg]
theorem mul_comp_left (x y : Nat) (h : x ≤ 18446744073709551616) : (18446744073709551616 - x) * y = 18446744073709551616 * y - x * y := Nat.sub_mul ..
theorem mulsR_eq (a b : W64) : mulsR a b = mulsHi a b := by
  have ha := a.isLt; have hb := b.isLt
  have ta := top_bit a; have tb := top_bit b
  have hneg : ∀ x : W64, (0#64 - x).toNat = (18446744073709551616 - x.toNat) % 18446744073709551616 := fun x => by rw [BitVec.toNat_sub]; simp
  have hP : a.toNat * b.toNat < 2 ^ 64 * 2 ^ 64 := Nat.mul_lt_mul_of_lt_of_lt ha hb
  have hm := mulHi_toNat a b
  cases hx : a.getLsbD 63 <;> cases hy : b.getLsbD 63
  · simp only [mulsR, mulsHi, absW, hx, hy, cond_false, bne_self_eq_false, Bool.false_eq_true, if_false, BitVec.sub_zero]
  · -- b below zero
    rw [hy] at tb
    simp only [Bool.toNat_true] at tb
    have eb : (0#64 - b).toNat = 18446744073709551616 - b.toNat := by rw [hneg]; exact Nat.mod_eq_of_lt (by omega)
    have hQ : a.toNat * (0#64 - b).toNat = 18446744073709551616 * a.toNat - a.toNat * b.toNat := by rw [eb, Nat.mul_sub, Nat.mul_comm a.toNat 18446744073709551616]
    have hle : a.toNat * b.toNat ≤ 18446744073709551616 * a.toNat := by rw [Nat.mul_comm 18446744073709551616]; exact Nat.mul_le_mul_left _ (by omega)
    have hh := mulHi_toNat a (0#64 - b)
    rw [hQ] at hh
    have hz : (0#64 - a * (0#64 - b) == 0#64) = decide ((a.toNat * b.toNat) % 18446744073709551616 = 0) := by
      rw [Bool.eq_iff_iff, beq_iff_eq, decide_eq_true_eq, BitVec.zero_sub, BitVec.zero_sub, BitVec.mul_neg, BitVec.neg_neg]
      exact ⟨fun e => by have := congrArg BitVec.toNat e; rwa [BitVec.toNat_mul] at this, fun e => BitVec.eq_of_toNat_eq (by rw [BitVec.toNat_mul]; exact e)⟩
    simp only [mulsR, mulsHi, absW, hx, hy, hz, cond_true, cond_false]
    apply BitVec.eq_of_toNat_eq
    generalize a.toNat * b.toNat = P at *
    by_cases hc : P % 18446744073709551616 = 0
    · simp only [hz, hc, decide_true, if_true, bne_self_eq_false, Bool.false_eq_true, if_false, Bool.bne_true, Bool.not_false, BitVec.sub_zero]
      rw [BitVec.toNat_add, BitVec.toNat_sub, BitVec.toNat_sub, hh, hm]
      simp; omega
    · simp only [hz, hc, decide_false, if_true, Bool.false_eq_true, if_false, Bool.bne_true, Bool.not_false, BitVec.sub_zero]
      rw [BitVec.toNat_sub, BitVec.toNat_sub, hh, hm]
      simp; omega
  · -- a below zero
    rw [hx] at ta
    simp only [Bool.toNat_true] at ta
    have ea : (0#64 - a).toNat = 18446744073709551616 - a.toNat := by rw [hneg]; exact Nat.mod_eq_of_lt (by omega)
    have hQ : (0#64 - a).toNat * b.toNat = 18446744073709551616 * b.toNat - a.toNat * b.toNat := by rw [ea, Nat.sub_mul]
    have hle : a.toNat * b.toNat ≤ 18446744073709551616 * b.toNat := Nat.mul_le_mul_right _ (by omega)
    have hh := mulHi_toNat (0#64 - a) b
    rw [hQ] at hh
    have hz : (0#64 - (0#64 - a) * b == 0#64) = decide ((a.toNat * b.toNat) % 18446744073709551616 = 0) := by
      rw [Bool.eq_iff_iff, beq_iff_eq, decide_eq_true_eq, BitVec.zero_sub, BitVec.zero_sub, BitVec.neg_mul, BitVec.neg_neg]
      exact ⟨fun e => by have := congrArg BitVec.toNat e; rwa [BitVec.toNat_mul] at this, fun e => BitVec.eq_of_toNat_eq (by rw [BitVec.toNat_mul]; exact e)⟩
    simp only [mulsR, mulsHi, absW, hx, hy, hz, cond_true, cond_false]
    apply BitVec.eq_of_toNat_eq
    generalize a.toNat * b.toNat = P at *
    by_cases hc : P % 18446744073709551616 = 0
    · simp only [hz, hc, decide_true, if_true, Bool.false_eq_true, if_false, Bool.bne_false, BitVec.sub_zero]
      rw [BitVec.toNat_add, BitVec.toNat_sub, BitVec.toNat_sub, hh, hm]
      simp; omega
    · simp only [hz, hc, decide_false, if_true, Bool.false_eq_true, if_false, Bool.bne_false, BitVec.sub_zero]
      rw [BitVec.toNat_sub, BitVec.toNat_sub, hh, hm]
      simp; omega
  · -- both
    rw [hx] at ta
    rw [hy] at tb
    simp only [Bool.toNat_true] at ta tb
    have ea : (0#64 - a).toNat = 18446744073709551616 - a.toNat := by rw [hneg]; exact Nat.mod_eq_of_lt (by omega)
    have eb : (0#64 - b).toNat = 18446744073709551616 - b.toNat := by rw [hneg]; exact Nat.mod_eq_of_lt (by omega)
    have hle : a.toNat * b.toNat ≤ 18446744073709551616 * b.toNat := Nat.mul_le_mul_right _ (by omega)
    have hQ : (0#64 - a).toNat * (0#64 - b).toNat = 340282366920938463463374607431768211456 - 18446744073709551616 * a.toNat - (18446744073709551616 * b.toNat - a.toNat * b.toNat) := by
      rw [ea, eb, Nat.sub_mul, Nat.mul_sub, Nat.mul_sub, Nat.mul_comm a.toNat 18446744073709551616]
      have h3 : 18446744073709551616 * b.toNat ≤ 18446744073709551616 * 18446744073709551616 := Nat.mul_le_mul_left _ (by omega)
      have h4 : a.toNat * b.toNat ≤ 18446744073709551616 * a.toNat := by rw [Nat.mul_comm 18446744073709551616]; exact Nat.mul_le_mul_left _ (by omega)
      omega
    have h3 : 18446744073709551616 * a.toNat + 18446744073709551616 * b.toNat ≤ 340282366920938463463374607431768211456 + a.toNat * b.toNat := by
      have := Nat.mul_le_mul (by omega : 9223372036854775808 ≤ a.toNat) (by omega : 9223372036854775808 ≤ b.toNat)
      have h5 : (18446744073709551616 - a.toNat) * (18446744073709551616 - b.toNat) = (18446744073709551616 - a.toNat) * 18446744073709551616 - (18446744073709551616 - a.toNat) * b.toNat := Nat.mul_sub ..
      have h6 : (18446744073709551616 - a.toNat) * b.toNat = 18446744073709551616 * b.toNat - a.toNat * b.toNat := Nat.sub_mul ..
      have h7 : (18446744073709551616 - a.toNat) * b.toNat ≤ (18446744073709551616 - a.toNat) * 18446744073709551616 := Nat.mul_le_mul_left _ (by omega)
      omega
    have hh := mulHi_toNat (0#64 - a) (0#64 - b)
    rw [hQ] at hh
    simp only [mulsR, mulsHi, absW, hx, hy, cond_true, bne_self_eq_false, Bool.false_eq_true, if_false, if_true]
    apply BitVec.eq_of_toNat_eq
    generalize a.toNat * b.toNat = P at *
    rw [hh, BitVec.toNat_sub, BitVec.toNat_sub, hm]
    omega
def s69 : CSpec | [.u 64 a, .u 64 b] => some ⟨[], .tup [.u 64 (mulHi a b), .u 64 (a * b)]⟩ | _ => none
noncomputable abbrev S12 : FuncId → CSpec := SB
theorem S12_ok : ∀ f, FnOk Tryd.prog f (S12 f) := SB_ok
def q42 : St → Option LRes
  | ⟨[(0, .u 64 a), (1, .u 64 b), (6, .u 64 h), (7, .u 64 l), (8, .i .i64 i)], [], [], _⟩ => some ⟨[h == 0#64, l == 0#64, i == 63], .exit 0, [(0, .u 64 a), (1, .u 64 b), (6, .u 64 (mulHi a b)), (7, .u 64 (a * b)), (8, .i .i64 (-1))], [], []⟩
  | _ => none
def L42 : Nat → Live := fun _ => ⟨[0, 1, 6, 7, 8], [], [], some (evSum q42)⟩
noncomputable abbrev S13 : FuncId → CSpec := S12
theorem S13_ok : ∀ f, FnOk Tryd.prog f (S13 f) := S12_ok
def s43 : CSpec | [.u 64 a, .u 64 b] => some ⟨[], .tup [.u 64 (mulsHi a b), .u 64 (a * b)]⟩ | _ => none
theorem wrap_neg (a : W64) : decide (IntKind.i64.wrap (a.toNat : Int) < 0) = a.getLsbD 63 := by
  have h := top_bit a
  have ha := a.isLt
  have e : IntKind.i64.wrap (a.toNat : Int) = a.toInt := wrap_toInt (k := .i64) rfl a
  rw [e, BitVec.toInt]
  cases hx : a.getLsbD 63 <;> rw [hx] at h <;> simp at h <;> simp <;> omega
def mulsG (p q : Bool) (x y : W64) : W64 := if (p != q) = true then (if (0#64 - x * y == 0#64) = true then 18446744073709551615#64 - mulHi x y + 1#64 else 18446744073709551615#64 - mulHi x y) else mulHi x y
def mulsGL (p q : Bool) (x y : W64) : W64 := if (p != q) = true then 0#64 - x * y else x * y
noncomputable abbrev S14 : FuncId → CSpec := S13
theorem S14_ok : ∀ f, FnOk Tryd.prog f (S14 f) := S13_ok
/- lengths -/
def bitLen (v : W64) : Nat := if v.toNat = 0 then 0 else v.toNat.log2 + 1
def len1 (v : W64) : W64 := if decide (4294967296 ≤ v.toNat) = true then v >>> 32 else v
def len2 (v : W64) : W64 := if decide (65536 ≤ (len1 v).toNat) = true then len1 v >>> 16 else len1 v
def len3 (v : W64) : W64 := if decide (256 ≤ (len2 v).toNat) = true then len2 v >>> 8 else len2 v
def lenN (v : W64) : Int :=
  let a : Int := if decide (4294967296 ≤ v.toNat) = true then 32 else 0
  let b : Int := if decide (65536 ≤ (len1 v).toNat) = true then IntKind.i64.wrap (a + 16) else a
  if decide (256 ≤ (len2 v).toNat) = true then IntKind.i64.wrap (b + 8) else b
def lenTab : List UInt8 := [0, 1] ++ List.replicate 2 2 ++ List.replicate 4 3 ++ List.replicate 8 4 ++ List.replicate 16 5 ++ List.replicate 32 6 ++ List.replicate 64 7 ++ List.replicate 128 8
theorem run71 (v : W64) : (evFn T SB noL 1 Tryd.f60 [.u 64 v]).run = if decide (0 ≤ (((len3 v).setWidth 8).toNat : Int)) = true then if decide ((((len3 v).setWidth 8).toNat : Int) < 256) = true then
    some (.i .i64 (IntKind.i64.wrap (lenN v + IntKind.i64.wrap ((lenTab.getD ((len3 v).setWidth 8).toNat 0).toNat : Int)))) else none else none := by kernel_rfl
theorem log2_div {x k : Nat} (h : 2 ^ k ≤ x) : x.log2 = (x / 2 ^ k).log2 + k := by
  have hp := Nat.two_pow_pos k
  have h0 : x / 2 ^ k ≠ 0 := by have := (Nat.le_div_iff_mul_le hp (x := 1) (y := x)).2 (by omega); omega
  obtain ⟨h1, h2⟩ := (Nat.log2_eq_iff h0).1 rfl
  refine (Nat.log2_eq_iff (by omega)).2 ⟨?_, ?_⟩
  · rw [Nat.pow_add]; exact (Nat.le_div_iff_mul_le hp).1 h1
  · rw [show (x / 2 ^ k).log2 + k + 1 = (x / 2 ^ k).log2 + 1 + k by omega, Nat.pow_add]; exact (Nat.div_lt_iff_lt_mul hp).1 h2
theorem lenTab_all : ∀ n : Fin 256, (lenTab.getD n.val 0).toNat = if n.val = 0 then 0 else n.val.log2 + 1 := by decide +kernel
theorem bitLen_shift {v : W64} {k : Nat} (h : 2 ^ k ≤ v.toNat) : bitLen v = bitLen (v >>> k) + k := by
  have hp := Nat.two_pow_pos k
  have e : (v >>> k).toNat = v.toNat / 2 ^ k := by rw [BitVec.toNat_ushiftRight, Nat.shiftRight_eq_div_pow]
  have h0 : v.toNat / 2 ^ k ≠ 0 := by have := (Nat.le_div_iff_mul_le hp (x := 1) (y := v.toNat)).2 (by omega); omega
  have h1 : v.toNat ≠ 0 := by omega
  simp only [bitLen, e, h0, h1, if_false]
  rw [log2_div h]; omega
theorem len3_small (v : W64) : (len3 v).toNat < 256 := by
  have hv := v.isLt
  have h1 : (len1 v).toNat < 4294967296 := by
    unfold len1; split
    · rw [BitVec.toNat_ushiftRight, Nat.shiftRight_eq_div_pow]; omega
    · rename_i h; simpa using h
  have h2 : (len2 v).toNat < 65536 := by
    unfold len2; split
    · rw [BitVec.toNat_ushiftRight, Nat.shiftRight_eq_div_pow]; omega
    · rename_i h; simpa using h
  unfold len3; split
  · rw [BitVec.toNat_ushiftRight, Nat.shiftRight_eq_div_pow]; omega
  · rename_i h; simpa using h
theorem lenN_eq (v : W64) : lenN v + (bitLen (len3 v) : Int) = bitLen v ∧ 0 ≤ lenN v ∧ lenN v ≤ 56 := by
  have e3 : bitLen (len2 v) = bitLen (len3 v) + (if decide (256 ≤ (len2 v).toNat) = true then 8 else 0) := by
    unfold len3; split
    · rename_i h; exact bitLen_shift (k := 8) (by simpa using h)
    · rfl
  have e2 : bitLen (len1 v) = bitLen (len2 v) + (if decide (65536 ≤ (len1 v).toNat) = true then 16 else 0) := by
    unfold len2; split
    · rename_i h; exact bitLen_shift (k := 16) (by simpa using h)
    · rfl
  have e1 : bitLen v = bitLen (len1 v) + (if decide (4294967296 ≤ v.toNat) = true then 32 else 0) := by
    unfold len1; split
    · rename_i h; exact bitLen_shift (k := 32) (by simpa using h)
    · rfl
  rw [e1, e2, e3]
  unfold lenN
  cases decide (4294967296 ≤ v.toNat) <;> cases decide (65536 ≤ (len1 v).toNat) <;> cases decide (256 ≤ (len2 v).toNat) <;> simp [wrap_small] <;> omega
def s71 : CSpec | [.u 64 v] => some ⟨[], .i .i64 (bitLen v)⟩ | _ => none
theorem ok71 : FnOk Tryd.prog 60 s71 := okBy SB_ok Tryd.func60 (by kernel_rfl) (by kernel_rfl) 1 <| by
  intro xs r hs
  unfold s71 at hs; split at hs <;> cases hs
  rename_i v
  intro hp _
  have h3 := len3_small v
  have e8 : ((len3 v).setWidth 8).toNat = (len3 v).toNat := by rw [BitVec.toNat_setWidth]; exact Nat.mod_eq_of_lt h3
  have ht : (lenTab.getD (len3 v).toNat 0).toNat = bitLen (len3 v) := lenTab_all ⟨_, h3⟩
  obtain ⟨k1, k2, k3⟩ := lenN_eq v
  have hb : bitLen v ≤ 64 := by
    unfold bitLen; split
    · omega
    · rename_i h0
      have := (Nat.log2_lt h0).2 v.isLt; omega
  rw [run71, e8, ht, if_pos (by simp), if_pos (by simp; omega), wrap_small ((bitLen (len3 v) : Nat) : Int) (by omega) (by omega), wrap_small _ (by omega) (by omega), k1]
/- fitting -/
def allFrom (p : Nat → Bool) (m : Nat) : Nat → Bool
  | 0 => true
  | n + 1 => allFrom p m n && (decide (n < m) || p n)
theorem allFrom_iff {p : Nat → Bool} {m : Nat} : ∀ {n : Nat}, allFrom p m n = true ↔ ∀ j, m ≤ j → j < n → p j = true
  | 0 => by simp [allFrom]
  | n + 1 => by
    simp only [allFrom, Bool.and_eq_true, Bool.or_eq_true, decide_eq_true_eq, allFrom_iff (n := n)]
    constructor
    · rintro ⟨h1, h2⟩ j hj hn
      by_cases e : j = n
      · subst e; rcases h2 with h | h
        · omega
        · exact h
      · exact h1 j hj (by omega)
    · intro h
      refine ⟨fun j hj hn => h j hj (by omega), ?_⟩
      by_cases e : n < m
      · exact .inl e
      · exact .inr (h n (by omega) (by omega))
def fits (v n : Int) : Bool := decide (1 ≤ n) && (decide (n ≤ 64) && allFrom (fun j => (BitVec.ofInt 64 v).getLsbD j == (BitVec.ofInt 64 v).getLsbD 63) (n.toNat - 1) 64)
def s51 : CSpec | [.i .i64 v, .i .i64 n] => some ⟨[], .b (fits v n)⟩ | _ => none
theorem wrap_congr {a b : Int} (h : a % 18446744073709551616 = b % 18446744073709551616) : IntKind.i64.wrap a = IntKind.i64.wrap b := by
  rw [IntKind.wrap_i64, IntKind.wrap_i64]
  omega
theorem wrap_w (x : W64) : IntKind.i64.wrap (x.toNat : Int) = x.toInt := wrap_toInt (k := .i64) rfl x
theorem fits_code {v : Int} (hv : IntKind.i64.has v) {n : Nat} (h1 : 1 ≤ n) (h2 : n ≤ 64) : (IntKind.i64.wrap (v * 2 ^ (64 - n)) / 2 ^ (64 - n) == v) = allFrom (fun j => (BitVec.ofInt 64 v).getLsbD j == (BitVec.ofInt 64 v).getLsbD 63) (n - 1) 64 := by
  have hv' : (BitVec.ofInt 64 v).toInt = v := by
    have := wrap_toInt (k := .i64) rfl (BitVec.ofInt 64 v)
    have h := hv.1; have h' := hv.2
    simp only [IntKind.min, IntKind.max, IntKind.signed, IntKind.bits] at h h'
    rw [BitVec.toInt_ofInt]
    simp at h h'
    exact Int.bmod_eq_of_le (by omega) (by omega)
  generalize hx : BitVec.ofInt 64 v = x at *
  have e1 : IntKind.i64.wrap (v * 2 ^ (64 - n)) = (x <<< (64 - n)).toInt := by
    refine Eq.trans ?_ (wrap_w (x <<< (64 - n)))
    refine wrap_congr ?_
    rw [BitVec.toNat_shiftLeft, Nat.shiftLeft_eq]
    obtain ⟨b, hb⟩ : ∃ b : Int, v = (x.toNat : Int) - 18446744073709551616 * b := by
      rw [← hv', BitVec.toInt]
      split
      · exact ⟨0, by omega⟩
      · exact ⟨1, by omega⟩
    rw [hb, Int.sub_mul, Int.mul_assoc, Int.sub_mul_emod_self_left]
    generalize 64 - n = k
    have : ((x.toNat * 2 ^ k % 2 ^ 64 : Nat) : Int) = ((x.toNat : Int) * 2 ^ k) % 18446744073709551616 := by
      rw [Int.natCast_emod, Int.natCast_mul, Int.natCast_pow]; rfl
    rw [this, Int.emod_emod]
  have e2 : (x <<< (64 - n)).toInt / 2 ^ (64 - n) = ((x <<< (64 - n)).sshiftRight (64 - n)).toInt := by
    rw [BitVec.toInt_sshiftRight, Int.shiftRight_eq_div_pow]; rfl
  have key : ((x <<< (64 - n)).sshiftRight (64 - n) = x) ↔ ∀ j, n - 1 ≤ j → j < 64 → (x.getLsbD j == x.getLsbD 63) = true := by
    have hg : ∀ j, j < 64 → ((x <<< (64 - n)).sshiftRight (64 - n)).getLsbD j = if j < n then x.getLsbD j else x.getLsbD (n - 1) := by
      intro j hj
      rw [BitVec.getLsbD_sshiftRight]
      have h3 : ¬ 64 ≤ j := by omega
      simp only [h3, decide_false, Bool.not_false, Bool.true_and]
      by_cases hjn : j < n
      · rw [if_pos (by omega), if_pos hjn, BitVec.getLsbD_shiftLeft]
        have e4 : 64 - n + j - (64 - n) = j := by omega
        have e5 : ¬ 64 - n + j < 64 - n := by omega
        have e6 : 64 - n + j < 64 := by omega
        simp only [e4, e5, e6, decide_true, decide_false, Bool.not_false, Bool.true_and]
      · rw [if_neg (by omega), if_neg hjn, BitVec.msb_eq_getLsbD_last, BitVec.getLsbD_shiftLeft]
        have e4 : 64 - 1 - (64 - n) = n - 1 := by omega
        have e5 : ¬ 64 - 1 < 64 - n := by omega
        simp only [e4, e5, decide_true, decide_false, Bool.not_false, Bool.true_and, Nat.sub_lt (by decide : 0 < 64) (by decide : 0 < 1)]
    constructor
    · intro h j hj hj64
      have a1 := hg j hj64
      have a2 := hg 63 (by omega)
      rw [h] at a1 a2
      rw [beq_iff_eq]
      by_cases h3 : j < n
      · by_cases h4 : 63 < n
        · rw [show j = 63 by omega]
        · rw [if_neg h4] at a2; rw [a2, show j = n - 1 by omega]
      · rw [if_neg h3] at a1
        by_cases h4 : 63 < n
        · omega
        · rw [if_neg h4] at a2; rw [a1, a2]
    · intro h
      apply BitVec.eq_of_getLsbD_eq
      intro j hj
      rw [hg j hj]
      split
      · rfl
      · have a1 := h j (by omega) hj
        have a2 := h (n - 1) (Nat.le_refl _) (by omega)
        rw [beq_iff_eq] at a1 a2
        rw [a1, a2]
  rw [e1, e2, Bool.eq_iff_iff, beq_iff_eq, allFrom_iff, ← key]
  constructor
  · intro h; apply BitVec.eq_of_toInt_eq; rw [h, hv']
  · intro h; rw [h, hv']
/- Plain: elements of ones, turned, over and over. -/
def tbit (s o t i : Nat) : Bool := decide ((i % s + t) % s < o)
def turnedN (s o t : Nat) : W64 := sumBits (tbit s o t) 64
def isSize (z : Int) : Bool := z == 2 || z == 4 || z == 8 || z == 16 || z == 32 || z == 64
def okT (z o t : Int) : Bool := isSize z && (decide (1 ≤ o) && (decide (o < z) && (decide (0 ≤ t) && decide (t < z))))
def turned (z o t : Int) : W64 := bif okT z o t then turnedN z.toNat o.toNat t.toNat else 0#64
def repL : List Nat → W64 → W64
  | [], x => x
  | n :: l, x => repL l (x ||| x <<< n)
theorem rep_step {f : Nat → Bool} {s n : Nat} (hs : n % s = 0) (hf : ∀ i, f (i % s) = f i) (hn : n + n ≤ 64) {x : W64} (hx : ∀ i, i < 64 → x.getLsbD i = (decide (i < n) && f i)) : ∀ i, i < 64 → (x ||| x <<< n).getLsbD i = (decide (i < n + n) && f i) := by
  intro i hi
  rw [BitVec.getLsbD_or, BitVec.getLsbD_shiftLeft, hx i hi]
  simp only [hi, decide_true, Bool.true_and]
  by_cases h1 : i < n
  · have : i < n + n := by omega
    simp [h1, this]
  · have e : f (i - n) = f i := by
      rw [← hf (i - n), ← hf i]
      congr 1
      have : i = (i - n) + n := by omega
      conv => rhs; rw [this, Nat.add_mod, hs, Nat.add_zero, Nat.mod_mod]
    rw [hx (i - n) (by omega), e]
    by_cases h2 : i - n < n
    · have : i < n + n := by omega
      simp [h1, h2, this]
    · have : ¬ i < n + n := by omega
      simp [h1, h2, this]
theorem tbit_mod (s o t i : Nat) : tbit s o t (i % s) = tbit s o t i := by simp [tbit, Nat.mod_mod]
/-- the least element -/
theorem elem_code {s o t : Nat} (hs : s ≤ 64) (ho : o < s) (ht : t < s) : ∀ i, i < 64 → (((BitVec.allOnes 64 >>> (64 - o)) >>> t ||| (BitVec.allOnes 64 >>> (64 - o)) <<< (s - t)) &&& (BitVec.allOnes 64 >>> (64 - s))).getLsbD i = (decide (i < s) && tbit s o t i) := by
  intro i hi
  have hg : ∀ n, n ≤ 64 → ∀ j, (BitVec.allOnes 64 >>> (64 - n)).getLsbD j = decide (j < n) := by
    intro n hn j
    rw [BitVec.getLsbD_ushiftRight, BitVec.getLsbD_allOnes, decide_eq_decide]; omega
  rw [BitVec.getLsbD_and, BitVec.getLsbD_or, hg s hs, BitVec.getLsbD_ushiftRight, BitVec.getLsbD_shiftLeft, hg o (by omega), hg o (by omega), Bool.and_comm]
  by_cases h : i < s
  · simp only [h, hi, decide_true, Bool.true_and, tbit, Nat.mod_eq_of_lt h, idx2 h ht]
    split
    · rename_i h1
      have : i < s - t := by omega
      simp [this, Nat.add_comm]
    · rename_i h1
      have h2 : ¬ i < s - t := by omega
      have h3 : ¬ t + i < o := by omega
      have h4 : i - (s - t) = i + t - s := by omega
      simp [h2, h3, h4]
  · simp [h]
theorem rep_all {s o t : Nat} {x : W64} (hx : ∀ i, i < 64 → x.getLsbD i = (decide (i < s) && tbit s o t i)) (l : List Nat) (h : (s = 2 ∧ l = [2, 4, 8, 16, 32]) ∨ (s = 4 ∧ l = [4, 8, 16, 32]) ∨ (s = 8 ∧ l = [8, 16, 32]) ∨ (s = 16 ∧ l = [16, 32]) ∨ (s = 32 ∧ l = [32]) ∨ (s = 64 ∧ l = [])) : repL l x = turnedN s o t := by
  have fin : ∀ y : W64, (∀ i, i < 64 → y.getLsbD i = (decide (i < 64) && tbit s o t i)) → y = turnedN s o t := fun y hy => eq_sumBits (Nat.le_refl _) hy
  have m := tbit_mod s o t
  rcases h with ⟨rfl, rfl⟩ | ⟨rfl, rfl⟩ | ⟨rfl, rfl⟩ | ⟨rfl, rfl⟩ | ⟨rfl, rfl⟩ | ⟨rfl, rfl⟩
  · exact fin _ (rep_step (n := 32) rfl m (by decide) (rep_step (n := 16) rfl m (by decide) (rep_step (n := 8) rfl m (by decide) (rep_step (n := 4) rfl m (by decide) (rep_step (n := 2) rfl m (by decide) hx)))))
  · exact fin _ (rep_step (n := 32) rfl m (by decide) (rep_step (n := 16) rfl m (by decide) (rep_step (n := 8) rfl m (by decide) (rep_step (n := 4) rfl m (by decide) hx))))
  · exact fin _ (rep_step (n := 32) rfl m (by decide) (rep_step (n := 16) rfl m (by decide) (rep_step (n := 8) rfl m (by decide) hx)))
  · exact fin _ (rep_step (n := 32) rfl m (by decide) (rep_step (n := 16) rfl m (by decide) hx))
  · exact fin _ (rep_step (n := 32) rfl m (by decide) hx)
  · exact fin _ hx
theorem isSize_cases {z : Int} (h : isSize z = true) : z = 2 ∨ z = 4 ∨ z = 8 ∨ z = 16 ∨ z = 32 ∨ z = 64 := by
  simp only [isSize, Bool.or_eq_true, beq_iff_eq] at h; omega
theorem pow2_all : ∀ n : Fin 65, 2 ≤ n.val → ((((BitVec.ofNat 64 n.val) &&& (BitVec.ofNat 64 (n.val - 1))).toInt == 0) = isSize (n.val : Int)) := by decide +kernel
def s63 : CSpec | [.i .i64 z, .i .i64 o, .i .i64 t] => some ⟨[], .b (okT z o t)⟩ | _ => none
theorem is_code {z : Int} (h1 : 2 ≤ z) (h2 : z ≤ 64) : ((BitVec.ofInt 64 z &&& BitVec.ofInt 64 (IntKind.i64.wrap (z - 1))).toInt == 0) = isSize z := by
  obtain ⟨n, rfl⟩ : ∃ n : Nat, z = n := ⟨z.toNat, by omega⟩
  have := pow2_all ⟨n, by omega⟩ (by show 2 ≤ n; omega)
  rw [wrap_small _ (by omega) (by omega), show (n : Int) - 1 = ((n - 1 : Nat) : Int) by omega, BitVec.ofInt_natCast, BitVec.ofInt_natCast]
  exact this
theorem ok63 : FnOk Tryd.prog 81 s63 := okBy noS_ok Tryd.func81 (by kernel_rfl) (by kernel_rfl) 1 <| by
  intro xs r hs
  unfold s63 at hs; split at hs <;> cases hs
  rename_i z o t
  intro hp _
  have e : (evFn T noS noL 1 Tryd.f81 [.i .i64 z, .i .i64 o, .i .i64 t]).run = some (.b (if (if (if (if (if (if decide (2 ≤ z) = true then decide (z ≤ 64) else false) = true then (BitVec.ofInt 64 z &&& BitVec.ofInt 64 (IntKind.i64.wrap (z - 1))).toInt == 0 else false) = true then decide (1 ≤ o) else false) = true then decide (o < z) else false) = true then decide (0 ≤ t) else false) = true then decide (t < z) else false)) := by kernel_rfl
  rw [e]
  have k : (if (if decide (2 ≤ z) = true then decide (z ≤ 64) else false) = true then (BitVec.ofInt 64 z &&& BitVec.ofInt 64 (IntKind.i64.wrap (z - 1))).toInt == 0 else false) = isSize z := by
    by_cases h1 : 2 ≤ z
    · by_cases h2 : z ≤ 64
      · rw [is_code h1 h2]; simp [h1, h2]
      · have : isSize z = false := by simp [isSize]; omega
        simp [h1, h2, this]
    · have : isSize z = false := by simp [isSize]; omega
      simp [h1, this]
  rw [k]
  cases h : isSize z <;> by_cases h1 : 1 ≤ o <;> by_cases h2 : o < z <;> by_cases h3 : 0 ≤ t <;> by_cases h4 : t < z <;> simp [okT, h, h1, h2, h3, h4]
def s64 : CSpec | [.i .i64 n] => some ⟨[decide (0 ≤ IntKind.i64.wrap (64 - n))], .u 64 (BitVec.allOnes 64 >>> (IntKind.i64.wrap (64 - n)).toNat)⟩ | _ => none
theorem ok64 : FnOk Tryd.prog 57 s64 := okBy noS_ok Tryd.func57 (by kernel_rfl) (by kernel_rfl) 1 <| by
  intro xs r hs
  unfold s64 at hs; split at hs <;> cases hs
  rename_i n
  intro hp _
  have hp : decide (0 ≤ IntKind.i64.wrap (64 - n)) = true := by simpa using hp
  have e : (evFn T noS noL 1 Tryd.f57 [.i .i64 n]).run = if decide (0 ≤ IntKind.i64.wrap (64 - n)) = true then some (.u 64 (BitVec.allOnes 64 >>> (IntKind.i64.wrap (64 - n)).toNat)) else none := by kernel_rfl
  rw [e, if_pos hp]
noncomputable abbrev SL1 : FuncId → CSpec := withS (withS SB 81 s63) 57 s64
theorem SL1_ok : ∀ f, FnOk Tryd.prog f (SL1 f) := withS_ok (withS_ok SB_ok ok63) ok64
def s32 : CSpec | [.i .i64 z, .i .i64 o, .i .i64 t] => some ⟨[], .u 64 (turned z o t)⟩ | _ => none
def L32 : Nat → Live := fun _ => ⟨[0, 1, 2, 7, 8], [], [], none⟩
def e32 (z o t : Int) : W64 := ((BitVec.allOnes 64 >>> (IntKind.i64.wrap (64 - o)).toNat) >>> t.toNat ||| (BitVec.allOnes 64 >>> (IntKind.i64.wrap (64 - o)).toNat) <<< (IntKind.i64.wrap (z - t)).toNat) &&& (BitVec.allOnes 64 >>> (IntKind.i64.wrap (64 - z)).toNat)
def n32 (z o t : Int) (l : List Nat) : Option AV := if (!okT z o t) = true then some (.u 64 0#64) else if decide (0 ≤ IntKind.i64.wrap (64 - o)) = true then if decide (0 ≤ IntKind.i64.wrap (z - t)) = true then if decide (0 ≤ t) = true then some (.u 64 (repL l (e32 z o t))) else none else none else none
theorem f32_2 (o t : Int) : (evFn T SL1 L32 8 Tryd.f59 [.i .i64 2, .i .i64 o, .i .i64 t]).run = n32 2 o t [2, 4, 8, 16, 32] := by kernel_rfl
theorem f32_4 (o t : Int) : (evFn T SL1 L32 8 Tryd.f59 [.i .i64 4, .i .i64 o, .i .i64 t]).run = n32 4 o t [4, 8, 16, 32] := by kernel_rfl
theorem f32_8 (o t : Int) : (evFn T SL1 L32 8 Tryd.f59 [.i .i64 8, .i .i64 o, .i .i64 t]).run = n32 8 o t [8, 16, 32] := by kernel_rfl
theorem f32_16 (o t : Int) : (evFn T SL1 L32 8 Tryd.f59 [.i .i64 16, .i .i64 o, .i .i64 t]).run = n32 16 o t [16, 32] := by kernel_rfl
theorem f32_32 (o t : Int) : (evFn T SL1 L32 8 Tryd.f59 [.i .i64 32, .i .i64 o, .i .i64 t]).run = n32 32 o t [32] := by kernel_rfl
theorem f32_64 (o t : Int) : (evFn T SL1 L32 8 Tryd.f59 [.i .i64 64, .i .i64 o, .i .i64 t]).run = n32 64 o t [] := by kernel_rfl
theorem okT_nat {z o t : Int} (h : okT z o t = true) : isSize z = true ∧ ∃ s a b : Nat, z = s ∧ o = a ∧ t = b ∧ 1 ≤ a ∧ a < s ∧ b < s ∧ s ≤ 64 := by
  simp only [okT, Bool.and_eq_true, decide_eq_true_eq] at h
  obtain ⟨h0, h1, h2, h3, h4⟩ := h
  have := isSize_cases h0
  exact ⟨h0, z.toNat, o.toNat, t.toNat, by omega, by omega, by omega, by omega, by omega, by omega, by omega⟩
theorem n32_eq {z o t : Int} {l : List Nat} (hl : (z = 2 ∧ l = [2, 4, 8, 16, 32]) ∨ (z = 4 ∧ l = [4, 8, 16, 32]) ∨ (z = 8 ∧ l = [8, 16, 32]) ∨ (z = 16 ∧ l = [16, 32]) ∨ (z = 32 ∧ l = [32]) ∨ (z = 64 ∧ l = [])) : n32 z o t l = some (.u 64 (turned z o t)) := by
  unfold n32
  cases h : okT z o t with
  | false => simp [turned, h]
  | true =>
    obtain ⟨h0, s, a, b, rfl, rfl, rfl, h1, h2, h3, h4⟩ := okT_nat h
    rw [if_neg (by simp), wrap_small (64 - (a : Int)) (by omega) (by omega), wrap_small ((s : Int) - (b : Int)) (by omega) (by omega), if_pos (by simp; omega), if_pos (by simp; omega), if_pos (by simp)]
    have e : e32 (s : Int) (a : Int) (b : Int) = ((BitVec.allOnes 64 >>> (64 - a)) >>> b ||| (BitVec.allOnes 64 >>> (64 - a)) <<< (s - b)) &&& (BitVec.allOnes 64 >>> (64 - s)) := by
      unfold e32
      rw [wrap_small (64 - (a : Int)) (by omega) (by omega), wrap_small ((s : Int) - (b : Int)) (by omega) (by omega), wrap_small (64 - (s : Int)) (by omega) (by omega),
        show (64 - (a : Int)).toNat = 64 - a by omega, show ((s : Int) - (b : Int)).toNat = s - b by omega, show (64 - (s : Int)).toNat = 64 - s by omega, Int.toNat_natCast]
    have k := rep_all (elem_code h4 h2 h3) l (by
      rcases hl with ⟨hz, hl⟩ | ⟨hz, hl⟩ | ⟨hz, hl⟩ | ⟨hz, hl⟩ | ⟨hz, hl⟩ | ⟨hz, hl⟩
      · exact .inl ⟨by omega, hl⟩
      · exact .inr (.inl ⟨by omega, hl⟩)
      · exact .inr (.inr (.inl ⟨by omega, hl⟩))
      · exact .inr (.inr (.inr (.inl ⟨by omega, hl⟩)))
      · exact .inr (.inr (.inr (.inr (.inl ⟨by omega, hl⟩))))
      · exact .inr (.inr (.inr (.inr (.inr ⟨by omega, hl⟩)))))
    rw [e, k]
    simp [turned, h]
theorem ok32 : FnOk Tryd.prog 59 s32 := FnOk.of (L := L32) tyOk SL1_ok mixed Tryd.func59 (by kernel_rfl) (by kernel_rfl) <| by
  intro xs r hs
  unfold s32 at hs; split at hs <;> cases hs
  rename_i z o t
  intro hp _ _ _ _
  refine ⟨8, FnLoops.no (by kernel_rfl), ?_⟩
  cases h : isSize z with
  | true =>
    rcases isSize_cases h with rfl | rfl | rfl | rfl | rfl | rfl
    · rw [f32_2]; exact n32_eq (.inl ⟨rfl, rfl⟩)
    · rw [f32_4]; exact n32_eq (.inr (.inl ⟨rfl, rfl⟩))
    · rw [f32_8]; exact n32_eq (.inr (.inr (.inl ⟨rfl, rfl⟩)))
    · rw [f32_16]; exact n32_eq (.inr (.inr (.inr (.inl ⟨rfl, rfl⟩))))
    · rw [f32_32]; exact n32_eq (.inr (.inr (.inr (.inr (.inl ⟨rfl, rfl⟩)))))
    · rw [f32_64]; exact n32_eq (.inr (.inr (.inr (.inr (.inr ⟨rfl, rfl⟩)))))
  | false =>
    have h0 : okT z o t = false := by simp [okT, h]
    obtain ⟨c, hc⟩ : ∃ c : Tr AV, evFn T SL1 L32 8 Tryd.f59 [.i .i64 z, .i .i64 o, .i .i64 t] = Tr.ite (!okT z o t) (.leaf (.u 64 0#64)) c := ⟨_, rfl⟩
    rw [hc]
    simp [Tr.run, turned, h0]
def q33 : St → Option LRes
  | ⟨[(0, .i .i64 z), (1, .i .i64 o), (2, .i .i64 t), (8, .u 64 r), (9, .i .i64 i)], [], [], _⟩ => some ⟨[okT z o t, r == 0#64, i == 0], .exit 0, [(0, .i .i64 z), (1, .i .i64 o), (2, .i .i64 t), (8, .u 64 (turned z o t)), (9, .i .i64 64)], [], []⟩
  | _ => none
def L33 : Nat → Live := fun _ => ⟨[0, 1, 2, 8, 9], [], [], some (evSum q33)⟩
theorem loop33 (N : Nat) : LoopOk T SL1 L33 73 N (loopOf Tryd.f68 0) := LoopOk.of rfl <| by
  intro τ r hcut hr
  unfold q33 at hr; split at hr <;> cases hr
  rename_i z o t r i c
  obtain rfl : c = 0 := hcut
  intro hp
  simp only [List.mem_cons, List.not_mem_nil, or_false, forall_eq_or_imp, forall_eq, beq_iff_eq, decide_eq_true_eq] at hp
  obtain ⟨h, rfl, rfl⟩ := hp
  have e : ∀ (r : W64) (i : Int), (atHead (evCode T SL1 L33 73 N (loopOf Tryd.f68 0)) (L33 (firstR (loopOf Tryd.f68 0))) ⟨[(0, .i .i64 z), (1, .i .i64 o), (2, .i .i64 t), (8, .u 64 r), (9, .i .i64 i)], [], [], 0⟩).run =
      if decide (i < 64) = true then if (!z == 0) = true then if (!z == 0) = true then
        some (.normal, ⟨[(0, .i .i64 z), (1, .i .i64 o), (2, .i .i64 t), (8, .u 64 (if decide ((IntKind.i64.wrap (i.tmod z + t)).tmod z < o) = true then r + 1#64 <<< (BitVec.ofInt 64 i).toNat else r)), (9, .i .i64 (IntKind.i64.wrap (i + 1)))], [], [], 0⟩) else none else none
      else some (.exit 0, ⟨[(0, .i .i64 z), (1, .i .i64 o), (2, .i .i64 t), (8, .u 64 r), (9, .i .i64 i)], [], [], 0⟩) := fun r i => by kernel_rfl
  have ht : turned z o t = turnedN z.toNat o.toNat t.toNat := by simp [turned, h]
  obtain ⟨h0, s, a, b, rfl, rfl, rfl, h1, h2, h3, h4⟩ := okT_nat h
  rw [ht]
  simp only [Int.toNat_natCast]
  refine ⟨64 + 1, iter_for (fun j => ⟨[(0, .i .i64 (s : Int)), (1, .i .i64 (a : Int)), (2, .i .i64 (b : Int)), (8, .u 64 (sumBits (tbit s a b) j)), (9, .i .i64 (j : Int))], [], [], 0⟩) 64 ?_ ?_ (by simp)⟩
  · intro j hj
    have e1 : ((j : Int).tmod (s : Int)) = ((j % s : Nat) : Int) := rfl
    have e2 : j % s < s := Nat.mod_lt _ (by omega)
    have e3 : IntKind.i64.wrap (((j % s : Nat) : Int) + (b : Int)) = ((j % s + b : Nat) : Int) := by rw [wrap_small] <;> omega
    have e4 : (((j % s + b : Nat) : Int).tmod (s : Int)) = (((j % s + b) % s : Nat) : Int) := rfl
    rw [e, if_pos (by simp; omega), if_pos (by simp; omega), if_pos (by simp; omega), wrap_succ j (by omega), ofInt_nat j (by omega), e1, e3, e4, sumBits_succ]
    by_cases hc : (j % s + b) % s < a
    · rw [if_pos (decide_eq_true (Int.ofNat_lt.2 hc))]; simp only [tbit, hc, decide_true, bitB, cond_true]
    · rw [if_neg (by rw [decide_eq_true_eq]; exact fun h => hc (Int.ofNat_lt.1 h))]; simp only [tbit, hc, decide_false, bitB, cond_false, BitVec.zero_shiftLeft, BitVec.add_zero]
  · rw [e, if_neg (by simp)]; rfl
theorem ok33 : FnOk Tryd.prog 68 s32 := FnOk.of tyOk SL1_ok mixed Tryd.func68 (by kernel_rfl) (by kernel_rfl) <| by
  intro xs r hs
  unfold s32 at hs; split at hs <;> cases hs
  rename_i z o t
  intro hp _ _ _ _
  refine ⟨1, FnLoops.one (by kernel_rfl) (loop33 1), ?_⟩
  have e : ∀ (p q : Bool), q = (if (if (if (if (if (z == 2) = true then true else z == 4) = true then true else z == 8) = true then true else z == 16) = true then true else z == 32) = true then true else z == 64) →
    p = (if (if (if (if (!q) = true then true else decide (o < 1)) = true then true else decide (IntKind.i64.wrap (z - 1) < o)) = true then true else decide (t < 0)) = true then true else decide (IntKind.i64.wrap (z - 1) < t)) →
    (evFn T SL1 L33 1 Tryd.f68 [.i .i64 z, .i .i64 o, .i .i64 t]).run = if p = true then some (.u 64 0#64) else if okT z o t = true then some (.u 64 (turned z o t)) else none := fun p q hq hp => by subst hq; subst hp; kernel_rfl
  have hq : isSize z = (if (if (if (if (if (z == 2) = true then true else z == 4) = true then true else z == 8) = true then true else z == 16) = true then true else z == 32) = true then true else z == 64) := by
    unfold isSize
    cases z == 2 <;> cases z == 4 <;> cases z == 8 <;> cases z == 16 <;> cases z == 32 <;> rfl
  rw [e _ _ hq rfl]
  cases h : isSize z with
  | false =>
    have h0 : okT z o t = false := by simp [okT, h]
    simp [turned, h0]
  | true =>
    have hz := isSize_cases h
    rw [wrap_small (z - 1) (by omega) (by omega)]
    cases h0 : okT z o t with
    | true =>
      have h1 := h0
      simp only [okT, Bool.and_eq_true, decide_eq_true_eq] at h1
      obtain ⟨_, h1, h2, h3, h4⟩ := h1
      have c1 : ¬ o < 1 := by omega
      have c2 : ¬ z - 1 < o := by omega
      have c3 : ¬ t < 0 := by omega
      have c4 : ¬ z - 1 < t := by omega
      simp [c1, c2, c3, c4]
    | false =>
      have h1 := h0
      simp only [okT, h, Bool.true_and] at h1
      have : o < 1 ∨ z - 1 < o ∨ t < 0 ∨ z - 1 < t := by
        by_cases a1 : 1 ≤ o <;> by_cases a2 : o < z <;> by_cases a3 : 0 ≤ t <;> by_cases a4 : t < z <;> simp [a1, a2, a3, a4] at h1 <;> omega
      rw [show turned z o t = 0#64 by simp [turned, h0]]
      by_cases c1 : o < 1 <;> by_cases c2 : z - 1 < o <;> by_cases c3 : t < 0 <;> by_cases c4 : z - 1 < t <;> simp [c1, c2, c3, c4] <;> omega
noncomputable abbrev SL2 : FuncId → CSpec := withS (withS SL1 59 s32) 68 s32
theorem SL2_ok : ∀ f, FnOk Tryd.prog f (SL2 f) := withS_ok (withS_ok SL1_ok ok32) ok33
end Go.Proofs.YtocfkaihfjbfnaaDoor
