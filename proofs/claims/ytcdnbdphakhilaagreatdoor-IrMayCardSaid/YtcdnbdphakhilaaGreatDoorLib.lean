/- Lemmas: the types of the program, a maker's steps, the library's functions by their contracts. No condition. -/
import Derived.Test.YtcdnbdphakhilaaGreatDoorEvC
import Derived.Lib.ItoaNum
import Derived.Test.YtcdnbdphakhilaaGreatDoorProg
import Derived.Lib.ItoaMem
import Derived.Lib.Walk
import Derived.WalkKit
import Derived.BigCall
import Derived.BigGuard
import Derived.Test.YtcdnbdphakhilaaGreatDoorShelf
set_option linter.unusedVariables false
set_option linter.unusedSimpArgs false
set_option maxRecDepth 100000
namespace Go.Proofs.YtcdnbdphakhilaaGreatDoor
open Go.Proofs.YtcdnbdphakhilaaGreatDoor.Ev

def zv32 : List Value := [Value.int .i64 0] ++ [Value.int .i64 0] ++ [Value.int .u64 0] ++ [Value.int .u64 0] ++ []
theorem zero32 (C : Ctx) : CR C ([.i .i64 0, .i .i64 0, .u 64 0#64, .u 64 0#64]) (zv32) := (.one rfl rfl (.i rfl ⟨by decide, by decide⟩) (.one rfl rfl (.i rfl ⟨by decide, by decide⟩) (.one rfl rfl (vz_u (k := .u64) rfl) (.one rfl rfl (vz_u (k := .u64) rfl) .nil))))
theorem eqt32 : EqT Tryz.prog 32 ([.i .i64 0, .i .i64 0, .u 64 0#64, .u 64 0#64]) 2 true := (.st Tryz.underlying32 (by kernel_rfl) (.cons (d' := 1) (by decide) rfl (.i (k := .i64) rfl Tryz.underlying3) (by decide) rfl (by kernel_rfl) (.cons (d' := 1) (by decide) rfl (.i (k := .i64) rfl Tryz.underlying3) (by decide) rfl (by kernel_rfl) (.cons (d' := 1) (by decide) rfl (.u (k := .u64) rfl Tryz.underlying22) (by decide) rfl (by kernel_rfl) (.cons (d' := 1) (by decide) rfl (.u (k := .u64) rfl Tryz.underlying22) (by decide) rfl (by kernel_rfl) .nil)))))
def zv34 : List Value := [Value.int .u64 0] ++ [Value.int .u64 0] ++ [Value.slice none 0 0] ++ [Value.int .i64 0] ++ [Value.int .i64 0] ++ [Value.int .u64 0] ++ [Value.int .u64 0] ++ []
theorem zero34 (C : Ctx) : CR C ([.u 64 0#64, .u 64 0#64, .nils, .i .i64 0, .i .i64 0, .u 64 0#64, .u 64 0#64]) (zv34) := (.one rfl rfl (vz_u (k := .u64) rfl) (.one rfl rfl (vz_u (k := .u64) rfl) (.one rfl rfl .nils (.one rfl rfl (.i rfl ⟨by decide, by decide⟩) (.one rfl rfl (.i rfl ⟨by decide, by decide⟩) (.one rfl rfl (vz_u (k := .u64) rfl) (.one rfl rfl (vz_u (k := .u64) rfl) .nil)))))))
def zv114 : List Value := [Value.int .u64 0] ++ [Value.int .u64 0] ++ [Value.slice none 0 0] ++ [Value.int .i64 0] ++ [Value.int .i64 0] ++ [Value.int .u64 0] ++ [Value.int .u64 0] ++ []
theorem zero114 (C : Ctx) : CR C ([.u 64 0#64, .u 64 0#64, .nils, .i .i64 0, .i .i64 0, .u 64 0#64, .u 64 0#64]) (zv114) := (.one rfl rfl (vz_u (k := .u64) rfl) (.one rfl rfl (vz_u (k := .u64) rfl) (.one rfl rfl .nils (.one rfl rfl (.i rfl ⟨by decide, by decide⟩) (.one rfl rfl (.i rfl ⟨by decide, by decide⟩) (.one rfl rfl (vz_u (k := .u64) rfl) (.one rfl rfl (vz_u (k := .u64) rfl) .nil)))))))
def zv28 : List Value := [Value.int .u64 0] ++ [Value.int .u64 0] ++ [Value.slice none 0 0] ++ [Value.int .i64 0] ++ [Value.int .i64 0] ++ [Value.int .u64 0] ++ [Value.int .u64 0] ++ []
theorem zero28 (C : Ctx) : CR C ([.u 64 0#64, .u 64 0#64, .nils, .i .i64 0, .i .i64 0, .u 64 0#64, .u 64 0#64]) (zv28) := (.one rfl rfl (vz_u (k := .u64) rfl) (.one rfl rfl (vz_u (k := .u64) rfl) (.one rfl rfl .nils (.one rfl rfl (.i rfl ⟨by decide, by decide⟩) (.one rfl rfl (.i rfl ⟨by decide, by decide⟩) (.one rfl rfl (vz_u (k := .u64) rfl) (.one rfl rfl (vz_u (k := .u64) rfl) .nil)))))))
def zv42 : List Value := [Value.int .i64 0] ++ [Value.int .i64 0] ++ [Value.int .i64 0] ++ [Value.int .i64 0] ++ [Value.int .i64 0] ++ [Value.int .i64 0] ++ [Value.int .u64 0] ++ [Value.bool false] ++ [Value.int .i64 0] ++ []
theorem zero42 (C : Ctx) : CR C ([.i .i64 0, .i .i64 0, .i .i64 0, .i .i64 0, .i .i64 0, .i .i64 0, .u 64 0#64, .b false, .i .i64 0]) (zv42) := (.one rfl rfl (.i rfl ⟨by decide, by decide⟩) (.one rfl rfl (.i rfl ⟨by decide, by decide⟩) (.one rfl rfl (.i rfl ⟨by decide, by decide⟩) (.one rfl rfl (.i rfl ⟨by decide, by decide⟩) (.one rfl rfl (.i rfl ⟨by decide, by decide⟩) (.one rfl rfl (.i rfl ⟨by decide, by decide⟩) (.one rfl rfl (vz_u (k := .u64) rfl) (.one rfl rfl (.b false) (.one rfl rfl (.i rfl ⟨by decide, by decide⟩) .nil)))))))))
theorem eqt42 : EqT Tryz.prog 42 ([.i .i64 0, .i .i64 0, .i .i64 0, .i .i64 0, .i .i64 0, .i .i64 0, .u 64 0#64, .b false, .i .i64 0]) 2 true := (.st Tryz.underlying42 (by kernel_rfl) (.cons (d' := 1) (by decide) rfl (.i (k := .i64) rfl Tryz.underlying3) (by decide) rfl (by kernel_rfl) (.cons (d' := 1) (by decide) rfl (.i (k := .i64) rfl Tryz.underlying3) (by decide) rfl (by kernel_rfl) (.cons (d' := 1) (by decide) rfl (.i (k := .i64) rfl Tryz.underlying3) (by decide) rfl (by kernel_rfl) (.cons (d' := 1) (by decide) rfl (.i (k := .i64) rfl Tryz.underlying3) (by decide) rfl (by kernel_rfl) (.cons (d' := 1) (by decide) rfl (.i (k := .i64) rfl Tryz.underlying3) (by decide) rfl (by kernel_rfl) (.cons (d' := 1) (by decide) rfl (.i (k := .i64) rfl Tryz.underlying3) (by decide) rfl (by kernel_rfl) (.cons (d' := 1) (by decide) rfl (.u (k := .u64) rfl Tryz.underlying22) (by decide) rfl (by kernel_rfl) (.cons (d' := 1) (by decide) rfl (.b Tryz.underlying4) (by decide) rfl (by kernel_rfl) (.cons (d' := 1) (by decide) rfl (.i (k := .i64) rfl Tryz.underlying3) (by decide) rfl (by kernel_rfl) .nil))))))))))
def zv43 : List Value := [Value.int .i64 0] ++ [Value.int .i64 0] ++ [Value.int .i64 0] ++ [Value.int .i64 0] ++ [Value.int .i64 0] ++ [Value.int .i64 0] ++ [Value.int .u64 0] ++ [Value.bool false] ++ [Value.int .i64 0] ++ []
theorem zero43 (C : Ctx) : CR C ([.i .i64 0, .i .i64 0, .i .i64 0, .i .i64 0, .i .i64 0, .i .i64 0, .u 64 0#64, .b false, .i .i64 0]) (zv43) := (.one rfl rfl (.i rfl ⟨by decide, by decide⟩) (.one rfl rfl (.i rfl ⟨by decide, by decide⟩) (.one rfl rfl (.i rfl ⟨by decide, by decide⟩) (.one rfl rfl (.i rfl ⟨by decide, by decide⟩) (.one rfl rfl (.i rfl ⟨by decide, by decide⟩) (.one rfl rfl (.i rfl ⟨by decide, by decide⟩) (.one rfl rfl (vz_u (k := .u64) rfl) (.one rfl rfl (.b false) (.one rfl rfl (.i rfl ⟨by decide, by decide⟩) .nil)))))))))
theorem eqt43 : EqT Tryz.prog 43 ([.i .i64 0, .i .i64 0, .i .i64 0, .i .i64 0, .i .i64 0, .i .i64 0, .u 64 0#64, .b false, .i .i64 0]) 2 true := (.st Tryz.underlying43 (by kernel_rfl) (.cons (d' := 1) (by decide) rfl (.i (k := .i64) rfl Tryz.underlying3) (by decide) rfl (by kernel_rfl) (.cons (d' := 1) (by decide) rfl (.i (k := .i64) rfl Tryz.underlying3) (by decide) rfl (by kernel_rfl) (.cons (d' := 1) (by decide) rfl (.i (k := .i64) rfl Tryz.underlying3) (by decide) rfl (by kernel_rfl) (.cons (d' := 1) (by decide) rfl (.i (k := .i64) rfl Tryz.underlying3) (by decide) rfl (by kernel_rfl) (.cons (d' := 1) (by decide) rfl (.i (k := .i64) rfl Tryz.underlying3) (by decide) rfl (by kernel_rfl) (.cons (d' := 1) (by decide) rfl (.i (k := .i64) rfl Tryz.underlying3) (by decide) rfl (by kernel_rfl) (.cons (d' := 1) (by decide) rfl (.u (k := .u64) rfl Tryz.underlying22) (by decide) rfl (by kernel_rfl) (.cons (d' := 1) (by decide) rfl (.b Tryz.underlying4) (by decide) rfl (by kernel_rfl) (.cons (d' := 1) (by decide) rfl (.i (k := .i64) rfl Tryz.underlying3) (by decide) rfl (by kernel_rfl) .nil))))))))))
def zv61 : List Value := List.replicate 19 (Value.int .u64 0) ++ []
theorem zero61 (C : Ctx) : CR C ([.ar 19 fun _ => .u 64 0#64]) (zv61) := (crz_ar (by decide) (vz_u (k := .u64) rfl) rfl rfl .nil)
theorem eqt61 : EqT Tryz.prog 61 ([.ar 19 fun _ => .u 64 0#64]) 2 true := (.ar Tryz.underlying61 (.u (k := .u64) rfl Tryz.underlying22) (by kernel_rfl))
def zv63 : List Value := List.replicate 19 (Value.int .u64 0) ++ []
theorem zero63 (C : Ctx) : CR C ([.ar 19 fun _ => .u 64 0#64]) (zv63) := (crz_ar (by decide) (vz_u (k := .u64) rfl) rfl rfl .nil)
theorem eqt63 : EqT Tryz.prog 63 ([.ar 19 fun _ => .u 64 0#64]) 3 true := (.st Tryz.underlying63 (by kernel_rfl) (.cons (d' := 2) (by decide) rfl (.ar Tryz.underlying61 (.u (k := .u64) rfl Tryz.underlying22) (by kernel_rfl)) (by decide) rfl (by kernel_rfl) .nil))
def zv129 : List Value := [Value.int .u64 0] ++ [Value.int .u64 0] ++ [Value.slice none 0 0] ++ [Value.int .i64 0] ++ [Value.int .i64 0] ++ [Value.int .u64 0] ++ [Value.int .u64 0] ++ [Value.pointer none] ++ [Value.int .i64 0] ++ [Value.pointer none] ++ [Value.slice none 0 0] ++ []
theorem zero129 (C : Ctx) : CR C ([.u 64 0#64, .u 64 0#64, .nils, .i .i64 0, .i .i64 0, .u 64 0#64, .u 64 0#64, .nilp, .i .i64 0, .nilp, .nils]) (zv129) := (.one rfl rfl (vz_u (k := .u64) rfl) (.one rfl rfl (vz_u (k := .u64) rfl) (.one rfl rfl .nils (.one rfl rfl (.i rfl ⟨by decide, by decide⟩) (.one rfl rfl (.i rfl ⟨by decide, by decide⟩) (.one rfl rfl (vz_u (k := .u64) rfl) (.one rfl rfl (vz_u (k := .u64) rfl) (.one rfl rfl .nilp (.one rfl rfl (.i rfl ⟨by decide, by decide⟩) (.one rfl rfl .nilp (.one rfl rfl .nils .nil)))))))))))
def tyL : List (Nat × TyI) := [
  (2, ⟨.int .i64, 1, true, [.i .i64 0]⟩),
  (3, ⟨.int .i64, 1, true, [.i .i64 0]⟩),
  (4, ⟨.bool, 1, true, [.b false]⟩),
  (5, ⟨.int .u8, 1, true, [.u 8 0#8]⟩),
  (9, ⟨.string, 1, true, [.str []]⟩),
  (26, ⟨.slice 42, 1, false, [.nils]⟩),
  (112, ⟨.pointer 114, 1, false, [.nilp]⟩),
  (22, ⟨.int .u64, 1, true, [.u 64 0#64]⟩),
  (30, ⟨.slice 43, 1, false, [.nils]⟩),
  (32, ⟨.struct [(0, 3), (1, 3), (2, 22), (3, 22)], 4, true, [.i .i64 0, .i .i64 0, .u 64 0#64, .u 64 0#64]⟩),
  (34, ⟨.struct [(0, 22), (1, 22), (2, 30), (3, 32)], 7, false, [.u 64 0#64, .u 64 0#64, .nils, .i .i64 0, .i .i64 0, .u 64 0#64, .u 64 0#64]⟩),
  (114, ⟨.struct [(0, 34)], 7, false, [.u 64 0#64, .u 64 0#64, .nils, .i .i64 0, .i .i64 0, .u 64 0#64, .u 64 0#64]⟩),
  (28, ⟨.struct [(0, 22), (1, 22), (2, 26), (3, 3), (4, 3), (5, 22), (6, 22)], 7, false, [.u 64 0#64, .u 64 0#64, .nils, .i .i64 0, .i .i64 0, .u 64 0#64, .u 64 0#64]⟩),
  (44, ⟨.slice 3, 1, false, [.nils]⟩),
  (42, ⟨.struct [(0, 3), (1, 3), (2, 3), (3, 3), (4, 3), (5, 3), (6, 22), (7, 4), (8, 3)], 9, true, [.i .i64 0, .i .i64 0, .i .i64 0, .i .i64 0, .i .i64 0, .i .i64 0, .u 64 0#64, .b false, .i .i64 0]⟩),
  (43, ⟨.struct [(0, 3), (1, 3), (2, 3), (3, 3), (4, 3), (5, 3), (6, 22), (7, 4), (8, 3)], 9, true, [.i .i64 0, .i .i64 0, .i .i64 0, .i .i64 0, .i .i64 0, .i .i64 0, .u 64 0#64, .b false, .i .i64 0]⟩),
  (61, ⟨.array 19 22, 19, true, [.ar 19 fun _ => .u 64 0#64]⟩),
  (63, ⟨.struct [(0, 61)], 19, true, [.ar 19 fun _ => .u 64 0#64]⟩),
  (66, ⟨.pointer 63, 1, false, [.nilp]⟩),
  (36, ⟨.slice 9, 1, false, [.nils]⟩),
  (57, ⟨.pointer 191, 1, false, [.nilp]⟩),
  (126, ⟨.pointer 129, 1, false, [.nilp]⟩),
  (127, ⟨.slice 22, 1, false, [.nils]⟩),
  (129, ⟨.struct [(0, 34), (7, 66), (8, 3), (9, 57), (10, 127)], 11, false, [.u 64 0#64, .u 64 0#64, .nils, .i .i64 0, .i .i64 0, .u 64 0#64, .u 64 0#64, .nilp, .i .i64 0, .nilp, .nils]⟩),
  (209, ⟨.pointer 3, 1, false, [.nilp]⟩),
  (210, ⟨.slice 209, 1, false, [.nils]⟩),
  (21, ⟨.int .i32, 1, true, [.i .i32 0]⟩),
  (149, ⟨.int .u32, 1, true, [.u 32 0#32]⟩),
  (180, ⟨.int .u64, 1, true, [.u 64 0#64]⟩)]
abbrev T : TypeId → Option TyI := tyList tyL
theorem ty2 : TyOk1 Tryz.prog 2 ⟨.int .i64, 1, true, [.i .i64 0]⟩ := (.i rfl ⟨by decide, by decide⟩ Tryz.underlying2 (by kernel_rfl))
theorem ty3 : TyOk1 Tryz.prog 3 ⟨.int .i64, 1, true, [.i .i64 0]⟩ := (.i rfl ⟨by decide, by decide⟩ Tryz.underlying3 (by kernel_rfl))
theorem ty4 : TyOk1 Tryz.prog 4 ⟨.bool, 1, true, [.b false]⟩ := (.b Tryz.underlying4 (by kernel_rfl))
theorem ty5 : TyOk1 Tryz.prog 5 ⟨.int .u8, 1, true, [.u 8 0#8]⟩ := (.u (k := .u8) rfl Tryz.underlying5 (by kernel_rfl))
theorem ty9 : TyOk1 Tryz.prog 9 ⟨.string, 1, true, [.str []]⟩ := (.str Tryz.underlying9 (by kernel_rfl))
theorem ty26 : TyOk1 Tryz.prog 26 ⟨.slice 42, 1, false, [.nils]⟩ := (.nils Tryz.underlying26 (by kernel_rfl))
theorem ty112 : TyOk1 Tryz.prog 112 ⟨.pointer 114, 1, false, [.nilp]⟩ := (.nilp Tryz.underlying112 (by kernel_rfl))
theorem ty22 : TyOk1 Tryz.prog 22 ⟨.int .u64, 1, true, [.u 64 0#64]⟩ := (.u (k := .u64) rfl Tryz.underlying22 (by kernel_rfl))
theorem ty30 : TyOk1 Tryz.prog 30 ⟨.slice 43, 1, false, [.nils]⟩ := (.nils Tryz.underlying30 (by kernel_rfl))
theorem ty32 : TyOk1 Tryz.prog 32 ⟨.struct [(0, 3), (1, 3), (2, 22), (3, 22)], 4, true, [.i .i64 0, .i .i64 0, .u 64 0#64, .u 64 0#64]⟩ := (.agg Tryz.underlying32 rfl ⟨.agg zv32.toArray, (by kernel_rfl), fun C => zero32 C⟩ (fun _ => EqRuns.of eqt32 (by decide) (by kernel_rfl)) (fun fs e => by cases e; kernel_rfl))
theorem ty34 : TyOk1 Tryz.prog 34 ⟨.struct [(0, 22), (1, 22), (2, 30), (3, 32)], 7, false, [.u 64 0#64, .u 64 0#64, .nils, .i .i64 0, .i .i64 0, .u 64 0#64, .u 64 0#64]⟩ := (.agg Tryz.underlying34 rfl ⟨.agg zv34.toArray, (by kernel_rfl), fun C => zero34 C⟩ (fun h => by cases h) (fun fs e => by cases e; kernel_rfl))
theorem ty114 : TyOk1 Tryz.prog 114 ⟨.struct [(0, 34)], 7, false, [.u 64 0#64, .u 64 0#64, .nils, .i .i64 0, .i .i64 0, .u 64 0#64, .u 64 0#64]⟩ := (.agg Tryz.underlying114 rfl ⟨.agg zv114.toArray, (by kernel_rfl), fun C => zero114 C⟩ (fun h => by cases h) (fun fs e => by cases e; kernel_rfl))
theorem ty28 : TyOk1 Tryz.prog 28 ⟨.struct [(0, 22), (1, 22), (2, 26), (3, 3), (4, 3), (5, 22), (6, 22)], 7, false, [.u 64 0#64, .u 64 0#64, .nils, .i .i64 0, .i .i64 0, .u 64 0#64, .u 64 0#64]⟩ := (.agg Tryz.underlying28 rfl ⟨.agg zv28.toArray, (by kernel_rfl), fun C => zero28 C⟩ (fun h => by cases h) (fun fs e => by cases e; kernel_rfl))
theorem ty44 : TyOk1 Tryz.prog 44 ⟨.slice 3, 1, false, [.nils]⟩ := (.nils Tryz.underlying44 (by kernel_rfl))
theorem ty42 : TyOk1 Tryz.prog 42 ⟨.struct [(0, 3), (1, 3), (2, 3), (3, 3), (4, 3), (5, 3), (6, 22), (7, 4), (8, 3)], 9, true, [.i .i64 0, .i .i64 0, .i .i64 0, .i .i64 0, .i .i64 0, .i .i64 0, .u 64 0#64, .b false, .i .i64 0]⟩ := (.agg Tryz.underlying42 rfl ⟨.agg zv42.toArray, (by kernel_rfl), fun C => zero42 C⟩ (fun _ => EqRuns.of eqt42 (by decide) (by kernel_rfl)) (fun fs e => by cases e; kernel_rfl))
theorem ty43 : TyOk1 Tryz.prog 43 ⟨.struct [(0, 3), (1, 3), (2, 3), (3, 3), (4, 3), (5, 3), (6, 22), (7, 4), (8, 3)], 9, true, [.i .i64 0, .i .i64 0, .i .i64 0, .i .i64 0, .i .i64 0, .i .i64 0, .u 64 0#64, .b false, .i .i64 0]⟩ := (.agg Tryz.underlying43 rfl ⟨.agg zv43.toArray, (by kernel_rfl), fun C => zero43 C⟩ (fun _ => EqRuns.of eqt43 (by decide) (by kernel_rfl)) (fun fs e => by cases e; kernel_rfl))
theorem ty61 : TyOk1 Tryz.prog 61 ⟨.array 19 22, 19, true, [.ar 19 fun _ => .u 64 0#64]⟩ := (.agg Tryz.underlying61 rfl ⟨.agg zv61.toArray, (by kernel_rfl), fun C => zero61 C⟩ (fun _ => EqRuns.of eqt61 (by decide) (by kernel_rfl)) (fun fs e => by cases e))
theorem ty63 : TyOk1 Tryz.prog 63 ⟨.struct [(0, 61)], 19, true, [.ar 19 fun _ => .u 64 0#64]⟩ := (.agg Tryz.underlying63 rfl ⟨.agg zv63.toArray, (by kernel_rfl), fun C => zero63 C⟩ (fun _ => EqRuns.of eqt63 (by decide) (by kernel_rfl)) (fun fs e => by cases e; kernel_rfl))
theorem ty66 : TyOk1 Tryz.prog 66 ⟨.pointer 63, 1, false, [.nilp]⟩ := (.nilp Tryz.underlying66 (by kernel_rfl))
theorem ty36 : TyOk1 Tryz.prog 36 ⟨.slice 9, 1, false, [.nils]⟩ := (.nils Tryz.underlying36 (by kernel_rfl))
theorem ty57 : TyOk1 Tryz.prog 57 ⟨.pointer 191, 1, false, [.nilp]⟩ := (.nilp Tryz.underlying57 (by kernel_rfl))
theorem ty126 : TyOk1 Tryz.prog 126 ⟨.pointer 129, 1, false, [.nilp]⟩ := (.nilp Tryz.underlying126 (by kernel_rfl))
theorem ty127 : TyOk1 Tryz.prog 127 ⟨.slice 22, 1, false, [.nils]⟩ := (.nils Tryz.underlying127 (by kernel_rfl))
theorem ty129 : TyOk1 Tryz.prog 129 ⟨.struct [(0, 34), (7, 66), (8, 3), (9, 57), (10, 127)], 11, false, [.u 64 0#64, .u 64 0#64, .nils, .i .i64 0, .i .i64 0, .u 64 0#64, .u 64 0#64, .nilp, .i .i64 0, .nilp, .nils]⟩ := (.agg Tryz.underlying129 rfl ⟨.agg zv129.toArray, (by kernel_rfl), fun C => zero129 C⟩ (fun h => by cases h) (fun fs e => by cases e; kernel_rfl))
theorem ty209 : TyOk1 Tryz.prog 209 ⟨.pointer 3, 1, false, [.nilp]⟩ := (.nilp Tryz.underlying209 (by kernel_rfl))
theorem ty210 : TyOk1 Tryz.prog 210 ⟨.slice 209, 1, false, [.nils]⟩ := (.nils Tryz.underlying210 (by kernel_rfl))
theorem ty21 : TyOk1 Tryz.prog 21 ⟨.int .i32, 1, true, [.i .i32 0]⟩ := (.i rfl ⟨by decide, by decide⟩ Tryz.underlying21 (by kernel_rfl))
theorem ty149 : TyOk1 Tryz.prog 149 ⟨.int .u32, 1, true, [.u 32 0#32]⟩ := (.u (k := .u32) rfl Tryz.underlying149 (by kernel_rfl))
theorem ty180 : TyOk1 Tryz.prog 180 ⟨.int .u64, 1, true, [.u 64 0#64]⟩ := (.u (k := .u64) rfl Tryz.underlying180 (by kernel_rfl))
theorem tyOk : TyOk Tryz.prog T := .cons ty2 <| .cons ty3 <| .cons ty4 <| .cons ty5 <| .cons ty9 <| .cons ty26 <| .cons ty112 <| .cons ty22 <| .cons ty30 <| .cons ty32 <| .cons ty34 <| .cons ty114 <| .cons ty28 <| .cons ty44 <| .cons ty42 <| .cons ty43 <| .cons ty61 <| .cons ty63 <| .cons ty66 <| .cons ty36 <| .cons ty57 <| .cons ty126 <| .cons ty127 <| .cons ty129 <| .cons ty209 <| .cons ty210 <| .cons ty21 <| .cons ty149 <| .cons ty180 <| .nil
/-- What is known of the program's own variables: the greatest length of a short search, and the powers of ten. -/
def Vars (w : World) (R : Nat → Prop) : Prop := (R 1 ∧ ∃ m, w.cell? ⟨1, 0, none⟩ = some (.int .i64 m)) ∧ R 0 ∧ ∃ e f, w.heap[0]? = some (.cells (Lib.pow10Tab.map fun z => Value.int .u64 z).toArray e f)
theorem Vars.mono {w : World} {R : Nat → Prop} {w' : World} {R' : Nat → Prop} (h : Vars w R) (hle : ∀ b, R b → R' b ∧ w'.heap[b]? = w.heap[b]?) : Vars w' R' := by
  obtain ⟨⟨h1, m, hm⟩, h0, e, f, hf⟩ := h
  exact ⟨⟨(hle 1 h1).1, m, (cell_of_block (hle 1 h1).2 0 none).trans hm⟩, (hle 0 h0).1, e, f, (hle 0 h0).2.trans hf⟩
instance : Glob := ⟨Vars, Vars.mono⟩
theorem mixed : Tryz.prog.follows .mixedOrders = true := by kernel_rfl
end Go.Proofs.YtcdnbdphakhilaaGreatDoor
set_option maxRecDepth 100000
namespace Go.Proofs.YtcdnbdphakhilaaGreatDoor
open Go.Proofs.YtcdnbdphakhilaaGreatDoor.Ev Go.RowKit
/- A Maker's steps. -/
def noL : Nat → Live := fun _ => ⟨[], [], [], none⟩
theorem frag_split : ∀ {a1 f1 a2 f2 : List AV}, a1 ++ f1 = a2 ++ f2 → a1.all (fun a => !isFrag a) = true → f1.all isFrag = true → a2.all (fun a => !isFrag a) = true → f2.all isFrag = true → a1 = a2 ∧ f1 = f2
  | [], f1, [], f2, h, _, _, _, _ => ⟨rfl, h⟩
  | [], f1, b :: a2, f2, h, _, k1, k2, _ => by
    rw [List.nil_append] at h
    subst h
    simp only [List.cons_append, List.all_cons, Bool.and_eq_true, Bool.not_eq_true'] at k1 k2
    rw [k1.1] at k2
    cases k2.1
  | a :: a1, f1, [], f2, h, k1, _, _, k2 => by
    rw [List.nil_append] at h
    subst h
    simp only [List.cons_append, List.all_cons, Bool.and_eq_true, Bool.not_eq_true'] at k1 k2
    rw [k2.1] at k1
    cases k1.1
  | a :: a1, f1, b :: a2, f2, h, k1, k2, k3, k4 => by
    simp only [List.cons_append, List.cons.injEq] at h
    simp only [List.all_cons, Bool.and_eq_true] at k1 k3
    obtain ⟨e1, e2⟩ := frag_split h.2 k1.2 k2 k3.2 k4
    exact ⟨by rw [h.1, e1], e2⟩
theorem okByM {S : FuncId → CSpec} (hS : ∀ f, FnOk Tryz.prog f (S f)) {f : FuncId} {fn : Func} (hf : Tryz.prog.funcs[f]? = some fn) (hname : (fn.name == "runtime.NumGoroutine") = false) (hbody : fn.body.isNone = false) {L : Nat → Live} {s : CSpec} (N : Nat) (hL : FnLoops T S L N fn)
    (h : ∀ (es fr l : List AV) (r : CallRes), es ++ fr = l → s l = some r → es.all (fun a => !isFrag a) = true → fr.all isFrag = true → (∀ c ∈ r.pre, c = true) → (evFnM T S L N fn es fr).run = some (r.val, r.outs)) : FnOk Tryz.prog (3000000 + f) (mSpec s) :=
  FnOk.ofM tyOk hS mixed hf hname hbody (fun es fr r hs h1 h2 hp C vs hvs => ⟨N, hL, h es fr _ r rfl hs h1 h2 hp⟩)
@[match_pattern] abbrev mkC (a n : BitVec 64) (r : AV) (ek ea : Int) (et el : BitVec 64) : List AV := [.u 64 a, .u 64 n, r, .i .i64 ek, .i .i64 ea, .u 64 et, .u 64 el]
@[match_pattern] abbrev opC (k f w a b c : Int) (n : BitVec 64) (s : Bool) (o : Int) : List AV := [.i .i64 k, .i .i64 f, .i .i64 w, .i .i64 a, .i .i64 b, .i .i64 c, .u 64 n, .b s, .i .i64 o]
/-- A step more, of a maker that stands at the first number, its steps at the second one. -/
def addR (a n : BitVec 64) (ek ea : Int) (et el : BitVec 64) (xs : List IOp) (o : IOp) : CallRes :=
  ⟨[decide (xs.length + 1 ≤ 134217728)], .fin (.i .i64 (IntKind.i64.wrap (((xs ++ [o]).length : Int) - 1))) [mkC a n (.gs (big + 1) 0) ek ea et el, [.row 43 11 (xs ++ [o]) 0]]⟩
def atM (i : Nat) (off : Nat) (g : Nat) (v : Nat) : Bool := (i == big && off == 0) && (g == big + 1 && v == 0)
def s9 : CSpec
  | [.nilp, .agg (opC ..)] => some ⟨[], .fin (.i .i64 0) []⟩
  | [.ptr i off, .agg (opC k f w x y z u s o), .obj (mkC a n (.gs g v) ek ea et el), .row 43 11 xs 0] => (match atM i off g v with
    | true => some (addR a n ek ea et el xs ⟨k, f, w, x, y, z, u, s, o⟩)
    | false => none)
  | _ => none
theorem atM_eq {i off g v : Nat} (h : atM i off g v = true) : i = big ∧ off = 0 ∧ g = big + 1 ∧ v = 0 := by
  unfold atM at h
  simp only [Bool.and_eq_true, beq_iff_eq] at h
  exact ⟨h.1.1, h.1.2, h.2.1, h.2.2⟩
theorem ok9 : FnOk Tryz.prog (3000000 + 104) (mSpec s9) := okByM noS_ok Tryz.func104 (by kernel_rfl) (by kernel_rfl) (L := noL) 1 (FnLoops.no (by simp [noSum, noL])) (by
  intro es fr l r hl hs h1 h2 hp
  unfold s9 at hs
  split at hs
  · simp only [Option.some.injEq] at hs; subst hs
    obtain ⟨rfl, rfl⟩ := frag_split (a2 := [.nilp, .agg _]) (f2 := []) hl h1 h2 rfl rfl
    kernel_rfl
  · rename_i i off k f w x y z u s o a n g v ek ea et el xs
    split at hs
    · rename_i hat
      obtain ⟨rfl, rfl, rfl, rfl⟩ := atM_eq hat
      simp only [Option.some.injEq] at hs; subst hs
      obtain ⟨rfl, rfl⟩ := frag_split (a2 := [.ptr big 0, .agg _]) (f2 := [.obj _, .row 43 11 xs 0]) hl h1 h2 rfl rfl
      have hp0 := hp _ (List.mem_cons_self ..)
      have e : (evFnM T noS noL 1 Tryz.f104 [.ptr big 0, .agg (opC k f w x y z u s o)] [.obj (mkC a n (.gs (big + 1) 0) ek ea et el), .row 43 11 xs 0]).run =
        if decide (xs.length + 1 ≤ 134217728) = true then some ((addR a n ek ea et el xs ⟨k, f, w, x, y, z, u, s, o⟩).val, (addR a n ek ea et el xs ⟨k, f, w, x, y, z, u, s, o⟩).outs) else none := by kernel_rfl
      rw [e, if_pos hp0]
    · cases hs
  · cases hs)
end Go.Proofs.YtcdnbdphakhilaaGreatDoor
set_option maxRecDepth 100000
namespace Go.Proofs.YtcdnbdphakhilaaGreatDoor
open Go.Proofs.YtcdnbdphakhilaaGreatDoor.Ev Go.RowKit
theorem noL_ok {S : FuncId → CSpec} {N : Nat} {fn : Func} : FnLoops T S noL N fn := FnLoops.no (by simp [noSum, noL])
theorem okBy {S : FuncId → CSpec} (hS : ∀ f, FnOk Tryz.prog f (S f)) {f : FuncId} {fn : Func} (hf : Tryz.prog.funcs[f]? = some fn) (hname : (fn.name == "runtime.NumGoroutine") = false) (hbody : fn.body.isNone = false) {s : CSpec} (N : Nat)
    (h : ∀ xs r, s xs = some r → (∀ c ∈ r.pre, c = true) → (∃ w R vs, TR (baseC w R) xs vs) → (evFn T S noL N fn xs).run = some r.res) (hlt : f < offO := by decide) : FnOk Tryz.prog f s :=
  FnOk.of tyOk hS mixed hf hname hbody (fun xs r hs hp w R vs hvs => ⟨N, noL_ok, h xs r hs hp ⟨w, R, vs, hvs⟩⟩) hlt
theorem law_calls {S : FuncId → CSpec} (hS : ∀ f, FnOk Tryz.prog f (S f)) {L : Nat → Live} {N : Nat} {f : FuncId} {fn : Func} (hf : Tryz.prog.funcs[f]? = some fn) (hL : FnLoops T S L N fn) {xs : List AV} (h : (evFn T S L N fn xs).run = some (.b true))
    {W : World} {R : Nat → Prop} (hR : ∀ b, R b → b < W.heap.size) (hG : Glob.G W R) {vs : List Value} (hvs : TR (baseC W R) xs vs) : Calls Tryz.prog f vs.toArray W fun e W' => e = .returned (.bool true) ∧ Below W.heap.size W W' := by
  refine (calls_ev tyOk hS mixed hf hL h hR hG hvs).mono fun e W' hd => ?_
  obtain ⟨v, rfl, R', hd⟩ := hd
  have hv := hd.res
  cases hv
  exact ⟨rfl, hd.fr.os, hd.fr.tape, hd.fr.output, hd.fr.size, fun k hk => hd.fr.block k hk (fun h => h)⟩
theorem wrap_small (x : Int) (h0 : -9223372036854775808 ≤ x) (h1 : x ≤ 9223372036854775807) : IntKind.i64.wrap x = x := wrap_of_has ⟨by simpa [IntKind.min, IntKind.signed, IntKind.bits] using h0, by simpa [IntKind.max, IntKind.signed, IntKind.bits] using h1⟩
theorem iter_from {g : St → Tr (Ex × St)} (τ : Nat → St) (a n : Nat) (han : a ≤ n) {e : Ex} {st' : St} (hs : ∀ j, a ≤ j → j < n → (g (τ j)).run = some (.normal, τ (j + 1))) (he : (g (τ n)).run = some (e, st')) (hne : e ≠ .normal) : ∃ N, (iter g N (τ a)).run = some (e, st') :=
  ⟨n - a + 1, iter_for (fun j => τ (a + j)) (n - a) (fun j hj => hs (a + j) (by omega) (by omega)) (by rw [show a + (n - a) = n by omega]; exact he) hne⟩
theorem doneStr {w : World} {R : Nat → Prop} (hR : ∀ b, R b → b < w.heap.size) {s : List UInt8} (hs : s.length ≤ 9223372036854775807) {w' : World} (hf : Fr w (fun _ => False) w') : ∃ R', Done w R (.str s) (.string ⟨s.toArray⟩) w' R' :=
  ⟨R, fun _ h => h, fun _ h => .inl h, fun b hb => Nat.lt_of_lt_of_le (hR b hb) hf.size, hf, .str s hs⟩
def decS (n : Nat) : List UInt8 := if n < 10 then [UInt8.ofNat (48 + n)] else [UInt8.ofNat (48 + n / 10), UInt8.ofNat (48 + n % 10)]
theorem decS_eq {n : Nat} (h : n < 100) : Lib.decDigits n = decS n := by
  unfold decS
  rw [Lib.decDigits]
  split
  · rfl
  · rw [Lib.decDigits, dif_pos (show n / 10 < 10 by omega)]
    rfl
theorem decS_len (n : Nat) : (decS n).length ≤ 9223372036854775807 := by unfold decS; split <;> simp
def joinS : List UInt8 → List (List UInt8) → List UInt8
  | p, [] => p
  | p, q :: ps => p ++ 32 :: joinS q ps
theorem indexByte_at : ∀ (x r : List UInt8), (∀ c ∈ x, c ≠ 32) → Lib.indexByte (x ++ 32 :: r) 32 = x.length
  | [], r, _ => rfl
  | c :: x, r, h => by
    have ih := indexByte_at x r (fun d hd => h d (List.mem_cons_of_mem _ hd))
    have hc : (c == 32) = false := by simpa using h c (List.mem_cons_self ..)
    show (if (c == 32) = true then (0 : Int) else if (Lib.indexByte (x ++ 32 :: r) 32 == -1) = true then -1 else Lib.indexByte (x ++ 32 :: r) 32 + 1) = _
    rw [ih, hc]
    have hn : ((x.length : Int) == -1) = false := by simp
    rw [hn]
    simp
theorem splitK_join : ∀ (p : List UInt8) (ps : List (List UInt8)), (∀ x ∈ p :: ps, ∀ c ∈ x, c ≠ 32) → Lib.splitK [32] 0 ps.length (joinS p ps) = p :: ps
  | p, [], _ => rfl
  | p, q :: ps, h => by
    have ih := splitK_join q ps (fun x hx => h x (List.mem_cons_of_mem _ hx))
    have hi : Lib.index (p ++ 32 :: joinS q ps) [32] = p.length := by
      rw [Lib.index_one, indexByte_at p _ (h p (List.mem_cons_self ..))]
    show Lib.splitK [32] 0 (ps.length + 1) (p ++ 32 :: joinS q ps) = _
    unfold Lib.splitK
    rw [hi]
    have hn : ((p.length : Int) == -1) = false := by simp
    rw [hn]
    have e1 : (p ++ 32 :: joinS q ps).take ((p.length : Int).toNat + 0) = p := by simp
    have e2 : (p ++ 32 :: joinS q ps).drop ((p.length : Int).toNat + [(32 : UInt8)].length) = joinS q ps := by
      simp [List.drop_append]
    rw [e1, e2, ih]
    rfl
theorem count_join : ∀ (p : List UInt8) (ps : List (List UInt8)), (∀ x ∈ p :: ps, ∀ c ∈ x, c ≠ 32) → (joinS p ps).count 32 = ps.length
  | p, [], h => by
    show p.count 32 = 0
    exact List.count_eq_zero.2 fun hm => h p (List.mem_cons_self ..) 32 hm rfl
  | p, q :: ps, h => by
    have ih := count_join q ps (fun x hx => h x (List.mem_cons_of_mem _ hx))
    have h0 : p.count 32 = 0 := List.count_eq_zero.2 fun hm => h p (List.mem_cons_self ..) 32 hm rfl
    show (p ++ 32 :: joinS q ps).count 32 = _
    rw [List.count_append, List.count_cons, h0, ih]
    simp
theorem tab_of {w : World} {R : Nat → Prop} (h : Vars w R) : Lib.TabIs Tryz.prog w "internal/strconv.uint64pow10" .u64 Lib.pow10Tab := by
  obtain ⟨_, _, e, f, hf⟩ := h
  unfold Lib.TabIs World.var?
  rw [show Tryz.prog.globalNamed "internal/strconv.uint64pow10" = some 0 by kernel_rfl]
  simp only [Option.bind_some, hf]
theorem fr_grow (w : World) (k : Nat) (os : Array Obj) : Fr w (fun _ => False) (Go.Sort.grow (w.drewN k) os) :=
  ⟨rfl, rfl, rfl, by show w.heap.size ≤ (w.heap ++ os).size; simp, fun b hb _ => by show (w.heap ++ os)[b]? = _; rw [Array.getElem?_append_left hb]⟩
theorem nDigits_le (u : Nat) (h : u < 18446744073709551616) : Lib.nDigits u ≤ 20 := by
  by_cases h1 : 1 ≤ u
  · have := Lib.numDigits_eq u h1 h; split at this <;> omega
  · obtain rfl : u = 0 := by omega
    decide +kernel
theorem dec_len (u : Nat) (h : u < 18446744073709551616) : (Lib.decDigits u).length ≤ 20 := by rw [Lib.decDigits_length]; exact nDigits_le u h
theorem itoa_len {n : Int} (h : IntKind.i64.has n) : (Lib.itoa n).length ≤ 21 := by
  have h1 : -9223372036854775808 ≤ n := h.1
  have h2 : n ≤ 9223372036854775807 := h.2
  by_cases hn : n < 0
  · obtain ⟨u, rfl⟩ : ∃ u : Nat, n = -(u : Int) := ⟨n.natAbs, by omega⟩
    rw [Lib.itoa_neg u (by omega)]
    have := dec_len u (by omega)
    simp; omega
  · obtain ⟨u, rfl⟩ : ∃ u : Nat, n = u := ⟨n.toNat, by omega⟩
    rw [Lib.itoa_nonneg]
    have := dec_len u (by omega)
    omega
def inB (a x b : Int) : Bool := decide (a ≤ x) && decide (x ≤ b)
abbrev W64 := BitVec 64
theorem Tr.of_fail {α : Type} {x : α} (h : (Tr.fail : Tr α).run = some x) : False := by cases h
theorem Tr.of_need {α : Type} {c : Bool} {t : Tr α} {x : α} (h : (Tr.need c t).run = some x) : c = true ∧ t.run = some x := by
  cases c with
  | true => exact ⟨rfl, h⟩
  | false => cases h
theorem Tr.of_ite {α : Type} {c : Bool} {t e : Tr α} {x : α} (h : (Tr.ite c t e).run = some x) : (c = true ∧ t.run = some x) ∨ (c = false ∧ e.run = some x) := by
  cases c with
  | true => exact .inl ⟨rfl, h⟩
  | false => exact .inr ⟨rfl, h⟩

/- The library's functions, by their contracts. -/
/-- A number's numeral. -/
def itoaS (n : Int) : List UInt8 := if (decide (0 ≤ n) && decide (n < 100)) = true then decS n.toNat else Lib.itoa n
theorem itoaS_eq {n : Int} (h : IntKind.i64.has n) : Lib.itoa n = itoaS n := by
  unfold itoaS
  split
  · rename_i hc
    simp only [Bool.and_eq_true, decide_eq_true_eq] at hc
    obtain ⟨k, rfl⟩ := Int.eq_ofNat_of_zero_le hc.1
    rw [Int.toNat_natCast, ← decS_eq (by omega)]
    exact Lib.itoa_nonneg k
  · rfl
def s38 : CSpec | [.i .i64 n] => some ⟨[], .str (itoaS n)⟩ | _ => none
theorem ok38 : FnOk Tryz.prog 107 s38 := FnOk.contract Tryz.func107 (by kernel_rfl) (by kernel_rfl) <| by
  intro xs r hs
  unfold s38 at hs; split at hs <;> cases hs
  rename_i n
  intro hp w R vs hR hG hvs
  cases hvs with
  | cons hv hl =>
    cases hl
    cases hv with
    | i hk h =>
    refine (Tryz.strconv_Itoa n h.1 h.2 w (tab_of hG)).mono ?_
    rintro e w' ⟨rfl, k, os, rfl⟩
    rw [itoaS_eq h]
    exact ⟨_, rfl, doneStr hR (by rw [← itoaS_eq h]; have := itoa_len h; omega) (fr_grow ..)⟩
section
open Go.Sort Go.Lib
theorem holds_zero0 (w : World) (T : TypeId) (nd : Nat) (hs : nd ≤ 24) : Holds (fun (b : UInt8) => Value.int .u8 (b.toNat : Int)) (w.alloc (.cells Lib.zeros24 T)) w.heap.size 0 (Array.replicate nd (0 : UInt8)) := fun j hj => by
  have hj' : j < nd := by simpa using hj
  refine ⟨?_, World.frozen?_alloc_new _ _ _ _⟩
  rw [World.cell?_alloc_new, Lib.zeros24_at _ (by omega), getElem!_pos _ j hj]
  simp
theorem fin0 (w : World) (o : Obj) (dk : Array UInt8) (k : Nat) : ∃ os, (putRow (fun (b : UInt8) => Value.int .u8 (b.toNat : Int)) (w.alloc o) w.heap.size 0 dk).drewN k = grow (w.drewN k) os := by
  rw [alloc_eq_grow]
  obtain ⟨os', _, e⟩ := putRow_grow_new (fun (b : UInt8) => Value.int .u8 (b.toNat : Int)) w #[o] w.heap.size 0 dk (Nat.le_refl _)
  exact ⟨os', by rw [e]; rfl⟩

set_option maxHeartbeats 6400000 in
theorem formatUint57 (u : Nat) (hu64 : u < 18446744073709551616) (w : World) (htab : Lib.TabIs Tryz.prog w "internal/strconv.uint64pow10" .u64 Lib.pow10Tab) :
    Calls Tryz.prog 161 #[.int .u64 u, .int .i64 10] w fun e w' => e = .returned (.string ⟨(Lib.decDigits u).toArray⟩) ∧ ∃ k os, w' = grow (w.drewN k) os := by
  have mixed : Tryz.prog.follows .mixedOrders = true := by kernel_rfl
  have e69 : ∀ args w, (callFunc 180 args).run Tryz.prog w = .ok (.enter 180 args) w := enters_of Tryz.func180 (by kernel_rfl) rfl
  have e70 : ∀ args w, (callFunc 181 args).run Tryz.prog w = .ok (.enter 181 args) w := enters_of Tryz.func181 (by kernel_rfl) rfl
  have e71 : ∀ args w, (callFunc 182 args).run Tryz.prog w = .ok (.enter 182 args) w := enters_of Tryz.func182 (by kernel_rfl) rfl
  by_cases hs : u < 100
  · have hwr : IntKind.i64.wrap (u : Int) = (u : Int) := by simp [IntKind.wrap, IntKind.signed, IntKind.bits]; omega
    go_enter Tryz.func161, Tryz.ntmps161
    go_wp2_with (go_at_fn 180; refine (Tryz.internal_strconv_small u hs _).mono ?_; rintro e w' ⟨rfl, rfl⟩)
    go_ret
    exact ⟨rfl, 0, #[], by simp [World.drewN_zero]⟩
  · have hu1 : 1 ≤ u := by omega
    have hnd20 : Lib.nDigits u ≤ 20 := by have := Lib.numDigits_eq u hu1 hu64; split at this <;> omega
    have hal : Tryz.prog.arrayLen 222 = 24 := by kernel_rfl
    have hsl1 : ∀ W, (Instr.sliceAt 222 (.pointer (some ⟨w.heap.size, 0, none⟩)) none (some (.int .i64 (Lib.nDigits u : Int))) none).run Tryz.prog W = .ok (.slice (some ⟨w.heap.size, 0, none⟩) (Lib.nDigits u) 24) W := fun W => by
      rw [run_sliceAt_array_h W 222 ⟨w.heap.size, 0, none⟩ (by kernel_rfl) .i64 (Lib.nDigits u : Int) (by omega) (by rw [hal]; omega)]
      go_simp
    have hH0 := holds_zero0 w 222 (Lib.nDigits u) (by omega)
    have hfmt := Tryz.internal_strconv_formatBase10 w.heap.size 0 24 u (Array.replicate (Lib.nDigits u) 0) (w.alloc (.cells Lib.zeros24 222)) hH0 (by rw [Array.size_replicate]; exact Lib.lt_pow_nDigits u) hu64 (by rw [Array.size_replicate]; omega)
    rw [Array.size_replicate] at hfmt
    have HH0 := Lib.hid hH0
    clear hH0 hal
    go_enter Tryz.func161, Tryz.ntmps161
    go_wp2_with (first
      | (go_at_fn 181; refine (Tryz.internal_strconv_numDigits u hu1 hu64 _ (Lib.tabIs_alloc htab _)).mono ?_; rintro e w' ⟨rfl, rfl⟩))
    go_at_fn 182
    refine hfmt.mono ?_
    rintro e w' ⟨rfl, k, v', dk, rfl, hF⟩
    have hcv : (convert 142 9 (.slice (some ⟨w.heap.size, 0, none⟩) (Lib.nDigits u) 24)).run Tryz.prog ((putRow (fun (b : UInt8) => Value.int .u8 (b.toNat : Int)) (w.alloc (.cells Lib.zeros24 222)) w.heap.size 0 dk).drewN k) = .ok (.string ⟨(Lib.decDigits u).toArray⟩) ((putRow (fun (b : UInt8) => Value.int .u8 (b.toNat : Int)) (w.alloc (.cells Lib.zeros24 222)) w.heap.size 0 dk).drewN k) := by
      have h := run_convert_bytes_back (P := Tryz.prog) ((putRow (fun (b : UInt8) => Value.int .u8 (b.toNat : Int)) (w.alloc (.cells Lib.zeros24 222)) w.heap.size 0 dk).drewN k) 142 9 5 ⟨w.heap.size, 0, none⟩ 24 (Lib.decDigits u) (by kernel_rfl) Tryz.underlying5 Tryz.underlying9 (fun j hj => by
        rw [Lib.row_is_numeral hF j hj, Lib.add_plain, World.cell?_drewN]
        exact cell?_putRow (fun (b : UInt8) => Value.int .u8 (b.toNat : Int)) _ w.heap.size 0 _ dk HH0.out (by rw [hF.size, Array.size_replicate]) j (by rw [hF.size]; rw [Lib.decDigits_length] at hj; exact hj))
      rw [Lib.decDigits_length] at h
      exact h
    go_wp2
    go_ret
    obtain ⟨os, eo⟩ := fin0 w (.cells Lib.zeros24 222) dk k
    refine ⟨?_, k, os, eo⟩
    rfl
end
def numU (n : Nat) : List UInt8 := if n < 100 then decS n else Lib.decDigits n
theorem numU_eq (n : Nat) : numU n = Lib.decDigits n := by
  unfold numU
  split
  · rename_i h; exact (decS_eq h).symm
  · rfl
def s57 : CSpec | [.u 64 x, .i .i64 b] => (match b == 10 with
    | true => some ⟨[], .str (numU x.toNat)⟩
    | false => none) | _ => none
theorem ok57 : FnOk Tryz.prog 161 s57 := FnOk.contract Tryz.func161 (by kernel_rfl) (by kernel_rfl) <| by
  intro xs r hs
  unfold s57 at hs; split at hs <;> try cases hs
  rename_i n b
  split at hs <;> cases hs
  rename_i hb10
  obtain rfl : b = 10 := by simpa using hb10
  intro hp w R vs hR hG hvs
  cases hvs with
  | cons hv hl =>
    cases hl with
    | cons hv2 hl =>
      cases hl
      cases hv2
      cases hv with
      | u hk =>
        rename_i k
        cases k <;> simp [isU] at hk
        refine (formatUint57 n.toNat (by omega) w (tab_of hG)).mono ?_
        rintro e w' ⟨rfl, k, os, rfl⟩
        rw [← numU_eq]
        exact ⟨_, rfl, doneStr hR (by rw [numU_eq]; exact Nat.le_trans (dec_len _ (by omega)) (by decide)) (fr_grow w k os)⟩
def kindsTail : List (List UInt8) := [[103, 101, 116], [112, 117, 116], [97, 108, 117], [101, 120, 116], [115, 101, 108], [108, 111, 97, 100], [115, 116, 111, 114, 101], [108, 120], [115, 120], [102, 101, 110, 99, 101], [116, 114, 97, 112], [115, 107, 105, 112]]
def kindsStr : List UInt8 := [99, 111, 110, 115, 116, 32, 103, 101, 116, 32, 112, 117, 116, 32, 97, 108, 117, 32, 101, 120, 116, 32, 115, 101, 108, 32, 108, 111, 97, 100, 32, 115, 116, 111, 114, 101, 32, 108, 120, 32, 115, 120, 32, 102, 101, 110, 99, 101, 32, 116, 114, 97, 112, 32, 115, 107, 105, 112]
def kindsT : List (List UInt8) := [99, 111, 110, 115, 116] :: kindsTail
theorem kindsJoin : kindsStr = joinS [99, 111, 110, 115, 116] kindsTail := by kernel_rfl
theorem kindsNo : ∀ x ∈ [99, 111, 110, 115, 116] :: kindsTail, ∀ c ∈ x, c ≠ 32 := by decide +kernel
theorem kindsCount : Lib.countB ⟨kindsStr.toArray⟩ ⟨#[32]⟩ = 12 := by
  show Lib.count kindsStr [32] = 12
  rw [Lib.count_one, kindsJoin, count_join _ _ kindsNo]
  rfl
theorem kindsSplit : (Lib.splitB ⟨#[32]⟩ 0 12 ⟨kindsStr.toArray⟩).map (·.data.toList) = [99, 111, 110, 115, 116] :: kindsTail := by
  rw [Lib.splitB_data]
  show Lib.splitK [32] 0 12 kindsStr = _
  rw [kindsJoin]
  exact splitK_join _ _ kindsNo
def funsTail : List (List UInt8) := [[115, 117, 98], [97, 110, 100], [111, 114], [120, 111, 114], [109, 117, 108], [109, 117, 108, 117], [109, 117, 108, 115], [100, 105, 118, 117], [100, 105, 118, 115], [115, 104, 108], [115, 104, 114], [115, 97, 114], [101, 113], [108, 116, 117], [108, 116, 115]]
def funsStr : List UInt8 := [97, 100, 100, 32, 115, 117, 98, 32, 97, 110, 100, 32, 111, 114, 32, 120, 111, 114, 32, 109, 117, 108, 32, 109, 117, 108, 117, 32, 109, 117, 108, 115, 32, 100, 105, 118, 117, 32, 100, 105, 118, 115, 32, 115, 104, 108, 32, 115, 104, 114, 32, 115, 97, 114, 32, 101, 113, 32, 108, 116, 117, 32, 108, 116, 115]
def funsT : List (List UInt8) := [97, 100, 100] :: funsTail
theorem funsJoin : funsStr = joinS [97, 100, 100] funsTail := by kernel_rfl
theorem funsNo : ∀ x ∈ [97, 100, 100] :: funsTail, ∀ c ∈ x, c ≠ 32 := by decide +kernel
theorem funsCount : Lib.countB ⟨funsStr.toArray⟩ ⟨#[32]⟩ = 15 := by
  show Lib.count funsStr [32] = 15
  rw [Lib.count_one, funsJoin, count_join _ _ funsNo]
  rfl
theorem funsSplit : (Lib.splitB ⟨#[32]⟩ 0 15 ⟨funsStr.toArray⟩).map (·.data.toList) = [97, 100, 100] :: funsTail := by
  rw [Lib.splitB_data]
  show Lib.splitK [32] 0 15 funsStr = _
  rw [funsJoin]
  exact splitK_join _ _ funsNo
theorem split_kinds {m : Int} {w : World} {R : Nat → Prop} (hR : ∀ b, R b → b < w.heap.size) (hm : w.cell? ⟨1, 0, none⟩ = some (.int .i64 m)) : Calls Tryz.prog 159 #[.string ⟨kindsStr.toArray⟩, .string ⟨#[32]⟩] w fun e w' => ∃ v, e = .returned v ∧ ∃ R', Done w R (.vw 5 kindsT) v w' R' := by
  refine (Tryz.strings_Split ⟨kindsStr.toArray⟩ ⟨#[32]⟩ m w (by decide +kernel) hm (by decide)).mono ?_
  rintro e w' ⟨rfl, rfl⟩
  rw [kindsCount]
  have hlen : ((Lib.splitB ⟨#[32]⟩ 0 12 ⟨kindsStr.toArray⟩).map Value.string).length = 13 := by
    rw [List.length_map, ← List.length_map (f := fun b : ByteArray => b.data.toList), kindsSplit]; rfl
  have hat : ∀ i, i < 13 → ((Lib.splitB ⟨#[32]⟩ 0 12 ⟨kindsStr.toArray⟩).map Value.string)[i]? = some (.string ⟨(kindsT.getD i []).toArray⟩) := by
    intro i hi
    have h2 : ((Lib.splitB ⟨#[32]⟩ 0 12 ⟨kindsStr.toArray⟩).map (·.data.toList))[i]? = some (kindsT.getD i []) := by
      rw [kindsSplit, List.getD_eq_getElem?_getD]
      show kindsT[i]? = _
      rw [List.getElem?_eq_getElem (show i < kindsT.length from hi)]; rfl
    rw [List.getElem?_map] at h2 ⊢
    cases hq : (Lib.splitB ⟨#[32]⟩ 0 12 ⟨kindsStr.toArray⟩)[i]? with
    | none => rw [hq] at h2; cases h2
    | some x =>
      rw [hq] at h2
      simp only [Option.map_some, Option.some.injEq] at h2 ⊢
      rw [← h2]
  generalize ((Lib.splitB ⟨#[32]⟩ 0 12 ⟨kindsStr.toArray⟩).map Value.string) = cells at hlen hat
  refine ⟨_, rfl, fun b => R b ∨ b = w.heap.size, fun b hb => .inl hb, ?_, ?_, ?_, ?_⟩
  · intro b hb
    rcases hb with hb | rfl
    · exact .inl hb
    · exact .inr (Nat.le_refl _)
  · intro b hb
    have : (w.alloc (.cells cells.toArray 9)).heap.size = w.heap.size + 1 := Array.size_push ..
    rcases hb with hb | rfl
    · have := hR b hb; omega
    · omega
  · exact ⟨rfl, rfl, rfl, by rw [show (w.alloc (.cells cells.toArray 9)).heap.size = w.heap.size + 1 from Array.size_push ..]; omega, fun b hb _ => RowKit.Below.heap_alloc _ _ _ hb⟩
  · refine VR.vw (VR.ro (o := 0) (cs := fun i => [.string ⟨(kindsT.getD i []).toArray⟩]) (.inr rfl) (fun i hi => ?_) (fun i hi => rfl) ?_ (Nat.le_refl _) (by decide))
    · refine .one rfl rfl (.str _ ?_) .nil
      have : ∀ x ∈ kindsT, x.length ≤ 10 := by decide +kernel
      have h3 := this (kindsT.getD i []) (by rw [List.getD_eq_getElem?_getD, List.getElem?_eq_getElem (show i < kindsT.length from hi)]; exact List.getElem_mem _)
      show (kindsT.getD i []).length ≤ _
      omega
    · intro i j hi hj
      have hj : j = 0 := by have : datSize 5 = 1 := rfl; omega
      subst hj
      show (w.alloc _).cell? _ = _
      rw [World.cell?_alloc_new]
      have := hat i hi
      simpa [datSize] using this
theorem split_funs {m : Int} {w : World} {R : Nat → Prop} (hR : ∀ b, R b → b < w.heap.size) (hm : w.cell? ⟨1, 0, none⟩ = some (.int .i64 m)) : Calls Tryz.prog 159 #[.string ⟨funsStr.toArray⟩, .string ⟨#[32]⟩] w fun e w' => ∃ v, e = .returned v ∧ ∃ R', Done w R (.vw 5 funsT) v w' R' := by
  refine (Tryz.strings_Split ⟨funsStr.toArray⟩ ⟨#[32]⟩ m w (by decide +kernel) hm (by decide)).mono ?_
  rintro e w' ⟨rfl, rfl⟩
  rw [funsCount]
  have hlen : ((Lib.splitB ⟨#[32]⟩ 0 15 ⟨funsStr.toArray⟩).map Value.string).length = 16 := by
    rw [List.length_map, ← List.length_map (f := fun b : ByteArray => b.data.toList), funsSplit]; rfl
  have hat : ∀ i, i < 16 → ((Lib.splitB ⟨#[32]⟩ 0 15 ⟨funsStr.toArray⟩).map Value.string)[i]? = some (.string ⟨(funsT.getD i []).toArray⟩) := by
    intro i hi
    have h2 : ((Lib.splitB ⟨#[32]⟩ 0 15 ⟨funsStr.toArray⟩).map (·.data.toList))[i]? = some (funsT.getD i []) := by
      rw [funsSplit, List.getD_eq_getElem?_getD]
      show funsT[i]? = _
      rw [List.getElem?_eq_getElem (show i < funsT.length from hi)]; rfl
    rw [List.getElem?_map] at h2 ⊢
    cases hq : (Lib.splitB ⟨#[32]⟩ 0 15 ⟨funsStr.toArray⟩)[i]? with
    | none => rw [hq] at h2; cases h2
    | some x =>
      rw [hq] at h2
      simp only [Option.map_some, Option.some.injEq] at h2 ⊢
      rw [← h2]
  generalize ((Lib.splitB ⟨#[32]⟩ 0 15 ⟨funsStr.toArray⟩).map Value.string) = cells at hlen hat
  refine ⟨_, rfl, fun b => R b ∨ b = w.heap.size, fun b hb => .inl hb, ?_, ?_, ?_, ?_⟩
  · intro b hb
    rcases hb with hb | rfl
    · exact .inl hb
    · exact .inr (Nat.le_refl _)
  · intro b hb
    have : (w.alloc (.cells cells.toArray 9)).heap.size = w.heap.size + 1 := Array.size_push ..
    rcases hb with hb | rfl
    · have := hR b hb; omega
    · omega
  · exact ⟨rfl, rfl, rfl, by rw [show (w.alloc (.cells cells.toArray 9)).heap.size = w.heap.size + 1 from Array.size_push ..]; omega, fun b hb _ => RowKit.Below.heap_alloc _ _ _ hb⟩
  · refine VR.vw (VR.ro (o := 0) (cs := fun i => [.string ⟨(funsT.getD i []).toArray⟩]) (.inr rfl) (fun i hi => ?_) (fun i hi => rfl) ?_ (Nat.le_refl _) (by decide))
    · refine .one rfl rfl (.str _ ?_) .nil
      have : ∀ x ∈ funsT, x.length ≤ 10 := by decide +kernel
      have h3 := this (funsT.getD i []) (by rw [List.getD_eq_getElem?_getD, List.getElem?_eq_getElem (show i < funsT.length from hi)]; exact List.getElem_mem _)
      show (funsT.getD i []).length ≤ _
      omega
    · intro i j hi hj
      have hj : j = 0 := by have : datSize 5 = 1 := rfl; omega
      subst hj
      show (w.alloc _).cell? _ = _
      rw [World.cell?_alloc_new]
      have := hat i hi
      simpa [datSize] using this
def s55 : CSpec | [.str s, .str p] => (match s == kindsStr && p == [32] with
    | true => some ⟨[], .vw 5 kindsT⟩
    | false => (match s == funsStr && p == [32] with
      | true => some ⟨[], .vw 5 funsT⟩
      | false => none)) | _ => none
theorem ok55 : FnOk Tryz.prog 159 s55 := FnOk.contract Tryz.func159 (by kernel_rfl) (by kernel_rfl) <| by
  intro xs r hs
  unfold s55 at hs; split at hs <;> try cases hs
  rename_i s p
  split at hs
  · cases hs
    rename_i hsp
    simp only [Bool.and_eq_true, beq_iff_eq] at hsp
    obtain ⟨rfl, rfl⟩ := hsp
    intro hp w R vs hR hG hvs
    obtain ⟨⟨h1, m, hm⟩, _⟩ := hG
    cases hvs with
    | cons hv hl =>
      cases hl with
      | cons hv2 hl =>
        cases hl
        cases hv
        cases hv2
        exact split_kinds hR hm
  · split at hs <;> cases hs
    rename_i hsp
    simp only [Bool.and_eq_true, beq_iff_eq] at hsp
    obtain ⟨rfl, rfl⟩ := hsp
    intro hp w R vs hR hG hvs
    obtain ⟨⟨h1, m, hm⟩, _⟩ := hG
    cases hvs with
    | cons hv hl =>
      cases hl with
      | cons hv2 hl =>
        cases hl
        cases hv
        cases hv2
        exact split_funs hR hm
def usesL (k a b c : Int) : List Int := if (k == 6) = true then [a, b, c] else if (k == 4 || k == 8 || k == 10) = true then [a, b] else if (k == 3 || k == 5 || k == 7 || k == 9 || k == 12 || k == 13) = true then [a] else []
def s23 : CSpec | [.agg (opC k f w a b c n s o)] => some ⟨[], .vw 2 (usesL k a b c)⟩ | _ => none
def K9 (i : Nat) : List Key := (List.range 9).map fun j => (i, j)
def L40 : Nat → Live := fun _ => ⟨[1, 2, 3, 4, 15, 16, 17], K9 1 ++ K9 2 ++ K9 3 ++ [(15, 0), (15, 1), (15, 2)], [1, 2, 3, 15], none⟩
end Go.Proofs.YtcdnbdphakhilaaGreatDoor
set_option maxRecDepth 100000
namespace Go.Proofs.YtcdnbdphakhilaaGreatDoor
open Go.Proofs.YtcdnbdphakhilaaGreatDoor.Ev Go.RowKit
/- Closed values, brought to their plain forms ahead of what is done with them. -/
section
variable {α : Type}
def one {β : Type} [DecidableEq β] (n a : β) (k : β → α) (e : α) : α := match decide (n = a) with
  | true => k a
  | false => e
theorem one_eq {β : Type} [DecidableEq β] (n a : β) (k : β → α) {e : α} (h : e = k n) : one n a k e = k n := by
  unfold one
  split
  · rename_i h'; rw [of_decide_eq_true h']
  · exact h
def nmI (n : Int) (k : Int → α) : α := one n 0 k <| one n 1 k <| one n 2 k <| one n 3 k <| one n 4 k <| one n 5 k <| one n 9 k <| k n
theorem nmI_eq (n : Int) (k : Int → α) : nmI n k = k n :=
  one_eq n 0 k <| one_eq n 1 k <| one_eq n 2 k <| one_eq n 3 k <| one_eq n 4 k <| one_eq n 5 k <| one_eq n 9 k rfl
def nmU (n : BitVec 64) (k : BitVec 64 → α) : α := one n 0#64 k <| one n 2#64 k <| one n 5#64 k <| one n 7#64 k <| one n 9#64 k <| k n
theorem nmU_eq (n : BitVec 64) (k : BitVec 64 → α) : nmU n k = k n :=
  one_eq n _ k <| one_eq n _ k <| one_eq n _ k <| one_eq n _ k <| one_eq n _ k rfl
def nmB (b : Bool) (k : Bool → α) : α := match b with
  | true => k true
  | false => k false
theorem nmB_eq (b : Bool) (k : Bool → α) : nmB b k = k b := by cases b <;> rfl
def nmO : IOp → (IOp → α) → α
  | ⟨a, b, c, d, e, f, u, s, o⟩, k => nmI a fun a => nmI b fun b => nmI c fun c => nmI d fun d => nmI e fun e => nmI f fun f => nmU u fun u => nmB s fun s => nmI o fun o => k ⟨a, b, c, d, e, f, u, s, o⟩
theorem nmO_eq (o : IOp) (k : IOp → α) : nmO o k = k o := by
  cases o
  simp only [nmO, nmI_eq, nmU_eq, nmB_eq]
def nmOs : List IOp → (List IOp → α) → α
  | [], k => k []
  | x :: l, k => nmO x fun x => nmOs l fun l => k (x :: l)
theorem nmOs_eq : ∀ (l : List IOp) (k : List IOp → α), nmOs l k = k l
  | [], k => rfl
  | x :: l, k => by rw [nmOs, nmO_eq, nmOs_eq l]
def nmUs : List (BitVec 64) → (List (BitVec 64) → α) → α
  | [], k => k []
  | x :: l, k => nmU x fun x => nmUs l fun l => k (x :: l)
theorem nmUs_eq : ∀ (l : List (BitVec 64)) (k : List (BitVec 64) → α), nmUs l k = k l
  | [], k => rfl
  | x :: l, k => by rw [nmUs, nmU_eq, nmUs_eq l]
def nmCell : AV → (AV → α) → α
  | .i .i64 n, k => nmI n fun n => k (.i .i64 n)
  | .u 64 x, k => nmU x fun x => k (.u 64 x)
  | .b b, k => nmB b fun b => k (.b b)
  | .vw 11 xs, k => nmOs xs fun xs => k (.vw 11 xs)
  | .row e 11 xs v, k => nmOs xs fun xs => k (.row e 11 xs v)
  | .row e 0 xs v, k => nmUs xs fun xs => k (.row e 0 xs v)
  | a, k => k a
theorem nmCell_eq (a : AV) (k : AV → α) : nmCell a k = k a := by
  unfold nmCell
  split <;> simp only [nmI_eq, nmU_eq, nmB_eq, nmOs_eq, nmUs_eq]
def nmCells : List AV → (List AV → α) → α
  | [], k => k []
  | x :: l, k => nmCell x fun x => nmCells l fun l => k (x :: l)
theorem nmCells_eq : ∀ (l : List AV) (k : List AV → α), nmCells l k = k l
  | [], k => rfl
  | x :: l, k => by rw [nmCells, nmCell_eq, nmCells_eq l]
def nmV : AV → (AV → α) → α
  | .agg l, k => nmCells l fun l => k (.agg l)
  | .obj l, k => nmCells l fun l => k (.obj l)
  | .tup l, k => nmCells l fun l => k (.tup l)
  | a, k => nmCell a k
theorem nmV_eq (a : AV) (k : AV → α) : nmV a k = k a := by
  unfold nmV
  split <;> simp only [nmCells_eq, nmCell_eq]
def nmVs : List AV → (List AV → α) → α
  | [], k => k []
  | x :: l, k => nmV x fun x => nmVs l fun l => k (x :: l)
theorem nmVs_eq : ∀ (l : List AV) (k : List AV → α), nmVs l k = k l
  | [], k => rfl
  | x :: l, k => by rw [nmVs, nmV_eq, nmVs_eq l]
def nmOuts : List (List AV) → (List (List AV) → α) → α
  | [], k => k []
  | x :: l, k => nmCells x fun x => nmOuts l fun l => k (x :: l)
theorem nmOuts_eq : ∀ (l : List (List AV)) (k : List (List AV) → α), nmOuts l k = k l
  | [], k => rfl
  | x :: l, k => by rw [nmOuts, nmCells_eq, nmOuts_eq l]
end
/-- The same specification, of what is brought to its plain form. -/
def nmS (s : CSpec) : CSpec := fun xs => nmVs xs fun xs => match s xs with
  | some ⟨pre, .fin v cs⟩ => nmV v fun v => nmOuts cs fun cs => some ⟨pre, .fin v cs⟩
  | some ⟨pre, v⟩ => nmV v fun v => some ⟨pre, v⟩
  | none => none
theorem nmS_eq (s : CSpec) : nmS s = s := by
  funext xs
  unfold nmS
  rw [nmVs_eq]
  split <;> rename_i h <;> rw [h] <;> simp only [nmV_eq, nmOuts_eq]
theorem nmS_ok {f : FuncId} {s : CSpec} (h : FnOk Tryz.prog f s) : FnOk Tryz.prog f (nmS s) := by rw [nmS_eq]; exact h
theorem nmM_ok {f : FuncId} {s : CSpec} (h : FnOk Tryz.prog f (mSpec s)) : FnOk Tryz.prog f (mSpec (nmS s)) := by rw [nmS_eq]; exact h
end Go.Proofs.YtcdnbdphakhilaaGreatDoor
