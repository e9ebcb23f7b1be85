/- Lemmas: the types of the program, the library's functions by their contracts, and which operations are named by the reference's texts. No condition. -/
import Derived.Test.YtbdddnjncakooaaDoorEvC
import Derived.Lib.ItoaNum
import Derived.Test.YtbdddnjncakooaaDoorProg
import Derived.Lib.ItoaMem
import Derived.Test.YtbdddnjncakooaaDoorShelf
set_option linter.unusedVariables false
set_option linter.unusedSimpArgs false
set_option maxRecDepth 100000
namespace Go.Proofs.YtbdddnjncakooaaDoor
open Go.Proofs.YtbdddnjncakooaaDoor.Ev

def zv23 : List Value := [Value.int .i64 0] ++ [Value.int .i64 0] ++ [Value.int .i64 0] ++ [Value.int .i64 0] ++ [Value.int .i64 0] ++ [Value.int .i64 0] ++ []
theorem zero23 (C : Ctx) : CR C ([.i .i64 0, .i .i64 0, .i .i64 0, .i .i64 0, .i .i64 0, .i .i64 0]) (zv23) := (.one rfl rfl (.i rfl ⟨by decide, by decide⟩) (.one rfl rfl (.i rfl ⟨by decide, by decide⟩) (.one rfl rfl (.i rfl ⟨by decide, by decide⟩) (.one rfl rfl (.i rfl ⟨by decide, by decide⟩) (.one rfl rfl (.i rfl ⟨by decide, by decide⟩) (.one rfl rfl (.i rfl ⟨by decide, by decide⟩) .nil))))))
theorem eqt23 : EqT Tryd.prog 23 ([.i .i64 0, .i .i64 0, .i .i64 0, .i .i64 0, .i .i64 0, .i .i64 0]) 2 true := (.st Tryd.underlying23 (by kernel_rfl) (.cons (d' := 1) (by decide) rfl (.i (k := .i64) rfl Tryd.underlying3) (by decide) rfl (by kernel_rfl) (.cons (d' := 1) (by decide) rfl (.i (k := .i64) rfl Tryd.underlying3) (by decide) rfl (by kernel_rfl) (.cons (d' := 1) (by decide) rfl (.i (k := .i64) rfl Tryd.underlying3) (by decide) rfl (by kernel_rfl) (.cons (d' := 1) (by decide) rfl (.i (k := .i64) rfl Tryd.underlying3) (by decide) rfl (by kernel_rfl) (.cons (d' := 1) (by decide) rfl (.i (k := .i64) rfl Tryd.underlying3) (by decide) rfl (by kernel_rfl) (.cons (d' := 1) (by decide) rfl (.i (k := .i64) rfl Tryd.underlying2) (by decide) rfl (by kernel_rfl) .nil)))))))
def zv25 : List Value := [Value.int .i64 0] ++ [Value.int .i64 0] ++ [Value.int .i64 0] ++ [Value.int .i64 0] ++ [Value.int .i64 0] ++ [Value.int .i64 0] ++ [Value.int .i64 0] ++ [Value.int .i64 0] ++ [Value.int .i64 0] ++ [Value.int .i64 0] ++ [Value.int .i64 0] ++ [Value.int .i64 0] ++ [Value.int .i64 0] ++ [Value.int .i64 0] ++ [Value.int .i64 0] ++ [Value.int .i64 0] ++ [Value.int .i64 0] ++ [Value.bool false] ++ [Value.bool false] ++ [Value.int .i64 0] ++ []
theorem zero25 (C : Ctx) : CR C ([.i .i64 0, .i .i64 0, .i .i64 0, .i .i64 0, .i .i64 0, .i .i64 0, .i .i64 0, .i .i64 0, .i .i64 0, .i .i64 0, .i .i64 0, .i .i64 0, .i .i64 0, .i .i64 0, .i .i64 0, .i .i64 0, .i .i64 0, .b false, .b false, .i .i64 0]) (zv25) := (.one rfl rfl (.i rfl ⟨by decide, by decide⟩) (.one rfl rfl (.i rfl ⟨by decide, by decide⟩) (.one rfl rfl (.i rfl ⟨by decide, by decide⟩) (.one rfl rfl (.i rfl ⟨by decide, by decide⟩) (.one rfl rfl (.i rfl ⟨by decide, by decide⟩) (.one rfl rfl (.i rfl ⟨by decide, by decide⟩) (.one rfl rfl (.i rfl ⟨by decide, by decide⟩) (.one rfl rfl (.i rfl ⟨by decide, by decide⟩) (.one rfl rfl (.i rfl ⟨by decide, by decide⟩) (.one rfl rfl (.i rfl ⟨by decide, by decide⟩) (.one rfl rfl (.i rfl ⟨by decide, by decide⟩) (.one rfl rfl (.i rfl ⟨by decide, by decide⟩) (.one rfl rfl (.i rfl ⟨by decide, by decide⟩) (.one rfl rfl (.i rfl ⟨by decide, by decide⟩) (.one rfl rfl (.i rfl ⟨by decide, by decide⟩) (.one rfl rfl (.i rfl ⟨by decide, by decide⟩) (.one rfl rfl (.i rfl ⟨by decide, by decide⟩) (.one rfl rfl (.b false) (.one rfl rfl (.b false) (.one rfl rfl (.i rfl ⟨by decide, by decide⟩) .nil))))))))))))))))))))
theorem eqt25 : EqT Tryd.prog 25 ([.i .i64 0, .i .i64 0, .i .i64 0, .i .i64 0, .i .i64 0, .i .i64 0, .i .i64 0, .i .i64 0, .i .i64 0, .i .i64 0, .i .i64 0, .i .i64 0, .i .i64 0, .i .i64 0, .i .i64 0, .i .i64 0, .i .i64 0, .b false, .b false, .i .i64 0]) 3 true := (.st Tryd.underlying25 (by kernel_rfl) (.cons (d' := 1) (by decide) rfl (.i (k := .i64) rfl Tryd.underlying3) (by decide) rfl (by kernel_rfl) (.cons (d' := 1) (by decide) rfl (.i (k := .i64) rfl Tryd.underlying3) (by decide) rfl (by kernel_rfl) (.cons (d' := 1) (by decide) rfl (.i (k := .i64) rfl Tryd.underlying3) (by decide) rfl (by kernel_rfl) (.cons (d' := 2) (by decide) rfl (.st Tryd.underlying23 (by kernel_rfl) (.cons (d' := 1) (by decide) rfl (.i (k := .i64) rfl Tryd.underlying3) (by decide) rfl (by kernel_rfl) (.cons (d' := 1) (by decide) rfl (.i (k := .i64) rfl Tryd.underlying3) (by decide) rfl (by kernel_rfl) (.cons (d' := 1) (by decide) rfl (.i (k := .i64) rfl Tryd.underlying3) (by decide) rfl (by kernel_rfl) (.cons (d' := 1) (by decide) rfl (.i (k := .i64) rfl Tryd.underlying3) (by decide) rfl (by kernel_rfl) (.cons (d' := 1) (by decide) rfl (.i (k := .i64) rfl Tryd.underlying3) (by decide) rfl (by kernel_rfl) (.cons (d' := 1) (by decide) rfl (.i (k := .i64) rfl Tryd.underlying2) (by decide) rfl (by kernel_rfl) .nil))))))) (by decide) rfl (by kernel_rfl) (.cons (d' := 2) (by decide) rfl (.st Tryd.underlying23 (by kernel_rfl) (.cons (d' := 1) (by decide) rfl (.i (k := .i64) rfl Tryd.underlying3) (by decide) rfl (by kernel_rfl) (.cons (d' := 1) (by decide) rfl (.i (k := .i64) rfl Tryd.underlying3) (by decide) rfl (by kernel_rfl) (.cons (d' := 1) (by decide) rfl (.i (k := .i64) rfl Tryd.underlying3) (by decide) rfl (by kernel_rfl) (.cons (d' := 1) (by decide) rfl (.i (k := .i64) rfl Tryd.underlying3) (by decide) rfl (by kernel_rfl) (.cons (d' := 1) (by decide) rfl (.i (k := .i64) rfl Tryd.underlying3) (by decide) rfl (by kernel_rfl) (.cons (d' := 1) (by decide) rfl (.i (k := .i64) rfl Tryd.underlying2) (by decide) rfl (by kernel_rfl) .nil))))))) (by decide) rfl (by kernel_rfl) (.cons (d' := 1) (by decide) rfl (.i (k := .i64) rfl Tryd.underlying2) (by decide) rfl (by kernel_rfl) (.cons (d' := 1) (by decide) rfl (.i (k := .i64) rfl Tryd.underlying3) (by decide) rfl (by kernel_rfl) (.cons (d' := 1) (by decide) rfl (.b Tryd.underlying4) (by decide) rfl (by kernel_rfl) (.cons (d' := 1) (by decide) rfl (.b Tryd.underlying4) (by decide) rfl (by kernel_rfl) (.cons (d' := 1) (by decide) rfl (.i (k := .i64) rfl Tryd.underlying3) (by decide) rfl (by kernel_rfl) .nil)))))))))))
def zv27 : List Value := [Value.int .i64 0] ++ [Value.int .i64 0] ++ [Value.int .i64 0] ++ [Value.int .i64 0] ++ []
theorem zero27 (C : Ctx) : CR C ([.i .i64 0, .i .i64 0, .i .i64 0, .i .i64 0]) (zv27) := (.one rfl rfl (.i rfl ⟨by decide, by decide⟩) (.one rfl rfl (.i rfl ⟨by decide, by decide⟩) (.one rfl rfl (.i rfl ⟨by decide, by decide⟩) (.one rfl rfl (.i rfl ⟨by decide, by decide⟩) .nil))))
theorem eqt27 : EqT Tryd.prog 27 ([.i .i64 0, .i .i64 0, .i .i64 0, .i .i64 0]) 2 true := (.st Tryd.underlying27 (by kernel_rfl) (.cons (d' := 1) (by decide) rfl (.i (k := .i64) rfl Tryd.underlying3) (by decide) rfl (by kernel_rfl) (.cons (d' := 1) (by decide) rfl (.i (k := .i64) rfl Tryd.underlying3) (by decide) rfl (by kernel_rfl) (.cons (d' := 1) (by decide) rfl (.i (k := .i64) rfl Tryd.underlying3) (by decide) rfl (by kernel_rfl) (.cons (d' := 1) (by decide) rfl (.i (k := .i64) rfl Tryd.underlying2) (by decide) rfl (by kernel_rfl) .nil)))))
def zv29 : List Value := [Value.int .i64 0] ++ [Value.int .i64 0] ++ [Value.int .i64 0] ++ [Value.int .i64 0] ++ [Value.int .i64 0] ++ [Value.int .i64 0] ++ []
theorem zero29 (C : Ctx) : CR C ([.i .i64 0, .i .i64 0, .i .i64 0, .i .i64 0, .i .i64 0, .i .i64 0]) (zv29) := (.one rfl rfl (.i rfl ⟨by decide, by decide⟩) (.one rfl rfl (.i rfl ⟨by decide, by decide⟩) (.one rfl rfl (.i rfl ⟨by decide, by decide⟩) (.one rfl rfl (.i rfl ⟨by decide, by decide⟩) (.one rfl rfl (.i rfl ⟨by decide, by decide⟩) (.one rfl rfl (.i rfl ⟨by decide, by decide⟩) .nil))))))
theorem eqt29 : EqT Tryd.prog 29 ([.i .i64 0, .i .i64 0, .i .i64 0, .i .i64 0, .i .i64 0, .i .i64 0]) 3 true := (.st Tryd.underlying29 (by kernel_rfl) (.cons (d' := 1) (by decide) rfl (.i (k := .i64) rfl Tryd.underlying3) (by decide) rfl (by kernel_rfl) (.cons (d' := 1) (by decide) rfl (.i (k := .i64) rfl Tryd.underlying3) (by decide) rfl (by kernel_rfl) (.cons (d' := 2) (by decide) rfl (.st Tryd.underlying27 (by kernel_rfl) (.cons (d' := 1) (by decide) rfl (.i (k := .i64) rfl Tryd.underlying3) (by decide) rfl (by kernel_rfl) (.cons (d' := 1) (by decide) rfl (.i (k := .i64) rfl Tryd.underlying3) (by decide) rfl (by kernel_rfl) (.cons (d' := 1) (by decide) rfl (.i (k := .i64) rfl Tryd.underlying3) (by decide) rfl (by kernel_rfl) (.cons (d' := 1) (by decide) rfl (.i (k := .i64) rfl Tryd.underlying2) (by decide) rfl (by kernel_rfl) .nil))))) (by decide) rfl (by kernel_rfl) .nil))))
def zv31 : List Value := [Value.int .i64 0] ++ [Value.int .i64 0] ++ [Value.int .i64 0] ++ [Value.int .i64 0] ++ [Value.int .i64 0] ++ [Value.int .i64 0] ++ [Value.int .i64 0] ++ [Value.int .i64 0] ++ [Value.int .i64 0] ++ [Value.int .i64 0] ++ [Value.int .i64 0] ++ [Value.int .i64 0] ++ [Value.int .i64 0] ++ [Value.int .i64 0] ++ [Value.int .i64 0] ++ [Value.int .i64 0] ++ [Value.int .i64 0] ++ [Value.bool false] ++ [Value.bool false] ++ [Value.int .i64 0] ++ []
theorem zero31 (C : Ctx) : CR C ([.i .i64 0, .i .i64 0, .i .i64 0, .i .i64 0, .i .i64 0, .i .i64 0, .i .i64 0, .i .i64 0, .i .i64 0, .i .i64 0, .i .i64 0, .i .i64 0, .i .i64 0, .i .i64 0, .i .i64 0, .i .i64 0, .i .i64 0, .b false, .b false, .i .i64 0]) (zv31) := (.one rfl rfl (.i rfl ⟨by decide, by decide⟩) (.one rfl rfl (.i rfl ⟨by decide, by decide⟩) (.one rfl rfl (.i rfl ⟨by decide, by decide⟩) (.one rfl rfl (.i rfl ⟨by decide, by decide⟩) (.one rfl rfl (.i rfl ⟨by decide, by decide⟩) (.one rfl rfl (.i rfl ⟨by decide, by decide⟩) (.one rfl rfl (.i rfl ⟨by decide, by decide⟩) (.one rfl rfl (.i rfl ⟨by decide, by decide⟩) (.one rfl rfl (.i rfl ⟨by decide, by decide⟩) (.one rfl rfl (.i rfl ⟨by decide, by decide⟩) (.one rfl rfl (.i rfl ⟨by decide, by decide⟩) (.one rfl rfl (.i rfl ⟨by decide, by decide⟩) (.one rfl rfl (.i rfl ⟨by decide, by decide⟩) (.one rfl rfl (.i rfl ⟨by decide, by decide⟩) (.one rfl rfl (.i rfl ⟨by decide, by decide⟩) (.one rfl rfl (.i rfl ⟨by decide, by decide⟩) (.one rfl rfl (.i rfl ⟨by decide, by decide⟩) (.one rfl rfl (.b false) (.one rfl rfl (.b false) (.one rfl rfl (.i rfl ⟨by decide, by decide⟩) .nil))))))))))))))))))))
theorem eqt31 : EqT Tryd.prog 31 ([.i .i64 0, .i .i64 0, .i .i64 0, .i .i64 0, .i .i64 0, .i .i64 0, .i .i64 0, .i .i64 0, .i .i64 0, .i .i64 0, .i .i64 0, .i .i64 0, .i .i64 0, .i .i64 0, .i .i64 0, .i .i64 0, .i .i64 0, .b false, .b false, .i .i64 0]) 4 true := (.st Tryd.underlying31 (by kernel_rfl) (.cons (d' := 1) (by decide) rfl (.i (k := .i64) rfl Tryd.underlying3) (by decide) rfl (by kernel_rfl) (.cons (d' := 1) (by decide) rfl (.i (k := .i64) rfl Tryd.underlying3) (by decide) rfl (by kernel_rfl) (.cons (d' := 1) (by decide) rfl (.i (k := .i64) rfl Tryd.underlying3) (by decide) rfl (by kernel_rfl) (.cons (d' := 3) (by decide) rfl (.st Tryd.underlying29 (by kernel_rfl) (.cons (d' := 1) (by decide) rfl (.i (k := .i64) rfl Tryd.underlying3) (by decide) rfl (by kernel_rfl) (.cons (d' := 1) (by decide) rfl (.i (k := .i64) rfl Tryd.underlying3) (by decide) rfl (by kernel_rfl) (.cons (d' := 2) (by decide) rfl (.st Tryd.underlying27 (by kernel_rfl) (.cons (d' := 1) (by decide) rfl (.i (k := .i64) rfl Tryd.underlying3) (by decide) rfl (by kernel_rfl) (.cons (d' := 1) (by decide) rfl (.i (k := .i64) rfl Tryd.underlying3) (by decide) rfl (by kernel_rfl) (.cons (d' := 1) (by decide) rfl (.i (k := .i64) rfl Tryd.underlying3) (by decide) rfl (by kernel_rfl) (.cons (d' := 1) (by decide) rfl (.i (k := .i64) rfl Tryd.underlying2) (by decide) rfl (by kernel_rfl) .nil))))) (by decide) rfl (by kernel_rfl) .nil)))) (by decide) rfl (by kernel_rfl) (.cons (d' := 3) (by decide) rfl (.st Tryd.underlying29 (by kernel_rfl) (.cons (d' := 1) (by decide) rfl (.i (k := .i64) rfl Tryd.underlying3) (by decide) rfl (by kernel_rfl) (.cons (d' := 1) (by decide) rfl (.i (k := .i64) rfl Tryd.underlying3) (by decide) rfl (by kernel_rfl) (.cons (d' := 2) (by decide) rfl (.st Tryd.underlying27 (by kernel_rfl) (.cons (d' := 1) (by decide) rfl (.i (k := .i64) rfl Tryd.underlying3) (by decide) rfl (by kernel_rfl) (.cons (d' := 1) (by decide) rfl (.i (k := .i64) rfl Tryd.underlying3) (by decide) rfl (by kernel_rfl) (.cons (d' := 1) (by decide) rfl (.i (k := .i64) rfl Tryd.underlying3) (by decide) rfl (by kernel_rfl) (.cons (d' := 1) (by decide) rfl (.i (k := .i64) rfl Tryd.underlying2) (by decide) rfl (by kernel_rfl) .nil))))) (by decide) rfl (by kernel_rfl) .nil)))) (by decide) rfl (by kernel_rfl) (.cons (d' := 1) (by decide) rfl (.i (k := .i64) rfl Tryd.underlying2) (by decide) rfl (by kernel_rfl) (.cons (d' := 1) (by decide) rfl (.i (k := .i64) rfl Tryd.underlying3) (by decide) rfl (by kernel_rfl) (.cons (d' := 1) (by decide) rfl (.b Tryd.underlying4) (by decide) rfl (by kernel_rfl) (.cons (d' := 1) (by decide) rfl (.b Tryd.underlying4) (by decide) rfl (by kernel_rfl) (.cons (d' := 1) (by decide) rfl (.i (k := .i64) rfl Tryd.underlying3) (by decide) rfl (by kernel_rfl) .nil)))))))))))
def tyL : List (Nat × TyI) := [
  (2, ⟨.int .i64, 1, true, [.i .i64 0]⟩),
  (3, ⟨.int .i64, 1, true, [.i .i64 0]⟩),
  (4, ⟨.bool, 1, true, [.b false]⟩),
  (5, ⟨.int .u8, 1, true, [.u 8 0#8]⟩),
  (9, ⟨.string, 1, true, [.str []]⟩),
  (23, ⟨.struct [(0, 3), (1, 3), (2, 3), (3, 3), (4, 3), (5, 2)], 6, true, [.i .i64 0, .i .i64 0, .i .i64 0, .i .i64 0, .i .i64 0, .i .i64 0]⟩),
  (25, ⟨.struct [(0, 3), (1, 3), (2, 3), (3, 23), (9, 23), (15, 2), (16, 3), (17, 4), (18, 4), (19, 3)], 20, true, [.i .i64 0, .i .i64 0, .i .i64 0, .i .i64 0, .i .i64 0, .i .i64 0, .i .i64 0, .i .i64 0, .i .i64 0, .i .i64 0, .i .i64 0, .i .i64 0, .i .i64 0, .i .i64 0, .i .i64 0, .i .i64 0, .i .i64 0, .b false, .b false, .i .i64 0]⟩),
  (27, ⟨.struct [(0, 3), (1, 3), (2, 3), (3, 2)], 4, true, [.i .i64 0, .i .i64 0, .i .i64 0, .i .i64 0]⟩),
  (29, ⟨.struct [(0, 3), (1, 3), (2, 27)], 6, true, [.i .i64 0, .i .i64 0, .i .i64 0, .i .i64 0, .i .i64 0, .i .i64 0]⟩),
  (31, ⟨.struct [(0, 3), (1, 3), (2, 3), (3, 29), (9, 29), (15, 2), (16, 3), (17, 4), (18, 4), (19, 3)], 20, true, [.i .i64 0, .i .i64 0, .i .i64 0, .i .i64 0, .i .i64 0, .i .i64 0, .i .i64 0, .i .i64 0, .i .i64 0, .i .i64 0, .i .i64 0, .i .i64 0, .i .i64 0, .i .i64 0, .i .i64 0, .i .i64 0, .i .i64 0, .b false, .b false, .i .i64 0]⟩),
  (38, ⟨.int .u64, 1, true, [.u 64 0#64]⟩),
  (52, ⟨.slice 9, 1, false, [.nils]⟩),
  (56, ⟨.slice 29, 1, false, [.nils]⟩),
  (75, ⟨.int .u64, 1, true, [.u 64 0#64]⟩),
  (80, ⟨.slice 3, 1, false, [.nils]⟩)]
abbrev T : TypeId → Option TyI := tyList tyL
theorem ty2 : TyOk1 Tryd.prog 2 ⟨.int .i64, 1, true, [.i .i64 0]⟩ := (.i rfl ⟨by decide, by decide⟩ Tryd.underlying2 (by kernel_rfl))
theorem ty3 : TyOk1 Tryd.prog 3 ⟨.int .i64, 1, true, [.i .i64 0]⟩ := (.i rfl ⟨by decide, by decide⟩ Tryd.underlying3 (by kernel_rfl))
theorem ty4 : TyOk1 Tryd.prog 4 ⟨.bool, 1, true, [.b false]⟩ := (.b Tryd.underlying4 (by kernel_rfl))
theorem ty5 : TyOk1 Tryd.prog 5 ⟨.int .u8, 1, true, [.u 8 0#8]⟩ := (.u (k := .u8) rfl Tryd.underlying5 (by kernel_rfl))
theorem ty9 : TyOk1 Tryd.prog 9 ⟨.string, 1, true, [.str []]⟩ := (.str Tryd.underlying9 (by kernel_rfl))
theorem ty23 : TyOk1 Tryd.prog 23 ⟨.struct [(0, 3), (1, 3), (2, 3), (3, 3), (4, 3), (5, 2)], 6, true, [.i .i64 0, .i .i64 0, .i .i64 0, .i .i64 0, .i .i64 0, .i .i64 0]⟩ := (.agg Tryd.underlying23 rfl ⟨.agg zv23.toArray, (by kernel_rfl), fun C => zero23 C⟩ (fun _ => EqRuns.of eqt23 (by decide) (by kernel_rfl)) (fun fs e => by cases e; kernel_rfl))
theorem ty25 : TyOk1 Tryd.prog 25 ⟨.struct [(0, 3), (1, 3), (2, 3), (3, 23), (9, 23), (15, 2), (16, 3), (17, 4), (18, 4), (19, 3)], 20, true, [.i .i64 0, .i .i64 0, .i .i64 0, .i .i64 0, .i .i64 0, .i .i64 0, .i .i64 0, .i .i64 0, .i .i64 0, .i .i64 0, .i .i64 0, .i .i64 0, .i .i64 0, .i .i64 0, .i .i64 0, .i .i64 0, .i .i64 0, .b false, .b false, .i .i64 0]⟩ := (.agg Tryd.underlying25 rfl ⟨.agg zv25.toArray, (by kernel_rfl), fun C => zero25 C⟩ (fun _ => EqRuns.of eqt25 (by decide) (by kernel_rfl)) (fun fs e => by cases e; kernel_rfl))
theorem ty27 : TyOk1 Tryd.prog 27 ⟨.struct [(0, 3), (1, 3), (2, 3), (3, 2)], 4, true, [.i .i64 0, .i .i64 0, .i .i64 0, .i .i64 0]⟩ := (.agg Tryd.underlying27 rfl ⟨.agg zv27.toArray, (by kernel_rfl), fun C => zero27 C⟩ (fun _ => EqRuns.of eqt27 (by decide) (by kernel_rfl)) (fun fs e => by cases e; kernel_rfl))
theorem ty29 : TyOk1 Tryd.prog 29 ⟨.struct [(0, 3), (1, 3), (2, 27)], 6, true, [.i .i64 0, .i .i64 0, .i .i64 0, .i .i64 0, .i .i64 0, .i .i64 0]⟩ := (.agg Tryd.underlying29 rfl ⟨.agg zv29.toArray, (by kernel_rfl), fun C => zero29 C⟩ (fun _ => EqRuns.of eqt29 (by decide) (by kernel_rfl)) (fun fs e => by cases e; kernel_rfl))
theorem ty31 : TyOk1 Tryd.prog 31 ⟨.struct [(0, 3), (1, 3), (2, 3), (3, 29), (9, 29), (15, 2), (16, 3), (17, 4), (18, 4), (19, 3)], 20, true, [.i .i64 0, .i .i64 0, .i .i64 0, .i .i64 0, .i .i64 0, .i .i64 0, .i .i64 0, .i .i64 0, .i .i64 0, .i .i64 0, .i .i64 0, .i .i64 0, .i .i64 0, .i .i64 0, .i .i64 0, .i .i64 0, .i .i64 0, .b false, .b false, .i .i64 0]⟩ := (.agg Tryd.underlying31 rfl ⟨.agg zv31.toArray, (by kernel_rfl), fun C => zero31 C⟩ (fun _ => EqRuns.of eqt31 (by decide) (by kernel_rfl)) (fun fs e => by cases e; kernel_rfl))
theorem ty38 : TyOk1 Tryd.prog 38 ⟨.int .u64, 1, true, [.u 64 0#64]⟩ := (.u (k := .u64) rfl Tryd.underlying38 (by kernel_rfl))
theorem ty52 : TyOk1 Tryd.prog 52 ⟨.slice 9, 1, false, [.nils]⟩ := (.nils Tryd.underlying52 (by kernel_rfl))
theorem ty56 : TyOk1 Tryd.prog 56 ⟨.slice 29, 1, false, [.nils]⟩ := (.nils Tryd.underlying56 (by kernel_rfl))
theorem ty75 : TyOk1 Tryd.prog 75 ⟨.int .u64, 1, true, [.u 64 0#64]⟩ := (.u (k := .u64) rfl Tryd.underlying75 (by kernel_rfl))
theorem ty80 : TyOk1 Tryd.prog 80 ⟨.slice 3, 1, false, [.nils]⟩ := (.nils Tryd.underlying80 (by kernel_rfl))
theorem tyOk : TyOk Tryd.prog T := .cons ty2 <| .cons ty3 <| .cons ty4 <| .cons ty5 <| .cons ty9 <| .cons ty23 <| .cons ty25 <| .cons ty27 <| .cons ty29 <| .cons ty31 <| .cons ty38 <| .cons ty52 <| .cons ty56 <| .cons ty75 <| .cons ty80 <| .nil
/-- What is known of the program's own variables: the greatest length of a short search, and the powers of ten. -/
def Vars (w : World) (R : Nat → Prop) : Prop := (R 1 ∧ ∃ m, w.cell? ⟨1, 0, none⟩ = some (.int .i64 m)) ∧ R 0 ∧ ∃ e f, w.heap[0]? = some (.cells (Lib.pow10Tab.map fun z => Value.int .u64 z).toArray e f)
theorem Vars.mono {w : World} {R : Nat → Prop} {w' : World} {R' : Nat → Prop} (h : Vars w R) (hle : ∀ b, R b → R' b ∧ w'.heap[b]? = w.heap[b]?) : Vars w' R' := by
  obtain ⟨⟨h1, m, hm⟩, h0, e, f, hf⟩ := h
  exact ⟨⟨(hle 1 h1).1, m, (cell_of_block (hle 1 h1).2 0 none).trans hm⟩, (hle 0 h0).1, e, f, (hle 0 h0).2.trans hf⟩
instance : Glob := ⟨Vars, Vars.mono⟩
theorem mixed : Tryd.prog.follows .mixedOrders = true := by kernel_rfl
end Go.Proofs.YtbdddnjncakooaaDoor
set_option maxRecDepth 100000
namespace Go.Proofs.YtbdddnjncakooaaDoor
open Go.Proofs.YtbdddnjncakooaaDoor.Ev Go.RowKit
def noL : Nat → Live := fun _ => ⟨[], [], [], none⟩
theorem noL_ok {S : FuncId → CSpec} {N : Nat} {fn : Func} : FnLoops T S noL N fn := FnLoops.no (by simp [noSum, noL])
theorem okBy {S : FuncId → CSpec} (hS : ∀ f, FnOk Tryd.prog f (S f)) {f : FuncId} {fn : Func} (hf : Tryd.prog.funcs[f]? = some fn) (hname : (fn.name == "runtime.NumGoroutine") = false) (hbody : fn.body.isNone = false) {s : CSpec} (N : Nat)
    (h : ∀ xs r, s xs = some r → (∀ c ∈ r.pre, c = true) → (∃ w R vs, TR (baseC w R) xs vs) → (evFn T S noL N fn xs).run = some r.res) (hlt : f < offO := by decide) : FnOk Tryd.prog f s :=
  FnOk.of tyOk hS mixed hf hname hbody (fun xs r hs hp w R vs hvs => ⟨N, noL_ok, h xs r hs hp ⟨w, R, vs, hvs⟩⟩) hlt
theorem law_calls {S : FuncId → CSpec} (hS : ∀ f, FnOk Tryd.prog f (S f)) {L : Nat → Live} {N : Nat} {f : FuncId} {fn : Func} (hf : Tryd.prog.funcs[f]? = some fn) (hL : FnLoops T S L N fn) {xs : List AV} (h : (evFn T S L N fn xs).run = some (.b true))
    {W : World} {R : Nat → Prop} (hR : ∀ b, R b → b < W.heap.size) (hG : Glob.G W R) {vs : List Value} (hvs : TR (baseC W R) xs vs) : Calls Tryd.prog f vs.toArray W fun e W' => e = .returned (.bool true) ∧ Below W.heap.size W W' := by
  refine (calls_ev tyOk hS mixed hf hL h hR hG hvs).mono fun e W' hd => ?_
  obtain ⟨v, rfl, R', hd⟩ := hd
  have hv := hd.res
  cases hv
  exact ⟨rfl, hd.fr.os, hd.fr.tape, hd.fr.output, hd.fr.size, fun k hk => hd.fr.block k hk (fun h => h)⟩
theorem wrap_small (x : Int) (h0 : -9223372036854775808 ≤ x) (h1 : x ≤ 9223372036854775807) : IntKind.i64.wrap x = x := wrap_of_has ⟨by simpa [IntKind.min, IntKind.signed, IntKind.bits] using h0, by simpa [IntKind.max, IntKind.signed, IntKind.bits] using h1⟩
theorem iter_from {g : St → Tr (Ex × St)} (τ : Nat → St) (a n : Nat) (han : a ≤ n) {e : Ex} {st' : St} (hs : ∀ j, a ≤ j → j < n → (g (τ j)).run = some (.normal, τ (j + 1))) (he : (g (τ n)).run = some (e, st')) (hne : e ≠ .normal) : ∃ N, (iter g N (τ a)).run = some (e, st') :=
  ⟨n - a + 1, iter_for (fun j => τ (a + j)) (n - a) (fun j hj => hs (a + j) (by omega) (by omega)) (by rw [show a + (n - a) = n by omega]; exact he) hne⟩
theorem doneStr {w : World} {R : Nat → Prop} (hR : ∀ b, R b → b < w.heap.size) {s : List UInt8} (hs : s.length ≤ 9223372036854775807) {w' : World} (hf : Fr w (fun _ => False) w') : ∃ R', Done w R (.str s) (.string ⟨s.toArray⟩) w' R' :=
  ⟨R, fun _ h => h, fun _ h => .inl h, fun b hb => Nat.lt_of_lt_of_le (hR b hb) hf.size, hf, .str s hs⟩
def decS (n : Nat) : List UInt8 := if n < 10 then [UInt8.ofNat (48 + n)] else [UInt8.ofNat (48 + n / 10), UInt8.ofNat (48 + n % 10)]
theorem decS_eq {n : Nat} (h : n < 100) : Lib.decDigits n = decS n := by
  unfold decS
  rw [Lib.decDigits]
  split
  · rfl
  · rw [Lib.decDigits, dif_pos (show n / 10 < 10 by omega)]
    rfl
theorem decS_len (n : Nat) : (decS n).length ≤ 9223372036854775807 := by unfold decS; split <;> simp
def joinS : List UInt8 → List (List UInt8) → List UInt8
  | p, [] => p
  | p, q :: ps => p ++ 32 :: joinS q ps
theorem indexByte_at : ∀ (x r : List UInt8), (∀ c ∈ x, c ≠ 32) → Lib.indexByte (x ++ 32 :: r) 32 = x.length
  | [], r, _ => rfl
  | c :: x, r, h => by
    have ih := indexByte_at x r (fun d hd => h d (List.mem_cons_of_mem _ hd))
    have hc : (c == 32) = false := by simpa using h c (List.mem_cons_self ..)
    show (if (c == 32) = true then (0 : Int) else if (Lib.indexByte (x ++ 32 :: r) 32 == -1) = true then -1 else Lib.indexByte (x ++ 32 :: r) 32 + 1) = _
    rw [ih, hc]
    have hn : ((x.length : Int) == -1) = false := by simp
    rw [hn]
    simp
theorem splitK_join : ∀ (p : List UInt8) (ps : List (List UInt8)), (∀ x ∈ p :: ps, ∀ c ∈ x, c ≠ 32) → Lib.splitK [32] 0 ps.length (joinS p ps) = p :: ps
  | p, [], _ => rfl
  | p, q :: ps, h => by
    have ih := splitK_join q ps (fun x hx => h x (List.mem_cons_of_mem _ hx))
    have hi : Lib.index (p ++ 32 :: joinS q ps) [32] = p.length := by
      rw [Lib.index_one, indexByte_at p _ (h p (List.mem_cons_self ..))]
    show Lib.splitK [32] 0 (ps.length + 1) (p ++ 32 :: joinS q ps) = _
    unfold Lib.splitK
    rw [hi]
    have hn : ((p.length : Int) == -1) = false := by simp
    rw [hn]
    have e1 : (p ++ 32 :: joinS q ps).take ((p.length : Int).toNat + 0) = p := by simp
    have e2 : (p ++ 32 :: joinS q ps).drop ((p.length : Int).toNat + [(32 : UInt8)].length) = joinS q ps := by
      simp [List.drop_append]
    rw [e1, e2, ih]
    rfl
theorem count_join : ∀ (p : List UInt8) (ps : List (List UInt8)), (∀ x ∈ p :: ps, ∀ c ∈ x, c ≠ 32) → (joinS p ps).count 32 = ps.length
  | p, [], h => by
    show p.count 32 = 0
    exact List.count_eq_zero.2 fun hm => h p (List.mem_cons_self ..) 32 hm rfl
  | p, q :: ps, h => by
    have ih := count_join q ps (fun x hx => h x (List.mem_cons_of_mem _ hx))
    have h0 : p.count 32 = 0 := List.count_eq_zero.2 fun hm => h p (List.mem_cons_self ..) 32 hm rfl
    show (p ++ 32 :: joinS q ps).count 32 = _
    rw [List.count_append, List.count_cons, h0, ih]
    simp
theorem tab_of {w : World} {R : Nat → Prop} (h : Vars w R) : Lib.TabIs Tryd.prog w "internal/strconv.uint64pow10" .u64 Lib.pow10Tab := by
  obtain ⟨_, _, e, f, hf⟩ := h
  unfold Lib.TabIs World.var?
  rw [show Tryd.prog.globalNamed "internal/strconv.uint64pow10" = some 0 by kernel_rfl]
  simp only [Option.bind_some, hf]
theorem fr_grow (w : World) (k : Nat) (os : Array Obj) : Fr w (fun _ => False) (Go.Sort.grow (w.drewN k) os) :=
  ⟨rfl, rfl, rfl, by show w.heap.size ≤ (w.heap ++ os).size; simp, fun b hb _ => by show (w.heap ++ os)[b]? = _; rw [Array.getElem?_append_left hb]⟩
theorem nDigits_le (u : Nat) (h : u < 18446744073709551616) : Lib.nDigits u ≤ 20 := by
  by_cases h1 : 1 ≤ u
  · have := Lib.numDigits_eq u h1 h; split at this <;> omega
  · obtain rfl : u = 0 := by omega
    decide +kernel
theorem dec_len (u : Nat) (h : u < 18446744073709551616) : (Lib.decDigits u).length ≤ 20 := by rw [Lib.decDigits_length]; exact nDigits_le u h
theorem itoa_len {n : Int} (h : IntKind.i64.has n) : (Lib.itoa n).length ≤ 21 := by
  have h1 : -9223372036854775808 ≤ n := h.1
  have h2 : n ≤ 9223372036854775807 := h.2
  by_cases hn : n < 0
  · obtain ⟨u, rfl⟩ : ∃ u : Nat, n = -(u : Int) := ⟨n.natAbs, by omega⟩
    rw [Lib.itoa_neg u (by omega)]
    have := dec_len u (by omega)
    simp; omega
  · obtain ⟨u, rfl⟩ : ∃ u : Nat, n = u := ⟨n.toNat, by omega⟩
    rw [Lib.itoa_nonneg]
    have := dec_len u (by omega)
    omega
def inB (a x b : Int) : Bool := decide (a ≤ x) && decide (x ≤ b)
def range47 (k : Int) : Prop := k = 1 ∨ k = 2 ∨ k = 3 ∨ k = 4 ∨ k = 5 ∨ k = 6 ∨ k = 7 ∨ k = 8 ∨ k = 9 ∨ k = 10 ∨ k = 11 ∨ k = 12 ∨ k = 13 ∨ k = 14 ∨ k = 15 ∨ k = 16 ∨ k = 17 ∨ k = 18 ∨ k = 19 ∨ k = 20 ∨ k = 21 ∨ k = 22 ∨ k = 23 ∨ k = 24 ∨ k = 25 ∨ k = 26 ∨ k = 27 ∨ k = 28 ∨ k = 29 ∨ k = 30 ∨ k = 31 ∨ k = 32 ∨ k = 33 ∨ k = 34 ∨ k = 35 ∨ k = 36 ∨ k = 37 ∨ k = 38 ∨ k = 39 ∨ k = 40 ∨ k = 41 ∨ k = 42 ∨ k = 43 ∨ k = 44 ∨ k = 45 ∨ k = 46 ∨ k = 47
theorem range47_of {k : Int} (h : 1 ≤ k ∧ k ≤ 47) : range47 k := by unfold range47; omega
abbrev W64 := BitVec 64
theorem Tr.of_fail {α : Type} {x : α} (h : (Tr.fail : Tr α).run = some x) : False := by cases h
theorem Tr.of_need {α : Type} {c : Bool} {t : Tr α} {x : α} (h : (Tr.need c t).run = some x) : c = true ∧ t.run = some x := by
  cases c with
  | true => exact ⟨rfl, h⟩
  | false => cases h
theorem Tr.of_ite {α : Type} {c : Bool} {t e : Tr α} {x : α} (h : (Tr.ite c t e).run = some x) : (c = true ∧ t.run = some x) ∨ (c = false ∧ e.run = some x) := by
  cases c with
  | true => exact .inl ⟨rfl, h⟩
  | false => exact .inr ⟨rfl, h⟩

/- The library's functions, by their contracts. -/
/-- A number's numeral. -/
def itoaS (n : Int) : List UInt8 := if (decide (0 ≤ n) && decide (n < 100)) = true then decS n.toNat else Lib.itoa n
theorem itoaS_eq {n : Int} (h : IntKind.i64.has n) : Lib.itoa n = itoaS n := by
  unfold itoaS
  split
  · rename_i hc
    simp only [Bool.and_eq_true, decide_eq_true_eq] at hc
    obtain ⟨k, rfl⟩ := Int.eq_ofNat_of_zero_le hc.1
    rw [Int.toNat_natCast, ← decS_eq (by omega)]
    exact Lib.itoa_nonneg k
  · rfl
def s35 : CSpec | [.i .i64 n] => some ⟨[], .str (itoaS n)⟩ | _ => none
theorem ok35 : FnOk Tryd.prog 35 s35 := FnOk.contract Tryd.func35 (by kernel_rfl) (by kernel_rfl) <| by
  intro xs r hs
  unfold s35 at hs; split at hs <;> cases hs
  rename_i n
  intro hp w R vs hR hG hvs
  cases hvs with
  | cons hv hl =>
    cases hl
    cases hv with
    | i hk h =>
    refine (Tryd.strconv_Itoa n h.1 h.2 w (tab_of hG)).mono ?_
    rintro e w' ⟨rfl, k, os, rfl⟩
    rw [itoaS_eq h]
    exact ⟨_, rfl, doneStr hR (by rw [← itoaS_eq h]; have := itoa_len h; omega) (fr_grow ..)⟩
def s53 : CSpec | [.i .i64 n, .i .i64 b] => some ⟨[b == 10], .str (itoaS n)⟩ | _ => none
theorem ok53 : FnOk Tryd.prog 53 s53 := FnOk.contract Tryd.func53 (by kernel_rfl) (by kernel_rfl) <| by
  intro xs r hs
  unfold s53 at hs; split at hs <;> cases hs
  rename_i n b
  intro hp w R vs hR hG hvs
  have hb : b = 10 := by simpa using hp _ (List.mem_cons_self ..)
  subst hb
  cases hvs with
  | cons hv hl =>
    cases hl with
    | cons hv2 hl =>
    cases hl
    cases hv2
    cases hv with
    | i hk h =>
    refine (Tryd.strconv_FormatInt_10 n h.1 h.2 w (tab_of hG)).mono ?_
    rintro e w' ⟨rfl, k, os, rfl⟩
    rw [itoaS_eq h]
    exact ⟨_, rfl, doneStr hR (by rw [← itoaS_eq h]; have := itoa_len h; omega) (fr_grow ..)⟩
end Go.Proofs.YtbdddnjncakooaaDoor
set_option maxRecDepth 100000
namespace Go.Proofs.YtbdddnjncakooaaDoor
open Go.Proofs.YtbdddnjncakooaaDoor.Ev Go.RowKit
/- The reference's words. -/
@[match_pattern] abbrev cO (ak ar ab ai ac ad : Int) : List AV := [.i .i64 ak, .i .i64 ar, .i .i64 ab, .i .i64 ai, .i .i64 ac, .i .i64 ad]
@[match_pattern] abbrev cI (op w v ak ar ab ai ac ad bk br bb bi bc bd im cc : Int) (lk rp : Bool) (ln : Int) : List AV := [.i .i64 op, .i .i64 w, .i .i64 v, .i .i64 ak, .i .i64 ar, .i .i64 ab, .i .i64 ai, .i .i64 ac, .i .i64 ad, .i .i64 bk, .i .i64 br, .i .i64 bb, .i .i64 bi, .i .i64 bc, .i .i64 bd, .i .i64 im, .i .i64 cc, .b lk, .b rp, .i .i64 ln]
/-- The same answer in other words. -/
theorem FnOk.conv {f : FuncId} {s1 s2 : CSpec} (h : FnOk Tryd.prog f s1) (hlt : f < offO) (hs : ∀ es r2, s2 es = some r2 → ∃ r1, s1 es = some r1 ∧ r1.pre = r2.pre ∧ ∀ (C : Ctx) v, VR C r1.res v → VR C r2.res v) : FnOk Tryd.prog f s2 := by
  refine ⟨fun _ => ?_, fun h' => absurd hlt (Nat.not_lt.2 h')⟩
  intro es r2 e hp w R us hR hG hus
  obtain ⟨r1, e1, e2, e3⟩ := hs es r2 e
  rcases h.1 hlt es r1 e1 (by rw [e2]; exact hp) w R us hR hG hus with ⟨v, w', k1, R', hd⟩ | ⟨k1, k2⟩
  · exact .inl ⟨v, w', k1, R', hd.more, hd.new, hd.lt, hd.fr, e3 _ _ hd.res⟩
  · refine .inr ⟨k1, k2.mono ?_⟩
    rintro e w' ⟨v, rfl, R', hd⟩
    exact ⟨v, rfl, R', hd.more, hd.new, hd.lt, hd.fr, e3 _ _ hd.res⟩
def wordsX : List (List UInt8) := [[], [97, 100, 100], [111, 114], [97, 100, 99], [115, 98, 98], [97, 110, 100], [115, 117, 98], [120, 111, 114], [99, 109, 112], [116, 101, 115, 116], [109, 111, 118], [109, 111, 118, 122, 120], [109, 111, 118, 115, 120], [108, 101, 97], [112, 117, 115, 104], [112, 111, 112], [105, 110, 99], [100, 101, 99], [110, 111, 116], [110, 101, 103], [109, 117, 108], [115, 109, 117, 108], [100, 105, 118], [115, 100, 105, 118], [105, 109, 117, 108], [105, 109, 117, 108, 105], [114, 111, 108], [114, 111, 114], [115, 104, 108], [115, 104, 114], [115, 97, 114], [120, 99, 104, 103], [99, 97, 115], [120, 97, 100, 100], [99, 109, 111, 118], [115, 101, 116], [106, 99, 99], [106, 109, 112], [99, 97, 108, 108], [114, 101, 116], [119, 105, 100, 101], [115, 105, 103, 110], [109, 111, 118, 115], [115, 116, 111, 115], [102, 101, 110, 99, 101], [110, 111, 112], [115, 121, 115], [117, 100]]
noncomputable def res44 : AV := match evFn T noS noL 1 Tryd.f44 [] with
  | .leaf a => a
  | _ => .poison
noncomputable def s44r : CSpec | [] => some ⟨[], res44⟩ | _ => none
theorem ok44r : FnOk Tryd.prog 44 s44r := okBy noS_ok Tryd.func44 (by kernel_rfl) (by kernel_rfl) 1 <| by
  intro xs r hs
  unfold s44r at hs; split at hs <;> cases hs
  intro hp _
  kernel_rfl
def s44 : CSpec | [] => some ⟨[], .vw 5 wordsX⟩ | _ => none
noncomputable def get44 : Nat → List AV := match res44 with
  | .ro _ _ g => g
  | _ => fun _ => []
theorem get44_is : ∀ i, i < 48 → get44 i = encAt 5 wordsX i := by
  intro i hi
  have h : ∀ k, k < 48 → (match get44 k, encAt 5 wordsX k with
    | [.str a], [.str b] => a == b
    | _, _ => false) = true := by decide +kernel
  have := h i hi
  split at this
  · rename_i a b h1 h2
    rw [h1, h2, beq_iff_eq.1 this]
  · cases this
theorem ok44 : FnOk Tryd.prog 44 s44 := FnOk.conv ok44r (by decide) fun es r2 h => by
  unfold s44 at h; split at h <;> cases h
  refine ⟨_, rfl, rfl, fun C u hu => .vw ?_⟩
  have e : res44 = .ro 1 48 get44 := by kernel_rfl
  have hu : VR C res44 u := hu
  rw [e] at hu
  exact ro_congr get44_is hu
noncomputable abbrev SA0 : FuncId → CSpec := withS noS 44 s44
theorem SA0_ok : ∀ f, FnOk Tryd.prog f (SA0 f) := withS_ok noS_ok ok44
end Go.Proofs.YtbdddnjncakooaaDoor
set_option maxRecDepth 100000
namespace Go.Proofs.YtbdddnjncakooaaDoor
open Go.Proofs.YtbdddnjncakooaaDoor.Ev Go.RowKit
/- A word among words. -/
def hitI (s w : List UInt8) (j : Int) : Bool :=
  if (if (List.take ((IntKind.i64.wrap (j + (w.length : Int))).toNat - j.toNat) (List.drop j.toNat s) == w) = true then if (j == 0) = true then true else (s.getD (IntKind.i64.wrap (j - 1)).toNat 0).toBitVec == BitVec.ofInt 8 32 else false) = true then
    if (IntKind.i64.wrap (j + (w.length : Int)) == (s.length : Int)) = true then true else (s.getD (IntKind.i64.wrap (j + (w.length : Int))).toNat 0).toBitVec == BitVec.ofInt 8 32
  else false
def hitS (s w : List UInt8) : Bool := (List.range (s.length + 1 - w.length)).any fun k => hitI s w (k : Int)
def hitL (s w : List UInt8) (j : Int) : Bool := List.take ((IntKind.i64.wrap (j + (w.length : Int))).toNat - j.toNat) (List.drop j.toNat s) == w
def hitM (s w : List UInt8) (j : Int) : Bool := if hitL s w j = true then if (j == 0) = true then true else (s.getD (IntKind.i64.wrap (j - 1)).toNat 0).toBitVec == BitVec.ofInt 8 32 else false
def st30 (b4 : Bool) (s w : List UInt8) (j : Int) : St := ⟨[(1, .str s), (4, .b b4), (5, .str w), (6, .i .i64 j)], [], [], 0⟩
def q30 : St → Tr (Ex × St)
  | ⟨[(1, .str s), (4, .b b4), (5, .str w), (6, .i .i64 j)], [], [], _⟩ =>
    .need (!b4 && (j == 0 && (decide (s.length ≤ 1000000) && decide (w.length ≤ 1000000)))) (.ite (hitS s w) (.leaf (.ret, ⟨[(4, .b true)], [], [], 0⟩)) (.leaf (.exit 0, ⟨[(4, .b false)], [], [], 0⟩)))
  | _ => .fail
def L30 : Nat → Live := fun _ => ⟨[1, 4, 5, 6], [], [], some q30⟩
theorem step30 (s w : List UInt8) (j : Int) (N : Nat) : (atHead (evCode T SA0 L30 67 N (loopOf Tryd.f30 0)) (L30 (firstR (loopOf Tryd.f30 0))) (st30 false s w j)).run =
    if decide (IntKind.i64.wrap (j + (w.length : Int)) ≤ (s.length : Int)) = true then
      if (if (!(IntKind.i64.wrap (j + (w.length : Int)) == (s.length : Int))) = true then if hitM s w j = true then decide (0 ≤ IntKind.i64.wrap (j + (w.length : Int))) else true else true) = true then
      if (if (!(IntKind.i64.wrap (j + (w.length : Int)) == (s.length : Int))) = true then if hitM s w j = true then decide (IntKind.i64.wrap (j + (w.length : Int)) < (s.length : Int)) else true else true) = true then
      if (if (!(j == 0)) = true then if hitL s w j = true then decide (0 ≤ IntKind.i64.wrap (j - 1)) else true else true) = true then
      if (if (!(j == 0)) = true then if hitL s w j = true then decide (IntKind.i64.wrap (j - 1) < (s.length : Int)) else true else true) = true then
      if decide (0 ≤ j) = true then if decide (j ≤ IntKind.i64.wrap (j + (w.length : Int))) = true then if decide (IntKind.i64.wrap (j + (w.length : Int)) ≤ (s.length : Int)) = true then
        if hitI s w j = true then some (.ret, st30 true s w j) else some (.normal, st30 false s w (IntKind.i64.wrap (j + 1)))
      else none else none else none else none else none else none else none
    else some (.exit 0, st30 false s w j) := by kernel_rfl
theorem round30 (s w : List UInt8) (k N : Nat) (hs : s.length ≤ 1000000) (h : k + w.length ≤ s.length) : (atHead (evCode T SA0 L30 67 N (loopOf Tryd.f30 0)) (L30 (firstR (loopOf Tryd.f30 0))) (st30 false s w (k : Int))).run =
    if hitI s w (k : Int) = true then some (.ret, st30 true s w (k : Int)) else some (.normal, st30 false s w ((k + 1 : Nat) : Int)) := by
  have w1 : IntKind.i64.wrap ((k : Int) + (w.length : Int)) = (k : Int) + (w.length : Int) := wrap_small _ (by omega) (by omega)
  have w2 : IntKind.i64.wrap ((k : Int) - 1) = (k : Int) - 1 := wrap_small _ (by omega) (by omega)
  have w3 : IntKind.i64.wrap ((k : Int) + 1) = ((k + 1 : Nat) : Int) := by rw [wrap_small] <;> omega
  rw [step30, w1, w2, w3]
  have a1 : decide ((k : Int) + (w.length : Int) ≤ (s.length : Int)) = true := by simp; omega
  have a2 : decide (0 ≤ (k : Int) + (w.length : Int)) = true := by simp; omega
  have a3 : decide (0 ≤ (k : Int)) = true := by simp
  have a4 : decide ((k : Int) ≤ (k : Int) + (w.length : Int)) = true := by simp; omega
  have n1 : (if (!((k : Int) + (w.length : Int) == (s.length : Int))) = true then if hitM s w (k : Int) = true then true else true else true) = true := by simp
  have n2 : (if (!((k : Int) + (w.length : Int) == (s.length : Int))) = true then if hitM s w (k : Int) = true then decide ((k : Int) + (w.length : Int) < (s.length : Int)) else true else true) = true := by
    split
    · rename_i hc
      have : ¬ ((k : Int) + (w.length : Int) = (s.length : Int)) := by simpa using hc
      split
      · simp; omega
      · rfl
    · rfl
  have n3 : (if (!((k : Int) == 0)) = true then if hitL s w (k : Int) = true then decide (0 ≤ (k : Int) - 1) else true else true) = true := by
    split
    · rename_i hc
      have : ¬ ((k : Int) = 0) := by simpa using hc
      split
      · simp; omega
      · rfl
    · rfl
  have n4 : (if (!((k : Int) == 0)) = true then if hitL s w (k : Int) = true then decide ((k : Int) - 1 < (s.length : Int)) else true else true) = true := by
    split
    · split
      · simp; omega
      · rfl
    · rfl
  rw [a1, a2, a3, a4, n1, n2, n3, n4]
  rfl
theorem firstHit (p : Nat → Bool) : ∀ n : Nat, (∃ k, k < n ∧ p k = true ∧ ∀ j, j < k → p j = false) ∨ ∀ j, j < n → p j = false
  | 0 => .inr fun j hj => absurd hj (Nat.not_lt_zero _)
  | n + 1 => by
    rcases firstHit p n with ⟨k, h1, h2, h3⟩ | h
    · exact .inl ⟨k, by omega, h2, h3⟩
    · cases hp : p n with
      | true => exact .inl ⟨n, by omega, hp, h⟩
      | false =>
        refine .inr fun j hj => ?_
        rcases Nat.lt_or_ge j n with h' | h'
        · exact h j h'
        · rwa [show j = n by omega]
theorem look4 {b : Bool} {t : Nat} {u : AV} (h : Ev.look [(4, AV.b b)] t = some u) : t = 4 ∧ u = .b b := by
  simp only [Ev.look] at h
  cases e : (4 == t) with
  | true => rw [e] at h; cases h; exact ⟨(beq_iff_eq.1 e).symm, rfl⟩
  | false => rw [e] at h; cases h
theorem LoopOk2.sub' {S : FuncId → CSpec} {L : Nat → Live} {nt N : Nat} {a : Code} {q : St → Tr (Ex × St)} (hs : (L (firstR a)).sum = some q)
    (h : ∀ τ e st, τ.cut = 0 → (q τ).run = some (e, st) → ∃ n st', (iter (atHead (evCode T S L nt N a) (L (firstR a))) n τ).run = some (e, st') ∧ (∀ t v, Ev.look st.env t = some v → Ev.look st'.env t = some v) ∧ st'.mem = st.mem ∧ st'.ids = st.ids) : LoopOk T S L nt N a := by
  intro q' hq'
  rw [hs] at hq'
  cases hq'
  exact h
theorem loop30 (N : Nat) : LoopOk T SA0 L30 67 N (loopOf Tryd.f30 0) := LoopOk2.sub' rfl <| by
  intro τ e st hcut hr
  unfold q30 at hr
  split at hr
  case h_2 => exact (Tr.of_fail hr).elim
  rename_i s b4 w j c
  obtain rfl : c = 0 := hcut
  obtain ⟨hc, hr2⟩ := Tr.of_need hr
  clear hr
  simp only [Bool.and_eq_true, beq_iff_eq, decide_eq_true_eq, Bool.not_eq_true'] at hc
  obtain ⟨rfl, rfl, hs, hw⟩ := hc
  have rd : ∀ k, k < s.length + 1 - w.length → hitI s w (k : Int) = false → (atHead (evCode T SA0 L30 67 N (loopOf Tryd.f30 0)) (L30 (firstR (loopOf Tryd.f30 0))) (st30 false s w (k : Int))).run = some (.normal, st30 false s w ((k + 1 : Nat) : Int)) := by
    intro k hk hf
    rw [round30 s w k N hs (by omega), hf]; rfl
  rcases firstHit (fun k => hitI s w (k : Int)) (s.length + 1 - w.length) with ⟨k, h1, h2, h3⟩ | hn
  · have hS : hitS s w = true := List.any_eq_true.2 ⟨k, List.mem_range.2 h1, h2⟩
    rw [hS] at hr2
    simp only [Tr.run, if_true, Option.some.injEq, Prod.mk.injEq] at hr2
    obtain ⟨rfl, rfl⟩ := hr2
    obtain ⟨n, hn⟩ := iter_from (g := atHead (evCode T SA0 L30 67 N (loopOf Tryd.f30 0)) (L30 (firstR (loopOf Tryd.f30 0)))) (fun k => st30 false s w (k : Int)) 0 k (Nat.zero_le _)
      (fun i _ hi => rd i (by omega) (h3 i hi)) (by rw [round30 s w k N hs (by omega), if_pos h2]) (by simp)
    refine ⟨n, _, hn, fun t u ht => ?_, rfl, rfl⟩
    obtain ⟨rfl, rfl⟩ := look4 ht
    rfl
  · have hS : hitS s w = false := by
      unfold hitS
      rw [Bool.eq_false_iff]
      intro h
      obtain ⟨k, hk, hh⟩ := List.any_eq_true.1 h
      rw [hn k (List.mem_range.1 hk)] at hh
      cases hh
    rw [hS] at hr2
    simp only [Tr.run, Bool.false_eq_true, if_false, Option.some.injEq, Prod.mk.injEq] at hr2
    obtain ⟨rfl, rfl⟩ := hr2
    have w1 : ∀ k : Nat, k ≤ 2000000 → IntKind.i64.wrap ((k : Int) + (w.length : Int)) = (k : Int) + (w.length : Int) := fun k hk => wrap_small _ (by omega) (by omega)
    obtain ⟨n, hn⟩ := iter_from (g := atHead (evCode T SA0 L30 67 N (loopOf Tryd.f30 0)) (L30 (firstR (loopOf Tryd.f30 0)))) (fun k => st30 false s w (k : Int)) 0 (s.length + 1 - w.length) (Nat.zero_le _)
      (fun i _ hi => rd i hi (hn i hi)) (by rw [step30, w1 _ (by omega), if_neg (by simp; omega)]) (by simp)
    refine ⟨n, _, hn, fun t u ht => ?_, rfl, rfl⟩
    obtain ⟨rfl, rfl⟩ := look4 ht
    rfl
/-- Is an operation one of a text's words? -/
def isA (op : Int) (s : List UInt8) : Bool := if (if decide (op < 1) = true then true else decide (47 < op)) = true then false else hitS s (wordsX.getD op.toNat [])
def s30 : CSpec
  | [.agg (cI op w v ak ar ab ai ac ad bk br bb bi bc bd im cc lk rp ln), .str s] => (match Nat.ble s.length 1000000 with
    | true => some ⟨[], .b (isA op s)⟩
    | false => none)
  | _ => none
theorem wordsX_len (k : Nat) : (wordsX.getD k []).length ≤ 1000000 := by
  rcases Nat.lt_or_ge k 48 with h | h
  · have : ∀ i, i < 48 → (wordsX.getD i []).length ≤ 5 := by decide +kernel
    have := this k h
    omega
  · rw [List.getD_eq_getElem?_getD, List.getElem?_eq_none (by rw [show wordsX.length = 48 by decide +kernel]; exact h)]
    simp
theorem ok30 : FnOk Tryd.prog 30 s30 := FnOk.of tyOk SA0_ok mixed (L := L30) Tryd.func30 (by kernel_rfl) (by kernel_rfl) (fun xs r hs hp W R us hus => by
  unfold s30 at hs; split at hs <;> try cases hs
  rename_i op w v ak ar ab ai ac ad bk br bb bi bc bd im cc lk rp ln s
  split at hs <;> cases hs
  rename_i hl
  have hl : s.length ≤ 1000000 := Nat.le_of_ble_eq_true hl
  refine ⟨1, FnLoops.one (by kernel_rfl) (loop30 1), ?_⟩
  have e : (evFn T SA0 L30 1 Tryd.f30 [.agg (cI op w v ak ar ab ai ac ad bk br bb bi bc bd im cc lk rp ln), .str s]).run = if (if decide (op < 1) = true then true else decide (47 < op)) = true then some (.b false) else
      if decide (0 ≤ op) = true then if decide (op < (wordsX.length : Int)) = true then
      if (true && ((0 : Int) == 0 && (decide (s.length ≤ 1000000) && decide ((wordsX.getD op.toNat []).length ≤ 1000000)))) = true then
      if hitS s (wordsX.getD op.toNat []) = true then some (.b true) else some (.b false) else none else none else none := by kernel_rfl
  show _ = some (AV.b (isA op s))
  rw [e]
  unfold isA
  cases hc : (if decide (op < 1) = true then true else decide (47 < op)) with
  | true => rfl
  | false =>
    have h1 : 1 ≤ op ∧ op ≤ 47 := by
      split at hc
      · cases hc
      · rename_i h1
        simp at h1 hc
        omega
    have d1 : decide (0 ≤ op) = true := by simp; omega
    have d2 : decide (op < (wordsX.length : Int)) = true := by
      rw [show (wordsX.length : Int) = 48 by decide +kernel]; simp; omega
    rw [d1, d2, decide_eq_true hl, decide_eq_true (wordsX_len _)]
    cases hitS s (wordsX.getD op.toNat []) <;> rfl)
noncomputable abbrev SA1 : FuncId → CSpec := withS SA0 30 s30
theorem SA1_ok : ∀ f, FnOk Tryd.prog f (SA1 f) := withS_ok SA0_ok ok30
end Go.Proofs.YtbdddnjncakooaaDoor
set_option maxRecDepth 100000
namespace Go.Proofs.YtbdddnjncakooaaDoor
open Go.Proofs.YtbdddnjncakooaaDoor.Ev Go.RowKit
/- Widths and kinds; functions that answer a Bool. -/
def anyC (p : UInt8 → Bool) : List UInt8 → Bool
  | [] => false
  | c :: s => if p c = true then true else anyC p s
def chainC (p : UInt8 → Bool) : List UInt8 → Option AV
  | [] => some (.b false)
  | c :: s => if p c = true then some (.b true) else chainC p s
theorem chainC_is (p : UInt8 → Bool) : ∀ s, chainC p s = some (.b (anyC p s))
  | [] => rfl
  | c :: s => by
    simp only [chainC, anyC]
    cases p c with
    | true => rfl
    | false => exact chainC_is p s
def digA (w : Int) (c : UInt8) : Bool := w == IntKind.i64.wrap ((c.toBitVec - BitVec.ofInt 8 48).toNat : Int)
def widA (w : Int) (s : List UInt8) : Bool := anyC (digA w) s
def L40 : Nat → Live := fun _ => ⟨[1, 2, 4, 5], [(2, 0), (2, 1), (2, 2), (2, 3), (2, 4), (2, 5), (2, 6), (2, 7), (2, 8), (2, 9), (2, 10), (2, 11), (2, 12), (2, 13), (2, 14), (2, 15), (2, 16), (2, 17), (2, 18), (2, 19)], [2], none⟩
def w1248 (s : List UInt8) : Bool := s == [49, 50, 52, 56] || s == [50, 52, 56] || s == [56] || s == [49, 50, 52] || s == [49]
def s40 : CSpec
  | [.agg (cI op w v ak ar ab ai ac ad bk br bb bi bc bd im cc lk rp ln), .str [49, 50, 52, 56]] => some ⟨[], .b (widA w [49, 50, 52, 56])⟩
  | [.agg (cI op w v ak ar ab ai ac ad bk br bb bi bc bd im cc lk rp ln), .str [50, 52, 56]] => some ⟨[], .b (widA w [50, 52, 56])⟩
  | [.agg (cI op w v ak ar ab ai ac ad bk br bb bi bc bd im cc lk rp ln), .str [56]] => some ⟨[], .b (widA w [56])⟩
  | [.agg (cI op w v ak ar ab ai ac ad bk br bb bi bc bd im cc lk rp ln), .str [49, 50, 52]] => some ⟨[], .b (widA w [49, 50, 52])⟩
  | [.agg (cI op w v ak ar ab ai ac ad bk br bb bi bc bd im cc lk rp ln), .str [49]] => some ⟨[], .b (widA w [49])⟩
  | _ => none
theorem ok40 : FnOk Tryd.prog 40 s40 := FnOk.of tyOk noS_ok mixed (L := L40) Tryd.func40 (by kernel_rfl) (by kernel_rfl) (fun xs r hs hp W R us hus => by
  refine ⟨8, FnLoops.no (by kernel_rfl), ?_⟩
  unfold s40 at hs
  split at hs <;> cases hs
  all_goals rename_i op w v ak ar ab ai ac ad bk br bb bi bc bd im cc lk rp ln
  · exact (show (evFn T noS L40 8 Tryd.f40 [.agg (cI op w v ak ar ab ai ac ad bk br bb bi bc bd im cc lk rp ln), .str [49, 50, 52, 56]]).run = chainC (digA w) [49, 50, 52, 56] by kernel_rfl).trans (chainC_is ..)
  · exact (show (evFn T noS L40 8 Tryd.f40 [.agg (cI op w v ak ar ab ai ac ad bk br bb bi bc bd im cc lk rp ln), .str [50, 52, 56]]).run = chainC (digA w) [50, 52, 56] by kernel_rfl).trans (chainC_is ..)
  · exact (show (evFn T noS L40 8 Tryd.f40 [.agg (cI op w v ak ar ab ai ac ad bk br bb bi bc bd im cc lk rp ln), .str [56]]).run = chainC (digA w) [56] by kernel_rfl).trans (chainC_is ..)
  · exact (show (evFn T noS L40 8 Tryd.f40 [.agg (cI op w v ak ar ab ai ac ad bk br bb bi bc bd im cc lk rp ln), .str [49, 50, 52]]).run = chainC (digA w) [49, 50, 52] by kernel_rfl).trans (chainC_is ..)
  · exact (show (evFn T noS L40 8 Tryd.f40 [.agg (cI op w v ak ar ab ai ac ad bk br bb bi bc bd im cc lk rp ln), .str [49]]).run = chainC (digA w) [49] by kernel_rfl).trans (chainC_is ..))
def kx0 (k : Int) (c : UInt8) : Bool := if (k == 0) = true then c.toBitVec == BitVec.ofInt 8 110 else false
def kx1 (k : Int) (c : UInt8) : Bool := if kx0 k c = true then true else if (k == 1) = true then c.toBitVec == BitVec.ofInt 8 114 else false
def kx2 (k : Int) (c : UInt8) : Bool := if kx1 k c = true then true else if (k == 2) = true then c.toBitVec == BitVec.ofInt 8 109 else false
def kchA (k : Int) (c : UInt8) : Bool := if kx2 k c = true then true else if (k == 3) = true then c.toBitVec == BitVec.ofInt 8 105 else false
def nd1 (p x : Bool) : Bool := if p = true then if (!x) = true then true else true else true
def nd0 (p : Bool) : Bool := if p = true then true else true
theorem nd1_is (p x : Bool) : nd1 p x = true := by cases p <;> cases x <;> rfl
theorem nd0_is (p : Bool) : nd0 p = true := by cases p <;> rfl
def chainK (k : Int) : List UInt8 → Option AV
  | [] => some (.b false)
  | c :: s => if nd1 (k == 3) (kx2 k c) = true then if nd1 (k == 3) (kx2 k c) = true then if nd1 (k == 2) (kx1 k c) = true then if nd1 (k == 2) (kx1 k c) = true then if nd1 (k == 1) (kx0 k c) = true then if nd1 (k == 1) (kx0 k c) = true then if nd0 (k == 0) = true then if nd0 (k == 0) = true then
      if kchA k c = true then some (.b true) else chainK k s else none else none else none else none else none else none else none else none
theorem chainK_is (k : Int) : ∀ s, chainK k s = chainC (kchA k) s
  | [] => rfl
  | c :: s => by
    simp only [chainK, chainC, nd1_is, nd0_is, if_true]
    rw [chainK_is k s]
def kinA (k : Int) (s : List UInt8) : Bool := anyC (kchA k) s
def L41 : Nat → Live := fun _ => ⟨[1, 2, 4, 5], [(2, 0), (2, 1), (2, 2), (2, 3), (2, 4), (2, 5)], [2], none⟩
def s41 : CSpec
  | [.agg (cO ak ar ab ai ac ad), .str [a]] => some ⟨[], .b (kinA ak [a])⟩
  | [.agg (cO ak ar ab ai ac ad), .str [a, b]] => some ⟨[], .b (kinA ak [a, b])⟩
  | [.agg (cO ak ar ab ai ac ad), .str [a, b, c]] => some ⟨[], .b (kinA ak [a, b, c])⟩
  | _ => none
theorem ok41 : FnOk Tryd.prog 41 s41 := FnOk.of tyOk noS_ok mixed (L := L41) Tryd.func41 (by kernel_rfl) (by kernel_rfl) (fun xs r hs hp W R us hus => by
  refine ⟨5, FnLoops.no (by kernel_rfl), ?_⟩
  unfold s41 at hs
  split at hs <;> cases hs
  · rename_i ak ar ab ai ac ad a
    exact (show (evFn T noS L41 5 Tryd.f41 [.agg (cO ak ar ab ai ac ad), .str [a]]).run = chainK ak [a] by kernel_rfl).trans ((chainK_is ..).trans (chainC_is ..))
  · rename_i ak ar ab ai ac ad a b
    exact (show (evFn T noS L41 5 Tryd.f41 [.agg (cO ak ar ab ai ac ad), .str [a, b]]).run = chainK ak [a, b] by kernel_rfl).trans ((chainK_is ..).trans (chainC_is ..))
  · rename_i ak ar ab ai ac ad a b c
    exact (show (evFn T noS L41 5 Tryd.f41 [.agg (cO ak ar ab ai ac ad), .str [a, b, c]]).run = chainK ak [a, b, c] by kernel_rfl).trans ((chainK_is ..).trans (chainC_is ..)))
/-- A tree that answers a Bool whatever its tests are. -/
def allB : Tr AV → Bool
  | .leaf (.b _) => true
  | .ite _ a b => allB a && allB b
  | .need _ a => allB a
  | _ => false
def asB : Tr AV → Bool
  | .leaf (.b x) => x
  | .ite c a b => if c = true then asB a else asB b
  | .need _ a => asB a
  | _ => false
/-- What it asks. -/
def ndB : Tr AV → Bool
  | .leaf _ => true
  | .ite c a b => if c = true then ndB a else ndB b
  | .need c a => c && ndB a
  | _ => true
theorem runB : ∀ {t : Tr AV}, allB t = true → ndB t = true → t.run = some (.b (asB t))
  | .leaf (.b x), _, _ => rfl
  | .ite c a b, h, n => by
    simp only [allB, Bool.and_eq_true] at h
    simp only [Tr.run, asB, ndB] at n ⊢
    cases c with
    | true => exact runB h.1 n
    | false => exact runB h.2 n
  | .need c a, h, n => by
    simp only [ndB, Bool.and_eq_true] at n
    obtain ⟨rfl, n⟩ := n
    exact runB (t := a) h n
noncomputable abbrev SA2 : FuncId → CSpec := withS (withS SA1 40 s40) 41 s41
theorem SA2_ok : ∀ f, FnOk Tryd.prog f (SA2 f) := withS_ok (withS_ok SA1_ok ok40) ok41
end Go.Proofs.YtbdddnjncakooaaDoor
set_option maxRecDepth 100000
namespace Go.Proofs.YtbdddnjncakooaaDoor
open Go.Proofs.YtbdddnjncakooaaDoor.Ev Go.RowKit
/- An instruction's parts; what it does. -/
def s36 : CSpec | [.agg (cI op w v ak ar ab ai ac ad bk br bb bi bc bd im cc lk rp ln), .i .i64 lo, .i .i64 hi] => some ⟨[], .b (inB lo op hi)⟩ | _ => none
theorem ok36 : FnOk Tryd.prog 36 s36 := okBy noS_ok Tryd.func36 (by kernel_rfl) (by kernel_rfl) 1 <| by
  intro xs r hs
  unfold s36 at hs; split at hs <;> cases hs
  rename_i op w v ak ar ab ai ac ad bk br bb bi bc bd im cc lk rp ln lo hi
  intro hp _
  have e : (evFn T noS noL 1 Tryd.f36 [.agg (cI op w v ak ar ab ai ac ad bk br bb bi bc bd im cc lk rp ln), .i .i64 lo, .i .i64 hi]).run = some (.b (if decide (lo ≤ op) = true then decide (op ≤ hi) else false)) := by kernel_rfl
  rw [e]
  unfold inB
  cases decide (lo ≤ op) <;> cases decide (op ≤ hi) <;> rfl
def s26 : CSpec | [.agg (cO ak ar ab ai ac ad)] => some ⟨[], .agg (cO ak ar ab ai ac ad)⟩ | _ => none
theorem ok26 : FnOk Tryd.prog 26 s26 := okBy noS_ok Tryd.func26 (by kernel_rfl) (by kernel_rfl) 1 <| by
  intro xs r hs
  unfold s26 at hs; split at hs <;> cases hs
  rename_i ak ar ab ai ac ad
  intro hp _
  show (evFn T noS noL 1 Tryd.f26 [.agg (cO ak ar ab ai ac ad)]).run = some (.agg (cO ak ar ab ai ac ad))
  kernel_rfl
theorem ok12 : FnOk Tryd.prog 12 s26 := okBy noS_ok Tryd.func12 (by kernel_rfl) (by kernel_rfl) 1 <| by
  intro xs r hs
  unfold s26 at hs; split at hs <;> cases hs
  rename_i ak ar ab ai ac ad
  intro hp _
  show (evFn T noS noL 1 Tryd.f12 [.agg (cO ak ar ab ai ac ad)]).run = some (.agg (cO ak ar ab ai ac ad))
  kernel_rfl
noncomputable abbrev SB0 : FuncId → CSpec := withS (withS (withS SA2 36 s36) 26 s26) 12 s26
theorem SB0_ok : ∀ f, FnOk Tryd.prog f (SB0 f) := withS_ok (withS_ok (withS_ok SA2_ok ok36) ok26) ok12
def s5 : CSpec | [.agg (cI op w v ak ar ab ai ac ad bk br bb bi bc bd im cc lk rp ln)] => some ⟨[], .agg (cI op w v ak ar ab ai ac ad bk br bb bi bc bd im cc lk rp ln)⟩ | _ => none
theorem ok5 : FnOk Tryd.prog 5 s5 := okBy SB0_ok Tryd.func5 (by kernel_rfl) (by kernel_rfl) 1 <| by
  intro xs r hs
  unfold s5 at hs; split at hs <;> cases hs
  rename_i op w v ak ar ab ai ac ad bk br bb bi bc bd im cc lk rp ln
  intro hp _
  show (evFn T SB0 noL 1 Tryd.f5 [.agg (cI op w v ak ar ab ai ac ad bk br bb bi bc bd im cc lk rp ln)]).run = some (.agg (cI op w v ak ar ab ai ac ad bk br bb bi bc bd im cc lk rp ln))
  kernel_rfl
def selI (ak bk a b : Int) : Int := if (2 == ak) = true then a else if (2 == bk) = true then b else 0
def memB (ak bk : Int) : Bool := if (2 == ak) = true then true else if (2 == bk) = true then true else false
def s11 : CSpec | [.agg (cI op w v ak ar ab ai ac ad bk br bb bi bc bd im cc lk rp ln)] => some ⟨[], .tup [.agg (cO (selI ak bk ak bk) (selI ak bk ar br) (selI ak bk ab bb) (selI ak bk ai bi) (selI ak bk ac bc) (selI ak bk ad bd)), .b (memB ak bk)]⟩ | _ => none
theorem ok11 : FnOk Tryd.prog 11 s11 := okBy noS_ok Tryd.func11 (by kernel_rfl) (by kernel_rfl) 1 <| by
  intro xs r hs
  unfold s11 at hs; split at hs <;> cases hs
  rename_i op w v ak ar ab ai ac ad bk br bb bi bc bd im cc lk rp ln
  intro hp _
  have e : (evFn T noS noL 1 Tryd.f11 [.agg (cI op w v ak ar ab ai ac ad bk br bb bi bc bd im cc lk rp ln)]).run = if (2 == ak) = true then some (.tup [.agg (cO ak ar ab ai ac ad), .b true]) else if (2 == bk) = true then some (.tup [.agg (cO bk br bb bi bc bd), .b true]) else some (.tup [.agg (cO 0 0 0 0 0 0), .b false]) := by kernel_rfl
  rw [e]
  simp only [selI, memB]
  cases (2 == ak) <;> cases (2 == bk) <;> rfl
noncomputable abbrev SB1 : FuncId → CSpec := withS (withS SB0 5 s5) 11 s11
theorem SB1_ok : ∀ f, FnOk Tryd.prog f (SB1 f) := withS_ok (withS_ok SB0_ok ok5) ok11
end Go.Proofs.YtbdddnjncakooaaDoor
set_option maxRecDepth 100000
namespace Go.Proofs.YtbdddnjncakooaaDoor
open Go.Proofs.YtbdddnjncakooaaDoor.Ev Go.RowKit
/- Which operations are among a text's words. -/
theorem isA_out {op : Int} (h : op < 1 ∨ 47 < op) (s : List UInt8) : isA op s = false := by
  unfold isA
  rcases h with h | h
  · rw [decide_eq_true h]; rfl
  · rw [decide_eq_true h]; cases decide (op < 1) <;> rfl
theorem byOp {P : Int → Prop} (h : ∀ k : Nat, k < 48 → P (k : Int)) (h' : ∀ op, op < 1 ∨ 47 < op → P op) (op : Int) : P op := by
  by_cases ho : op < 1 ∨ 47 < op
  · exact h' op ho
  · have := h op.toNat (by omega)
    rwa [show ((op.toNat : Nat) : Int) = op by omega] at this
theorem isA_of (s : List UInt8) (f : Int → Bool) (h : ∀ k : Nat, k < 48 → isA (k : Int) s = f (k : Int)) (h' : ∀ op, op < 1 ∨ 47 < op → f op = false) (op : Int) : isA op s = f op :=
  byOp (P := fun op => isA op s = f op) h (fun op ho => by rw [isA_out ho, h' op ho]) op
abbrev tLd : List UInt8 := [112, 111, 112, 32, 114, 101, 116, 32, 109, 111, 118, 115]
def fLd (op : Int) : Bool := op == 15 || op == 39 || op == 42
theorem isA_Ld (op : Int) : isA op tLd = fLd op := isA_of tLd fLd (by decide +kernel) (fun op h => by simp only [fLd, inB, Bool.or_eq_false_iff, Bool.and_eq_false_iff, beq_eq_false_iff_ne, decide_eq_false_iff_not, ne_eq]; omega) op
abbrev tLn : List UInt8 := [108, 101, 97, 32, 110, 111, 112, 32, 115, 101, 116]
def fLn (op : Int) : Bool := op == 13 || op == 45 || op == 35
theorem isA_Ln (op : Int) : isA op tLn = fLn op := isA_of tLn fLn (by decide +kernel) (fun op h => by simp only [fLn, inB, Bool.or_eq_false_iff, Bool.and_eq_false_iff, beq_eq_false_iff_ne, decide_eq_false_iff_not, ne_eq]; omega) op
abbrev tMv : List UInt8 := [109, 111, 118]
def fMv (op : Int) : Bool := op == 10
theorem isA_Mv (op : Int) : isA op tMv = fMv op := isA_of tMv fMv (by decide +kernel) (fun op h => by simp only [fMv, inB, Bool.or_eq_false_iff, Bool.and_eq_false_iff, beq_eq_false_iff_ne, decide_eq_false_iff_not, ne_eq]; omega) op
abbrev tSt : List UInt8 := [112, 117, 115, 104, 32, 99, 97, 108, 108, 32, 109, 111, 118, 115, 32, 115, 116, 111, 115]
def fSt (op : Int) : Bool := op == 14 || op == 38 || op == 42 || op == 43
theorem isA_St (op : Int) : isA op tSt = fSt op := isA_of tSt fSt (by decide +kernel) (fun op h => by simp only [fSt, inB, Bool.or_eq_false_iff, Bool.and_eq_false_iff, beq_eq_false_iff_ne, decide_eq_false_iff_not, ne_eq]; omega) op
abbrev tSn : List UInt8 := [99, 109, 112, 32, 116, 101, 115, 116, 32, 109, 117, 108, 32, 115, 109, 117, 108, 32, 100, 105, 118, 32, 115, 100, 105, 118, 32, 106, 109, 112]
def fSn (op : Int) : Bool := op == 8 || op == 9 || op == 20 || op == 21 || op == 22 || op == 23 || op == 37
theorem isA_Sn (op : Int) : isA op tSn = fSn op := isA_of tSn fSn (by decide +kernel) (fun op h => by simp only [fSn, inB, Bool.or_eq_false_iff, Bool.and_eq_false_iff, beq_eq_false_iff_ne, decide_eq_false_iff_not, ne_eq]; omega) op
abbrev tUs : List UInt8 := [97, 100, 99, 32, 115, 98, 98, 32, 99, 109, 111, 118, 32, 115, 101, 116, 32, 106, 99, 99, 32, 115, 121, 115]
def fUs (op : Int) : Bool := inB 3 op 4 || inB 34 op 36 || op == 46
theorem isA_Us (op : Int) : isA op tUs = fUs op := isA_of tUs fUs (by decide +kernel) (fun op h => by simp only [fUs, inB, Bool.or_eq_false_iff, Bool.and_eq_false_iff, beq_eq_false_iff_ne, decide_eq_false_iff_not, ne_eq]; omega) op
abbrev tSe : List UInt8 := [97, 100, 100, 32, 111, 114, 32, 97, 100, 99, 32, 115, 98, 98, 32, 97, 110, 100, 32, 115, 117, 98, 32, 120, 111, 114, 32, 99, 109, 112, 32, 116, 101, 115, 116, 32, 105, 110, 99, 32, 100, 101, 99, 32, 110, 101, 103, 32, 109, 117, 108, 32, 115, 109, 117, 108, 32, 105, 109, 117, 108, 32, 105, 109, 117, 108, 105, 32, 114, 111, 108, 32, 114, 111, 114, 32, 115, 104, 108, 32, 115, 104, 114, 32, 115, 97, 114, 32, 99, 97, 115, 32, 120, 97, 100, 100]
def fSe (op : Int) : Bool := inB 1 op 9 || inB 16 op 17 || inB 19 op 21 || inB 24 op 30 || inB 32 op 33
theorem isA_Se (op : Int) : isA op tSe = fSe op := isA_of tSe fSe (by decide +kernel) (fun op h => by simp only [fSe, inB, Bool.or_eq_false_iff, Bool.and_eq_false_iff, beq_eq_false_iff_ne, decide_eq_false_iff_not, ne_eq]; omega) op
abbrev tEn : List UInt8 := [106, 99, 99, 32, 106, 109, 112, 32, 99, 97, 108, 108, 32, 114, 101, 116, 32, 115, 121, 115, 32, 117, 100]
def fEn (op : Int) : Bool := inB 36 op 39 || inB 46 op 47
theorem isA_En (op : Int) : isA op tEn = fEn op := isA_of tEn fEn (by decide +kernel) (fun op h => by simp only [fEn, inB, Bool.or_eq_false_iff, Bool.and_eq_false_iff, beq_eq_false_iff_ne, decide_eq_false_iff_not, ne_eq]; omega) op
abbrev tMs : List UInt8 := [109, 111, 118, 115, 32, 115, 116, 111, 115]
def fMs (op : Int) : Bool := inB 42 op 43
theorem isA_Ms (op : Int) : isA op tMs = fMs op := isA_of tMs fMs (by decide +kernel) (fun op h => by simp only [fMs, inB, Bool.or_eq_false_iff, Bool.and_eq_false_iff, beq_eq_false_iff_ne, decide_eq_false_iff_not, ne_eq]; omega) op
abbrev tJc : List UInt8 := [106, 99, 99]
def fJc (op : Int) : Bool := op == 36
theorem isA_Jc (op : Int) : isA op tJc = fJc op := isA_of tJc fJc (by decide +kernel) (fun op h => by simp only [fJc, inB, Bool.or_eq_false_iff, Bool.and_eq_false_iff, beq_eq_false_iff_ne, decide_eq_false_iff_not, ne_eq]; omega) op
abbrev tJl : List UInt8 := [106, 109, 112, 32, 99, 97, 108, 108]
def fJl (op : Int) : Bool := inB 37 op 38
theorem isA_Jl (op : Int) : isA op tJl = fJl op := isA_of tJl fJl (by decide +kernel) (fun op h => by simp only [fJl, inB, Bool.or_eq_false_iff, Bool.and_eq_false_iff, beq_eq_false_iff_ne, decide_eq_false_iff_not, ne_eq]; omega) op
abbrev tS1 : List UInt8 := [97, 100, 100, 32, 111, 114, 32, 97, 100, 99, 32, 115, 98, 98, 32, 97, 110, 100, 32, 115, 117, 98, 32, 120, 111, 114, 32, 99, 109, 112, 32, 109, 111, 118]
def fS1 (op : Int) : Bool := inB 1 op 8 || op == 10
theorem isA_S1 (op : Int) : isA op tS1 = fS1 op := isA_of tS1 fS1 (by decide +kernel) (fun op h => by simp only [fS1, inB, Bool.or_eq_false_iff, Bool.and_eq_false_iff, beq_eq_false_iff_ne, decide_eq_false_iff_not, ne_eq]; omega) op
abbrev tS2 : List UInt8 := [116, 101, 115, 116]
def fS2 (op : Int) : Bool := op == 9
theorem isA_S2 (op : Int) : isA op tS2 = fS2 op := isA_of tS2 fS2 (by decide +kernel) (fun op h => by simp only [fS2, inB, Bool.or_eq_false_iff, Bool.and_eq_false_iff, beq_eq_false_iff_ne, decide_eq_false_iff_not, ne_eq]; omega) op
abbrev tS3 : List UInt8 := [109, 111, 118, 122, 120, 32, 109, 111, 118, 115, 120, 32, 105, 109, 117, 108, 32, 105, 109, 117, 108, 105, 32, 99, 109, 111, 118]
def fS3 (op : Int) : Bool := inB 11 op 12 || inB 24 op 25 || op == 34
theorem isA_S3 (op : Int) : isA op tS3 = fS3 op := isA_of tS3 fS3 (by decide +kernel) (fun op h => by simp only [fS3, inB, Bool.or_eq_false_iff, Bool.and_eq_false_iff, beq_eq_false_iff_ne, decide_eq_false_iff_not, ne_eq]; omega) op
abbrev tS4 : List UInt8 := [108, 101, 97]
def fS4 (op : Int) : Bool := op == 13
theorem isA_S4 (op : Int) : isA op tS4 = fS4 op := isA_of tS4 fS4 (by decide +kernel) (fun op h => by simp only [fS4, inB, Bool.or_eq_false_iff, Bool.and_eq_false_iff, beq_eq_false_iff_ne, decide_eq_false_iff_not, ne_eq]; omega) op
abbrev tS5 : List UInt8 := [112, 117, 115, 104]
def fS5 (op : Int) : Bool := op == 14
theorem isA_S5 (op : Int) : isA op tS5 = fS5 op := isA_of tS5 fS5 (by decide +kernel) (fun op h => by simp only [fS5, inB, Bool.or_eq_false_iff, Bool.and_eq_false_iff, beq_eq_false_iff_ne, decide_eq_false_iff_not, ne_eq]; omega) op
abbrev tS6 : List UInt8 := [112, 111, 112]
def fS6 (op : Int) : Bool := op == 15
theorem isA_S6 (op : Int) : isA op tS6 = fS6 op := isA_of tS6 fS6 (by decide +kernel) (fun op h => by simp only [fS6, inB, Bool.or_eq_false_iff, Bool.and_eq_false_iff, beq_eq_false_iff_ne, decide_eq_false_iff_not, ne_eq]; omega) op
abbrev tS7 : List UInt8 := [105, 110, 99, 32, 100, 101, 99, 32, 110, 111, 116, 32, 110, 101, 103, 32, 109, 117, 108, 32, 115, 109, 117, 108]
def fS7 (op : Int) : Bool := inB 16 op 21
theorem isA_S7 (op : Int) : isA op tS7 = fS7 op := isA_of tS7 fS7 (by decide +kernel) (fun op h => by simp only [fS7, inB, Bool.or_eq_false_iff, Bool.and_eq_false_iff, beq_eq_false_iff_ne, decide_eq_false_iff_not, ne_eq]; omega) op
abbrev tS8 : List UInt8 := [100, 105, 118, 32, 115, 100, 105, 118]
def fS8 (op : Int) : Bool := inB 22 op 23
theorem isA_S8 (op : Int) : isA op tS8 = fS8 op := isA_of tS8 fS8 (by decide +kernel) (fun op h => by simp only [fS8, inB, Bool.or_eq_false_iff, Bool.and_eq_false_iff, beq_eq_false_iff_ne, decide_eq_false_iff_not, ne_eq]; omega) op
abbrev tS9 : List UInt8 := [114, 111, 108, 32, 114, 111, 114, 32, 115, 104, 108, 32, 115, 104, 114, 32, 115, 97, 114]
def fS9 (op : Int) : Bool := inB 26 op 30
theorem isA_S9 (op : Int) : isA op tS9 = fS9 op := isA_of tS9 fS9 (by decide +kernel) (fun op h => by simp only [fS9, inB, Bool.or_eq_false_iff, Bool.and_eq_false_iff, beq_eq_false_iff_ne, decide_eq_false_iff_not, ne_eq]; omega) op
abbrev tSa : List UInt8 := [120, 99, 104, 103, 32, 99, 97, 115, 32, 120, 97, 100, 100]
def fSa (op : Int) : Bool := inB 31 op 33
theorem isA_Sa (op : Int) : isA op tSa = fSa op := isA_of tSa fSa (by decide +kernel) (fun op h => by simp only [fSa, inB, Bool.or_eq_false_iff, Bool.and_eq_false_iff, beq_eq_false_iff_ne, decide_eq_false_iff_not, ne_eq]; omega) op
abbrev tSb : List UInt8 := [115, 101, 116]
def fSb (op : Int) : Bool := op == 35
theorem isA_Sb (op : Int) : isA op tSb = fSb op := isA_of tSb fSb (by decide +kernel) (fun op h => by simp only [fSb, inB, Bool.or_eq_false_iff, Bool.and_eq_false_iff, beq_eq_false_iff_ne, decide_eq_false_iff_not, ne_eq]; omega) op
abbrev tSc : List UInt8 := [119, 105, 100, 101, 32, 115, 105, 103, 110]
def fSc (op : Int) : Bool := inB 40 op 41
theorem isA_Sc (op : Int) : isA op tSc = fSc op := isA_of tSc fSc (by decide +kernel) (fun op h => by simp only [fSc, inB, Bool.or_eq_false_iff, Bool.and_eq_false_iff, beq_eq_false_iff_ne, decide_eq_false_iff_not, ne_eq]; omega) op
abbrev tSd : List UInt8 := [106, 99, 99, 32, 114, 101, 116, 32, 102, 101, 110, 99, 101, 32, 110, 111, 112, 32, 115, 121, 115, 32, 117, 100]
def fSd (op : Int) : Bool := op == 36 || op == 39 || inB 44 op 47
theorem isA_Sd (op : Int) : isA op tSd = fSd op := isA_of tSd fSd (by decide +kernel) (fun op h => by simp only [fSd, inB, Bool.or_eq_false_iff, Bool.and_eq_false_iff, beq_eq_false_iff_ne, decide_eq_false_iff_not, ne_eq]; omega) op
abbrev tIi : List UInt8 := [105, 109, 117, 108, 105, 32, 106, 99, 99]
def fIi (op : Int) : Bool := op == 25 || op == 36
theorem isA_Ii (op : Int) : isA op tIi = fIi op := isA_of tIi fIi (by decide +kernel) (fun op h => by simp only [fIi, inB, Bool.or_eq_false_iff, Bool.and_eq_false_iff, beq_eq_false_iff_ne, decide_eq_false_iff_not, ne_eq]; omega) op
abbrev tCc : List UInt8 := [99, 109, 111, 118, 32, 115, 101, 116, 32, 106, 99, 99]
def fCc (op : Int) : Bool := inB 34 op 36
theorem isA_Cc (op : Int) : isA op tCc = fCc op := isA_of tCc fCc (by decide +kernel) (fun op h => by simp only [fCc, inB, Bool.or_eq_false_iff, Bool.and_eq_false_iff, beq_eq_false_iff_ne, decide_eq_false_iff_not, ne_eq]; omega) op
abbrev tMz : List UInt8 := [109, 111, 118, 122, 120, 32, 109, 111, 118, 115, 120]
def fMz (op : Int) : Bool := inB 11 op 12
theorem isA_Mz (op : Int) : isA op tMz = fMz op := isA_of tMz fMz (by decide +kernel) (fun op h => by simp only [fMz, inB, Bool.or_eq_false_iff, Bool.and_eq_false_iff, beq_eq_false_iff_ne, decide_eq_false_iff_not, ne_eq]; omega) op
abbrev tMx : List UInt8 := [109, 111, 118, 115, 120]
def fMx (op : Int) : Bool := op == 12
theorem isA_Mx (op : Int) : isA op tMx = fMx op := isA_of tMx fMx (by decide +kernel) (fun op h => by simp only [fMx, inB, Bool.or_eq_false_iff, Bool.and_eq_false_iff, beq_eq_false_iff_ne, decide_eq_false_iff_not, ne_eq]; omega) op
abbrev tLk : List UInt8 := [97, 100, 100, 32, 111, 114, 32, 97, 100, 99, 32, 115, 98, 98, 32, 97, 110, 100, 32, 115, 117, 98, 32, 120, 111, 114, 32, 105, 110, 99, 32, 100, 101, 99, 32, 110, 111, 116, 32, 110, 101, 103, 32, 120, 99, 104, 103, 32, 99, 97, 115, 32, 120, 97, 100, 100]
def fLk (op : Int) : Bool := inB 1 op 7 || inB 16 op 19 || inB 31 op 33
theorem isA_Lk (op : Int) : isA op tLk = fLk op := isA_of tLk fLk (by decide +kernel) (fun op h => by simp only [fLk, inB, Bool.or_eq_false_iff, Bool.and_eq_false_iff, beq_eq_false_iff_ne, decide_eq_false_iff_not, ne_eq]; omega) op
end Go.Proofs.YtbdddnjncakooaaDoor
