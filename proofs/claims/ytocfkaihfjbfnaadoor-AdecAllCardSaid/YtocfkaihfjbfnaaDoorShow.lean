/- Lemmas: the texts of instructions, by the program and by the reference, are the same, and unlike instructions have unlike ones. No condition. -/
import Derived.Test.YtocfkaihfjbfnaaDoorText
import Derived.Lib.Walk
import Derived.Lib.ItoaMem
import Derived.WalkKit
import Derived.BigCall
import Derived.BigGuard
import Derived.Test.YtocfkaihfjbfnaaDoorWords
import Derived.Test.YtocfkaihfjbfnaaDoorBack
set_option linter.unusedVariables false
set_option linter.unusedSimpArgs false
set_option maxRecDepth 100000
namespace Go.Proofs.YtocfkaihfjbfnaaDoor
open Go.RowKit Go.Sort Go.Lib
/- FormatUint at base 10, of any number. -/
theorem holds_zero0 (w : World) (T : TypeId) (nd : Nat) (hs : nd ≤ 24) : Holds (fun (b : UInt8) => Value.int .u8 (b.toNat : Int)) (w.alloc (.cells Lib.zeros24 T)) w.heap.size 0 (Array.replicate nd (0 : UInt8)) := fun j hj => by
  have hj' : j < nd := by simpa using hj
  refine ⟨?_, World.frozen?_alloc_new _ _ _ _⟩
  rw [World.cell?_alloc_new, Lib.zeros24_at _ (by omega), getElem!_pos _ j hj]
  simp
theorem fin0 (w : World) (o : Obj) (dk : Array UInt8) (k : Nat) : ∃ os, (putRow (fun (b : UInt8) => Value.int .u8 (b.toNat : Int)) (w.alloc o) w.heap.size 0 dk).drewN k = grow (w.drewN k) os := by
  rw [alloc_eq_grow]
  obtain ⟨os', _, e⟩ := putRow_grow_new (fun (b : UInt8) => Value.int .u8 (b.toNat : Int)) w #[o] w.heap.size 0 dk (Nat.le_refl _)
  exact ⟨os', by rw [e]; rfl⟩

set_option maxHeartbeats 6400000 in
theorem formatUint84 (u : Nat) (hu64 : u < 18446744073709551616) (w : World) (htab : Lib.TabIs Tryd.prog w "internal/strconv.uint64pow10" .u64 Lib.pow10Tab) :
    Calls Tryd.prog 84 #[.int .u64 u, .int .i64 10] w fun e w' => e = .returned (.string ⟨(Lib.decDigits u).toArray⟩) ∧ ∃ k os, w' = grow (w.drewN k) os := by
  have mixed : Tryd.prog.follows .mixedOrders = true := by kernel_rfl
  have e89 : ∀ args w, (callFunc 89 args).run Tryd.prog w = .ok (.enter 89 args) w := enters_of Tryd.func89 (by kernel_rfl) rfl
  have e90 : ∀ args w, (callFunc 90 args).run Tryd.prog w = .ok (.enter 90 args) w := enters_of Tryd.func90 (by kernel_rfl) rfl
  have e91 : ∀ args w, (callFunc 91 args).run Tryd.prog w = .ok (.enter 91 args) w := enters_of Tryd.func91 (by kernel_rfl) rfl
  by_cases hs : u < 100
  · have hwr : IntKind.i64.wrap (u : Int) = (u : Int) := by simp [IntKind.wrap, IntKind.signed, IntKind.bits]; omega
    go_enter Tryd.func84, Tryd.ntmps84
    go_wp2_with (go_at_fn 89; refine (Tryd.internal_strconv_small u hs _).mono ?_; rintro e w' ⟨rfl, rfl⟩)
    go_ret
    exact ⟨rfl, 0, #[], by simp [World.drewN_zero]⟩
  · have hu1 : 1 ≤ u := by omega
    have hnd20 : Lib.nDigits u ≤ 20 := by have := Lib.numDigits_eq u hu1 hu64; split at this <;> omega
    have hal : Tryd.prog.arrayLen 104 = 24 := by kernel_rfl
    have hsl1 : ∀ W, (Instr.sliceAt 104 (.pointer (some ⟨w.heap.size, 0, none⟩)) none (some (.int .i64 (Lib.nDigits u : Int))) none).run Tryd.prog W = .ok (.slice (some ⟨w.heap.size, 0, none⟩) (Lib.nDigits u) 24) W := fun W => by
      rw [run_sliceAt_array_h W 104 ⟨w.heap.size, 0, none⟩ (by kernel_rfl) .i64 (Lib.nDigits u : Int) (by omega) (by rw [hal]; omega)]
      go_simp
    have hH0 := holds_zero0 w 104 (Lib.nDigits u) (by omega)
    have hfmt := Tryd.internal_strconv_formatBase10 w.heap.size 0 24 u (Array.replicate (Lib.nDigits u) 0) (w.alloc (.cells Lib.zeros24 104)) hH0 (by rw [Array.size_replicate]; exact Lib.lt_pow_nDigits u) hu64 (by rw [Array.size_replicate]; omega)
    rw [Array.size_replicate] at hfmt
    have HH0 := Lib.hid hH0
    clear hH0 hal
    go_enter Tryd.func84, Tryd.ntmps84
    go_wp2_with (first
      | (go_at_fn 90; refine (Tryd.internal_strconv_numDigits u hu1 hu64 _ (Lib.tabIs_alloc htab _)).mono ?_; rintro e w' ⟨rfl, rfl⟩))
    go_at_fn 91
    refine hfmt.mono ?_
    rintro e w' ⟨rfl, k, v', dk, rfl, hF⟩
    have hcv : (convert 106 9 (.slice (some ⟨w.heap.size, 0, none⟩) (Lib.nDigits u) 24)).run Tryd.prog ((putRow (fun (b : UInt8) => Value.int .u8 (b.toNat : Int)) (w.alloc (.cells Lib.zeros24 104)) w.heap.size 0 dk).drewN k) = .ok (.string ⟨(Lib.decDigits u).toArray⟩) ((putRow (fun (b : UInt8) => Value.int .u8 (b.toNat : Int)) (w.alloc (.cells Lib.zeros24 104)) w.heap.size 0 dk).drewN k) := by
      have h := run_convert_bytes_back (P := Tryd.prog) ((putRow (fun (b : UInt8) => Value.int .u8 (b.toNat : Int)) (w.alloc (.cells Lib.zeros24 104)) w.heap.size 0 dk).drewN k) 106 9 5 ⟨w.heap.size, 0, none⟩ 24 (Lib.decDigits u) (by kernel_rfl) Tryd.underlying5 Tryd.underlying9 (fun j hj => by
        rw [Lib.row_is_numeral hF j hj, Lib.add_plain, World.cell?_drewN]
        exact cell?_putRow (fun (b : UInt8) => Value.int .u8 (b.toNat : Int)) _ w.heap.size 0 _ dk HH0.out (by rw [hF.size, Array.size_replicate]) j (by rw [hF.size]; rw [Lib.decDigits_length] at hj; exact hj))
      rw [Lib.decDigits_length] at h
      exact h
    go_wp2
    go_ret
    obtain ⟨os, eo⟩ := fin0 w (.cells Lib.zeros24 104) dk k
    refine ⟨?_, k, os, eo⟩
    rfl
end Go.Proofs.YtocfkaihfjbfnaaDoor
set_option maxRecDepth 100000
namespace Go.Proofs.YtocfkaihfjbfnaaDoor
open Go.Proofs.YtocfkaihfjbfnaaDoor.Ev Go.RowKit
/- Numbers' texts, of any number. -/
theorem tab_of {w : World} {R : Nat → Prop} (h : Vars w R) : Lib.TabIs Tryd.prog w "internal/strconv.uint64pow10" .u64 Lib.pow10Tab := by
  obtain ⟨_, _, e, f, hf⟩ := h
  unfold Lib.TabIs World.var?
  rw [show Tryd.prog.globalNamed "internal/strconv.uint64pow10" = some 0 by kernel_rfl]
  simp only [Option.bind_some, hf]
theorem fr_grow (w : World) (k : Nat) (os : Array Obj) : Fr w (fun _ => False) (Go.Sort.grow (w.drewN k) os) :=
  ⟨rfl, rfl, rfl, by show w.heap.size ≤ (w.heap ++ os).size; simp, fun b hb _ => by show (w.heap ++ os)[b]? = _; rw [Array.getElem?_append_left hb]⟩
theorem nDigits_le (u : Nat) (h : u < 18446744073709551616) : Lib.nDigits u ≤ 20 := by
  by_cases h1 : 1 ≤ u
  · have := Lib.numDigits_eq u h1 h; split at this <;> omega
  · obtain rfl : u = 0 := by omega
    decide +kernel
theorem dec_len (u : Nat) (h : u < 18446744073709551616) : (Lib.decDigits u).length ≤ 20 := by rw [Lib.decDigits_length]; exact nDigits_le u h
theorem itoa_len {n : Int} (h : IntKind.i64.has n) : (Lib.itoa n).length ≤ 21 := by
  have h1 : -9223372036854775808 ≤ n := h.1
  have h2 : n ≤ 9223372036854775807 := h.2
  by_cases hn : n < 0
  · obtain ⟨u, rfl⟩ : ∃ u : Nat, n = -(u : Int) := ⟨n.natAbs, by omega⟩
    rw [Lib.itoa_neg u (by omega)]
    have := dec_len u (by omega)
    simp; omega
  · obtain ⟨u, rfl⟩ : ∃ u : Nat, n = u := ⟨n.toNat, by omega⟩
    rw [Lib.itoa_nonneg]
    have := dec_len u (by omega)
    omega
def g42 : CSpec | [.i .i64 n] => some ⟨[], .str (Lib.itoa n)⟩ | _ => none
theorem okg42 : FnOk Tryd.prog 42 g42 := FnOk.contract Tryd.func42 (by kernel_rfl) (by kernel_rfl) <| by
  intro xs r hs
  unfold g42 at hs; split at hs <;> cases hs
  rename_i n
  intro hp w R vs hR hG hvs
  cases hvs with
  | cons hv hl =>
    cases hl
    cases hv with
    | i _ hb =>
      refine (Tryd.strconv_Itoa n hb.1 hb.2 w (tab_of hG)).mono ?_
      rintro e w' ⟨rfl, k, os, rfl⟩
      exact ⟨_, rfl, doneStr hR (Nat.le_trans (itoa_len hb) (by decide)) (fr_grow w k os)⟩
def g72 : CSpec | [.i .i64 n, .i .i64 b] => (match b == 10 with
    | true => some ⟨[], .str (Lib.itoa n)⟩
    | false => none) | _ => none
theorem okg72 : FnOk Tryd.prog 72 g72 := FnOk.contract Tryd.func72 (by kernel_rfl) (by kernel_rfl) <| by
  intro xs r hs
  unfold g72 at hs; split at hs <;> try cases hs
  rename_i n b
  split at hs <;> cases hs
  rename_i hb10
  obtain rfl : b = 10 := by simpa using hb10
  intro hp w R vs hR hG hvs
  cases hvs with
  | cons hv hl =>
    cases hl with
    | cons hv2 hl =>
      cases hl
      cases hv2
      cases hv with
      | i _ hb =>
        refine (Tryd.strconv_FormatInt_10 n hb.1 hb.2 w (tab_of hG)).mono ?_
        rintro e w' ⟨rfl, k, os, rfl⟩
        exact ⟨_, rfl, doneStr hR (Nat.le_trans (itoa_len hb) (by decide)) (fr_grow w k os)⟩
def g84 : CSpec | [.u 64 x, .i .i64 b] => (match b == 10 with
    | true => some ⟨[], .str (Lib.decDigits x.toNat)⟩
    | false => none) | _ => none
theorem okg84 : FnOk Tryd.prog 84 g84 := FnOk.contract Tryd.func84 (by kernel_rfl) (by kernel_rfl) <| by
  intro xs r hs
  unfold g84 at hs; split at hs <;> try cases hs
  rename_i n b
  split at hs <;> cases hs
  rename_i hb10
  obtain rfl : b = 10 := by simpa using hb10
  intro hp w R vs hR hG hvs
  cases hvs with
  | cons hv hl =>
    cases hl with
    | cons hv2 hl =>
      cases hl
      cases hv2
      cases hv with
      | u hk =>
        rename_i k
        cases k <;> simp [isU] at hk
        refine (formatUint84 n.toNat (by omega) w (tab_of hG)).mono ?_
        rintro e w' ⟨rfl, k, os, rfl⟩
        exact ⟨_, rfl, doneStr hR (Nat.le_trans (dec_len _ (by omega)) (by decide)) (fr_grow w k os)⟩
noncomputable abbrev SE0 : FuncId → CSpec := withS (withS (withS (withS SN4 69 g69) 42 g42) 72 g72) 84 g84
theorem SE0_ok : ∀ f, FnOk Tryd.prog f (SE0 f) := withS_ok (withS_ok (withS_ok (withS_ok SN4_ok okg69) okg42) okg72) okg84
def g71 : CSpec | [.u 64 x, .i .i64 b] => (match b == 10 with
    | true => some ⟨[], .str (Lib.decDigits x.toNat)⟩
    | false => none) | _ => none
theorem okg71 : FnOk Tryd.prog 71 g71 := okBy SE0_ok Tryd.func71 (by kernel_rfl) (by kernel_rfl) 1 <| by
  intro xs r hs
  unfold g71 at hs; split at hs <;> try cases hs
  rename_i x b
  split at hs <;> cases hs
  rename_i hb10
  obtain rfl : b = 10 := by simpa using hb10
  intro hp _
  show (evFn T SE0 noL 1 Tryd.f71 [.u 64 x, .i .i64 10]).run = some (.str (Lib.decDigits x.toNat))
  kernel_rfl
end Go.Proofs.YtocfkaihfjbfnaaDoor
set_option maxRecDepth 100000
namespace Go.Proofs.YtocfkaihfjbfnaaDoor
open Go.Proofs.YtocfkaihfjbfnaaDoor.Ev Go.RowKit
/- An instruction's text, by the program. -/
noncomputable abbrev SE1 : FuncId → CSpec := withS SE0 71 g71
theorem SE1_ok : ∀ f, FnOk Tryd.prog f (SE1 f) := withS_ok SE0_ok okg71
def showF (d n m a : Int) (imm : W64) (off cond r s : Int) (k : Int) : List UInt8 :=
  if (k == 100) = true then 120 :: Lib.itoa d else if (k == 110) = true then 120 :: Lib.itoa n else if (k == 109) = true then 120 :: Lib.itoa m else if (k == 97) = true then 120 :: Lib.itoa a
  else if (k == 105) = true then Lib.decDigits imm.toNat else if (k == 115) = true then Lib.itoa s else if (k == 114) = true then Lib.itoa r else if (k == 99) = true then Lib.itoa cond else Lib.itoa off
theorem has_all {C : Ctx} {op w d n m a : Int} {imm : W64} {off cond r s : Int} {v : Value} (h : VR C (.agg (cI op w d n m a imm off cond r s)) v) :
    IntKind.i64.has w ∧ IntKind.i64.has d ∧ IntKind.i64.has n ∧ IntKind.i64.has m ∧ IntKind.i64.has a ∧ IntKind.i64.has off ∧ IntKind.i64.has cond ∧ IntKind.i64.has r ∧ IntKind.i64.has s := by
  cases h with
  | agg h =>
    cases h with | one _ _ h0 h => cases h with | one _ _ h1 h => cases h with | one _ _ h2 h => cases h with | one _ _ h3 h => cases h with | one _ _ h4 h => cases h with | one _ _ h5 h => cases h with | one _ _ h6 h => cases h with | one _ _ h7 h => cases h with | one _ _ h8 h => cases h with | one _ _ h9 h => cases h with | one _ _ h10 h =>
      have hi : ∀ {x : Int} {v : Value}, VR C (.i .i64 x) v → IntKind.i64.has x := fun h => by cases h with | i _ h => exact h
      exact ⟨hi h1, hi h2, hi h3, hi h4, hi h5, hi h7, hi h8, hi h9, hi h10⟩
theorem lenX {x : Int} (h : IntKind.i64.has x) : decide (([120] : List UInt8).length + (Lib.itoa x).length ≤ 9223372036854775807) = true := by
  have := itoa_len h
  simp; omega
def g44 : CSpec | [.agg (cI op w d n m a imm off cond r s), .i .i32 k] => some ⟨[], .str (showF d n m a imm off cond r s k)⟩ | _ => none
theorem okg44 : FnOk Tryd.prog 44 g44 := okBy SE1_ok Tryd.func44 (by kernel_rfl) (by kernel_rfl) 1 <| by
  intro xs r hs
  unfold g44 at hs; split at hs <;> cases hs
  rename_i op w d n m a imm off cond r s k
  rintro hp ⟨W, R, vs, hvs⟩
  cases hvs with
  | cons hv hl =>
    obtain ⟨_, hd, hn, hm, ha, _⟩ := has_all hv
    clear hl hv
    have e : (evFn T SE1 noL 1 Tryd.f44 [.agg (cI op w d n m a imm off cond r s), .i .i32 k]).run =
        if (if (k == 100) = true then decide (([120] : List UInt8).length + (Lib.itoa d).length ≤ 9223372036854775807) else true) = true then
        if (if (k == 100) = true then true else if (k == 110) = true then decide (([120] : List UInt8).length + (Lib.itoa n).length ≤ 9223372036854775807) else true) = true then
        if (if (k == 100) = true then true else if (k == 110) = true then true else if (k == 109) = true then decide (([120] : List UInt8).length + (Lib.itoa m).length ≤ 9223372036854775807) else true) = true then
        if (if (k == 100) = true then true else if (k == 110) = true then true else if (k == 109) = true then true else if (k == 97) = true then decide (([120] : List UInt8).length + (Lib.itoa a).length ≤ 9223372036854775807) else true) = true then
        (if (k == 100) = true then some (.str ([120] ++ Lib.itoa d)) else if (k == 110) = true then some (.str ([120] ++ Lib.itoa n)) else if (k == 109) = true then some (.str ([120] ++ Lib.itoa m)) else if (k == 97) = true then some (.str ([120] ++ Lib.itoa a))
          else if (k == 105) = true then some (.str (Lib.decDigits imm.toNat)) else if (k == 115) = true then some (.str (Lib.itoa s)) else if (k == 114) = true then some (.str (Lib.itoa r)) else if (k == 99) = true then some (.str (Lib.itoa cond)) else some (.str (Lib.itoa off))) else none else none else none else none := by kernel_rfl
    show _ = some (AV.str (showF d n m a imm off cond r s k))
    rw [e, lenX hd, lenX hn, lenX hm, lenX ha]
    unfold showF
    simp only [ite_self, if_true]
    (repeat' split) <;> rfl
/- The fields of each operation. -/
def fldT : List (List UInt8) := [[],
  [100, 110, 105], [100, 110, 105], [100, 110, 105], [100, 110, 105], [100, 110, 109, 115], [100, 110, 109, 115], [100, 110, 109, 115], [100, 110, 109, 115], [100, 110, 109, 115], [100, 110, 109, 115], [100, 110, 109, 115], [100, 110, 109, 115],
  [100, 110, 105], [100, 110, 105], [100, 110, 105], [100, 105, 115], [100, 105, 115], [100, 105, 115], [100, 110, 109, 97], [100, 110, 109, 97], [100, 110, 109], [100, 110, 109], [100, 110, 109], [100, 110, 109], [100, 110, 109], [100, 110, 109], [100, 110, 109], [100, 110, 109],
  [100, 110, 115, 114], [100, 110, 115, 114], [100, 110, 109, 99], [100, 110, 109, 99], [100, 110, 105], [100, 110, 105], [100, 110], [100, 110], [100, 110], [100, 110, 109], [105], [111], [99, 111], [100, 111], [100, 111], [110], [105], [105], []]
def LHu : Nat → Live := fun r => match r with
  | 4 => ⟨[4, 46, 47, 48], [], [], none⟩
  | _ => ⟨[], [], [], none⟩
def g43 : CSpec | [.i .i64 op] => some ⟨[inB 1 op 47], .str (fldT.getD op.toNat [])⟩ | _ => none
theorem okg43 : FnOk Tryd.prog 43 g43 := FnOk.of tyOk SE0_ok mixed (L := LHu) Tryd.func43 (by kernel_rfl) (by kernel_rfl) (fun xs r hs hp w R vs hvs => by
  unfold g43 at hs; split at hs <;> cases hs
  rename_i op
  have h : inB 1 op 47 = true := hp _ (List.mem_cons_self ..)
  refine ⟨10, FnLoops.no (by kernel_rfl), ?_⟩
  have hr : 1 ≤ op ∧ op ≤ 47 := by simpa [inB] using h
  show (evFn T SE0 LHu 10 Tryd.f43 [.i .i64 op]).run = some (.str (fldT.getD op.toNat []))
  rcases range47_of hr with rfl | rfl | rfl | rfl | rfl | rfl | rfl | rfl | rfl | rfl | rfl | rfl | rfl | rfl | rfl | rfl | rfl | rfl | rfl | rfl | rfl | rfl | rfl | rfl | rfl | rfl | rfl | rfl | rfl | rfl | rfl | rfl | rfl | rfl | rfl | rfl | rfl | rfl | rfl | rfl | rfl | rfl | rfl | rfl | rfl | rfl | rfl <;> kernel_rfl)
end Go.Proofs.YtocfkaihfjbfnaaDoor
set_option maxRecDepth 100000
namespace Go.Proofs.YtocfkaihfjbfnaaDoor
open Go.Proofs.YtocfkaihfjbfnaaDoor.Ev Go.RowKit
/- Show. -/
noncomputable abbrev SE2 : FuncId → CSpec := withS (withS (withS SE1 41 g41) 43 g43) 44 g44
theorem SE2_ok : ∀ f, FnOk Tryd.prog f (SE2 f) := withS_ok (withS_ok (withS_ok SE1_ok okg41) okg43) okg44
/-- Parts, one behind another, as the program joins them. -/
def catR : List UInt8 → List (List UInt8) → Option AV
  | acc, [] => some (.str acc)
  | acc, p :: ps => if decide (acc.length + (([32] : List UInt8) ++ p).length ≤ 9223372036854775807) = true then if decide (([32] : List UInt8).length + p.length ≤ 9223372036854775807) = true then catR (acc ++ ([32] ++ p)) ps else none else none
def catL : List UInt8 → List (List UInt8) → List UInt8
  | acc, [] => acc
  | acc, p :: ps => catL (acc ++ ([32] ++ p)) ps
theorem catR_ok : ∀ (ps : List (List UInt8)) (acc : List UInt8), (∀ p ∈ ps, p.length ≤ 22) → acc.length + 23 * ps.length ≤ 1000000 → catR acc ps = some (.str (catL acc ps))
  | [], acc, _, _ => rfl
  | p :: ps, acc, h, hl => by
    have hp := h p (List.mem_cons_self ..)
    simp only [List.length_cons] at hl
    have h1 : decide (acc.length + (([32] : List UInt8) ++ p).length ≤ 9223372036854775807) = true := by simp; omega
    have h2 : decide (([32] : List UInt8).length + p.length ≤ 9223372036854775807) = true := by simp; omega
    rw [catR, h1, h2, if_pos rfl, if_pos rfl, catR_ok ps _ (fun q hq => h q (List.mem_cons_of_mem _ hq)) (by simp; omega)]
    rfl
/-- The head of a text. -/
def preR (op w : Int) (k : List UInt8 → Option AV) : Option AV := if inB 33 op 38 = true then
    (if decide ((namesT.getD (op - 1).toNat []).length + (([46] : List UInt8) ++ Lib.itoa w).length ≤ 9223372036854775807) = true then if decide (([46] : List UInt8).length + (Lib.itoa w).length ≤ 9223372036854775807) = true then k (namesT.getD (op - 1).toNat [] ++ ([46] ++ Lib.itoa w)) else none else none)
  else k (namesT.getD (op - 1).toNat [])
def preA (op w : Int) : List UInt8 := if inB 33 op 38 = true then namesT.getD (op - 1).toNat [] ++ ([46] ++ Lib.itoa w) else namesT.getD (op - 1).toNat []
def partsA (op d n m a : Int) (imm : W64) (off cond r s : Int) : List (List UInt8) := (fldT.getD op.toNat []).map fun c => showF d n m a imm off cond r s (c.toNat : Int)
def showA (op w d n m a : Int) (imm : W64) (off cond r s : Int) : List UInt8 := catL (preA op w) (partsA op d n m a imm off cond r s)
theorem names_len (i : Nat) : (namesT.getD i []).length ≤ 10 := by
  have : ∀ x ∈ namesT, x.length ≤ 10 := by decide +kernel
  rw [List.getD_eq_getElem?_getD]
  cases h : namesT[i]? with
  | none => simp
  | some x => exact this x (List.mem_of_getElem? h)
theorem pre_len {op w : Int} (h : IntKind.i64.has w) : (preA op w).length ≤ 40 := by
  have h1 := names_len (op - 1).toNat
  have h2 := itoa_len h
  unfold preA
  split
  · simp only [List.length_append, List.length_cons, List.length_nil]; omega
  · omega
theorem preR_ok {op w : Int} (h : IntKind.i64.has w) (k : List UInt8 → Option AV) : preR op w k = k (preA op w) := by
  have h1 := names_len (op - 1).toNat
  have h2 := itoa_len h
  have e1 : decide ((namesT.getD (op - 1).toNat []).length + (([46] : List UInt8) ++ Lib.itoa w).length ≤ 9223372036854775807) = true := by simp only [List.length_append, List.length_cons, List.length_nil, decide_eq_true_eq]; omega
  have e2 : decide (([46] : List UInt8).length + (Lib.itoa w).length ≤ 9223372036854775807) = true := by simp only [List.length_cons, List.length_nil, decide_eq_true_eq]; omega
  unfold preR preA
  rw [e1, e2]
  split <;> rfl
theorem showF_len {d n m a : Int} {imm : W64} {off cond r s : Int} (hd : IntKind.i64.has d) (hn : IntKind.i64.has n) (hm : IntKind.i64.has m) (ha : IntKind.i64.has a) (ho : IntKind.i64.has off) (hc : IntKind.i64.has cond) (hr : IntKind.i64.has r) (hs : IntKind.i64.has s) (k : Int) : (showF d n m a imm off cond r s k).length ≤ 22 := by
  have := itoa_len hd; have := itoa_len hn; have := itoa_len hm; have := itoa_len ha; have := itoa_len ho; have := itoa_len hc; have := itoa_len hr; have := itoa_len hs
  have := dec_len imm.toNat (by omega)
  unfold showF
  (repeat' split) <;> (try simp only [List.length_cons]) <;> omega
theorem fld_len (i : Nat) : (fldT.getD i []).length ≤ 4 := by
  have : ∀ x ∈ fldT, x.length ≤ 4 := by decide +kernel
  rw [List.getD_eq_getElem?_getD]
  cases h : fldT[i]? with
  | none => simp
  | some x => exact this x (List.mem_of_getElem? h)
theorem run13 (op w d n m a : Int) (imm : W64) (off cond r s : Int) (h : 1 ≤ op ∧ op ≤ 47) : (evFn T SE2 LWt 7 Tryd.f13 [.agg (cI op w d n m a imm off cond r s)]).run = if (!mayA op w d n m a imm off cond r s) = true then some (.str [63]) else preR op w fun x => catR x (partsA op d n m a imm off cond r s) := by
  rcases range47_of h with rfl | rfl | rfl | rfl | rfl | rfl | rfl | rfl | rfl | rfl | rfl | rfl | rfl | rfl | rfl | rfl | rfl | rfl | rfl | rfl | rfl | rfl | rfl | rfl | rfl | rfl | rfl | rfl | rfl | rfl | rfl | rfl | rfl | rfl | rfl | rfl | rfl | rfl | rfl | rfl | rfl | rfl | rfl | rfl | rfl | rfl | rfl <;> kernel_rfl
/-- A tree that asks first. -/
def iteT {α : Type} : Tr α → Option (Bool × Tr α)
  | .ite c t _ => some (c, t)
  | _ => none
theorem iteT_run {α : Type} {t u : Tr α} {c : Bool} (h : iteT t = some (c, u)) (hc : c = true) : t.run = u.run := by
  cases t <;> simp [iteT] at h
  obtain ⟨rfl, rfl⟩ := h
  simp [Tr.run, hc]
def g13 : CSpec | [.agg (cI op w d n m a imm off cond r s)] => some ⟨[], .str (if mayA op w d n m a imm off cond r s = true then showA op w d n m a imm off cond r s else [63])⟩ | _ => none
theorem okg13 : FnOk Tryd.prog 13 g13 := FnOk.of tyOk SE2_ok mixed (L := LWt) Tryd.func13 (by kernel_rfl) (by kernel_rfl) (fun xs r hs hp W R vs hvs => by
  unfold g13 at hs; split at hs <;> cases hs
  rename_i op w d n m a imm off cond r s
  refine ⟨7, FnLoops.no (by kernel_rfl), ?_⟩
  show (evFn T SE2 LWt 7 Tryd.f13 [.agg (cI op w d n m a imm off cond r s)]).run = some (.str (if mayA op w d n m a imm off cond r s = true then showA op w d n m a imm off cond r s else [63]))
  cases hm : mayA op w d n m a imm off cond r s with
  | true =>
    rw [run13 _ _ _ _ _ _ _ _ _ _ _ (may_range hm), hm]
    cases hvs with
    | cons hv hl =>
      obtain ⟨hw, hd, hn, hm, ha, ho, hc, hr, hs⟩ := has_all hv
      rw [if_neg (by simp), preR_ok hw, catR_ok]
      · rfl
      · intro p hp
        obtain ⟨c, _, rfl⟩ := List.mem_map.1 hp
        exact showF_len hd hn hm ha ho hc hr hs _
      · have h1 := pre_len (op := op) hw
        have h2 := fld_len op.toNat
        unfold partsA
        rw [List.length_map]
        omega
  | false =>
    have e : iteT (evFn T SE2 LWt 7 Tryd.f13 [.agg (cI op w d n m a imm off cond r s)]) = some (!mayA op w d n m a imm off cond r s, .leaf (.str [63])) := by kernel_rfl
    rw [iteT_run e (by rw [hm]; rfl)]
    rfl)
end Go.Proofs.YtocfkaihfjbfnaaDoor
set_option maxRecDepth 100000
namespace Go.Proofs.YtocfkaihfjbfnaaDoor
open Go.RowKit
/- The reference's numbers' texts. -/
theorem digit_slice (d : Nat) (hd : d < 10) (W : World) : (Instr.slice 9 (.string ⟨#[48, 49, 50, 51, 52, 53, 54, 55, 56, 57]⟩) (some (.int .u64 (d : Int))) (some (.int .u64 ((d : Int) + 1))) none).run Tryd.prog W = .ok (.string ⟨#[UInt8.ofNat (48 + d)]⟩) W := by
  have : d = 0 ∨ d = 1 ∨ d = 2 ∨ d = 3 ∨ d = 4 ∨ d = 5 ∨ d = 6 ∨ d = 7 ∨ d = 8 ∨ d = 9 := by omega
  rcases this with rfl | rfl | rfl | rfl | rfl | rfl | rfl | rfl | rfl | rfl <;> rfl
set_option maxHeartbeats 6400000 in
theorem digits_end (u : Nat) (h : u < 10) (c : UInt8) (hsl : ∀ W, (Instr.slice 9 (.string ⟨#[48, 49, 50, 51, 52, 53, 54, 55, 56, 57]⟩) (some (.int .u64 ((u : Int) % 10))) (some (.int .u64 ((u : Int) % 10 + 1))) none).run Tryd.prog W = .ok (.string ⟨#[c]⟩) W) (w : World) :
    Calls Tryd.prog 73 #[.int .u64 u] w fun e w' => e = .returned (.string ⟨#[c]⟩) ∧ w' = w := by
  have mixed : Tryd.prog.follows .mixedOrders = true := by kernel_rfl
  go_enter Tryd.func73, Tryd.ntmps73
  go_wp2
  go_ret
  exact ⟨rfl, rfl⟩
set_option maxHeartbeats 6400000 in
theorem digits_step (u : Nat) (hu : u < 18446744073709551616) (h : ¬ u < 10) (c : UInt8) (hsl : ∀ W, (Instr.slice 9 (.string ⟨#[48, 49, 50, 51, 52, 53, 54, 55, 56, 57]⟩) (some (.int .u64 ((u : Int) % 10))) (some (.int .u64 ((u : Int) % 10 + 1))) none).run Tryd.prog W = .ok (.string ⟨#[c]⟩) W)
    (x : ByteArray) (hx : x.size ≤ 20)
    (ih : ∀ w, Calls Tryd.prog 73 #[.int .u64 ((u / 10 : Nat) : Int)] w fun e w' => e = .returned (.string x) ∧ w' = w) (w : World) :
    Calls Tryd.prog 73 #[.int .u64 u] w fun e w' => e = .returned (.string (x ++ ⟨#[c]⟩)) ∧ w' = w := by
  have mixed : Tryd.prog.follows .mixedOrders = true := by kernel_rfl
  have e73 : ∀ args w, (callFunc 73 args).run Tryd.prog w = .ok (.enter 73 args) w := enters_of Tryd.func73 (by kernel_rfl) rfl
  have hsz : x.size + 1 ≤ 9223372036854775807 := by omega
  go_enter Tryd.func73, Tryd.ntmps73
  go_wp2_with (go_at_fn 73; refine (ih _).mono ?_; rintro e w' ⟨rfl, rfl⟩)
  go_ret
  exact ⟨rfl, rfl⟩
theorem digits73 (u : Nat) (hu : u < 18446744073709551616) (w : World) : Calls Tryd.prog 73 #[.int .u64 u] w fun e w' => e = .returned (.string ⟨(Lib.decDigits u).toArray⟩) ∧ w' = w := by
  induction u using Nat.strongRecOn generalizing w with
  | ind u ih =>
  have hsl : ∀ W, (Instr.slice 9 (.string ⟨#[48, 49, 50, 51, 52, 53, 54, 55, 56, 57]⟩) (some (.int .u64 ((u : Int) % 10))) (some (.int .u64 ((u : Int) % 10 + 1))) none).run Tryd.prog W = .ok (.string ⟨#[UInt8.ofNat (48 + u % 10)]⟩) W := fun W => by
    have := digit_slice (u % 10) (by omega) W
    rw [show ((u % 10 : Nat) : Int) = (u : Int) % 10 by omega] at this
    exact this
  by_cases h : u < 10
  · rw [Lib.decDigits, dif_pos h]
    have := digits_end u h _ hsl w
    rwa [show u % 10 = u by omega] at this
  · have := digits_step u hu h _ hsl ⟨(Lib.decDigits (u / 10)).toArray⟩ (by
      have := dec_len (u / 10) (by omega)
      simpa [ByteArray.size] using this) (fun w => ih (u / 10) (by omega) (by omega) w) w
    refine this.mono ?_
    rintro e w' ⟨rfl, rfl⟩
    refine ⟨?_, rfl⟩
    have hd : Lib.decDigits u = Lib.decDigits (u / 10) ++ [UInt8.ofNat (48 + u % 10)] := by rw [Lib.decDigits, dif_neg h]
    rw [hd]
    congr 2
open Go.Proofs.YtocfkaihfjbfnaaDoor.Ev
def g73 : CSpec | [.u 64 x] => some ⟨[], .str (Lib.decDigits x.toNat)⟩ | _ => none
theorem okg73 : FnOk Tryd.prog 73 g73 := FnOk.contract Tryd.func73 (by kernel_rfl) (by kernel_rfl) <| by
  intro xs r hs
  unfold g73 at hs; split at hs <;> cases hs
  rename_i n
  intro hp w R vs hR hG hvs
  cases hvs with
  | cons hv hl =>
    cases hl
    cases hv with
    | u hk =>
      rename_i k
      cases k <;> simp [isU] at hk
      refine (digits73 n.toNat (by omega) w).mono ?_
      rintro e w' ⟨rfl, rfl⟩
      exact ⟨_, rfl, doneStr hR (Nat.le_trans (dec_len _ (by omega)) (by decide)) (.refl _ _)⟩
noncomputable abbrev SF0 : FuncId → CSpec := withS SE0 73 g73
theorem SF0_ok : ∀ f, FnOk Tryd.prog f (SF0 f) := withS_ok SE0_ok okg73
def g45 : CSpec | [.i .i64 x] => some ⟨[], .str (Lib.itoa x)⟩ | _ => none
theorem okg45 : FnOk Tryd.prog 45 g45 := okBy SF0_ok Tryd.func45 (by kernel_rfl) (by kernel_rfl) 1 <| by
  intro xs r hs
  unfold g45 at hs; split at hs <;> cases hs
  rename_i x
  rintro hp ⟨W, R, vs, hvs⟩
  have hx : IntKind.i64.has x := by
    cases hvs with
    | cons hv hl => cases hv with | i _ h => exact h
  have h1 : -9223372036854775808 ≤ x := hx.1
  have h2 : x ≤ 9223372036854775807 := hx.2
  have e : (evFn T SF0 noL 1 Tryd.f45 [.i .i64 x]).run = if (if decide (x < 0) = true then decide (([45] : List UInt8).length + (Lib.decDigits (BitVec.ofInt 64 (IntKind.i64.wrap (-(IntKind.i64.wrap (x + 1)))) + 1#64).toNat).length ≤ 9223372036854775807) else true) = true then
      (if decide (x < 0) = true then some (.str ([45] ++ Lib.decDigits (BitVec.ofInt 64 (IntKind.i64.wrap (-(IntKind.i64.wrap (x + 1)))) + 1#64).toNat)) else some (.str (Lib.decDigits (BitVec.ofInt 64 x).toNat))) else none := by kernel_rfl
  show _ = some (AV.str (Lib.itoa x))
  rw [e]
  by_cases hn : x < 0
  · have hv : (BitVec.ofInt 64 (IntKind.i64.wrap (-(IntKind.i64.wrap (x + 1)))) + 1#64).toNat = x.natAbs := by
      have w1 : IntKind.i64.wrap (x + 1) = x + 1 := wrap_small _ (by omega) (by omega)
      have w2 : IntKind.i64.wrap (-(x + 1)) = -(x + 1) := wrap_small _ (by omega) (by omega)
      rw [w1, w2, BitVec.toNat_add, BitVec.toNat_ofInt]
      simp
      omega
    rw [hv]
    have hl := dec_len x.natAbs (by omega)
    have hi : Lib.itoa x = 45 :: Lib.decDigits x.natAbs := by unfold Lib.itoa; rw [if_pos hn]
    rw [hi]
    simp [hn]
    omega
  · have hv : (BitVec.ofInt 64 x).toNat = x.toNat := by rw [BitVec.toNat_ofInt]; omega
    have hi : Lib.itoa x = Lib.decDigits x.toNat := by unfold Lib.itoa; rw [if_neg hn]
    rw [hv, hi]
    simp [hn]
end Go.Proofs.YtocfkaihfjbfnaaDoor
set_option maxRecDepth 100000
namespace Go.Proofs.YtocfkaihfjbfnaaDoor
open Go.Proofs.YtocfkaihfjbfnaaDoor.Ev Go.RowKit
/- The reference's Show. -/
noncomputable abbrev SF2 : FuncId → CSpec := withS (withS SQ2 12 sr26) 45 g45
theorem SF2_ok : ∀ f, FnOk Tryd.prog f (SF2 f) := withS_ok (withS_ok SQ2_ok okr28) okg45
def LS : Nat → Live := fun r => match r with
  | 7 => ⟨[1, 3, 22, 23, 24], [(1, 0), (1, 1), (1, 2), (1, 3), (1, 4), (1, 5), (1, 6), (1, 7), (1, 8), (1, 9), (1, 10)], [1], none⟩
  | _ => ⟨[], [], [], none⟩
/-- A part behind what there is. -/
def addR (x p : List UInt8) (acc : List UInt8) (k : List UInt8 → Option AV) : Option AV :=
  if decide (acc.length + (x ++ p).length ≤ 9223372036854775807) = true then if decide (x.length + p.length ≤ 9223372036854775807) = true then k (acc ++ (x ++ p)) else none else none
def onR (b : Bool) (x p : List UInt8) (acc : List UInt8) (k : List UInt8 → Option AV) : Option AV := match b with
  | true => addR x p acc k
  | false => k acc
/-- A number without a sign, by its last digit and the others. -/
def immA (imm : W64) : List UInt8 := ([32] ++ Lib.itoa (IntKind.i64.wrap ((imm / 10#64).toNat : Int))) ++ Lib.itoa (IntKind.i64.wrap ((imm % 10#64).toNat : Int))
def immB (imm : W64) : List UInt8 := [32] ++ Lib.itoa (IntKind.i64.wrap (imm.toNat : Int))
def immR (imm : W64) (acc : List UInt8) (k : List UInt8 → Option AV) : Option AV :=
  if (if decide ((10#64).toNat ≤ imm.toNat) = true then decide (acc.length + (immA imm).length ≤ 9223372036854775807) else true) = true then
  if (if decide ((10#64).toNat ≤ imm.toNat) = true then decide (([32] ++ Lib.itoa (IntKind.i64.wrap ((imm / 10#64).toNat : Int))).length + (Lib.itoa (IntKind.i64.wrap ((imm % 10#64).toNat : Int))).length ≤ 9223372036854775807) else true) = true then
  if (if decide ((10#64).toNat ≤ imm.toNat) = true then !((10#64 : W64) == 0#64) else true) = true then
  if (if decide ((10#64).toNat ≤ imm.toNat) = true then decide (([32] : List UInt8).length + (Lib.itoa (IntKind.i64.wrap ((imm / 10#64).toNat : Int))).length ≤ 9223372036854775807) else true) = true then
  if (if decide ((10#64).toNat ≤ imm.toNat) = true then !((10#64 : W64) == 0#64) else true) = true then
  if (if decide ((10#64).toNat ≤ imm.toNat) = true then true else decide (acc.length + (immB imm).length ≤ 9223372036854775807)) = true then
  if (if decide ((10#64).toNat ≤ imm.toNat) = true then true else decide (([32] : List UInt8).length + (Lib.itoa (IntKind.i64.wrap (imm.toNat : Int))).length ≤ 9223372036854775807)) = true then
    k (if decide ((10#64).toNat ≤ imm.toNat) = true then acc ++ immA imm else acc ++ immB imm)
  else none else none else none else none else none else none else none
def onImm (b : Bool) (imm : W64) (acc : List UInt8) (k : List UInt8 → Option AV) : Option AV := match b with
  | true => immR imm acc k
  | false => k acc
theorem run14 (op w d n m a : Int) (imm : W64) (off cond r s : Int) (h : 1 ≤ op ∧ op ≤ 47) : (evFn T SF2 LS 5 Tryd.f14 [.agg (cI op w d n m a imm off cond r s)]).run = if (!mayA op w d n m a imm off cond r s) = true then some (.str [63]) else
    onR (hasA op [122]) [46] (Lib.itoa w) (nameOf op) fun x => onR (hasA op [100, 101]) [32, 120] (Lib.itoa d) x fun x => onR (hasA op [110, 98]) [32, 120] (Lib.itoa n) x fun x => onR (hasA op [109, 116]) [32, 120] (Lib.itoa m) x fun x => onR (hasA op [97]) [32, 120] (Lib.itoa a) x fun x =>
    onImm (hasA op [105, 108, 119, 117, 102]) imm x fun x => onR (hasA op [115, 104]) [32] (Lib.itoa s) x fun x => onR (hasA op [114]) [32] (Lib.itoa r) x fun x => onR (hasA op [99, 107]) [32] (Lib.itoa cond) x fun x => onR (hasA op [106, 103]) [32] (Lib.itoa off) x fun x => some (.str x) := by
  rcases range47_of h with rfl | rfl | rfl | rfl | rfl | rfl | rfl | rfl | rfl | rfl | rfl | rfl | rfl | rfl | rfl | rfl | rfl | rfl | rfl | rfl | rfl | rfl | rfl | rfl | rfl | rfl | rfl | rfl | rfl | rfl | rfl | rfl | rfl | rfl | rfl | rfl | rfl | rfl | rfl | rfl | rfl | rfl | rfl | rfl | rfl | rfl | rfl
  all_goals kernel_rfl
end Go.Proofs.YtocfkaihfjbfnaaDoor
set_option maxRecDepth 100000
namespace Go.Proofs.YtocfkaihfjbfnaaDoor
open Go.Proofs.YtocfkaihfjbfnaaDoor.Ev Go.RowKit
/- Both texts are one. -/
def onL (b : Bool) (x p acc : List UInt8) : List UInt8 := match b with
  | true => acc ++ (x ++ p)
  | false => acc
theorem onR_ok {b : Bool} {x p acc : List UInt8} {k : List UInt8 → Option AV} {n : Nat} (hx : x.length ≤ 2) (hp : p.length ≤ 21) (ha : acc.length ≤ n) (hn : n ≤ 1000000) : onR b x p acc k = k (onL b x p acc) ∧ (onL b x p acc).length ≤ n + 23 := by
  cases b with
  | false => exact ⟨rfl, by show acc.length ≤ _; omega⟩
  | true =>
    have e1 : decide (acc.length + (x ++ p).length ≤ 9223372036854775807) = true := by simp only [List.length_append, decide_eq_true_eq]; omega
    have e2 : decide (x.length + p.length ≤ 9223372036854775807) = true := by simp only [decide_eq_true_eq]; omega
    refine ⟨?_, by show (acc ++ (x ++ p)).length ≤ _; simp only [List.length_append]; omega⟩
    show addR x p acc k = _
    unfold addR
    rw [e1, e2]
    rfl
theorem dec_split (u : Nat) (h : 10 ≤ u) : Lib.decDigits u = Lib.decDigits (u / 10) ++ Lib.decDigits (u % 10) := by
  rw [Lib.decDigits, dif_neg (by omega)]
  congr 1
  rw [Lib.decDigits, dif_pos (by omega)]
theorem itoa_nat (u : Nat) : Lib.itoa (u : Int) = Lib.decDigits u := Lib.itoa_nonneg u
theorem immA_eq {imm : W64} (h : 10 ≤ imm.toNat) : immA imm = [32] ++ Lib.decDigits imm.toNat := by
  unfold immA
  have h1 : (imm / 10#64).toNat = imm.toNat / 10 := by simp [BitVec.toNat_udiv]
  have h2 : (imm % 10#64).toNat = imm.toNat % 10 := by simp [BitVec.toNat_umod]
  rw [h1, h2, wrap_small _ (by omega) (by omega), wrap_small _ (by omega) (by omega), itoa_nat, itoa_nat, List.append_assoc, ← dec_split _ h]
theorem immB_eq {imm : W64} (h : imm.toNat < 10) : immB imm = [32] ++ Lib.decDigits imm.toNat := by
  unfold immB
  rw [wrap_small _ (by omega) (by omega), itoa_nat]
theorem immR_ok {b : Bool} {imm : W64} {acc : List UInt8} {k : List UInt8 → Option AV} {n : Nat} (ha : acc.length ≤ n) (hn : n ≤ 1000000) : onImm b imm acc k = k (onL b [32] (Lib.decDigits imm.toNat) acc) ∧ (onL b [32] (Lib.decDigits imm.toNat) acc).length ≤ n + 23 := by
  have hl := dec_len imm.toNat (by omega)
  cases b with
  | false => exact ⟨rfl, by show acc.length ≤ _; omega⟩
  | true =>
    refine ⟨?_, by show (acc ++ ([32] ++ Lib.decDigits imm.toNat)).length ≤ _; simp only [List.length_append, List.length_cons, List.length_nil]; omega⟩
    show immR imm acc k = k (acc ++ ([32] ++ Lib.decDigits imm.toNat))
    unfold immR
    have w1 : ∀ x : Nat, x < 18446744073709551616 → (Lib.itoa (IntKind.i64.wrap (x : Int))).length ≤ 21 := fun x _ => itoa_len (wrap_has _ _)
    have l1 := w1 (imm / 10#64).toNat (by omega)
    have l2 := w1 (imm % 10#64).toNat (by omega)
    have l3 := w1 imm.toNat (by omega)
    by_cases hc : (10#64 : W64).toNat ≤ imm.toNat
    · have h10 : 10 ≤ imm.toNat := hc
      have e0 : decide ((10#64 : W64).toNat ≤ imm.toNat) = true := by simpa using h10
      have e1 : decide (acc.length + (immA imm).length ≤ 9223372036854775807) = true := by rw [immA_eq h10]; simp only [List.length_append, List.length_cons, List.length_nil, decide_eq_true_eq]; omega
      have e2 : decide (([32] ++ Lib.itoa (IntKind.i64.wrap ((imm / 10#64).toNat : Int))).length + (Lib.itoa (IntKind.i64.wrap ((imm % 10#64).toNat : Int))).length ≤ 9223372036854775807) = true := by simp only [List.length_append, List.length_cons, List.length_nil, decide_eq_true_eq]; omega
      have e3 : decide (([32] : List UInt8).length + (Lib.itoa (IntKind.i64.wrap ((imm / 10#64).toNat : Int))).length ≤ 9223372036854775807) = true := by simp only [List.length_cons, List.length_nil, decide_eq_true_eq]; omega
      rw [e0, e1, e2, e3, ← immA_eq h10]
      rfl
    · have h10 : imm.toNat < 10 := by
        have : ¬ 10 ≤ imm.toNat := hc
        omega
      have e0 : decide ((10#64 : W64).toNat ≤ imm.toNat) = false := by simpa using h10
      have e1 : decide (acc.length + (immB imm).length ≤ 9223372036854775807) = true := by rw [immB_eq h10]; simp only [List.length_append, List.length_cons, List.length_nil, decide_eq_true_eq]; omega
      have e3 : decide (([32] : List UInt8).length + (Lib.itoa (IntKind.i64.wrap (imm.toNat : Int))).length ≤ 9223372036854775807) = true := by simp only [List.length_cons, List.length_nil, decide_eq_true_eq]; omega
      rw [e0, e1, e3, ← immB_eq h10]
      rfl
def textR (op w d n m a : Int) (imm : W64) (off cond r s : Int) : List UInt8 :=
  onL (hasA op [106, 103]) [32] (Lib.itoa off) <| onL (hasA op [99, 107]) [32] (Lib.itoa cond) <| onL (hasA op [114]) [32] (Lib.itoa r) <| onL (hasA op [115, 104]) [32] (Lib.itoa s) <| onL (hasA op [105, 108, 119, 117, 102]) [32] (Lib.decDigits imm.toNat) <|
  onL (hasA op [97]) [32, 120] (Lib.itoa a) <| onL (hasA op [109, 116]) [32, 120] (Lib.itoa m) <| onL (hasA op [110, 98]) [32, 120] (Lib.itoa n) <| onL (hasA op [100, 101]) [32, 120] (Lib.itoa d) <| onL (hasA op [122]) [46] (Lib.itoa w) (nameOf op)
theorem textR_same (op w d n m a : Int) (imm : W64) (off cond r s : Int) (h : 1 ≤ op ∧ op ≤ 47) : textR op w d n m a imm off cond r s = showA op w d n m a imm off cond r s := by
  rcases range47_of h with rfl | rfl | rfl | rfl | rfl | rfl | rfl | rfl | rfl | rfl | rfl | rfl | rfl | rfl | rfl | rfl | rfl | rfl | rfl | rfl | rfl | rfl | rfl | rfl | rfl | rfl | rfl | rfl | rfl | rfl | rfl | rfl | rfl | rfl | rfl | rfl | rfl | rfl | rfl | rfl | rfl | rfl | rfl | rfl | rfl | rfl | rfl
  all_goals kernel_rfl
theorem nameOf_len (op : Int) : (nameOf op).length ≤ 10 := by
  have : ∀ x ∈ namesL, x.length ≤ 10 := by decide +kernel
  unfold nameOf
  rw [List.getD_eq_getElem?_getD]
  cases h : namesL[op.toNat]? with
  | none => simp
  | some x => exact this x (List.mem_of_getElem? h)
def g14 : CSpec | [.agg (cI op w d n m a imm off cond r s)] => some ⟨[], .str (if mayA op w d n m a imm off cond r s = true then showA op w d n m a imm off cond r s else [63])⟩ | _ => none
theorem okg14 : FnOk Tryd.prog 14 g14 := FnOk.of tyOk SF2_ok mixed (L := LS) Tryd.func14 (by kernel_rfl) (by kernel_rfl) (fun xs r hs hp W R vs hvs => by
  unfold g14 at hs; split at hs <;> cases hs
  rename_i op w d n m a imm off cond r s
  refine ⟨5, FnLoops.no (by kernel_rfl), ?_⟩
  show (evFn T SF2 LS 5 Tryd.f14 [.agg (cI op w d n m a imm off cond r s)]).run = some (.str (if mayA op w d n m a imm off cond r s = true then showA op w d n m a imm off cond r s else [63]))
  cases hm : mayA op w d n m a imm off cond r s with
  | true =>
    rw [run14 _ _ _ _ _ _ _ _ _ _ _ (may_range hm), hm]
    cases hvs with
    | cons hv hl =>
      obtain ⟨hw, hd, hn, hm', ha, ho, hc, hr, hs⟩ := has_all hv
      rw [if_neg (by simp)]
      have q0 := onR_ok (b := hasA op [122]) (x := [46]) (p := Lib.itoa w) (acc := nameOf op) (n := 10) (k := fun x => onR (hasA op [100, 101]) [32, 120] (Lib.itoa d) x fun x => onR (hasA op [110, 98]) [32, 120] (Lib.itoa n) x fun x => onR (hasA op [109, 116]) [32, 120] (Lib.itoa m) x fun x => onR (hasA op [97]) [32, 120] (Lib.itoa a) x fun x =>
        onImm (hasA op [105, 108, 119, 117, 102]) imm x fun x => onR (hasA op [115, 104]) [32] (Lib.itoa s) x fun x => onR (hasA op [114]) [32] (Lib.itoa r) x fun x => onR (hasA op [99, 107]) [32] (Lib.itoa cond) x fun x => onR (hasA op [106, 103]) [32] (Lib.itoa off) x fun x => some (.str x)) (by decide) (itoa_len hw) (nameOf_len op) (by decide)
      rw [q0.1, (onR_ok (by decide) (itoa_len hd) q0.2 (by decide)).1]
      have q1 := (onR_ok (b := hasA op [100, 101]) (x := [32, 120]) (k := fun _ => none) (by decide) (itoa_len hd) q0.2 (by decide)).2
      rw [(onR_ok (by decide) (itoa_len hn) q1 (by decide)).1]
      have q2 := (onR_ok (b := hasA op [110, 98]) (x := [32, 120]) (k := fun _ => none) (by decide) (itoa_len hn) q1 (by decide)).2
      rw [(onR_ok (by decide) (itoa_len hm') q2 (by decide)).1]
      have q3 := (onR_ok (b := hasA op [109, 116]) (x := [32, 120]) (k := fun _ => none) (by decide) (itoa_len hm') q2 (by decide)).2
      rw [(onR_ok (by decide) (itoa_len ha) q3 (by decide)).1]
      have q4 := (onR_ok (b := hasA op [97]) (x := [32, 120]) (k := fun _ => none) (by decide) (itoa_len ha) q3 (by decide)).2
      rw [(immR_ok q4 (by decide)).1]
      have q5 := (immR_ok (b := hasA op [105, 108, 119, 117, 102]) (imm := imm) (k := fun _ => none) q4 (by decide)).2
      rw [(onR_ok (by decide) (itoa_len hs) q5 (by decide)).1]
      have q6 := (onR_ok (b := hasA op [115, 104]) (x := [32]) (k := fun _ => none) (by decide) (itoa_len hs) q5 (by decide)).2
      rw [(onR_ok (by decide) (itoa_len hr) q6 (by decide)).1]
      have q7 := (onR_ok (b := hasA op [114]) (x := [32]) (k := fun _ => none) (by decide) (itoa_len hr) q6 (by decide)).2
      rw [(onR_ok (by decide) (itoa_len hc) q7 (by decide)).1]
      have q8 := (onR_ok (b := hasA op [99, 107]) (x := [32]) (k := fun _ => none) (by decide) (itoa_len hc) q7 (by decide)).2
      rw [(onR_ok (by decide) (itoa_len ho) q8 (by decide)).1]
      rw [if_pos rfl, ← textR_same _ _ _ _ _ _ _ _ _ _ _ (may_range hm)]
      rfl
  | false =>
    have e : iteT (evFn T SF2 LS 5 Tryd.f14 [.agg (cI op w d n m a imm off cond r s)]) = some (!mayA op w d n m a imm off cond r s, .leaf (.str [63])) := by kernel_rfl
    rw [iteT_run e (by rw [hm]; rfl)]
    rfl)
end Go.Proofs.YtocfkaihfjbfnaaDoor
set_option maxRecDepth 100000
namespace Go.Proofs.YtocfkaihfjbfnaaDoor
open Go.Proofs.YtocfkaihfjbfnaaDoor.Ev Go.RowKit
/- A64Encodes, A64Apart: the plain laws. -/
def g9 : CSpec | [.agg (cI op w d n m a imm off cond r s)] => some ⟨[], .agg (cI op w d n m a imm off cond r s)⟩ | _ => none
theorem okg9 : FnOk Tryd.prog 9 g9 := okBy noS_ok Tryd.func9 (by kernel_rfl) (by kernel_rfl) 1 <| by
  intro xs r hs
  unfold g9 at hs; split at hs <;> cases hs
  rename_i op w d n m a imm off cond r s
  intro hp _
  show (evFn T noS noL 1 Tryd.f9 [.agg (cI op w d n m a imm off cond r s)]).run = some (.agg (cI op w d n m a imm off cond r s))
  kernel_rfl
noncomputable abbrev SAE0 : FuncId → CSpec := withS (withS (withS (withS (withS (withS (withS noS 9 g9) 10 s10) 11 sr26) 12 sr26) 13 g13) 14 g14) 16 g16
theorem SAE0_ok : ∀ f, FnOk Tryd.prog f (SAE0 f) := withS_ok (withS_ok (withS_ok (withS_ok (withS_ok (withS_ok (withS_ok noS_ok okg9) ok10) okr26) okr28) okg13) okg14) okg16
def g15 : CSpec | [] => some ⟨[], .b true⟩ | _ => none
theorem okg15 : FnOk Tryd.prog 15 g15 := okBy SAE0_ok Tryd.func15 (by kernel_rfl) (by kernel_rfl) 1 <| by
  intro xs r hs
  unfold g15 at hs; split at hs <;> cases hs
  intro hp _
  show (evFn T SAE0 noL 1 Tryd.f15 []).run = some (.b true)
  kernel_rfl
noncomputable abbrev SAE1 : FuncId → CSpec := withS SAE0 15 g15
theorem SAE1_ok : ∀ f, FnOk Tryd.prog f (SAE1 f) := withS_ok SAE0_ok okg15
theorem lawEncodes (op w d n m a : Int) (imm : W64) (off cond r s : Int) (ho : IntKind.i64.has off) : (evFn T SAE1 noL 1 Tryd.f3 [.agg (cI op w d n m a imm off cond r s)]).run = some (.b true) := by
  have e : ∀ tt : List UInt8, tt = (if mayA op w d n m a imm off cond r s = true then showA op w d n m a imm off cond r s else [63]) → (evFn T SAE1 noL 1 Tryd.f3 [.agg (cI op w d n m a imm off cond r s)]).run =
      if (if (mayA op w d n m a imm off cond r s != mayA op w d n m a imm off cond r s) = true then true else tt != tt) = true then some (.b false) else
      if (!mayA op w d n m a imm off cond r s) = true then some (.b (if (if (wordA (mayA op w d n m a imm off cond r s) (encP op w d n m a imm off cond r s) == 0#32) = true then errA (mayA op w d n m a imm off cond r s) == 2 else false) = true then true else false)) else
      if (if (errA (mayA op w d n m a imm off cond r s) == 0) = true then inB 1 op 47 else true) = true then if (if (errA (mayA op w d n m a imm off cond r s) == 0) = true then isW w else true) = true then
      some (.b (if (if (errA (mayA op w d n m a imm off cond r s) == 0) = true then wordA (mayA op w d n m a imm off cond r s) (encP op w d n m a imm off cond r s) == (encR op w d n m a imm off cond r s).setWidth 32 else false) = true then true else false)) else none else none := by
    rintro tt rfl
    kernel_rfl
  rw [e _ rfl]
  generalize (if mayA op w d n m a imm off cond r s = true then showA op w d n m a imm off cond r s else [63]) = tt
  cases hm : mayA op w d n m a imm off cond r s with
  | false => simp [wordA, errA]
  | true =>
    obtain ⟨g1, _, _, _⟩ := good_all ho hm
    have hr := may_range hm
    have hi : inB 1 op 47 = true := by simp [inB]; omega
    rw [hi, (may_w hm).1, g1]
    simp [wordA, errA]
end Go.Proofs.YtocfkaihfjbfnaaDoor
set_option maxRecDepth 100000
namespace Go.Proofs.YtocfkaihfjbfnaaDoor
open Go.Proofs.YtocfkaihfjbfnaaDoor.Ev Go.RowKit
/- Plain: unlike instructions have unlike texts. -/
theorem split_at (sep : UInt8) : ∀ (a b r t : List UInt8), (∀ c ∈ a, c ≠ sep) → (∀ c ∈ b, c ≠ sep) → (r = [] ∨ ∃ r', r = sep :: r') → (t = [] ∨ ∃ t', t = sep :: t') → a ++ r = b ++ t → a = b ∧ r = t
  | [], [], r, t, _, _, _, _, h => ⟨rfl, h⟩
  | [], y :: b, r, t, _, hb, hr, _, h => by
    exfalso
    rcases hr with rfl | ⟨r', rfl⟩
    · cases h
    · cases h
      exact hb _ (List.mem_cons_self ..) rfl
  | x :: a, [], r, t, ha, _, _, ht, h => by
    exfalso
    rcases ht with rfl | ⟨t', rfl⟩
    · cases h
    · cases h
      exact ha _ (List.mem_cons_self ..) rfl
  | x :: a, y :: b, r, t, ha, hb, hr, ht, h => by
    simp only [List.cons_append, List.cons.injEq] at h
    obtain ⟨rfl, h⟩ := h
    obtain ⟨rfl, rfl⟩ := split_at sep a b r t (fun c hc => ha c (List.mem_cons_of_mem _ hc)) (fun c hc => hb c (List.mem_cons_of_mem _ hc)) hr ht h
    exact ⟨rfl, rfl⟩
def flS : List (List UInt8) → List UInt8
  | [] => []
  | p :: ps => 32 :: (p ++ flS ps)
theorem catL_fl : ∀ (ps : List (List UInt8)) (a : List UInt8), catL a ps = a ++ flS ps
  | [], a => by simp [catL, flS]
  | p :: ps, a => by rw [catL, catL_fl ps]; simp [flS]
theorem fl_head : ∀ ps : List (List UInt8), flS ps = [] ∨ ∃ r, flS ps = 32 :: r
  | [] => .inl rfl
  | p :: ps => .inr ⟨_, rfl⟩
theorem fl_inj : ∀ (ps qs : List (List UInt8)), (∀ p ∈ ps, ∀ c ∈ p, c ≠ 32) → (∀ p ∈ qs, ∀ c ∈ p, c ≠ 32) → flS ps = flS qs → ps = qs
  | [], [], _, _, _ => rfl
  | [], q :: qs, _, _, h => by cases h
  | p :: ps, [], _, _, h => by cases h
  | p :: ps, q :: qs, hp, hq, h => by
    simp only [flS, List.cons.injEq, true_and] at h
    obtain ⟨rfl, h2⟩ := split_at 32 p q _ _ (hp p (List.mem_cons_self ..)) (hq q (List.mem_cons_self ..)) (fl_head _) (fl_head _) h
    rw [fl_inj ps qs (fun p h => hp p (List.mem_cons_of_mem _ h)) (fun p h => hq p (List.mem_cons_of_mem _ h)) h2]
/- Digits. -/
theorem digits_are (u : Nat) : ∀ c ∈ Lib.decDigits u, 48 ≤ c.toNat ∧ c.toNat ≤ 57 := by
  induction u using Nat.strongRecOn with
  | ind u ih =>
  rw [Lib.decDigits]
  split
  · intro c hc
    simp only [List.mem_singleton] at hc
    subst hc
    rw [UInt8.toNat_ofNat']
    omega
  · intro c hc
    rcases List.mem_append.1 hc with h | h
    · exact ih (u / 10) (by omega) c h
    · simp only [List.mem_singleton] at h
      subst h
      rw [UInt8.toNat_ofNat']
      omega
def valD (l : List UInt8) : Nat := l.foldl (fun a c => a * 10 + (c.toNat - 48)) 0
theorem val_dec (u : Nat) : valD (Lib.decDigits u) = u := by
  induction u using Nat.strongRecOn with
  | ind u ih =>
  rw [Lib.decDigits]
  split
  · simp only [valD, List.foldl_cons, List.foldl_nil]
    rw [UInt8.toNat_ofNat']
    omega
  · have := ih (u / 10) (by omega)
    unfold valD at this ⊢
    rw [List.foldl_append, this]
    simp only [List.foldl_cons, List.foldl_nil]
    rw [UInt8.toNat_ofNat']
    omega
theorem dec_inj {u v : Nat} (h : Lib.decDigits u = Lib.decDigits v) : u = v := by rw [← val_dec u, h, val_dec]
theorem itoa_inj {x y : Int} (h : Lib.itoa x = Lib.itoa y) : x = y := by
  have no : ∀ u v, 45 :: Lib.decDigits u ≠ Lib.decDigits v := fun u v e => by
    have := digits_are v 45 (by rw [← e]; exact List.mem_cons_self ..)
    simp at this
  unfold Lib.itoa at h
  split at h <;> split at h
  · simp only [List.cons.injEq, true_and] at h
    have := dec_inj h
    omega
  · exact absurd h (no _ _)
  · exact absurd h.symm (no _ _)
  · have := dec_inj h
    omega
theorem itoa_are (x : Int) : ∀ c ∈ Lib.itoa x, c.toNat ≠ 32 ∧ c.toNat ≠ 46 := by
  intro c hc
  unfold Lib.itoa at hc
  split at hc
  · rcases List.mem_cons.1 hc with rfl | hc
    · decide
    · have := digits_are _ c hc
      omega
  · have := digits_are _ c hc
    omega
theorem ne_of {c d : UInt8} (h : c.toNat ≠ d.toNat) : c ≠ d := fun e => h (by rw [e])
theorem showF_nb (d n m a : Int) (imm : W64) (off cond r s k : Int) : ∀ c ∈ showF d n m a imm off cond r s k, c ≠ 32 := by
  have h1 : ∀ x, ∀ c ∈ Lib.itoa x, c ≠ 32 := fun x c hc => ne_of (itoa_are x c hc).1
  have h2 : ∀ x, ∀ c ∈ (120 : UInt8) :: Lib.itoa x, c ≠ 32 := fun x c hc => by
    rcases List.mem_cons.1 hc with rfl | hc
    · decide
    · exact h1 x c hc
  unfold showF
  (repeat' split) <;> first | exact h2 _ | exact h1 _ | skip
  intro c hc
  have := digits_are _ c hc
  exact ne_of (by show c.toNat ≠ 32; omega)
theorem name_plain (i : Nat) : ∀ c ∈ namesT.getD i [], c ≠ 32 ∧ c ≠ 46 := by
  have : ∀ x ∈ namesT, ∀ c ∈ x, c ≠ 32 ∧ c ≠ 46 := by decide +kernel
  rw [List.getD_eq_getElem?_getD]
  cases h : namesT[i]? with
  | none => simp
  | some x => exact this x (List.mem_of_getElem? h)
theorem names_apart : ∀ i < 47, ∀ j < 47, namesT.getD i [] = namesT.getD j [] → i = j := by decide +kernel
theorem pre_nb (op w : Int) : ∀ c ∈ preA op w, c ≠ 32 := by
  unfold preA
  split
  · intro c hc
    rcases List.mem_append.1 hc with h | h
    · exact (name_plain _ c h).1
    · rcases List.mem_append.1 h with h | h
      · simp only [List.mem_singleton] at h; subst h; decide
      · exact ne_of (itoa_are _ c h).1
  · exact fun c hc => (name_plain _ c hc).1
/-- What is asked of a row that lacks a field. -/
theorem lacks {P : Int → Prop} (h : ∀ k, range47 k → P k) {op : Int} (hr : 1 ≤ op ∧ op ≤ 47) : P op := h op (range47_of hr)
theorem has_d {op : Int} (hr : 1 ≤ op ∧ op ≤ 47) : (100 : UInt8) ∈ fldT.getD op.toNat [] ∨ ∀ x, shD op x = 0 := by
  rcases range47_of hr with rfl | rfl | rfl | rfl | rfl | rfl | rfl | rfl | rfl | rfl | rfl | rfl | rfl | rfl | rfl | rfl | rfl | rfl | rfl | rfl | rfl | rfl | rfl | rfl | rfl | rfl | rfl | rfl | rfl | rfl | rfl | rfl | rfl | rfl | rfl | rfl | rfl | rfl | rfl | rfl | rfl | rfl | rfl | rfl | rfl | rfl | rfl <;> first | exact .inl (by decide) | exact .inr fun _ => rfl
theorem has_n {op : Int} (hr : 1 ≤ op ∧ op ≤ 47) : (110 : UInt8) ∈ fldT.getD op.toNat [] ∨ ∀ x, shN op x = 0 := by
  rcases range47_of hr with rfl | rfl | rfl | rfl | rfl | rfl | rfl | rfl | rfl | rfl | rfl | rfl | rfl | rfl | rfl | rfl | rfl | rfl | rfl | rfl | rfl | rfl | rfl | rfl | rfl | rfl | rfl | rfl | rfl | rfl | rfl | rfl | rfl | rfl | rfl | rfl | rfl | rfl | rfl | rfl | rfl | rfl | rfl | rfl | rfl | rfl | rfl <;> first | exact .inl (by decide) | exact .inr fun _ => rfl
theorem has_m {op : Int} (hr : 1 ≤ op ∧ op ≤ 47) : (109 : UInt8) ∈ fldT.getD op.toNat [] ∨ ∀ x, shM op x = 0 := by
  rcases range47_of hr with rfl | rfl | rfl | rfl | rfl | rfl | rfl | rfl | rfl | rfl | rfl | rfl | rfl | rfl | rfl | rfl | rfl | rfl | rfl | rfl | rfl | rfl | rfl | rfl | rfl | rfl | rfl | rfl | rfl | rfl | rfl | rfl | rfl | rfl | rfl | rfl | rfl | rfl | rfl | rfl | rfl | rfl | rfl | rfl | rfl | rfl | rfl <;> first | exact .inl (by decide) | exact .inr fun _ => rfl
theorem has_a {op : Int} (hr : 1 ≤ op ∧ op ≤ 47) : (97 : UInt8) ∈ fldT.getD op.toNat [] ∨ ∀ x, shA op x = 0 := by
  rcases range47_of hr with rfl | rfl | rfl | rfl | rfl | rfl | rfl | rfl | rfl | rfl | rfl | rfl | rfl | rfl | rfl | rfl | rfl | rfl | rfl | rfl | rfl | rfl | rfl | rfl | rfl | rfl | rfl | rfl | rfl | rfl | rfl | rfl | rfl | rfl | rfl | rfl | rfl | rfl | rfl | rfl | rfl | rfl | rfl | rfl | rfl | rfl | rfl <;> first | exact .inl (by decide) | exact .inr fun _ => rfl
theorem has_i {op : Int} (hr : 1 ≤ op ∧ op ≤ 47) : (105 : UInt8) ∈ fldT.getD op.toNat [] ∨ ∀ x, shI op x = 0#64 := by
  rcases range47_of hr with rfl | rfl | rfl | rfl | rfl | rfl | rfl | rfl | rfl | rfl | rfl | rfl | rfl | rfl | rfl | rfl | rfl | rfl | rfl | rfl | rfl | rfl | rfl | rfl | rfl | rfl | rfl | rfl | rfl | rfl | rfl | rfl | rfl | rfl | rfl | rfl | rfl | rfl | rfl | rfl | rfl | rfl | rfl | rfl | rfl | rfl | rfl <;> first | exact .inl (by decide) | exact .inr fun _ => rfl
theorem has_s {op : Int} (hr : 1 ≤ op ∧ op ≤ 47) : (115 : UInt8) ∈ fldT.getD op.toNat [] ∨ ∀ x, shS op x = 0 := by
  rcases range47_of hr with rfl | rfl | rfl | rfl | rfl | rfl | rfl | rfl | rfl | rfl | rfl | rfl | rfl | rfl | rfl | rfl | rfl | rfl | rfl | rfl | rfl | rfl | rfl | rfl | rfl | rfl | rfl | rfl | rfl | rfl | rfl | rfl | rfl | rfl | rfl | rfl | rfl | rfl | rfl | rfl | rfl | rfl | rfl | rfl | rfl | rfl | rfl <;> first | exact .inl (by decide) | exact .inr fun _ => rfl
theorem has_r {op : Int} (hr : 1 ≤ op ∧ op ≤ 47) : (114 : UInt8) ∈ fldT.getD op.toNat [] ∨ ∀ x, shR op x = 0 := by
  rcases range47_of hr with rfl | rfl | rfl | rfl | rfl | rfl | rfl | rfl | rfl | rfl | rfl | rfl | rfl | rfl | rfl | rfl | rfl | rfl | rfl | rfl | rfl | rfl | rfl | rfl | rfl | rfl | rfl | rfl | rfl | rfl | rfl | rfl | rfl | rfl | rfl | rfl | rfl | rfl | rfl | rfl | rfl | rfl | rfl | rfl | rfl | rfl | rfl <;> first | exact .inl (by decide) | exact .inr fun _ => rfl
theorem has_c {op : Int} (hr : 1 ≤ op ∧ op ≤ 47) : (99 : UInt8) ∈ fldT.getD op.toNat [] ∨ ∀ x, shC op x = 0 := by
  rcases range47_of hr with rfl | rfl | rfl | rfl | rfl | rfl | rfl | rfl | rfl | rfl | rfl | rfl | rfl | rfl | rfl | rfl | rfl | rfl | rfl | rfl | rfl | rfl | rfl | rfl | rfl | rfl | rfl | rfl | rfl | rfl | rfl | rfl | rfl | rfl | rfl | rfl | rfl | rfl | rfl | rfl | rfl | rfl | rfl | rfl | rfl | rfl | rfl <;> first | exact .inl (by decide) | exact .inr fun _ => rfl
theorem has_o {op : Int} (hr : 1 ≤ op ∧ op ≤ 47) : (111 : UInt8) ∈ fldT.getD op.toNat [] ∨ ∀ x, shO op x = 0 := by
  rcases range47_of hr with rfl | rfl | rfl | rfl | rfl | rfl | rfl | rfl | rfl | rfl | rfl | rfl | rfl | rfl | rfl | rfl | rfl | rfl | rfl | rfl | rfl | rfl | rfl | rfl | rfl | rfl | rfl | rfl | rfl | rfl | rfl | rfl | rfl | rfl | rfl | rfl | rfl | rfl | rfl | rfl | rfl | rfl | rfl | rfl | rfl | rfl | rfl <;> first | exact .inl (by decide) | exact .inr fun _ => rfl
theorem pre_inj {op w op' w' : Int} (hr : 1 ≤ op ∧ op ≤ 47) (hr' : 1 ≤ op' ∧ op' ≤ 47) (h : preA op w = preA op' w') : op = op' ∧ (inB 33 op 38 = true → w = w') := by
  have form : ∀ o v, ∃ t, preA o v = namesT.getD (o - 1).toNat [] ++ t ∧ (t = [] ∨ ∃ t', t = 46 :: t') ∧ (inB 33 o 38 = true → t = 46 :: Lib.itoa v) := fun o v => by
    unfold preA
    split
    · exact ⟨46 :: Lib.itoa v, rfl, .inr ⟨_, rfl⟩, fun _ => rfl⟩
    · rename_i hn; exact ⟨[], by simp, .inl rfl, fun e => absurd e hn⟩
  obtain ⟨t, e, ht, hv⟩ := form op w
  obtain ⟨t', e', ht', hv'⟩ := form op' w'
  rw [e, e'] at h
  obtain ⟨h1, h2⟩ := split_at 46 _ _ _ _ (fun c hc => (name_plain _ c hc).2) (fun c hc => (name_plain _ c hc).2) ht ht' h
  have ho := names_apart _ (by omega) _ (by omega) h1
  obtain rfl : op = op' := by omega
  refine ⟨rfl, fun ha => ?_⟩
  rw [hv ha, hv' ha] at h2
  simp only [List.cons.injEq, true_and] at h2
  exact itoa_inj h2
theorem text_inj {op w d n m a : Int} {imm : W64} {off cond r s : Int} {op' w' d' n' m' a' : Int} {imm' : W64} {off' cond' r' s' : Int} (h : mayA op w d n m a imm off cond r s = true) (h' : mayA op' w' d' n' m' a' imm' off' cond' r' s' = true)
    (e : showA op w d n m a imm off cond r s = showA op' w' d' n' m' a' imm' off' cond' r' s') : op = op' ∧ w = w' ∧ d = d' ∧ n = n' ∧ m = m' ∧ a = a' ∧ imm = imm' ∧ off = off' ∧ cond = cond' ∧ r = r' ∧ s = s' := by
  have hr := may_range h
  have hr' := may_range h'
  have f := may_facts h
  have f' := may_facts h'
  unfold showA at e
  rw [catL_fl, catL_fl] at e
  obtain ⟨e1, e2⟩ := split_at 32 _ _ _ _ (pre_nb _ _) (pre_nb _ _) (fl_head _) (fl_head _) e
  have nb : ∀ op d n m a imm off cond r s, ∀ p ∈ partsA op d n m a imm off cond r s, ∀ c ∈ p, c ≠ 32 := fun op d n m a imm off cond r s p hp => by
    obtain ⟨c, _, rfl⟩ := List.mem_map.1 hp
    exact showF_nb _ _ _ _ _ _ _ _ _ _
  have e3 := fl_inj _ _ (nb _ _ _ _ _ _ _ _ _ _) (nb _ _ _ _ _ _ _ _ _ _) e2
  obtain ⟨rfl, hw⟩ := pre_inj hr hr' e1
  have e4 : ∀ c ∈ fldT.getD op.toNat [], showF d n m a imm off cond r s (c.toNat : Int) = showF d' n' m' a' imm' off' cond' r' s' (c.toNat : Int) := List.map_inj_left.1 e3
  have pw : w = w' := by
    rcases f.h8 with ha | ha
    · exact hw ha
    · rcases f'.h8 with hb | hb
      · exact hw hb
      · rw [ha, hb]
  have tl : ∀ {x y : Int}, (120 : UInt8) :: Lib.itoa x = 120 :: Lib.itoa y → x = y := fun h => by
    simp only [List.cons.injEq, true_and] at h
    exact itoa_inj h
  refine ⟨rfl, pw, ?_, ?_, ?_, ?_, ?_, ?_, ?_, ?_, ?_⟩
  · rcases has_d hr with hc | hc
    · exact tl (e4 _ hc)
    · rw [f.sD, f'.sD, hc, hc]
  · rcases has_n hr with hc | hc
    · exact tl (e4 _ hc)
    · rw [f.sN, f'.sN, hc, hc]
  · rcases has_m hr with hc | hc
    · exact tl (e4 _ hc)
    · rw [f.sM, f'.sM, hc, hc]
  · rcases has_a hr with hc | hc
    · exact tl (e4 _ hc)
    · rw [f.sA, f'.sA, hc, hc]
  · rcases has_i hr with hc | hc
    · exact BitVec.eq_of_toNat_eq (dec_inj (e4 _ hc))
    · rw [f.sI, f'.sI, hc, hc]
  · rcases has_o hr with hc | hc
    · exact itoa_inj (e4 _ hc)
    · rw [f.sO, f'.sO, hc, hc]
  · rcases has_c hr with hc | hc
    · exact itoa_inj (e4 _ hc)
    · rw [f.sC, f'.sC, hc, hc]
  · rcases has_r hr with hc | hc
    · exact itoa_inj (e4 _ hc)
    · rw [f.sR, f'.sR, hc, hc]
  · rcases has_s hr with hc | hc
    · exact itoa_inj (e4 _ hc)
    · rw [f.sS, f'.sS, hc, hc]
end Go.Proofs.YtocfkaihfjbfnaaDoor
set_option maxRecDepth 100000
namespace Go.Proofs.YtocfkaihfjbfnaaDoor
open Go.Proofs.YtocfkaihfjbfnaaDoor.Ev Go.RowKit
/- A64Apart: the plain law. -/
def endsB (op : Int) : Bool := if (if (op == 40) = true then true else op == 44) = true then true else op == 46
def g19 : CSpec | [.agg (cI op w d n m a imm off cond r s)] => some ⟨[], .b (endsB op)⟩ | _ => none
theorem okg19 : FnOk Tryd.prog 19 g19 := okBy noS_ok Tryd.func19 (by kernel_rfl) (by kernel_rfl) 1 <| by
  intro xs r hs
  unfold g19 at hs; split at hs <;> cases hs
  rename_i op w d n m a imm off cond r s
  intro hp _
  show (evFn T noS noL 1 Tryd.f19 [.agg (cI op w d n m a imm off cond r s)]).run = some (.b (endsB op))
  kernel_rfl
noncomputable abbrev SAP0 : FuncId → CSpec := withS (withS (withS SAE1 17 g17) 18 sr67) 19 g19
theorem SAP0_ok : ∀ f, FnOk Tryd.prog f (SAP0 f) := withS_ok (withS_ok (withS_ok SAE1_ok okg17) okr67) okg19
def jumpsB (x : List UInt8) : Bool := if (if (if (x == [98]) = true then true else x == [98, 99, 99]) = true then true else x == [99, 98, 122]) = true then true else x == [99, 98, 110, 122]
def endsN (x : List UInt8) : Bool := if (if (x == [98]) = true then true else x == [98, 114]) = true then true else x == [98, 114, 107]
theorem kinds (op : Int) (h : 1 ≤ op ∧ op ≤ 47) : (if (inB 40 op 43 != jumpsB (nameOf op)) = true then true else endsB op != endsN (nameOf op)) = false := by
  rcases range47_of h with rfl | rfl | rfl | rfl | rfl | rfl | rfl | rfl | rfl | rfl | rfl | rfl | rfl | rfl | rfl | rfl | rfl | rfl | rfl | rfl | rfl | rfl | rfl | rfl | rfl | rfl | rfl | rfl | rfl | rfl | rfl | rfl | rfl | rfl | rfl | rfl | rfl | rfl | rfl | rfl | rfl | rfl | rfl | rfl | rfl | rfl | rfl
  all_goals kernel_rfl
/-- Unlike instructions have unlike words. -/
theorem word_inj {op w d n m a : Int} {imm : W64} {off cond r s : Int} {op' w' d' n' m' a' : Int} {imm' : W64} {off' cond' r' s' : Int} (ho : IntKind.i64.has off) (ho' : IntKind.i64.has off') (h : mayA op w d n m a imm off cond r s = true) (h' : mayA op' w' d' n' m' a' imm' off' cond' r' s' = true)
    (e : encP op w d n m a imm off cond r s = encP op' w' d' n' m' a' imm' off' cond' r' s') : op = op' ∧ w = w' ∧ d = d' ∧ n = n' ∧ m = m' ∧ a = a' ∧ imm = imm' ∧ off = off' ∧ cond = cond' ∧ r = r' ∧ s = s' := by
  have g := (good_all ho h).2.2.1 _ fun op w d n m a imm off cond r s => (op, w, d, n, m, a, imm, off, cond, r, s)
  have g' := (good_all ho' h').2.2.1 _ fun op w d n m a imm off cond r s => (op, w, d, n, m, a, imm, off, cond, r, s)
  rw [e] at g
  have := g.symm.trans g'
  simp only [Prod.mk.injEq] at this
  exact this
theorem eqI_iff {op w d n m a : Int} {imm : W64} {off cond r s : Int} {op' w' d' n' m' a' : Int} {imm' : W64} {off' cond' r' s' : Int} : eqI op w d n m a imm off cond r s op' w' d' n' m' a' imm' off' cond' r' s' = true ↔ (op = op' ∧ w = w' ∧ d = d' ∧ n = n' ∧ m = m' ∧ a = a' ∧ imm = imm' ∧ off = off' ∧ cond = cond' ∧ r = r' ∧ s = s') := by
  unfold eqI
  simp only [Bool.and_eq_true, beq_iff_eq, and_true]
theorem lawApart (op w d n m a : Int) (imm : W64) (off cond r s : Int) (op' w' d' n' m' a' : Int) (imm' : W64) (off' cond' r' s' : Int) (ho : IntKind.i64.has off) (ho' : IntKind.i64.has off') :
    (evFn T SAP0 noL 1 Tryd.f4 [.agg (cI op w d n m a imm off cond r s), .agg (cI op' w' d' n' m' a' imm' off' cond' r' s')]).run = some (.b true) := by
  have e : ∀ tx tx' : List UInt8, tx = (if mayA op w d n m a imm off cond r s = true then showA op w d n m a imm off cond r s else [63]) → tx' = (if mayA op' w' d' n' m' a' imm' off' cond' r' s' = true then showA op' w' d' n' m' a' imm' off' cond' r' s' else [63]) →
      (evFn T SAP0 noL 1 Tryd.f4 [.agg (cI op w d n m a imm off cond r s), .agg (cI op' w' d' n' m' a' imm' off' cond' r' s')]).run =
      if (if (!mayA op w d n m a imm off cond r s) = true then true else !mayA op' w' d' n' m' a' imm' off' cond' r' s') = true then some (.b true) else
      if inB 1 op 47 = true then
      if (if (inB 40 op 43 != jumpsB (nameOf op)) = true then true else endsB op != endsN (nameOf op)) = true then some (.b false) else
      some (.b (if (if ((wordA (mayA op w d n m a imm off cond r s) (encP op w d n m a imm off cond r s) == wordA (mayA op' w' d' n' m' a' imm' off' cond' r' s') (encP op' w' d' n' m' a' imm' off' cond' r' s')) == eqI op w d n m a imm off cond r s op' w' d' n' m' a' imm' off' cond' r' s') = true then
        (tx == tx') == eqI op w d n m a imm off cond r s op' w' d' n' m' a' imm' off' cond' r' s' else false) = true then true else false)) else none := by
    rintro tx tx' rfl rfl
    kernel_rfl
  rw [e _ _ rfl rfl]
  cases hm : mayA op w d n m a imm off cond r s with
  | false => rfl
  | true =>
    cases hm' : mayA op' w' d' n' m' a' imm' off' cond' r' s' with
    | false => rfl
    | true =>
      have hr := may_range hm
      have hi : inB 1 op 47 = true := by simp [inB]; omega
      rw [hi, kinds op hr]
      have q1 : (encP op w d n m a imm off cond r s == encP op' w' d' n' m' a' imm' off' cond' r' s') = eqI op w d n m a imm off cond r s op' w' d' n' m' a' imm' off' cond' r' s' := by
        apply Bool.eq_iff_iff.2
        rw [beq_iff_eq, eqI_iff]
        refine ⟨fun h => word_inj ho ho' hm hm' h, ?_⟩
        rintro ⟨rfl, rfl, rfl, rfl, rfl, rfl, rfl, rfl, rfl, rfl, rfl⟩; rfl
      have q2 : (showA op w d n m a imm off cond r s == showA op' w' d' n' m' a' imm' off' cond' r' s') = eqI op w d n m a imm off cond r s op' w' d' n' m' a' imm' off' cond' r' s' := by
        apply Bool.eq_iff_iff.2
        rw [beq_iff_eq, eqI_iff]
        refine ⟨fun h => text_inj hm hm' h, ?_⟩
        rintro ⟨rfl, rfl, rfl, rfl, rfl, rfl, rfl, rfl, rfl, rfl, rfl⟩; rfl
      simp only [wordA, if_true, q1, q2, beq_self_eq_true]
      rfl
end Go.Proofs.YtocfkaihfjbfnaaDoor
set_option maxRecDepth 100000
namespace Go.Proofs.YtocfkaihfjbfnaaDoor
open Go.Proofs.YtocfkaihfjbfnaaDoor.Ev Go.RowKit
/- The plain laws, as a row hands their arguments over. -/
theorem lawEncodesM (i : IC) {C : Ctx} {v : Value} (h : VR C (.agg (Sh.cellsL [.i .i64, .i .i64, .i .i64, .i .i64, .i .i64, .i .i64, .w 64, .i .i64, .i .i64, .i .i64, .i .i64] i)) v) :
    (evFn T SAE1 noL 1 Tryd.f3 [.agg (Sh.cellsL [.i .i64, .i .i64, .i .i64, .i .i64, .i .i64, .i .i64, .w 64, .i .i64, .i .i64, .i .i64, .i .i64] i)]).run = some (.b true) := by
  obtain ⟨op, w, d, n, m, a, imm, off, cond, r, s, _⟩ := i
  exact lawEncodes op w d n m a imm off cond r s (has_off h)
theorem lawApartM (i j : IC) {C : Ctx} {v : Value} (h : VR C (.agg (Sh.cellsL [.i .i64, .i .i64, .i .i64, .i .i64, .i .i64, .i .i64, .w 64, .i .i64, .i .i64, .i .i64, .i .i64] i)) v)
    {C' : Ctx} {v' : Value} (h' : VR C' (.agg (Sh.cellsL [.i .i64, .i .i64, .i .i64, .i .i64, .i .i64, .i .i64, .w 64, .i .i64, .i .i64, .i .i64, .i .i64] j)) v') :
    (evFn T SAP0 noL 1 Tryd.f4 [.agg (Sh.cellsL [.i .i64, .i .i64, .i .i64, .i .i64, .i .i64, .i .i64, .w 64, .i .i64, .i .i64, .i .i64, .i .i64] i), .agg (Sh.cellsL [.i .i64, .i .i64, .i .i64, .i .i64, .i .i64, .i .i64, .w 64, .i .i64, .i .i64, .i .i64, .i .i64] j)]).run = some (.b true) := by
  obtain ⟨op, w, d, n, m, a, imm, off, cond, r, s, _⟩ := i
  obtain ⟨op', w', d', n', m', a', imm', off', cond', r', s', _⟩ := j
  exact lawApart op w d n m a imm off cond r s op' w' d' n' m' a' imm' off' cond' r' s' (has_off h) (has_off h')
end Go.Proofs.YtocfkaihfjbfnaaDoor
