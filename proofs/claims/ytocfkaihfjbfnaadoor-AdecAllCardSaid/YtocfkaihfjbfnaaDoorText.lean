/- Lemmas: the library's functions by their contracts, and the texts of instructions. No condition. -/
import Derived.Test.YtocfkaihfjbfnaaDoorMay
import Derived.Test.YtocfkaihfjbfnaaDoorShelf
set_option linter.unusedVariables false
set_option linter.unusedSimpArgs false
set_option maxRecDepth 100000
namespace Go.Proofs.YtocfkaihfjbfnaaDoor
open Go.Proofs.YtocfkaihfjbfnaaDoor.Ev Go.RowKit
/- The library's functions, by their contracts. -/
/-- A small number's numeral. -/
def decS (n : Nat) : List UInt8 := if n < 10 then [UInt8.ofNat (48 + n)] else [UInt8.ofNat (48 + n / 10), UInt8.ofNat (48 + n % 10)]
theorem decS_eq {n : Nat} (h : n < 100) : Lib.decDigits n = decS n := by
  unfold decS
  rw [Lib.decDigits]
  split
  · rfl
  · rw [Lib.decDigits, dif_pos (show n / 10 < 10 by omega)]
    rfl
theorem doneStr {w : World} {R : Nat → Prop} (hR : ∀ b, R b → b < w.heap.size) {s : List UInt8} (hs : s.length ≤ 9223372036854775807) {w' : World} (hf : Fr w (fun _ => False) w') : ∃ R', Done w R (.str s) (.string ⟨s.toArray⟩) w' R' :=
  ⟨R, fun _ h => h, fun _ h => .inl h, fun b hb => Nat.lt_of_lt_of_le (hR b hb) hf.size, hf, .str s hs⟩
theorem decS_len (n : Nat) : (decS n).length ≤ 9223372036854775807 := by unfold decS; split <;> simp
def s42 : CSpec | [.i .i64 n] => some ⟨[decide (0 ≤ n), decide (n < 100)], .str (decS n.toNat)⟩ | _ => none
theorem ok42s : FnOk Tryd.prog 42 s42 := FnOk.contract Tryd.func42 (by kernel_rfl) (by kernel_rfl) <| by
  intro xs r hs
  unfold s42 at hs; split at hs <;> cases hs
  rename_i n
  intro hp w R vs hR hG hvs
  have h0 : 0 ≤ n := by simpa using hp _ (List.mem_cons_self ..)
  have h1 : n < 100 := by simpa using hp _ (List.mem_cons_of_mem _ (List.mem_cons_self ..))
  cases hvs with
  | cons hv hl =>
    cases hl
    cases hv
    obtain ⟨k, rfl⟩ := Int.eq_ofNat_of_zero_le h0
    refine (Tryd.strconv_Itoa_small k (by omega) w).mono ?_
    rintro e w' ⟨rfl, rfl⟩
    rw [decS_eq (by omega)]
    exact ⟨_, rfl, doneStr hR (decS_len _) (.refl _ _)⟩
def s89 : CSpec | [.i .i64 n] => some ⟨[decide (0 ≤ n), decide (n < 100)], .str (decS n.toNat)⟩ | _ => none
theorem ok89s : FnOk Tryd.prog 89 s89 := FnOk.contract Tryd.func89 (by kernel_rfl) (by kernel_rfl) <| by
  intro xs r hs
  unfold s89 at hs; split at hs <;> cases hs
  rename_i n
  intro hp w R vs hR hG hvs
  have h0 : 0 ≤ n := by simpa using hp _ (List.mem_cons_self ..)
  have h1 : n < 100 := by simpa using hp _ (List.mem_cons_of_mem _ (List.mem_cons_self ..))
  cases hvs with
  | cons hv hl =>
    cases hl
    cases hv
    obtain ⟨k, rfl⟩ := Int.eq_ofNat_of_zero_le h0
    refine (Tryd.internal_strconv_small k (by omega) w).mono ?_
    rintro e w' ⟨rfl, rfl⟩
    rw [decS_eq (by omega)]
    exact ⟨_, rfl, doneStr hR (decS_len _) (.refl _ _)⟩
/- Pieces between blanks. -/
def joinS : List UInt8 → List (List UInt8) → List UInt8
  | p, [] => p
  | p, q :: ps => p ++ 32 :: joinS q ps
theorem indexByte_at : ∀ (x r : List UInt8), (∀ c ∈ x, c ≠ 32) → Lib.indexByte (x ++ 32 :: r) 32 = x.length
  | [], r, _ => rfl
  | c :: x, r, h => by
    have ih := indexByte_at x r (fun d hd => h d (List.mem_cons_of_mem _ hd))
    have hc : (c == 32) = false := by simpa using h c (List.mem_cons_self ..)
    show (if (c == 32) = true then (0 : Int) else if (Lib.indexByte (x ++ 32 :: r) 32 == -1) = true then -1 else Lib.indexByte (x ++ 32 :: r) 32 + 1) = _
    rw [ih, hc]
    have hn : ((x.length : Int) == -1) = false := by simp
    rw [hn]
    simp
theorem splitK_join : ∀ (p : List UInt8) (ps : List (List UInt8)), (∀ x ∈ p :: ps, ∀ c ∈ x, c ≠ 32) → Lib.splitK [32] 0 ps.length (joinS p ps) = p :: ps
  | p, [], _ => rfl
  | p, q :: ps, h => by
    have ih := splitK_join q ps (fun x hx => h x (List.mem_cons_of_mem _ hx))
    have hi : Lib.index (p ++ 32 :: joinS q ps) [32] = p.length := by
      rw [Lib.index_one, indexByte_at p _ (h p (List.mem_cons_self ..))]
    show Lib.splitK [32] 0 (ps.length + 1) (p ++ 32 :: joinS q ps) = _
    unfold Lib.splitK
    rw [hi]
    have hn : ((p.length : Int) == -1) = false := by simp
    rw [hn]
    have e1 : (p ++ 32 :: joinS q ps).take ((p.length : Int).toNat + 0) = p := by simp
    have e2 : (p ++ 32 :: joinS q ps).drop ((p.length : Int).toNat + [(32 : UInt8)].length) = joinS q ps := by
      simp [List.drop_append]
    rw [e1, e2, ih]
    rfl
theorem count_join : ∀ (p : List UInt8) (ps : List (List UInt8)), (∀ x ∈ p :: ps, ∀ c ∈ x, c ≠ 32) → (joinS p ps).count 32 = ps.length
  | p, [], h => by
    show p.count 32 = 0
    exact List.count_eq_zero.2 fun hm => h p (List.mem_cons_self ..) 32 hm rfl
  | p, q :: ps, h => by
    have ih := count_join q ps (fun x hx => h x (List.mem_cons_of_mem _ hx))
    have h0 : p.count 32 = 0 := List.count_eq_zero.2 fun hm => h p (List.mem_cons_self ..) 32 hm rfl
    show (p ++ 32 :: joinS q ps).count 32 = _
    rw [List.count_append, List.count_cons, h0, ih]
    simp
/-- The operations' names. -/
def namesPieces : List (List UInt8) := [[115, 117, 98, 105], [97, 100, 100, 115, 105], [115, 117, 98, 115, 105], [97, 100, 100], [115, 117, 98], [97, 100, 100, 115], [115, 117, 98, 115], [97, 110, 100], [111, 114, 114], [101, 111, 114], [97, 110, 100, 115], [97, 110, 100, 105], [111, 114, 114, 105], [101, 111, 114, 105], [109, 111, 118, 122], [109, 111, 118, 110], [109, 111, 118, 107], [109, 97, 100, 100], [109, 115, 117, 98], [117, 109, 117, 108, 104], [115, 109, 117, 108, 104], [117, 100, 105, 118], [115, 100, 105, 118], [108, 115, 108, 118], [108, 115, 114, 118], [97, 115, 114, 118], [114, 111, 114, 118], [117, 98, 102, 109], [115, 98, 102, 109], [99, 115, 101, 108], [99, 115, 105, 110, 99], [108, 100, 114], [115, 116, 114], [108, 100, 97, 112, 114], [115, 116, 108, 114], [108, 100, 97, 120, 114], [115, 116, 108, 120, 114], [100, 109, 98], [98], [98, 99, 99], [99, 98, 122], [99, 98, 110, 122], [98, 114], [115, 118, 99], [98, 114, 107], [110, 111, 112]]
def namesStr : List UInt8 := [97, 100, 100, 105, 32, 115, 117, 98, 105, 32, 97, 100, 100, 115, 105, 32, 115, 117, 98, 115, 105, 32, 97, 100, 100, 32, 115, 117, 98, 32, 97, 100, 100, 115, 32, 115, 117, 98, 115, 32, 97, 110, 100, 32, 111, 114, 114, 32, 101, 111, 114, 32, 97, 110, 100, 115, 32, 97, 110, 100, 105, 32, 111, 114, 114, 105, 32, 101, 111, 114, 105, 32, 109, 111, 118, 122, 32, 109, 111, 118, 110, 32, 109, 111, 118, 107, 32, 109, 97, 100, 100, 32, 109, 115, 117, 98, 32, 117, 109, 117, 108, 104, 32, 115, 109, 117, 108, 104, 32, 117, 100, 105, 118, 32, 115, 100, 105, 118, 32, 108, 115, 108, 118, 32, 108, 115, 114, 118, 32, 97, 115, 114, 118, 32, 114, 111, 114, 118, 32, 117, 98, 102, 109, 32, 115, 98, 102, 109, 32, 99, 115, 101, 108, 32, 99, 115, 105, 110, 99, 32, 108, 100, 114, 32, 115, 116, 114, 32, 108, 100, 97, 112, 114, 32, 115, 116, 108, 114, 32, 108, 100, 97, 120, 114, 32, 115, 116, 108, 120, 114, 32, 100, 109, 98, 32, 98, 32, 98, 99, 99, 32, 99, 98, 122, 32, 99, 98, 110, 122, 32, 98, 114, 32, 115, 118, 99, 32, 98, 114, 107, 32, 110, 111, 112]
theorem namesJoin : namesStr = joinS [97, 100, 100, 105] namesPieces := by kernel_rfl
theorem namesNo : ∀ x ∈ [97, 100, 100, 105] :: namesPieces, ∀ c ∈ x, c ≠ 32 := by decide +kernel
theorem namesCount : Lib.countB ⟨namesStr.toArray⟩ ⟨#[32]⟩ = 46 := by
  show Lib.count namesStr [32] = 46
  rw [Lib.count_one, namesJoin, count_join _ _ namesNo]
  rfl
theorem namesSplit : (Lib.splitB ⟨#[32]⟩ 0 46 ⟨namesStr.toArray⟩).map (·.data.toList) = [97, 100, 100, 105] :: namesPieces := by
  rw [Lib.splitB_data]
  show Lib.splitK [32] 0 46 namesStr = _
  rw [namesJoin]
  exact splitK_join _ _ namesNo
end Go.Proofs.YtocfkaihfjbfnaaDoor
set_option maxRecDepth 100000
namespace Go.Proofs.YtocfkaihfjbfnaaDoor
open Go.Proofs.YtocfkaihfjbfnaaDoor.Ev Go.RowKit
/- The names of the operations. -/
def namesT : List (List UInt8) := [97, 100, 100, 105] :: namesPieces
def g69 : CSpec | [.str s, .str p] => (match s == namesStr && p == [32] with
    | true => some ⟨[], .vw 5 namesT⟩
    | false => none) | _ => none
theorem okg69 : FnOk Tryd.prog 69 g69 := FnOk.contract Tryd.func69 (by kernel_rfl) (by kernel_rfl) <| by
  intro xs r hs
  unfold g69 at hs; split at hs <;> try cases hs
  rename_i s p
  split at hs <;> cases hs
  rename_i hsp
  simp only [Bool.and_eq_true, beq_iff_eq] at hsp
  obtain ⟨rfl, rfl⟩ := hsp
  intro hp w R vs hR hG hvs
  obtain ⟨⟨h1, m, hm⟩, _⟩ := hG
  cases hvs with
  | cons hv hl =>
    cases hl with
    | cons hv2 hl =>
      cases hl
      cases hv
      cases hv2
      refine (Tryd.strings_Split ⟨namesStr.toArray⟩ ⟨#[32]⟩ m w (by decide +kernel) hm (by decide)).mono ?_
      rintro e w' ⟨rfl, rfl⟩
      rw [namesCount]
      have hlen : ((Lib.splitB ⟨#[32]⟩ 0 46 ⟨namesStr.toArray⟩).map Value.string).length = 47 := by
        rw [List.length_map, ← List.length_map (f := fun b : ByteArray => b.data.toList), namesSplit]; rfl
      have hat : ∀ i, i < 47 → ((Lib.splitB ⟨#[32]⟩ 0 46 ⟨namesStr.toArray⟩).map Value.string)[i]? = some (.string ⟨(namesT.getD i []).toArray⟩) := by
        intro i hi
        have h2 : ((Lib.splitB ⟨#[32]⟩ 0 46 ⟨namesStr.toArray⟩).map (·.data.toList))[i]? = some (namesT.getD i []) := by
          rw [namesSplit, List.getD_eq_getElem?_getD]
          show namesT[i]? = _
          rw [List.getElem?_eq_getElem (show i < namesT.length from hi)]; rfl
        rw [List.getElem?_map] at h2 ⊢
        cases hq : (Lib.splitB ⟨#[32]⟩ 0 46 ⟨namesStr.toArray⟩)[i]? with
        | none => rw [hq] at h2; cases h2
        | some x =>
          rw [hq] at h2
          simp only [Option.map_some, Option.some.injEq] at h2 ⊢
          rw [← h2]
      generalize ((Lib.splitB ⟨#[32]⟩ 0 46 ⟨namesStr.toArray⟩).map Value.string) = cells at hlen hat
      refine ⟨_, rfl, fun b => R b ∨ b = w.heap.size, fun b hb => .inl hb, ?_, ?_, ?_, ?_⟩
      · intro b hb
        rcases hb with hb | rfl
        · exact .inl hb
        · exact .inr (Nat.le_refl _)
      · intro b hb
        have : (w.alloc (.cells cells.toArray 9)).heap.size = w.heap.size + 1 := Array.size_push ..
        rcases hb with hb | rfl
        · have := hR b hb; omega
        · omega
      · exact ⟨rfl, rfl, rfl, by rw [show (w.alloc (.cells cells.toArray 9)).heap.size = w.heap.size + 1 from Array.size_push ..]; omega, fun b hb _ => RowKit.Below.heap_alloc _ _ _ hb⟩
      · refine VR.vw (VR.ro (o := 0) (cs := fun i => [.string ⟨(namesT.getD i []).toArray⟩]) (.inr rfl) (fun i hi => ?_) (fun i hi => rfl) ?_ (Nat.le_refl _) (by decide))
        · refine .one rfl rfl (.str _ ?_) .nil
          have : ∀ x ∈ namesT, x.length ≤ 10 := by decide +kernel
          have h3 := this (namesT.getD i []) (by rw [List.getD_eq_getElem?_getD, List.getElem?_eq_getElem (show i < namesT.length from hi)]; exact List.getElem_mem _)
          show (namesT.getD i []).length ≤ _
          omega
        · intro i j hi hj
          have hj : j = 0 := by have : datSize 5 = 1 := rfl; omega
          subst hj
          show (w.alloc _).cell? _ = _
          rw [World.cell?_alloc_new]
          have := hat i hi
          simpa [datSize] using this
end Go.Proofs.YtocfkaihfjbfnaaDoor
set_option maxRecDepth 100000
namespace Go.Proofs.YtocfkaihfjbfnaaDoor
open Go.Proofs.YtocfkaihfjbfnaaDoor.Ev Go.RowKit
/- The operations' names, an operation's fields, a field's text. -/
noncomputable abbrev SJ0 : FuncId → CSpec := withS (withS (withS SN4 69 g69) 42 s42) 89 s89
theorem SJ0_ok : ∀ f, FnOk Tryd.prog f (SJ0 f) := withS_ok (withS_ok (withS_ok SN4_ok okg69) ok42s) ok89s
def g41 : CSpec | [] => some ⟨[], .vw 5 namesT⟩ | _ => none
theorem okg41 : FnOk Tryd.prog 41 g41 := okBy SJ0_ok Tryd.func41 (by kernel_rfl) (by kernel_rfl) 1 <| by
  intro xs r hs
  unfold g41 at hs; split at hs <;> cases hs
  intro hp _
  show (evFn T SJ0 noL 1 Tryd.f41 []).run = some (.vw 5 namesT)
  kernel_rfl
/-- A function's evaluation, loops and all. -/
def rWt (S : FuncId → CSpec) (L : Nat → Live) (N : Nat) (fn : Func) : CSpec := fun xs => match (evFn T S L N fn xs).run with
  | some r => some ⟨[], r⟩
  | none => none
theorem rWt_ok {S : FuncId → CSpec} (hS : ∀ f, FnOk Tryd.prog f (S f)) {L : Nat → Live} {N : Nat} {f : FuncId} {fn : Func} (hf : Tryd.prog.funcs[f]? = some fn) (hname : (fn.name == "runtime.NumGoroutine") = false) (hbody : fn.body.isNone = false) (hL : FnLoops T S L N fn) (hlt : f < offO := by decide) : FnOk Tryd.prog f (rWt S L N fn) :=
  FnOk.of tyOk hS (by kernel_rfl) (L := L) hf hname hbody (fun xs r hs hp w R vs hvs => by
    unfold rWt at hs
    split at hs
    · rename_i q hq
      cases hs
      exact ⟨N, hL, hq⟩
    · cases hs) hlt
def LHt : Nat → Live := fun r => match r with
  | 4 => ⟨[4, 46, 47, 48], [], [], none⟩
  | _ => ⟨[], [], [], none⟩
def LWt : Nat → Live := fun r => match r with
  | 7 => ⟨[1, 3, 26], [(26, 0), (1, 0), (1, 1), (1, 2), (1, 3), (1, 4), (1, 5), (1, 6), (1, 7), (1, 8), (1, 9), (1, 10)], [1, 26], none⟩
  | _ => ⟨[], [], [], none⟩
noncomputable abbrev SJ1 : FuncId → CSpec := withS (withS (withS SJ0 41 g41) 43 (rWt SJ0 LHt 10 Tryd.f43)) 84 (rWt SJ0 noL 1 Tryd.f84)
theorem SJ1_ok : ∀ f, FnOk Tryd.prog f (SJ1 f) := withS_ok (withS_ok (withS_ok SJ0_ok okg41) (rWt_ok SJ0_ok Tryd.func43 (by kernel_rfl) (by kernel_rfl) (FnLoops.no (by kernel_rfl)))) (rWt_ok SJ0_ok Tryd.func84 (by kernel_rfl) (by kernel_rfl) noL_ok)
noncomputable abbrev SJ2 : FuncId → CSpec := withS SJ1 71 (rWt SJ1 noL 1 Tryd.f71)
theorem SJ2_ok : ∀ f, FnOk Tryd.prog f (SJ2 f) := withS_ok SJ1_ok (rWt_ok SJ1_ok Tryd.func71 (by kernel_rfl) (by kernel_rfl) noL_ok)
noncomputable abbrev SJ3 : FuncId → CSpec := withS SJ2 44 (rWt SJ2 noL 1 Tryd.f44)
theorem SJ3_ok : ∀ f, FnOk Tryd.prog f (SJ3 f) := withS_ok SJ2_ok (rWt_ok SJ2_ok Tryd.func44 (by kernel_rfl) (by kernel_rfl) noL_ok)
end Go.Proofs.YtocfkaihfjbfnaaDoor
