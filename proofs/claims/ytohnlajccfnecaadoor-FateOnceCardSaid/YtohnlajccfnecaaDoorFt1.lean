/- Whether numbers are a set: set.can, set.Check, and the document's (caucusref15.May); a number's digits (caucusref33). -/
import Derived.Test.YtohnlajccfnecaaDoorSetA
import Derived.Test.YtohnlajccfnecaaDoorDr1
namespace Go.Proofs.YtohnlajccfnecaaDoor
open Go.RowKit
set_option linter.unusedSimpArgs false
def lastI (l : List Int) : Nat → Int
  | 0 => -1
  | i + 1 => ix l i
theorem lastI_zero (l : List Int) : lastI l 0 = -1 := rfl
theorem lastI_succ (l : List Int) (i : Nat) : lastI l (i + 1) = ix l i := rfl
def sgood (l : List Int) (i : Nat) : Prop := lastI l i < ix l i ∧ 0 ≤ ix l i ∧ ix l i < 64
instance (l : List Int) (i : Nat) : Decidable (sgood l i) := by unfold sgood; infer_instance
def setOk (l : List Int) : Bool := (List.range l.length).all fun i => decide (sgood l i)
theorem setOk_iff {l : List Int} : setOk l = true ↔ ∀ i, i < l.length → sgood l i := by
  unfold setOk
  simp [List.all_eq_true]
theorem setOk_no {l : List Int} {i : Nat} (hi : i < l.length) (h : ¬ sgood l i) : setOk l = false := by
  cases e : setOk l
  · rfl
  · exact absurd (setOk_iff.1 e i hi) h
def setErr (l : List Int) : Value := if setOk l = true then .nilIface else .iface 74 (.int .i64 1)
theorem setErr_no {l : List Int} (h : setOk l = false) : setErr l = .iface 74 (.int .i64 1) := by unfold setErr; rw [h]; rfl
theorem setErr_yes {l : List Int} (h : setOk l = true) : setErr l = .nilIface := by unfold setErr; rw [h]; rfl
attribute [local irreducible] Callable CallOK CallG CallM DrawG LoopG symR symM
section
variable {w0 : World} {hp : List Res} {ow : Nat → Prop}
set_option maxRecDepth 100000 in
theorem can_any (n : Int) (w : World) : Calls Tryd.prog 37 #[.int .i64 n] w fun e w' => e = .returned (.bool (decide (0 ≤ n ∧ n < 64))) ∧ Below w.heap.size w w' := by
  refine calls_v (n := 9) Tryd.func37 rfl Tryd.ntmps37 [.x (.a (.v (.int .i64 n)))] (by simp) (.x (.a (.v (.bool (decide (0 ≤ n ∧ n < 64)))))) (fun _ => rfl) ?_
  by_cases h0 : (0 : Int) ≤ n
  · by_cases h1 : n < 64
    · have hd : decide (0 ≤ n ∧ n < 64) = true := decide_eq_true ⟨h0, h1⟩
      simp only [h0, h1, hd, undef, push_cast, ↓Int.toNat_natCast, ↓Int.cast_ofNat_Int, Int.cast_ofNat_Int, ↓reduceIte, reduceCtorEq, Nat.reduceEqDiff, Nat.reduceLT, Nat.reduceLeDiff, Nat.reduceAdd, Nat.reduceSub, Nat.reduceMul, Int.reduceNeg, Int.reduceLE, Int.reduceLT, Int.reduceToNat, Int.reduceAdd, Int.reduceSub, Int.reduceMul, Int.reduceEq]
      first | done | rfl | simp
    · have hd : decide (0 ≤ n ∧ n < 64) = false := decide_eq_false fun h => h1 h.2
      simp only [h0, h1, hd, undef, push_cast, ↓Int.toNat_natCast, ↓Int.cast_ofNat_Int, Int.cast_ofNat_Int, ↓reduceIte, reduceCtorEq, Nat.reduceEqDiff, Nat.reduceLT, Nat.reduceLeDiff, Nat.reduceAdd, Nat.reduceSub, Nat.reduceMul, Int.reduceNeg, Int.reduceLE, Int.reduceLT, Int.reduceToNat, Int.reduceAdd, Int.reduceSub, Int.reduceMul, Int.reduceEq]
      first | done | rfl | simp
  · have hd : decide (0 ≤ n ∧ n < 64) = false := decide_eq_false fun h => h0 h.1
    simp only [h0, hd, undef, push_cast, ↓Int.toNat_natCast, ↓Int.cast_ofNat_Int, Int.cast_ofNat_Int, ↓reduceIte, reduceCtorEq, Nat.reduceEqDiff, Nat.reduceLT, Nat.reduceLeDiff, Nat.reduceAdd, Nat.reduceSub, Nat.reduceMul, Int.reduceNeg, Int.reduceLE, Int.reduceLT, Int.reduceToNat, Int.reduceAdd, Int.reduceSub, Int.reduceMul, Int.reduceEq]
    first | done | rfl | simp
theorem canOK (n : Int) : CallOK Tryd.prog w0 ow 37 [.x (.a (.v (.int .i64 n)))] hp (.x (.a (.v (.bool (decide (0 ≤ n ∧ n < 64)))))) hp := callOK_v fun _ w _ => can_any n w
set_option maxRecDepth 100000 in
set_option maxHeartbeats 1000000 in
theorem check15_any (l : List Int) (A : Option Addr) (c : Nat) (w : World) (hl : l.length ≤ 1000000) (hR : RdV w w.heap.size A (l.map vI64)) : Calls Tryd.prog 27 #[.slice A l.length c] w fun e w' => e = .returned (setErr l) ∧ Below w.heap.size w w' := by
  have F := FM.of hR
  refine calls_v (n := 23) Tryd.func27 rfl Tryd.ntmps27 [.x (.a (.v (.slice A l.length c)))] (by simp) (.x (.a (.v (setErr l)))) (fun _ => rfl) ?_
  simp only [undef, push_cast, ↓Int.toNat_natCast, ↓Int.cast_ofNat_Int, Int.cast_ofNat_Int, ↓reduceIte, reduceCtorEq, Nat.reduceEqDiff, Nat.reduceLT, Nat.reduceLeDiff, Nat.reduceAdd, Nat.reduceSub, Nat.reduceMul, Int.reduceNeg, Int.reduceLE, Int.reduceLT, Int.reduceToNat, Int.reduceAdd, Int.reduceSub, Int.reduceMul, Int.reduceEq]
  refine loop_rule (ι := Nat) (fun i => ⟨[(3, .x (.a (.v (.int .i64 (lastI l i))))), (6, .x (.a (.v (.slice A l.length c)))), (7, .x (.a (.v (.int .i64 l.length)))), (8, .x (.a (.v (.int .i64 i))))], []⟩) (fun i => i ≤ l.length ∧ ∀ j, j < i → sgood l j) (fun i => l.length - i) 0 [] ⟨by omega, fun j h => by omega⟩ ?_ ?_
  · simp only [lastI_zero, push_cast, ↓Int.toNat_natCast, ↓Int.cast_ofNat_Int, Int.cast_ofNat_Int, ↓reduceIte, reduceCtorEq, Nat.reduceEqDiff, Nat.reduceLT, Nat.reduceLeDiff, Nat.reduceAdd, Nat.reduceSub, Nat.reduceMul, Int.reduceNeg, Int.reduceLE, Int.reduceLT, Int.reduceToNat, Int.reduceAdd, Int.reduceSub, Int.reduceMul, Int.reduceEq]
  · rintro i ⟨hi, hj⟩
    by_cases hlt : (i : Int) < l.length
    · have i0 : (0 : Int) ≤ i := by omega
      have c0 : cellOf w (pAdd A i) = .int .i64 (ix l i) := F.cell i (by omega)
      have o0 := F.ok i (by omega)
      have hA := F.some_ (by omega)
      by_cases h1 : ix l i ≤ lastI l i
      · have hn := setErr_no (setOk_no (l := l) (i := i) (by omega) fun h => by have := h.1; omega)
        simp only [hlt, i0, c0, o0, hA, h1, hn, undef, push_cast, ↓Int.toNat_natCast, ↓Int.cast_ofNat_Int, Int.cast_ofNat_Int, ↓reduceIte, reduceCtorEq, Nat.reduceEqDiff, Nat.reduceLT, Nat.reduceLeDiff, Nat.reduceAdd, Nat.reduceSub, Nat.reduceMul, Int.reduceNeg, Int.reduceLE, Int.reduceLT, Int.reduceToNat, Int.reduceAdd, Int.reduceSub, Int.reduceMul, Int.reduceEq]
      · by_cases h2 : 0 ≤ ix l i ∧ ix l i < 64
        · have hd : decide (0 ≤ ix l i ∧ ix l i < 64) = true := decide_eq_true h2
          have hs : sgood l i := ⟨by omega, h2⟩
          have hsu := lastI_succ l i
          simp only [hlt, i0, c0, o0, hA, h1, undef, push_cast, ↓Int.toNat_natCast, ↓Int.cast_ofNat_Int, Int.cast_ofNat_Int, ↓reduceIte, reduceCtorEq, Nat.reduceEqDiff, Nat.reduceLT, Nat.reduceLeDiff, Nat.reduceAdd, Nat.reduceSub, Nat.reduceMul, Int.reduceNeg, Int.reduceLE, Int.reduceLT, Int.reduceToNat, Int.reduceAdd, Int.reduceSub, Int.reduceMul, Int.reduceEq]
          (repeat (refine And.intro (by first | omega | decide) ?_))
          refine callG_v rfl cb37 rfl (canOK (ix l i)) (dOk_lt rfl) ?_
          simp only [hd, undef, push_cast, ↓Int.toNat_natCast, ↓Int.cast_ofNat_Int, Int.cast_ofNat_Int, ↓reduceIte, reduceCtorEq, Nat.reduceEqDiff, Nat.reduceLT, Nat.reduceLeDiff, Nat.reduceAdd, Nat.reduceSub, Nat.reduceMul, Int.reduceNeg, Int.reduceLE, Int.reduceLT, Int.reduceToNat, Int.reduceAdd, Int.reduceSub, Int.reduceMul, Int.reduceEq]
          (repeat (refine And.intro (by first | omega | decide) ?_))
          refine loopK_normal (i + 1) [] ⟨by omega, fun j hjl => ?_⟩ (by omega) ?_
          · by_cases e : j = i
            · rw [e]; exact hs
            · exact hj j (by omega)
          · simp only [hsu, push_cast, ↓Int.toNat_natCast, ↓Int.cast_ofNat_Int, Int.cast_ofNat_Int, ↓reduceIte, reduceCtorEq, Nat.reduceEqDiff, Nat.reduceLT, Nat.reduceLeDiff, Nat.reduceAdd, Nat.reduceSub, Nat.reduceMul, Int.reduceNeg, Int.reduceLE, Int.reduceLT, Int.reduceToNat, Int.reduceAdd, Int.reduceSub, Int.reduceMul, Int.reduceEq]
        · have hd : decide (0 ≤ ix l i ∧ ix l i < 64) = false := decide_eq_false h2
          have hn := setErr_no (setOk_no (l := l) (i := i) (by omega) fun h => h2 h.2)
          simp only [hlt, i0, c0, o0, hA, h1, undef, push_cast, ↓Int.toNat_natCast, ↓Int.cast_ofNat_Int, Int.cast_ofNat_Int, ↓reduceIte, reduceCtorEq, Nat.reduceEqDiff, Nat.reduceLT, Nat.reduceLeDiff, Nat.reduceAdd, Nat.reduceSub, Nat.reduceMul, Int.reduceNeg, Int.reduceLE, Int.reduceLT, Int.reduceToNat, Int.reduceAdd, Int.reduceSub, Int.reduceMul, Int.reduceEq]
          (repeat (refine And.intro (by first | omega | decide) ?_))
          refine callG_v rfl cb37 rfl (canOK (ix l i)) (dOk_lt rfl) ?_
          simp only [hd, hn, undef, push_cast, ↓Int.toNat_natCast, ↓Int.cast_ofNat_Int, Int.cast_ofNat_Int, ↓reduceIte, reduceCtorEq, Nat.reduceEqDiff, Nat.reduceLT, Nat.reduceLeDiff, Nat.reduceAdd, Nat.reduceSub, Nat.reduceMul, Int.reduceNeg, Int.reduceLE, Int.reduceLT, Int.reduceToNat, Int.reduceAdd, Int.reduceSub, Int.reduceMul, Int.reduceEq]
    · have hn := setErr_yes (setOk_iff.2 fun j h => hj j (by omega))
      simp only [hlt, hn, undef, push_cast, ↓Int.toNat_natCast, ↓Int.cast_ofNat_Int, Int.cast_ofNat_Int, ↓reduceIte, reduceCtorEq, Nat.reduceEqDiff, Nat.reduceLT, Nat.reduceLeDiff, Nat.reduceAdd, Nat.reduceSub, Nat.reduceMul, Int.reduceNeg, Int.reduceLE, Int.reduceLT, Int.reduceToNat, Int.reduceAdd, Int.reduceSub, Int.reduceMul, Int.reduceEq]
theorem check15OK {sv : Sv} {l : List Int} (hl : l.length ≤ 1000000) (h : Shows w0 ow hp sv (l.map vI64)) : CallOK Tryd.prog w0 ow 27 [sv] hp (.x (.a (.v (setErr l)))) hp := callOK_v fun γ w hS => by
  obtain ⟨A, c, e1, b1, r1⟩ := h γ w hS
  rw [List.length_map] at e1
  show Calls _ _ #[sv.val γ] w _
  rw [e1]
  exact check15_any l A c w hl r1
set_option maxRecDepth 100000 in
set_option maxHeartbeats 1000000 in
theorem may15_any (l : List Int) (A : Option Addr) (c : Nat) (w : World) (hl : l.length ≤ 1000000) (hR : RdV w w.heap.size A (l.map vI64)) : Calls Tryd.prog 31 #[.slice A l.length c] w fun e w' => e = .returned (.bool (setOk l)) ∧ Below w.heap.size w w' := by
  have F := FM.of hR
  refine calls_v (n := 38) Tryd.func31 rfl Tryd.ntmps31 [.x (.a (.v (.slice A l.length c)))] (by simp) (.x (.a (.v (.bool (setOk l))))) (fun _ => rfl) ?_
  simp only [undef, push_cast, ↓Int.toNat_natCast, ↓Int.cast_ofNat_Int, Int.cast_ofNat_Int, ↓reduceIte, reduceCtorEq, Nat.reduceEqDiff, Nat.reduceLT, Nat.reduceLeDiff, Nat.reduceAdd, Nat.reduceSub, Nat.reduceMul, Int.reduceNeg, Int.reduceLE, Int.reduceLT, Int.reduceToNat, Int.reduceAdd, Int.reduceSub, Int.reduceMul, Int.reduceEq]
  refine loop_rule (ι := Nat) (fun i => ⟨[(0, .x (.a (.v (.slice A l.length c)))), (3, .x (.a (.v (.int .i64 i))))], []⟩) (fun i => i ≤ l.length ∧ ∀ j, j < i → sgood l j) (fun i => l.length - i) 0 [] ⟨by omega, fun j h => by omega⟩ ?_ ?_
  · simp only [push_cast, ↓Int.toNat_natCast, ↓Int.cast_ofNat_Int, Int.cast_ofNat_Int, ↓reduceIte, reduceCtorEq, Nat.reduceEqDiff, Nat.reduceLT, Nat.reduceLeDiff, Nat.reduceAdd, Nat.reduceSub, Nat.reduceMul, Int.reduceNeg, Int.reduceLE, Int.reduceLT, Int.reduceToNat, Int.reduceAdd, Int.reduceSub, Int.reduceMul, Int.reduceEq]
  · rintro i ⟨hi, hj⟩
    by_cases hlt : (i : Int) < l.length
    · have i0 : (0 : Int) ≤ i := by omega
      have c0 : cellOf w (pAdd A i) = .int .i64 (ix l i) := F.cell i (by omega)
      have o0 := F.ok i (by omega)
      have hA := F.some_ (by omega)
      by_cases h1 : ix l i < 0
      · have hn := setOk_no (l := l) (i := i) (by omega) fun h => by have := h.2.1; omega
        simp only [hlt, undef, push_cast, ↓Int.toNat_natCast, ↓Int.cast_ofNat_Int, Int.cast_ofNat_Int, ↓reduceIte, reduceCtorEq, Nat.reduceEqDiff, Nat.reduceLT, Nat.reduceLeDiff, Nat.reduceAdd, Nat.reduceSub, Nat.reduceMul, Int.reduceNeg, Int.reduceLE, Int.reduceLT, Int.reduceToNat, Int.reduceAdd, Int.reduceSub, Int.reduceMul, Int.reduceEq]
        (repeat (refine And.intro (by first | omega | decide) ?_))
        refine draw_rule [(0, true), (1, true), (2, true), (3, true), (4, true), (5, true), (6, true), (7, true), (8, true), (9, true), (10, true), (11, true), (12, true), (13, true), (14, true), (15, true), (16, true), (17, true), (18, true), (19, true), (20, true), (21, true), (22, true), (23, true), (24, true), (25, true), (26, true), (27, true)] (by kernel_rfl) (by kernel_rfl) rfl (by kernel_rfl) ?_
        simp (config := { maxSteps := 1000000 }) only [hlt, i0, c0, o0, hA, h1, hn, undef, push_cast, ↓Int.toNat_natCast, ↓Int.cast_ofNat_Int, Int.cast_ofNat_Int, ↓reduceIte, reduceCtorEq, Nat.reduceEqDiff, Nat.reduceLT, Nat.reduceLeDiff, Nat.reduceAdd, Nat.reduceSub, Nat.reduceMul, Int.reduceNeg, Int.reduceLE, Int.reduceLT, Int.reduceToNat, Int.reduceAdd, Int.reduceSub, Int.reduceMul, Int.reduceEq]
      by_cases h2 : 63 < ix l i
      · have hn := setOk_no (l := l) (i := i) (by omega) fun h => by have := h.2.2; omega
        simp only [hlt, undef, push_cast, ↓Int.toNat_natCast, ↓Int.cast_ofNat_Int, Int.cast_ofNat_Int, ↓reduceIte, reduceCtorEq, Nat.reduceEqDiff, Nat.reduceLT, Nat.reduceLeDiff, Nat.reduceAdd, Nat.reduceSub, Nat.reduceMul, Int.reduceNeg, Int.reduceLE, Int.reduceLT, Int.reduceToNat, Int.reduceAdd, Int.reduceSub, Int.reduceMul, Int.reduceEq]
        (repeat (refine And.intro (by first | omega | decide) ?_))
        refine draw_rule [(0, true), (1, true), (2, true), (3, true), (4, true), (5, true), (6, true), (7, true), (8, true), (9, true), (10, true), (11, true), (12, true), (13, true), (14, true), (15, true), (16, true), (17, true), (18, true), (19, true), (20, true), (21, true), (22, true), (23, true), (24, true), (25, true), (26, true), (27, true)] (by kernel_rfl) (by kernel_rfl) rfl (by kernel_rfl) ?_
        simp (config := { maxSteps := 1000000 }) only [hlt, i0, c0, o0, hA, h1, h2, hn, undef, push_cast, ↓Int.toNat_natCast, ↓Int.cast_ofNat_Int, Int.cast_ofNat_Int, ↓reduceIte, reduceCtorEq, Nat.reduceEqDiff, Nat.reduceLT, Nat.reduceLeDiff, Nat.reduceAdd, Nat.reduceSub, Nat.reduceMul, Int.reduceNeg, Int.reduceLE, Int.reduceLT, Int.reduceToNat, Int.reduceAdd, Int.reduceSub, Int.reduceMul, Int.reduceEq]
      cases i with
      | zero =>
        have hl0 : (0 : Int) < l.length := by omega
        have hs : sgood l 0 := ⟨by rw [lastI_zero]; omega, by omega, by omega⟩
        simp only [hlt, hl0, undef, push_cast, ↓Int.toNat_natCast, ↓Int.cast_ofNat_Int, Int.cast_ofNat_Int, ↓reduceIte, reduceCtorEq, Nat.reduceEqDiff, Nat.reduceLT, Nat.reduceLeDiff, Nat.reduceAdd, Nat.reduceSub, Nat.reduceMul, Int.reduceNeg, Int.reduceLE, Int.reduceLT, Int.reduceToNat, Int.reduceAdd, Int.reduceSub, Int.reduceMul, Int.reduceEq]
        (repeat (refine And.intro (by first | omega | decide) ?_))
        refine draw_rule [(0, true), (1, true), (2, true), (3, true), (4, true), (5, true), (6, true), (7, true), (8, true), (9, true), (10, true), (11, true), (12, true), (13, true), (14, true), (15, true), (16, true), (17, true), (18, true), (19, true), (20, true), (21, true), (22, true), (23, true), (24, true), (25, true), (26, true), (27, true)] (by kernel_rfl) (by kernel_rfl) rfl (by kernel_rfl) ?_
        simp (config := { maxSteps := 1000000 }) only [hlt, hl0, i0, c0, o0, hA, h1, h2, undef, push_cast, ↓Int.toNat_natCast, ↓Int.cast_ofNat_Int, Int.cast_ofNat_Int, ↓reduceIte, reduceCtorEq, Nat.reduceEqDiff, Nat.reduceLT, Nat.reduceLeDiff, Nat.reduceAdd, Nat.reduceSub, Nat.reduceMul, Int.reduceNeg, Int.reduceLE, Int.reduceLT, Int.reduceToNat, Int.reduceAdd, Int.reduceSub, Int.reduceMul, Int.reduceEq]
        (repeat (refine And.intro (by first | omega | decide) ?_))
        refine loopK_normal 1 [] ⟨by omega, fun j hjl => ?_⟩ (by omega) ?_
        · have e : j = 0 := by omega
          rw [e]; exact hs
        · simp only [push_cast, ↓Int.toNat_natCast, ↓Int.cast_ofNat_Int, Int.cast_ofNat_Int, ↓reduceIte, reduceCtorEq, Nat.reduceEqDiff, Nat.reduceLT, Nat.reduceLeDiff, Nat.reduceAdd, Nat.reduceSub, Nat.reduceMul, Int.reduceNeg, Int.reduceLE, Int.reduceLT, Int.reduceToNat, Int.reduceAdd, Int.reduceSub, Int.reduceMul, Int.reduceEq]
      | succ k =>
        have c1 : cellOf w (pAdd A k) = .int .i64 (ix l k) := F.cell k (by omega)
        have o1 := F.ok k (by omega)
        have d1 : ((k : Int) + 1) - 1 = k := by omega
        have d2 : (0 : Int) < (k : Int) + 1 := by omega
        have d3 : (0 : Int) ≤ (k : Int) := by omega
        have d4 : (k : Int) < l.length := by omega
        have d6 : (k : Int) + 1 < l.length := by omega
        have d7 : (0 : Int) ≤ (k : Int) + 1 := by omega
        have d8 : (-9223372036854775808 : Int) ≤ (k : Int) := by omega
        have d9 : (k : Int) ≤ 9223372036854775807 := by omega
        have d5 : ((k : Int) + 1).toNat = k + 1 := by omega
        by_cases h3 : ix l (k + 1) ≤ ix l k
        · have hn := setOk_no (l := l) (i := k + 1) (by omega) fun h => by have := h.1; rw [lastI_succ] at this; omega
          simp only [hlt, d6, d7, d8, d9, undef, push_cast, ↓Int.toNat_natCast, ↓Int.cast_ofNat_Int, Int.cast_ofNat_Int, ↓reduceIte, reduceCtorEq, Nat.reduceEqDiff, Nat.reduceLT, Nat.reduceLeDiff, Nat.reduceAdd, Nat.reduceSub, Nat.reduceMul, Int.reduceNeg, Int.reduceLE, Int.reduceLT, Int.reduceToNat, Int.reduceAdd, Int.reduceSub, Int.reduceMul, Int.reduceEq]
          (repeat (refine And.intro (by first | omega | decide) ?_))
          refine draw_rule [(0, true), (1, true), (2, true), (3, true), (4, true), (5, true), (6, true), (7, true), (8, true), (9, true), (10, true), (11, true), (12, true), (13, true), (14, true), (15, true), (16, true), (17, true), (18, true), (19, true), (20, true), (21, true), (22, true), (23, true), (24, true), (25, true), (26, true), (27, true)] (by kernel_rfl) (by kernel_rfl) rfl (by kernel_rfl) ?_
          simp (config := { maxSteps := 1000000 }) only [hlt, d6, d7, d8, d9, i0, c0, o0, c1, o1, d1, d2, d3, d4, d5, hA, h1, h2, h3, hn, undef, push_cast, ↓Int.toNat_natCast, ↓Int.cast_ofNat_Int, Int.cast_ofNat_Int, ↓reduceIte, reduceCtorEq, Nat.reduceEqDiff, Nat.reduceLT, Nat.reduceLeDiff, Nat.reduceAdd, Nat.reduceSub, Nat.reduceMul, Int.reduceNeg, Int.reduceLE, Int.reduceLT, Int.reduceToNat, Int.reduceAdd, Int.reduceSub, Int.reduceMul, Int.reduceEq]
        · have hs : sgood l (k + 1) := ⟨by rw [lastI_succ]; omega, by omega, by omega⟩
          simp only [hlt, d6, d7, d8, d9, undef, push_cast, ↓Int.toNat_natCast, ↓Int.cast_ofNat_Int, Int.cast_ofNat_Int, ↓reduceIte, reduceCtorEq, Nat.reduceEqDiff, Nat.reduceLT, Nat.reduceLeDiff, Nat.reduceAdd, Nat.reduceSub, Nat.reduceMul, Int.reduceNeg, Int.reduceLE, Int.reduceLT, Int.reduceToNat, Int.reduceAdd, Int.reduceSub, Int.reduceMul, Int.reduceEq]
          (repeat (refine And.intro (by first | omega | decide) ?_))
          refine draw_rule [(0, true), (1, true), (2, true), (3, true), (4, true), (5, true), (6, true), (7, true), (8, true), (9, true), (10, true), (11, true), (12, true), (13, true), (14, true), (15, true), (16, true), (17, true), (18, true), (19, true), (20, true), (21, true), (22, true), (23, true), (24, true), (25, true), (26, true), (27, true)] (by kernel_rfl) (by kernel_rfl) rfl (by kernel_rfl) ?_
          simp (config := { maxSteps := 1000000 }) only [hlt, d6, d7, d8, d9, i0, c0, o0, c1, o1, d1, d2, d3, d4, d5, hA, h1, h2, h3, undef, push_cast, ↓Int.toNat_natCast, ↓Int.cast_ofNat_Int, Int.cast_ofNat_Int, ↓reduceIte, reduceCtorEq, Nat.reduceEqDiff, Nat.reduceLT, Nat.reduceLeDiff, Nat.reduceAdd, Nat.reduceSub, Nat.reduceMul, Int.reduceNeg, Int.reduceLE, Int.reduceLT, Int.reduceToNat, Int.reduceAdd, Int.reduceSub, Int.reduceMul, Int.reduceEq]
          (repeat (refine And.intro (by first | omega | decide) ?_))
          refine loopK_normal (k + 1 + 1) [] ⟨by omega, fun j hjl => ?_⟩ (by omega) ?_
          · by_cases e : j = k + 1
            · rw [e]; exact hs
            · exact hj j (by omega)
          · simp only [push_cast, ↓Int.toNat_natCast, ↓Int.cast_ofNat_Int, Int.cast_ofNat_Int, ↓reduceIte, reduceCtorEq, Nat.reduceEqDiff, Nat.reduceLT, Nat.reduceLeDiff, Nat.reduceAdd, Nat.reduceSub, Nat.reduceMul, Int.reduceNeg, Int.reduceLE, Int.reduceLT, Int.reduceToNat, Int.reduceAdd, Int.reduceSub, Int.reduceMul, Int.reduceEq]
    · have hn := setOk_iff.2 fun j h => hj j (by omega)
      simp only [hlt, hn, undef, push_cast, ↓Int.toNat_natCast, ↓Int.cast_ofNat_Int, Int.cast_ofNat_Int, ↓reduceIte, reduceCtorEq, Nat.reduceEqDiff, Nat.reduceLT, Nat.reduceLeDiff, Nat.reduceAdd, Nat.reduceSub, Nat.reduceMul, Int.reduceNeg, Int.reduceLE, Int.reduceLT, Int.reduceToNat, Int.reduceAdd, Int.reduceSub, Int.reduceMul, Int.reduceEq]
theorem may15OK {sv : Sv} {l : List Int} (hl : l.length ≤ 1000000) (h : Shows w0 No hp sv (l.map vI64)) : CallOK Tryd.prog w0 No 31 [sv] hp (.x (.a (.v (.bool (setOk l))))) hp := callOK_v fun γ w hS => by
  obtain ⟨A, c, e1, b1, r1⟩ := h γ w hS
  rw [List.length_map] at e1
  show Calls _ _ #[sv.val γ] w _
  rw [e1]
  exact may15_any l A c w hl r1
end
end Go.Proofs.YtohnlajccfnecaaDoor
