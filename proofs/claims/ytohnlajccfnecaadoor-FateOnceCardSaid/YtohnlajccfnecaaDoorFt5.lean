/- How it ends, by the document (caucusref33): Done, Abort, Text. -/
import Derived.Test.YtohnlajccfnecaaDoorFt4
namespace Go.Proofs.YtohnlajccfnecaaDoor
open Go.RowKit
set_option linter.unusedSimpArgs false
def doneOk (k : Int) (l : List Int) (x : List UInt32) : Bool := decide (k = 0 ∧ l ≠ []) && (setOk l && decide (x.length ≤ 32))
theorem doneOk_spec {k : Int} {l : List Int} {x : List UInt32} : doneOk k l x = true ↔ k = 0 ∧ l ≠ [] ∧ setOk l = true ∧ x.length ≤ 32 := by
  unfold doneOk
  rw [Bool.and_eq_true, Bool.and_eq_true, decide_eq_true_eq, decide_eq_true_eq, and_assoc]
def abortOk (k n : Int) : Bool := decide (k = 0 ∧ 1 ≤ n ∧ n ≤ 4)
theorem abortOk_spec {k n : Int} : abortOk k n = true ↔ k = 0 ∧ 1 ≤ n ∧ n ≤ 4 := decide_eq_true_iff
attribute [local irreducible] Callable CallOK CallG CallM DrawG LoopG symR symM
section
variable (k r : Int) (ids : List Int) (row : List UInt32) (A : Option Addr) (c : Nat) (B : Option Addr) (d : Nat)
set_option maxRecDepth 100000 in
set_option maxHeartbeats 1000000 in
theorem rabort_no (n : Int) (w : World) (h : abortOk k n = false) : Calls Tryd.prog 14 (List.map (Sv.val []) [(.x (.g [.v (.int .i64 k), .v (.int .i64 r), .v (.slice A ids.length c), .v (.slice B row.length d)])), .x (.a (.v (.int .i64 n)))]).toArray w fun e w' => e = .returned (.tuple #[(Sv.val [] (.x (.g [.v (.int .i64 k), .v (.int .i64 r), .v (.slice A ids.length c), .v (.slice B row.length d)]))), .bool false]) ∧ Below w.heap.size w w' := by
  have h : ¬ (k = 0 ∧ 1 ≤ n ∧ n ≤ 4) := of_decide_eq_false h
  refine calls_v (n := 20) Tryd.func14 rfl Tryd.ntmps14 [(.x (.g [.v (.int .i64 k), .v (.int .i64 r), .v (.slice A ids.length c), .v (.slice B row.length d)])), .x (.a (.v (.int .i64 n)))] (by simp) (.t [.g [.v (.int .i64 k), .v (.int .i64 r), .v (.slice A ids.length c), .v (.slice B row.length d)], .a (.v (.bool false))]) (fun _ => rfl) ?_
  by_cases h0 : k = 0
  · by_cases h1 : n < 1
    · simp (config := { maxSteps := 1000000 }) only [h0, h1, undef, push_cast, ↓Int.toNat_natCast, ↓Int.cast_ofNat_Int, Int.cast_ofNat_Int, ↓reduceIte, reduceCtorEq, Nat.reduceEqDiff, Nat.reduceLT, Nat.reduceLeDiff, Nat.reduceAdd, Nat.reduceSub, Nat.reduceMul, Int.reduceNeg, Int.reduceLE, Int.reduceLT, Int.reduceToNat, Int.reduceAdd, Int.reduceSub, Int.reduceMul, Int.reduceEq]
    · have h2 : 4 < n := by omega
      simp (config := { maxSteps := 1000000 }) only [h0, h1, h2, undef, push_cast, ↓Int.toNat_natCast, ↓Int.cast_ofNat_Int, Int.cast_ofNat_Int, ↓reduceIte, reduceCtorEq, Nat.reduceEqDiff, Nat.reduceLT, Nat.reduceLeDiff, Nat.reduceAdd, Nat.reduceSub, Nat.reduceMul, Int.reduceNeg, Int.reduceLE, Int.reduceLT, Int.reduceToNat, Int.reduceAdd, Int.reduceSub, Int.reduceMul, Int.reduceEq]
  · simp (config := { maxSteps := 1000000 }) only [h0, undef, push_cast, ↓Int.toNat_natCast, ↓Int.cast_ofNat_Int, Int.cast_ofNat_Int, ↓reduceIte, reduceCtorEq, Nat.reduceEqDiff, Nat.reduceLT, Nat.reduceLeDiff, Nat.reduceAdd, Nat.reduceSub, Nat.reduceMul, Int.reduceNeg, Int.reduceLE, Int.reduceLT, Int.reduceToNat, Int.reduceAdd, Int.reduceSub, Int.reduceMul, Int.reduceEq]
set_option maxRecDepth 100000 in
set_option maxHeartbeats 1000000 in
theorem rabort_yes (n : Int) (w : World) (h : abortOk k n = true) : Calls Tryd.prog 14 (List.map (Sv.val []) [(.x (.g [.v (.int .i64 k), .v (.int .i64 r), .v (.slice A ids.length c), .v (.slice B row.length d)])), .x (.a (.v (.int .i64 n)))]).toArray w fun e w' => e = .returned (.tuple #[.agg #[.int .i64 2, .int .i64 n, .slice none 0 0, .slice none 0 0], .bool true]) ∧ Below w.heap.size w w' := by
  obtain ⟨h0, h1, h2⟩ := abortOk_spec.1 h
  have g1 : ¬ n < 1 := by omega
  have g2 : ¬ 4 < n := by omega
  refine calls_v (n := 20) Tryd.func14 rfl Tryd.ntmps14 [(.x (.g [.v (.int .i64 k), .v (.int .i64 r), .v (.slice A ids.length c), .v (.slice B row.length d)])), .x (.a (.v (.int .i64 n)))] (by simp) (.t [.g [.v (.int .i64 2), .v (.int .i64 n), .v (.slice none 0 0), .v (.slice none 0 0)], .a (.v (.bool true))]) (fun _ => rfl) ?_
  simp (config := { maxSteps := 1000000 }) only [h0, g1, g2, undef, push_cast, ↓Int.toNat_natCast, ↓Int.cast_ofNat_Int, Int.cast_ofNat_Int, ↓reduceIte, reduceCtorEq, Nat.reduceEqDiff, Nat.reduceLT, Nat.reduceLeDiff, Nat.reduceAdd, Nat.reduceSub, Nat.reduceMul, Int.reduceNeg, Int.reduceLE, Int.reduceLT, Int.reduceToNat, Int.reduceAdd, Int.reduceSub, Int.reduceMul, Int.reduceEq]
variable (l : List Int) (x : List UInt32) (A2 : Option Addr) (c2 : Nat) (B2 : Option Addr) (d2 : Nat)
set_option maxRecDepth 100000 in
set_option maxHeartbeats 1000000 in
theorem rdone_no (w : World) (hl : l.length ≤ 1000) (hc : l.length ≤ c2) (hR : RdV w w.heap.size A2 (l.map vI64)) (h : ¬ doneOk k l x = true) : Calls Tryd.prog 13 (List.map (Sv.val []) [(.x (.g [.v (.int .i64 k), .v (.int .i64 r), .v (.slice A ids.length c), .v (.slice B row.length d)])), .x (.a (.v (.slice A2 l.length c2))), .x (.a (.v (.slice B2 x.length d2)))]).toArray w fun e w' => e = .returned (.tuple #[(Sv.val [] (.x (.g [.v (.int .i64 k), .v (.int .i64 r), .v (.slice A ids.length c), .v (.slice B row.length d)]))), .bool false]) ∧ Below w.heap.size w w' := by
  refine calls_v (n := 30) Tryd.func13 rfl Tryd.ntmps13 [(.x (.g [.v (.int .i64 k), .v (.int .i64 r), .v (.slice A ids.length c), .v (.slice B row.length d)])), .x (.a (.v (.slice A2 l.length c2))), .x (.a (.v (.slice B2 x.length d2)))] (by simp) (.t [.g [.v (.int .i64 k), .v (.int .i64 r), .v (.slice A ids.length c), .v (.slice B row.length d)], .a (.v (.bool false))]) (fun _ => rfl) ?_
  by_cases h0 : k = 0
  · by_cases h1 : (l.length : Int) = 0
    · simp (config := { maxSteps := 1000000 }) only [h0, h1, undef, push_cast, ↓Int.toNat_natCast, ↓Int.cast_ofNat_Int, Int.cast_ofNat_Int, ↓reduceIte, reduceCtorEq, Nat.reduceEqDiff, Nat.reduceLT, Nat.reduceLeDiff, Nat.reduceAdd, Nat.reduceSub, Nat.reduceMul, Int.reduceNeg, Int.reduceLE, Int.reduceLT, Int.reduceToNat, Int.reduceAdd, Int.reduceSub, Int.reduceMul, Int.reduceEq]
    · simp (config := { maxSteps := 1000000 }) only [h0, h1, undef, push_cast, ↓Int.toNat_natCast, ↓Int.cast_ofNat_Int, Int.cast_ofNat_Int, ↓reduceIte, reduceCtorEq, Nat.reduceEqDiff, Nat.reduceLT, Nat.reduceLeDiff, Nat.reduceAdd, Nat.reduceSub, Nat.reduceMul, Int.reduceNeg, Int.reduceLE, Int.reduceLT, Int.reduceToNat, Int.reduceAdd, Int.reduceSub, Int.reduceMul, Int.reduceEq]
      (repeat (refine And.intro (by first | omega | decide) ?_))
      refine callG_v rfl cb31 rfl (may15OK (l := l) (by omega) (shows_raw hR _ _ (by simp) hc)) (dOk_lt rfl) ?_
      cases h2 : setOk l
      · simp (config := { maxSteps := 1000000 }) only [h0, h1, undef, push_cast, ↓Int.toNat_natCast, ↓Int.cast_ofNat_Int, Int.cast_ofNat_Int, ↓reduceIte, reduceCtorEq, Nat.reduceEqDiff, Nat.reduceLT, Nat.reduceLeDiff, Nat.reduceAdd, Nat.reduceSub, Nat.reduceMul, Int.reduceNeg, Int.reduceLE, Int.reduceLT, Int.reduceToNat, Int.reduceAdd, Int.reduceSub, Int.reduceMul, Int.reduceEq]
      · by_cases h3 : (32 : Int) < x.length
        · simp (config := { maxSteps := 1000000 }) only [h0, h1, h3, undef, push_cast, ↓Int.toNat_natCast, ↓Int.cast_ofNat_Int, Int.cast_ofNat_Int, ↓reduceIte, reduceCtorEq, Nat.reduceEqDiff, Nat.reduceLT, Nat.reduceLeDiff, Nat.reduceAdd, Nat.reduceSub, Nat.reduceMul, Int.reduceNeg, Int.reduceLE, Int.reduceLT, Int.reduceToNat, Int.reduceAdd, Int.reduceSub, Int.reduceMul, Int.reduceEq]
        · exact absurd (doneOk_spec.2 ⟨h0, fun e => h1 (by rw [e]; rfl), h2, by omega⟩) h
  · simp (config := { maxSteps := 1000000 }) only [h0, undef, push_cast, ↓Int.toNat_natCast, ↓Int.cast_ofNat_Int, Int.cast_ofNat_Int, ↓reduceIte, reduceCtorEq, Nat.reduceEqDiff, Nat.reduceLT, Nat.reduceLeDiff, Nat.reduceAdd, Nat.reduceSub, Nat.reduceMul, Int.reduceNeg, Int.reduceLE, Int.reduceLT, Int.reduceToNat, Int.reduceAdd, Int.reduceSub, Int.reduceMul, Int.reduceEq]
set_option maxRecDepth 100000 in
set_option maxHeartbeats 1000000 in
theorem rdone_yes (w : World) (hl : l.length ≤ 1000) (hc : l.length ≤ c2) (hR : RdV w w.heap.size A2 (l.map vI64)) (h : doneOk k l x = true) : Calls Tryd.prog 13 (List.map (Sv.val []) [(.x (.g [.v (.int .i64 k), .v (.int .i64 r), .v (.slice A ids.length c), .v (.slice B row.length d)])), .x (.a (.v (.slice A2 l.length c2))), .x (.a (.v (.slice B2 x.length d2)))]).toArray w fun e w' => e = .returned (.tuple #[.agg #[.int .i64 1, .int .i64 0, .slice A2 l.length c2, .slice B2 x.length d2], .bool true]) ∧ Below w.heap.size w w' := by
  obtain ⟨h0, h1, h2, h3⟩ := doneOk_spec.1 h
  have g1 : ¬ (l.length : Int) = 0 := fun e => h1 (List.length_eq_zero_iff.1 (by omega))
  have g3 : ¬ (32 : Int) < x.length := by omega
  refine calls_v (n := 30) Tryd.func13 rfl Tryd.ntmps13 [(.x (.g [.v (.int .i64 k), .v (.int .i64 r), .v (.slice A ids.length c), .v (.slice B row.length d)])), .x (.a (.v (.slice A2 l.length c2))), .x (.a (.v (.slice B2 x.length d2)))] (by simp) (.t [.g [.v (.int .i64 1), .v (.int .i64 0), .v (.slice A2 l.length c2), .v (.slice B2 x.length d2)], .a (.v (.bool true))]) (fun _ => rfl) ?_
  simp (config := { maxSteps := 1000000 }) only [h0, g1, undef, push_cast, ↓Int.toNat_natCast, ↓Int.cast_ofNat_Int, Int.cast_ofNat_Int, ↓reduceIte, reduceCtorEq, Nat.reduceEqDiff, Nat.reduceLT, Nat.reduceLeDiff, Nat.reduceAdd, Nat.reduceSub, Nat.reduceMul, Int.reduceNeg, Int.reduceLE, Int.reduceLT, Int.reduceToNat, Int.reduceAdd, Int.reduceSub, Int.reduceMul, Int.reduceEq]
  (repeat (refine And.intro (by first | omega | decide) ?_))
  refine callG_v rfl cb31 rfl (may15OK (l := l) (by omega) (shows_raw hR _ _ (by simp) hc)) (dOk_lt rfl) ?_
  simp (config := { maxSteps := 1000000 }) only [h0, g1, g3, h2, undef, push_cast, ↓Int.toNat_natCast, ↓Int.cast_ofNat_Int, Int.cast_ofNat_Int, ↓reduceIte, reduceCtorEq, Nat.reduceEqDiff, Nat.reduceLT, Nat.reduceLeDiff, Nat.reduceAdd, Nat.reduceSub, Nat.reduceMul, Int.reduceNeg, Int.reduceLE, Int.reduceLT, Int.reduceToNat, Int.reduceAdd, Int.reduceSub, Int.reduceMul, Int.reduceEq]
end
end Go.Proofs.YtohnlajccfnecaaDoor
