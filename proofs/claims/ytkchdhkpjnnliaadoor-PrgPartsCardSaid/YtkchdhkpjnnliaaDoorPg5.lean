/- What law 7 looks at first: sure. -/
import Derived.Test.YtkchdhkpjnnliaaDoorNum07
import Derived.Test.YtkchdhkpjnnliaaDoorVs
namespace Go.Proofs.YtkchdhkpjnnliaaDoor
open Go.RowKit
set_option linter.unusedSimpArgs false
theorem blk5 : prgBlk 5 [97] 0 = [82, 147, 105, 148, 44, 71, 214, 208, 101, 226, 48, 41, 229, 186, 90, 72, 99, 182, 6, 78, 237, 81, 181, 59, 159, 19, 171, 163, 121, 120, 157, 140] := by decide +kernel
theorem blk6 : prgBlk 6 [97] 0 = [117, 226, 23, 131, 183, 154, 3, 37, 234, 12, 129, 171, 212, 34, 180, 133, 230, 176, 209, 36, 21, 50, 87, 233, 3, 168, 101, 10, 131, 125, 120, 113] := by decide +kernel
theorem wTo_get (x : UInt64) (s : List UInt8) (n k : Nat) (hk : k < n) : ix (wTo x s n) k = wAt x s (k / 8) (k % 8) := by
  induction n with
  | zero => omega
  | succ n ih =>
    have hl := wTo_length x s n
    show ix (wTo x s n ++ [wAt x s (n / 8) (n % 8)]) k = _
    by_cases h : k = n
    · subst h
      unfold ix
      rw [List.getD_eq_getElem?_getD, List.getElem?_append_right (by omega), hl, Nat.sub_self]
      rfl
    · rw [← ih (by omega)]
      unfold ix
      rw [List.getD_eq_getElem?_getD, List.getElem?_append_left (by omega), List.getD_eq_getElem?_getD]
def sA : ByteArray := { data := #[97] }
def sN : ByteArray := { data := #[10] }
theorem ok_a9 : wOk { data := #[97] } 9 32 = true := by decide +kernel
theorem ok_a0 : wOk { data := #[97] } 0 1048576 = true := by decide +kernel
theorem ok_n0 : wOk { data := #[10] } 0 1048576 = false := by decide +kernel
theorem wOut_a (x : UInt64) : wOut x { data := #[97] } 9 = wTo x [97] 9 := by rw [wOut_yes ok_a9]; rfl
theorem word5 : wAt 5 [97] 0 0 = 1385392532 := by unfold wAt; rw [blk5]; decide
theorem word51 : wAt 5 [97] 0 1 = 742905552 := by unfold wAt; rw [blk5]; decide
theorem word6 : wAt 6 [97] 0 0 = 1977751427 := by unfold wAt; rw [blk6]; decide
theorem first5 : ix (wTo 5 [97] 9) 0 = 1385392532 := (wTo_get 5 [97] 9 0 (by omega)).trans word5
theorem second5 : ix (wTo 5 [97] 9) 1 = 742905552 := (wTo_get 5 [97] 9 1 (by omega)).trans word51
theorem first6 : ix (wTo 6 [97] 9) 0 = 1977751427 := (wTo_get 6 [97] 9 0 (by omega)).trans word6
theorem ne_56 : decide (wTo 5 [97] 9 = wTo 6 [97] 9) = false := decide_eq_false fun h => by
  have h1 := congrArg (fun l => ix l 0) h
  simp only [first5, first6] at h1
  exact absurd h1 (by decide)
theorem e01 : ¬ ix (wTo 5 [97] 9) 0 = ix (wTo 5 [97] 9) 1 := by rw [first5, second5]; decide
theorem wErr_if (s : ByteArray) (n m : Int) : wErr s n m = if wOk s n m = true then .nilIface else .iface 95 (.int .i64 1) := rfl
theorem num_lt (x : UInt64) (s : ByteArray) (n : Int) : numOut x s n < 2305843009213693951 := by
  unfold numOut numV
  split
  · rw [UInt64.lt_iff_toNat_lt, UInt64.toNat_mod]
    exact Nat.mod_lt _ (by decide)
  · decide
attribute [local irreducible] wTo wOk numOut
set_option maxRecDepth 100000 in
set_option maxHeartbeats 4000000 in
theorem sure07_any (w : World) (hk : LaidK 0 w) (hg : Handle w) : Calls Tryd.prog 36 #[] w fun e w' => e = .returned (.bool true) ∧ Below w.heap.size w w' := by
  have hwl := wTo_length 5 [97] 9
  have hwl6 := wTo_length 6 [97] 9
  refine calls_v (n := 79) Tryd.func36 rfl Tryd.ntmps36 [] (by simp) (.x (.a (.v (.bool true)))) (fun _ => rfl) ?_
  simp only [push_cast, ↓Int.toNat_natCast, ↓Int.cast_ofNat_Int, Int.cast_ofNat_Int, ↓reduceIte, reduceCtorEq, Nat.reduceEqDiff, Nat.reduceLT, Nat.reduceLeDiff, Nat.reduceAdd, Nat.reduceSub, Nat.reduceMul, Int.reduceNeg, Int.reduceLE, Int.reduceLT, Int.reduceToNat, Int.reduceAdd, Int.reduceSub, Int.reduceMul, Int.reduceEq]
  (repeat (refine And.intro (by first | omega | decide) ?_))
  refine callG_x rfl cb37 rfl (words7OK 5 { data := #[97] } 9 hk (by simp only [push_cast, ↓Int.toNat_natCast, ↓Int.cast_ofNat_Int, Int.cast_ofNat_Int, ↓reduceIte, reduceCtorEq, Nat.reduceEqDiff, Nat.reduceLT, Nat.reduceLeDiff, Nat.reduceAdd, Nat.reduceSub, Nat.reduceMul, Int.reduceNeg, Int.reduceLE, Int.reduceLT, Int.reduceToNat, Int.reduceAdd, Int.reduceSub, Int.reduceMul, Int.reduceEq])) (dOk_lt rfl) (by simp only [push_cast, ↓Int.toNat_natCast, ↓Int.cast_ofNat_Int, Int.cast_ofNat_Int, ↓reduceIte, reduceCtorEq, Nat.reduceEqDiff, Nat.reduceLT, Nat.reduceLeDiff, Nat.reduceAdd, Nat.reduceSub, Nat.reduceMul, Int.reduceNeg, Int.reduceLE, Int.reduceLT, Int.reduceToNat, Int.reduceAdd, Int.reduceSub, Int.reduceMul, Int.reduceEq]) ?_
  simp (config := { maxSteps := 200000 }) only [wErr_if, wOut_a, ok_a9, ok_n0, ok_a0, hwl, hwl6, num_lt, e01, undef, ne_56, beq_self_eq_true, push_cast, ↓Int.toNat_natCast, ↓Int.cast_ofNat_Int, Int.cast_ofNat_Int, ↓reduceIte, reduceCtorEq, Nat.reduceEqDiff, Nat.reduceLT, Nat.reduceLeDiff, Nat.reduceAdd, Nat.reduceSub, Nat.reduceMul, Int.reduceNeg, Int.reduceLE, Int.reduceLT, Int.reduceToNat, Int.reduceAdd, Int.reduceSub, Int.reduceMul, Int.reduceEq]
  (repeat (refine And.intro (by first | omega | decide) ?_))
  refine callG_x rfl cb37 rfl (words7OK 5 { data := #[97] } 9 hk (by simp only [push_cast, ↓Int.toNat_natCast, ↓Int.cast_ofNat_Int, Int.cast_ofNat_Int, ↓reduceIte, reduceCtorEq, Nat.reduceEqDiff, Nat.reduceLT, Nat.reduceLeDiff, Nat.reduceAdd, Nat.reduceSub, Nat.reduceMul, Int.reduceNeg, Int.reduceLE, Int.reduceLT, Int.reduceToNat, Int.reduceAdd, Int.reduceSub, Int.reduceMul, Int.reduceEq])) (dOk_lt rfl) (by simp only [push_cast, ↓Int.toNat_natCast, ↓Int.cast_ofNat_Int, Int.cast_ofNat_Int, ↓reduceIte, reduceCtorEq, Nat.reduceEqDiff, Nat.reduceLT, Nat.reduceLeDiff, Nat.reduceAdd, Nat.reduceSub, Nat.reduceMul, Int.reduceNeg, Int.reduceLE, Int.reduceLT, Int.reduceToNat, Int.reduceAdd, Int.reduceSub, Int.reduceMul, Int.reduceEq]) ?_
  simp (config := { maxSteps := 200000 }) only [wErr_if, wOut_a, ok_a9, ok_n0, ok_a0, hwl, hwl6, num_lt, e01, undef, ne_56, beq_self_eq_true, push_cast, ↓Int.toNat_natCast, ↓Int.cast_ofNat_Int, Int.cast_ofNat_Int, ↓reduceIte, reduceCtorEq, Nat.reduceEqDiff, Nat.reduceLT, Nat.reduceLeDiff, Nat.reduceAdd, Nat.reduceSub, Nat.reduceMul, Int.reduceNeg, Int.reduceLE, Int.reduceLT, Int.reduceToNat, Int.reduceAdd, Int.reduceSub, Int.reduceMul, Int.reduceEq]
  (repeat (refine And.intro (by first | omega | decide) ?_))
  refine callG_x rfl cb37 rfl (words7OK 6 { data := #[97] } 9 hk (by simp only [push_cast, ↓Int.toNat_natCast, ↓Int.cast_ofNat_Int, Int.cast_ofNat_Int, ↓reduceIte, reduceCtorEq, Nat.reduceEqDiff, Nat.reduceLT, Nat.reduceLeDiff, Nat.reduceAdd, Nat.reduceSub, Nat.reduceMul, Int.reduceNeg, Int.reduceLE, Int.reduceLT, Int.reduceToNat, Int.reduceAdd, Int.reduceSub, Int.reduceMul, Int.reduceEq])) (dOk_lt rfl) (by simp only [push_cast, ↓Int.toNat_natCast, ↓Int.cast_ofNat_Int, Int.cast_ofNat_Int, ↓reduceIte, reduceCtorEq, Nat.reduceEqDiff, Nat.reduceLT, Nat.reduceLeDiff, Nat.reduceAdd, Nat.reduceSub, Nat.reduceMul, Int.reduceNeg, Int.reduceLE, Int.reduceLT, Int.reduceToNat, Int.reduceAdd, Int.reduceSub, Int.reduceMul, Int.reduceEq]) ?_
  simp (config := { maxSteps := 200000 }) only [wErr_if, wOut_a, ok_a9, ok_n0, ok_a0, hwl, hwl6, num_lt, e01, undef, ne_56, beq_self_eq_true, push_cast, ↓Int.toNat_natCast, ↓Int.cast_ofNat_Int, Int.cast_ofNat_Int, ↓reduceIte, reduceCtorEq, Nat.reduceEqDiff, Nat.reduceLT, Nat.reduceLeDiff, Nat.reduceAdd, Nat.reduceSub, Nat.reduceMul, Int.reduceNeg, Int.reduceLE, Int.reduceLT, Int.reduceToNat, Int.reduceAdd, Int.reduceSub, Int.reduceMul, Int.reduceEq]
  (repeat (refine And.intro (by first | omega | decide) ?_))
  refine callG_v rfl cb39 rfl (num7OK 5 { data := #[10] } 0 hk) (dOk_lt rfl) ?_
  simp (config := { maxSteps := 200000 }) only [wErr_if, wOut_a, ok_a9, ok_n0, ok_a0, hwl, hwl6, num_lt, e01, undef, ne_56, beq_self_eq_true, push_cast, ↓Int.toNat_natCast, ↓Int.cast_ofNat_Int, Int.cast_ofNat_Int, ↓reduceIte, reduceCtorEq, Nat.reduceEqDiff, Nat.reduceLT, Nat.reduceLeDiff, Nat.reduceAdd, Nat.reduceSub, Nat.reduceMul, Int.reduceNeg, Int.reduceLE, Int.reduceLT, Int.reduceToNat, Int.reduceAdd, Int.reduceSub, Int.reduceMul, Int.reduceEq]
  (repeat (refine And.intro (by first | omega | decide) ?_))
  refine callG_v rfl cb41 rfl (child7OK 5 { data := #[97] } hk) (dOk_lt rfl) ?_
  simp (config := { maxSteps := 200000 }) only [wErr_if, wOut_a, ok_a9, ok_n0, ok_a0, hwl, hwl6, num_lt, e01, undef, ne_56, beq_self_eq_true, push_cast, ↓Int.toNat_natCast, ↓Int.cast_ofNat_Int, Int.cast_ofNat_Int, ↓reduceIte, reduceCtorEq, Nat.reduceEqDiff, Nat.reduceLT, Nat.reduceLeDiff, Nat.reduceAdd, Nat.reduceSub, Nat.reduceMul, Int.reduceNeg, Int.reduceLE, Int.reduceLT, Int.reduceToNat, Int.reduceAdd, Int.reduceSub, Int.reduceMul, Int.reduceEq]
  (repeat (refine And.intro (by first | omega | decide) ?_))
  refine draw_keep [1, 2, 3, 4, 5, 6, 8, 9, 10, 34, 35, 38, 39, 42, 43, 44, 47, 48, 49, 52, 53, 54, 55, 58, 59, 60, 63, 64, 67, 68, 71, 72, 73, 74, 75, 76, 77] ?_
  simp only [push_cast, ↓Int.toNat_natCast, ↓Int.cast_ofNat_Int, Int.cast_ofNat_Int, ↓reduceIte, reduceCtorEq, Nat.reduceEqDiff, Nat.reduceLT, Nat.reduceLeDiff, Nat.reduceAdd, Nat.reduceSub, Nat.reduceMul, Int.reduceNeg, Int.reduceLE, Int.reduceLT, Int.reduceToNat, Int.reduceAdd, Int.reduceSub, Int.reduceMul, Int.reduceEq]
  refine draw_rule [(0, true), (1, true), (2, true), (3, true), (4, true), (5, true), (6, true), (7, true), (8, true), (9, true), (10, true), (11, true), (12, true), (13, true), (14, true), (15, true), (16, true), (17, true), (18, false), (19, true), (20, true), (21, true), (22, true), (23, false), (24, true), (25, true), (26, true), (27, true), (28, false), (29, true), (30, true), (31, true), (32, true), (33, true), (34, true), (35, true), (36, true), (37, true), (38, true), (39, true), (40, true), (41, true), (42, true), (43, true), (44, true), (45, true), (46, true), (47, true), (48, true)] (by kernel_rfl) (by kernel_rfl) rfl (by kernel_rfl) ?_
  simp (config := { maxSteps := 200000 }) only [wErr_if, wOut_a, ok_a9, ok_n0, ok_a0, hwl, hwl6, num_lt, e01, undef, ne_56, beq_self_eq_true, push_cast, ↓Int.toNat_natCast, ↓Int.cast_ofNat_Int, Int.cast_ofNat_Int, ↓reduceIte, reduceCtorEq, Nat.reduceEqDiff, Nat.reduceLT, Nat.reduceLeDiff, Nat.reduceAdd, Nat.reduceSub, Nat.reduceMul, Int.reduceNeg, Int.reduceLE, Int.reduceLT, Int.reduceToNat, Int.reduceAdd, Int.reduceSub, Int.reduceMul, Int.reduceEq]
  (repeat (refine And.intro (by first | omega | decide) ?_))
  refine callM_v rfl cb44 rfl (same32OK (a := wTo 5 [97] 9) (b := wTo 5 [97] 9) (by omega) (shows_own rfl fun _ => rfl) (shows_own rfl fun _ => rfl)) (dOk_lt rfl) ?_
  simp (config := { maxSteps := 200000 }) only [wErr_if, wOut_a, ok_a9, ok_n0, ok_a0, hwl, hwl6, num_lt, e01, undef, ne_56, beq_self_eq_true, push_cast, ↓Int.toNat_natCast, ↓Int.cast_ofNat_Int, Int.cast_ofNat_Int, ↓reduceIte, reduceCtorEq, Nat.reduceEqDiff, Nat.reduceLT, Nat.reduceLeDiff, Nat.reduceAdd, Nat.reduceSub, Nat.reduceMul, Int.reduceNeg, Int.reduceLE, Int.reduceLT, Int.reduceToNat, Int.reduceAdd, Int.reduceSub, Int.reduceMul, Int.reduceEq]
  (repeat (refine And.intro (by first | omega | decide) ?_))
  refine callM_v rfl cb44 rfl (same32OK (a := wTo 5 [97] 9) (b := wTo 6 [97] 9) (by omega) (shows_own rfl fun _ => rfl) (shows_own rfl fun _ => rfl)) (dOk_lt rfl) ?_
  simp (config := { maxSteps := 200000 }) only [wErr_if, wOut_a, ok_a9, ok_n0, ok_a0, hwl, hwl6, num_lt, e01, undef, ne_56, beq_self_eq_true, push_cast, ↓Int.toNat_natCast, ↓Int.cast_ofNat_Int, Int.cast_ofNat_Int, ↓reduceIte, reduceCtorEq, Nat.reduceEqDiff, Nat.reduceLT, Nat.reduceLeDiff, Nat.reduceAdd, Nat.reduceSub, Nat.reduceMul, Int.reduceNeg, Int.reduceLE, Int.reduceLT, Int.reduceToNat, Int.reduceAdd, Int.reduceSub, Int.reduceMul, Int.reduceEq]
  (repeat (refine And.intro (by first | omega | decide) ?_))
  refine callM_v rfl cb43 rfl (numOK07 1 hg) (dOk_lt rfl) ?_
  simp (config := { maxSteps := 200000 }) only [wErr_if, wOut_a, ok_a9, ok_n0, ok_a0, hwl, hwl6, num_lt, e01, undef, ne_56, beq_self_eq_true, push_cast, ↓Int.toNat_natCast, ↓Int.cast_ofNat_Int, Int.cast_ofNat_Int, ↓reduceIte, reduceCtorEq, Nat.reduceEqDiff, Nat.reduceLT, Nat.reduceLeDiff, Nat.reduceAdd, Nat.reduceSub, Nat.reduceMul, Int.reduceNeg, Int.reduceLE, Int.reduceLT, Int.reduceToNat, Int.reduceAdd, Int.reduceSub, Int.reduceMul, Int.reduceEq]
theorem sure07OK {w0 : World} {hp : List Res} (hk : LaidK 0 w0) (hg : Handle w0) : CallOK Tryd.prog w0 No 36 [] hp (.x (.a (.v (.bool true)))) hp := callOK_v fun _ w hS => sure07_any w (laid_later hk hS) (handle_sat hg hS)
end Go.Proofs.YtkchdhkpjnnliaaDoor
