/- The walk of law 24's DrawFirst. -/
import Derived.Test.YtohnlajccfnecaaDoorDr5
namespace Go.Proofs.YtohnlajccfnecaaDoor
open Go.RowKit
set_option linter.unusedSimpArgs false
theorem eTo_get (x : UInt64) (s : ByteArray) (a n k : Nat) (h : k < n) : ix (eTo x s a n) k = nAt x s (2 * k + a) := by
  induction n with
  | zero => omega
  | succ n ih =>
    have hl := eTo_length x s a n
    rw [eTo_succ]
    by_cases e : k = n
    · subst e
      unfold ix
      rw [List.getD_eq_getElem?_getD, List.getElem?_append_right (by omega), hl, Nat.sub_self]
      rfl
    · rw [← ih (by omega)]
      unfold ix
      rw [List.getD_eq_getElem?_getD, List.getElem?_append_left (by omega), List.getD_eq_getElem?_getD]
theorem eTo_take (x : UInt64) (s : ByteArray) (a k m : Nat) (h : k ≤ m) : (eTo x s a m).take k = eTo x s a k := by
  apply ext_ix
  · rw [List.length_take, eTo_length, eTo_length]; omega
  · intro j hj
    rw [List.length_take, eTo_length] at hj
    rw [eTo_get x s a k j (by omega), ← eTo_get x s a m j (by omega)]
    unfold ix
    rw [List.getD_eq_getElem?_getD, List.getElem?_take_of_lt (by omega), List.getD_eq_getElem?_getD]
theorem nAt_lt (x : UInt64) (s : ByteArray) (i : Nat) : ¬ (2305843009213693951 : UInt64) ≤ nAt x s i := by
  unfold nAt numOut numV
  split
  · rw [UInt64.not_le, UInt64.lt_iff_toNat_lt, UInt64.toNat_mod]
    exact Nat.mod_lt _ (by decide)
  · decide
theorem n8_modN (u n : UInt8) (hn : 0 < n.toNat) : ∃ p : Nat, n8 (u % n) = p ∧ p < n.toNat := ⟨(u % n).toNat, rfl, by
  rw [UInt8.toNat_mod]
  exact Nat.mod_lt _ hn⟩
theorem shows_z64 {w0 : World} {ow : Nat → Prop} {hp : List Res} {e : TypeId} (k m : Nat) (l : List UInt64) (hr : hp[k]? = some (.own e (.u64 l))) (h : m ≤ l.length) : Shows w0 ow hp (.x (.a (.z k 0 m))) ((l.take m).map vU64) := by
  have := shows_z (w0 := w0) (ow := ow) (vs := l.map vU64) hr (fun _ => rfl) 0 m (by rw [List.length_map]; omega)
  rwa [List.drop_zero, ← List.map_take] at this
attribute [local irreducible] numOut wOk nTo eTo lotL labOk nAt
attribute [local irreducible] Callable CallOK CallG CallM DrawG LoopG symR symM
set_option maxRecDepth 100000 in
set_option maxHeartbeats 8000000 in
theorem drawFirst_any (x : UInt64) (o1 o2 u v : UInt8) (w : World) (hk : LaidK 5 w) (hg : Handle w) (ht : TabW w) :
    Calls Tryd.prog 6 (List.map (Sv.val []) [.x (.a (.v (vU64 x))), .x (.a8 [o1, o2]), .x (.a8 [u, v])]).toArray w fun e w' => e = .returned (.bool true) ∧ Below w.heap.size w w' := by
  refine calls_v (n := 192) Tryd.func6 rfl Tryd.ntmps6 [.x (.a (.v (vU64 x))), .x (.a8 [o1, o2]), .x (.a8 [u, v])] (by simp) (.x (.a (.v (.bool true)))) (fun _ => rfl) ?_
  obtain ⟨c, hc, hc64⟩ := n8_modN o1 64 (by decide)
  obtain ⟨p, hp, hp12⟩ := n8_modN u 12 (by decide)
  obtain ⟨q, hq, hq12⟩ := n8_modN v 12 (by decide)
  have hc64 : c < 64 := hc64
  have hp12 : p < 12 := hp12
  have hq12 : q < 12 := hq12
  obtain ⟨g, hgg, hgl⟩ : ∃ g : Nat, n8 o2 = g ∧ g < 256 := ⟨o2.toNat, rfl, o2.toNat_lt⟩
  have i0 : ix [o1, o2] 0 = o1 := rfl
  have i1 : ix [o1, o2] 1 = o2 := rfl
  have j0 : ix [u, v] 0 = u := rfl
  have j1 : ix [u, v] 1 = v := rfl
  have b1 : inU8 (c : Int) := ⟨by omega, by omega⟩
  have b2 : inU8 (p : Int) := ⟨by omega, by omega⟩
  have b3 : inU8 (q : Int) := ⟨by omega, by omega⟩
  have b4 : inU8 (g : Int) := ⟨by omega, by omega⟩
  have hmax : (if (p : Int) < q then (q : Int) else p) = ((max p q : Nat) : Int) := by split <;> omega
  have hmin : (if (q : Int) < p then (q : Int) else p) = ((min p q : Nat) : Int) := by split <;> omega
  have hM : max p q < 12 := by omega
  have hN : min p q ≤ max p q := by omega
  generalize max p q = M at *
  generalize min p q = N at *
  simp only [push_cast, ↓Int.toNat_natCast, ↓Int.cast_ofNat_Int, Int.cast_ofNat_Int, ↓reduceIte, reduceCtorEq, Nat.reduceEqDiff, Nat.reduceLT, Nat.reduceLeDiff, Nat.reduceAdd, Nat.reduceSub, Nat.reduceMul, Int.reduceNeg, Int.reduceLE, Int.reduceLT, Int.reduceToNat, Int.reduceAdd, Int.reduceSub, Int.reduceMul, Int.reduceEq]
  refine draw_rule [(0, true), (1, true), (2, true), (3, true), (4, true), (5, true), (6, true), (7, true), (8, true), (9, true)] (by kernel_rfl) (by kernel_rfl) rfl (by kernel_rfl) ?_
  simp only [i0, i1, hc, hgg, b1, b4, push_cast, ↓Int.toNat_natCast, ↓Int.cast_ofNat_Int, Int.cast_ofNat_Int, ↓reduceIte, reduceCtorEq, Nat.reduceEqDiff, Nat.reduceLT, Nat.reduceLeDiff, Nat.reduceAdd, Nat.reduceSub, Nat.reduceMul, Int.reduceNeg, Int.reduceLE, Int.reduceLT, Int.reduceToNat, Int.reduceAdd, Int.reduceSub, Int.reduceMul, Int.reduceEq]
  (repeat (refine And.intro (by first | omega | decide) ?_))
  refine draw_rule [(0, true), (1, true), (2, true), (3, true), (4, true), (5, true), (6, true), (7, true), (8, true), (9, true)] (by kernel_rfl) (by kernel_rfl) rfl (by kernel_rfl) ?_
  simp (config := { maxSteps := 300000 }) only [i0, i1, j0, j1, hc, hp, hq, b1, b2, b3, b4, hmax, hmin, undef, push_cast, ↓Int.toNat_natCast, ↓Int.cast_ofNat_Int, Int.cast_ofNat_Int, ↓reduceIte, reduceCtorEq, Nat.reduceEqDiff, Nat.reduceLT, Nat.reduceLeDiff, Nat.reduceAdd, Nat.reduceSub, Nat.reduceMul, Int.reduceNeg, Int.reduceLE, Int.reduceLT, Int.reduceToNat, Int.reduceAdd, Int.reduceSub, Int.reduceMul, Int.reduceEq]
  (repeat (refine And.intro (by first | omega | decide) ?_))
  refine callG_rule rfl cb19 rfl (forOK x c (1 + g) M hc64 (by omega) (by omega) hM hk ht (by simp only [push_cast, ↓Int.toNat_natCast, ↓Int.cast_ofNat_Int, Int.cast_ofNat_Int, ↓reduceIte, reduceCtorEq, Nat.reduceEqDiff, Nat.reduceLT, Nat.reduceLeDiff, Nat.reduceAdd, Nat.reduceSub, Nat.reduceMul, Int.reduceNeg, Int.reduceLE, Int.reduceLT, Int.reduceToNat, Int.reduceAdd, Int.reduceSub, Int.reduceMul, Int.reduceEq])) (dOk_lt rfl) (fun _ => by simp only [push_cast, ↓Int.toNat_natCast, ↓Int.cast_ofNat_Int, Int.cast_ofNat_Int, ↓reduceIte, reduceCtorEq, Nat.reduceEqDiff, Nat.reduceLT, Nat.reduceLeDiff, Nat.reduceAdd, Nat.reduceSub, Nat.reduceMul, Int.reduceNeg, Int.reduceLE, Int.reduceLT, Int.reduceToNat, Int.reduceAdd, Int.reduceSub, Int.reduceMul, Int.reduceEq]) ?_
  simp (config := { maxSteps := 300000 }) only [i0, i1, j0, j1, hc, hp, hq, b1, b2, b3, b4, hmax, hmin, undef, push_cast, ↓Int.toNat_natCast, ↓Int.cast_ofNat_Int, Int.cast_ofNat_Int, ↓reduceIte, reduceCtorEq, Nat.reduceEqDiff, Nat.reduceLT, Nat.reduceLeDiff, Nat.reduceAdd, Nat.reduceSub, Nat.reduceMul, Int.reduceNeg, Int.reduceLE, Int.reduceLT, Int.reduceToNat, Int.reduceAdd, Int.reduceSub, Int.reduceMul, Int.reduceEq]
  (repeat (refine And.intro (by first | omega | decide) ?_))
  refine callG_rule rfl cb19 rfl (forOK x c (1 + g) N hc64 (by omega) (by omega) (by omega) hk ht (by simp only [push_cast, ↓Int.toNat_natCast, ↓Int.cast_ofNat_Int, Int.cast_ofNat_Int, ↓reduceIte, reduceCtorEq, Nat.reduceEqDiff, Nat.reduceLT, Nat.reduceLeDiff, Nat.reduceAdd, Nat.reduceSub, Nat.reduceMul, Int.reduceNeg, Int.reduceLE, Int.reduceLT, Int.reduceToNat, Int.reduceAdd, Int.reduceSub, Int.reduceMul, Int.reduceEq])) (dOk_lt rfl) (fun _ => by simp only [push_cast, ↓Int.toNat_natCast, ↓Int.cast_ofNat_Int, Int.cast_ofNat_Int, ↓reduceIte, reduceCtorEq, Nat.reduceEqDiff, Nat.reduceLT, Nat.reduceLeDiff, Nat.reduceAdd, Nat.reduceSub, Nat.reduceMul, Int.reduceNeg, Int.reduceLE, Int.reduceLT, Int.reduceToNat, Int.reduceAdd, Int.reduceSub, Int.reduceMul, Int.reduceEq]) ?_
  simp (config := { maxSteps := 300000 }) only [i0, i1, j0, j1, hc, hp, hq, b1, b2, b3, b4, hmax, hmin, undef, push_cast, ↓Int.toNat_natCast, ↓Int.cast_ofNat_Int, Int.cast_ofNat_Int, ↓reduceIte, reduceCtorEq, Nat.reduceEqDiff, Nat.reduceLT, Nat.reduceLeDiff, Nat.reduceAdd, Nat.reduceSub, Nat.reduceMul, Int.reduceNeg, Int.reduceLE, Int.reduceLT, Int.reduceToNat, Int.reduceAdd, Int.reduceSub, Int.reduceMul, Int.reduceEq]
  (repeat (refine And.intro (by first | omega | decide) ?_))
  refine callG_rule rfl cb19 rfl (forOK x c (1 + g) M hc64 (by omega) (by omega) hM hk ht (by simp only [push_cast, ↓Int.toNat_natCast, ↓Int.cast_ofNat_Int, Int.cast_ofNat_Int, ↓reduceIte, reduceCtorEq, Nat.reduceEqDiff, Nat.reduceLT, Nat.reduceLeDiff, Nat.reduceAdd, Nat.reduceSub, Nat.reduceMul, Int.reduceNeg, Int.reduceLE, Int.reduceLT, Int.reduceToNat, Int.reduceAdd, Int.reduceSub, Int.reduceMul, Int.reduceEq])) (dOk_lt rfl) (fun _ => by simp only [push_cast, ↓Int.toNat_natCast, ↓Int.cast_ofNat_Int, Int.cast_ofNat_Int, ↓reduceIte, reduceCtorEq, Nat.reduceEqDiff, Nat.reduceLT, Nat.reduceLeDiff, Nat.reduceAdd, Nat.reduceSub, Nat.reduceMul, Int.reduceNeg, Int.reduceLE, Int.reduceLT, Int.reduceToNat, Int.reduceAdd, Int.reduceSub, Int.reduceMul, Int.reduceEq]) ?_
  generalize hs : bstr (lotL c (1 + g)) = s
  have lA := eTo_length x s 2 M
  have lB := eTo_length x s 3 M
  have lC := eTo_length x s 2 N
  have lD := eTo_length x s 3 N
  have hNM : (N : Int) ≤ M := by omega
  have t2 := eTo_take x s 2 N M hN
  have t3 := eTo_take x s 3 N M hN
  simp (config := { maxSteps := 400000 }) only [hmax, hmin, lA, lB, lC, lD, hNM, t2, t3, Int.lt_irrefl, undef, beq_self_eq_true, push_cast, ↓Int.toNat_natCast, ↓Int.cast_ofNat_Int, Int.cast_ofNat_Int, ↓reduceIte, reduceCtorEq, Nat.reduceEqDiff, Nat.reduceLT, Nat.reduceLeDiff, Nat.reduceAdd, Nat.reduceSub, Nat.reduceMul, Int.reduceNeg, Int.reduceLE, Int.reduceLT, Int.reduceToNat, Int.reduceAdd, Int.reduceSub, Int.reduceMul, Int.reduceEq]
  (repeat (refine And.intro (by first | omega | decide) ?_))
  refine loop_rule (ι := Nat) (fun i => ⟨[(11, .x (.a (.p 2 0))), (13, .x (.a (.p 5 0))), (15, .x (.a (.p 8 0))), (17, .x (.a (.v (.int .i64 N)))), (18, .x (.a (.v (.int .i64 i))))],
    [.own 47 (.u64 (eTo x s 2 M)), .own 47 (.u64 (eTo x s 3 M)), .blk 51 (.c [.v (vU64 (nAt x s 0)), .v (vU64 (nAt x s 1)), .o 0, .o 1]), .own 47 (.u64 (eTo x s 2 N)), .own 47 (.u64 (eTo x s 3 N)), .blk 51 (.c [.v (vU64 (nAt x s 0)), .v (vU64 (nAt x s 1)), .o 3, .o 4]), .own 47 (.u64 (eTo x s 2 M)), .own 47 (.u64 (eTo x s 3 M)), .blk 51 (.c [.v (vU64 (nAt x s 0)), .v (vU64 (nAt x s 1)), .o 6, .o 7])]⟩) (fun i => i ≤ M) (fun i => M - i) 0 [2, 3, 4, 5, 6, 7, 8, 9, 10] (by omega) ?_ ?_
  · simp only [push_cast, ↓Int.toNat_natCast, ↓Int.cast_ofNat_Int, Int.cast_ofNat_Int, ↓reduceIte, reduceCtorEq, Nat.reduceEqDiff, Nat.reduceLT, Nat.reduceLeDiff, Nat.reduceAdd, Nat.reduceSub, Nat.reduceMul, Int.reduceNeg, Int.reduceLE, Int.reduceLT, Int.reduceToNat, Int.reduceAdd, Int.reduceSub, Int.reduceMul, Int.reduceEq]
  · intro i hi
    by_cases hlt : (i : Int) < M
    · have k1 : ¬ (2305843009213693951 : UInt64) ≤ ix (eTo x s 2 M) i := by rw [eTo_get x s 2 M i (by omega)]; exact nAt_lt _ _ _
      have k2 : ¬ (2305843009213693951 : UInt64) ≤ ix (eTo x s 3 M) i := by rw [eTo_get x s 3 M i (by omega)]; exact nAt_lt _ _ _
      simp only [lA, lB, hlt, k1, k2, undef, push_cast, ↓Int.toNat_natCast, ↓Int.cast_ofNat_Int, Int.cast_ofNat_Int, ↓reduceIte, reduceCtorEq, Nat.reduceEqDiff, Nat.reduceLT, Nat.reduceLeDiff, Nat.reduceAdd, Nat.reduceSub, Nat.reduceMul, Int.reduceNeg, Int.reduceLE, Int.reduceLT, Int.reduceToNat, Int.reduceAdd, Int.reduceSub, Int.reduceMul, Int.reduceEq]
      (repeat (refine And.intro (by first | omega | decide) ?_))
      refine loopK_normal (i + 1) [0, 1, 2, 3, 4, 5, 6, 7, 8] (by omega) (by omega) ?_
      simp only [push_cast, ↓Int.toNat_natCast, ↓Int.cast_ofNat_Int, Int.cast_ofNat_Int, ↓reduceIte, reduceCtorEq, Nat.reduceEqDiff, Nat.reduceLT, Nat.reduceLeDiff, Nat.reduceAdd, Nat.reduceSub, Nat.reduceMul, Int.reduceNeg, Int.reduceLE, Int.reduceLT, Int.reduceToNat, Int.reduceAdd, Int.reduceSub, Int.reduceMul, Int.reduceEq]
    · have e : i = M := by omega
      subst e
      simp (config := { maxSteps := 400000 }) only [lA, lB, lC, lD, hNM, t2, t3, Int.lt_irrefl, undef, beq_self_eq_true, push_cast, ↓Int.toNat_natCast, ↓Int.cast_ofNat_Int, Int.cast_ofNat_Int, ↓reduceIte, reduceCtorEq, Nat.reduceEqDiff, Nat.reduceLT, Nat.reduceLeDiff, Nat.reduceAdd, Nat.reduceSub, Nat.reduceMul, Int.reduceNeg, Int.reduceLE, Int.reduceLT, Int.reduceToNat, Int.reduceAdd, Int.reduceSub, Int.reduceMul, Int.reduceEq]
      (repeat (refine And.intro (by first | omega | decide) ?_))
      refine draw_rule [(0, true), (1, true), (2, true), (3, true), (4, true), (5, true), (6, true), (7, true), (8, true), (9, true), (10, true), (11, true), (12, true), (13, true), (14, true), (15, true), (16, true), (17, true), (18, true), (19, false), (20, true), (21, true), (22, true), (23, true), (24, true), (25, true), (26, true), (27, true), (28, false), (29, true), (30, true), (31, true), (32, true), (33, true), (34, true), (35, true), (36, true), (37, true), (38, true), (39, true), (40, true), (41, true), (42, true), (43, true), (44, true), (45, true), (46, true), (47, true), (48, true), (49, false), (50, true), (51, true), (52, true), (53, true), (54, true), (55, true), (56, false), (57, true), (58, true), (59, false), (60, true), (61, true)] (by kernel_rfl) (by kernel_rfl) rfl (by kernel_rfl) ?_
      simp (config := { maxSteps := 400000 }) only [lA, lB, lC, lD, hNM, t2, t3, Int.lt_irrefl, undef, beq_self_eq_true, push_cast, ↓Int.toNat_natCast, ↓Int.cast_ofNat_Int, Int.cast_ofNat_Int, ↓reduceIte, reduceCtorEq, Nat.reduceEqDiff, Nat.reduceLT, Nat.reduceLeDiff, Nat.reduceAdd, Nat.reduceSub, Nat.reduceMul, Int.reduceNeg, Int.reduceLE, Int.reduceLT, Int.reduceToNat, Int.reduceAdd, Int.reduceSub, Int.reduceMul, Int.reduceEq]
      (repeat (refine And.intro (by first | omega | decide) ?_))
      refine callM_v rfl cb24 rfl (nums24OK (by rw [List.length_take]; omega) (shows_z64 0 N _ rfl (by omega)) (shows_own (k := 3) rfl fun _ => rfl)) (dOk_lt rfl) ?_
      simp (config := { maxSteps := 400000 }) only [lA, lB, lC, lD, hNM, t2, t3, Int.lt_irrefl, undef, beq_self_eq_true, push_cast, ↓Int.toNat_natCast, ↓Int.cast_ofNat_Int, Int.cast_ofNat_Int, ↓reduceIte, reduceCtorEq, Nat.reduceEqDiff, Nat.reduceLT, Nat.reduceLeDiff, Nat.reduceAdd, Nat.reduceSub, Nat.reduceMul, Int.reduceNeg, Int.reduceLE, Int.reduceLT, Int.reduceToNat, Int.reduceAdd, Int.reduceSub, Int.reduceMul, Int.reduceEq]
      (repeat (refine And.intro (by first | omega | decide) ?_))
      refine callM_v rfl cb24 rfl (nums24OK (by rw [List.length_take]; omega) (shows_z64 1 N _ rfl (by omega)) (shows_own (k := 4) rfl fun _ => rfl)) (dOk_lt rfl) ?_
      simp (config := { maxSteps := 400000 }) only [lA, lB, lC, lD, hNM, t2, t3, Int.lt_irrefl, undef, beq_self_eq_true, push_cast, ↓Int.toNat_natCast, ↓Int.cast_ofNat_Int, Int.cast_ofNat_Int, ↓reduceIte, reduceCtorEq, Nat.reduceEqDiff, Nat.reduceLT, Nat.reduceLeDiff, Nat.reduceAdd, Nat.reduceSub, Nat.reduceMul, Int.reduceNeg, Int.reduceLE, Int.reduceLT, Int.reduceToNat, Int.reduceAdd, Int.reduceSub, Int.reduceMul, Int.reduceEq]
      (repeat (refine And.intro (by first | omega | decide) ?_))
      refine callM_v rfl cb24 rfl (nums24OK (by omega) (shows_own (k := 0) rfl fun _ => rfl) (shows_own (k := 6) rfl fun _ => rfl)) (dOk_lt rfl) ?_
      simp (config := { maxSteps := 400000 }) only [lA, lB, lC, lD, hNM, t2, t3, Int.lt_irrefl, undef, beq_self_eq_true, push_cast, ↓Int.toNat_natCast, ↓Int.cast_ofNat_Int, Int.cast_ofNat_Int, ↓reduceIte, reduceCtorEq, Nat.reduceEqDiff, Nat.reduceLT, Nat.reduceLeDiff, Nat.reduceAdd, Nat.reduceSub, Nat.reduceMul, Int.reduceNeg, Int.reduceLE, Int.reduceLT, Int.reduceToNat, Int.reduceAdd, Int.reduceSub, Int.reduceMul, Int.reduceEq]
      (repeat (refine And.intro (by first | omega | decide) ?_))
      refine callM_v rfl cb24 rfl (nums24OK (by omega) (shows_own (k := 1) rfl fun _ => rfl) (shows_own (k := 7) rfl fun _ => rfl)) (dOk_lt rfl) ?_
      simp (config := { maxSteps := 400000 }) only [lA, lB, lC, lD, hNM, t2, t3, Int.lt_irrefl, undef, beq_self_eq_true, push_cast, ↓Int.toNat_natCast, ↓Int.cast_ofNat_Int, Int.cast_ofNat_Int, ↓reduceIte, reduceCtorEq, Nat.reduceEqDiff, Nat.reduceLT, Nat.reduceLeDiff, Nat.reduceAdd, Nat.reduceSub, Nat.reduceMul, Int.reduceNeg, Int.reduceLE, Int.reduceLT, Int.reduceToNat, Int.reduceAdd, Int.reduceSub, Int.reduceMul, Int.reduceEq]
      (repeat (refine And.intro (by first | omega | decide) ?_))
      refine callM_v rfl cb23 rfl (sure24OK hk hg ht) (dOk_lt rfl) ?_
      simp (config := { maxSteps := 400000 }) only [lA, lB, lC, lD, hNM, t2, t3, Int.lt_irrefl, undef, beq_self_eq_true, push_cast, ↓Int.toNat_natCast, ↓Int.cast_ofNat_Int, Int.cast_ofNat_Int, ↓reduceIte, reduceCtorEq, Nat.reduceEqDiff, Nat.reduceLT, Nat.reduceLeDiff, Nat.reduceAdd, Nat.reduceSub, Nat.reduceMul, Int.reduceNeg, Int.reduceLE, Int.reduceLT, Int.reduceToNat, Int.reduceAdd, Int.reduceSub, Int.reduceMul, Int.reduceEq]
end Go.Proofs.YtohnlajccfnecaaDoor
