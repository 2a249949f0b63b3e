/- Curves through points, as the program goes through them (poly: places, Weights, Through). -/
import Derived.Test.YteiifdpikcnbgaaDoorSm1
namespace Go.Proofs.YteiifdpikcnbgaaDoor
open Go.RowKit
set_option linter.unusedSimpArgs false
set_option linter.unusedVariables false
/-! ### The places of shares -/
def plT (l : List Sh) : Nat → List UInt64
  | 0 => []
  | k + 1 => plT l k ++ [(ix l k).1]
theorem plT_zero (l : List Sh) : plT l 0 = [] := rfl
theorem plT_succ (l : List Sh) (k : Nat) : plT l (k + 1) = plT l k ++ [(ix l k).1] := rfl
theorem plT_take (l : List Sh) : ∀ k, k ≤ l.length → plT l k = (l.map (·.1)).take k
  | 0, _ => by rw [List.take_zero]; rfl
  | k + 1, h => by
    rw [plT_succ, plT_take l k (by omega), List.take_add_one, List.getElem?_map, List.getElem?_eq_getElem (show k < l.length by omega), ix_get (show k < l.length by omega)]
    rfl
theorem plT_all (l : List Sh) : plT l l.length = l.map (·.1) := by
  rw [plT_take l _ (Nat.le_refl _)]
  exact List.take_of_length_le (by simp)
theorem plT_length (l : List Sh) (k : Nat) : (plT l k).length = k := by
  induction k with
  | zero => rfl
  | succ k ih => simp [plT, ih]
attribute [local irreducible] Callable CallOK CallG CallM DrawG LoopG symR symM
attribute [local irreducible] plT seenU metU apartU prU wtU wtsU thU powU
set_option maxRecDepth 100000 in
set_option maxHeartbeats 1000000 in
theorem places_any (l : List Sh) (A : Option Addr) (c : Nat) (w : World) (hl : l.length ≤ 1000) (hR : RdV w w.heap.size A (shs l)) : Calls Tryd.prog 109 #[.slice A l.length c] w fun e w' => ∃ v, e = .returned v ∧ Own w' w.heap.size 23 v ((l.map (·.1)).map vU64) ∧ Below w.heap.size w w' := by
  have F := FS2.of hR
  have h0 := fun h => calls_own (P := Tryd.prog) (w := w) (n := 22) Tryd.func109 rfl Tryd.ntmps109 [(.x (.a (.v (.slice A l.length c))))] (by simp) 23 (.u64 (plT l l.length)) (vs := (l.map (·.1)).map vU64) (fun _ => by show List.map vU64 _ = _; rw [plT_all]) h
  refine h0 ?_
  clear h0
  simp (config := { maxSteps := 1000000 }) only [undef, push_cast, ↓Int.toNat_natCast, ↓Int.cast_ofNat_Int, Int.cast_ofNat_Int, ↓reduceIte, reduceCtorEq, Nat.reduceEqDiff, Nat.reduceLT, Nat.reduceLeDiff, Nat.reduceAdd, Nat.reduceSub, Nat.reduceMul, Int.reduceNeg, Int.reduceLE, Int.reduceLT, Int.reduceToNat, Int.reduceAdd, Int.reduceSub, Int.reduceMul, Int.reduceEq]
  (repeat (refine And.intro (by first | omega | decide) ?_))
  refine loop_rule (ι := Nat) (fun i => ⟨[(3, .x (.a (.o 0))), (9, (.x (.a (.v (.slice A l.length c))))), (10, .x (.a (.v (.int .i64 l.length)))), (11, .x (.a (.v (.int .i64 i))))], [.own 23 (.u64 (plT l i))]⟩) (fun i => i ≤ l.length) (fun i => l.length - i) 0 [0] (by omega) ?_ ?_
  · simp (config := { maxSteps := 1000000 }) only [plT_zero, List.replicate_zero, push_cast, ↓Int.toNat_natCast, ↓Int.cast_ofNat_Int, Int.cast_ofNat_Int, ↓reduceIte, reduceCtorEq, Nat.reduceEqDiff, Nat.reduceLT, Nat.reduceLeDiff, Nat.reduceAdd, Nat.reduceSub, Nat.reduceMul, Int.reduceNeg, Int.reduceLE, Int.reduceLT, Int.reduceToNat, Int.reduceAdd, Int.reduceSub, Int.reduceMul, Int.reduceEq]
  · intro i hi
    by_cases hlt : (i : Int) < l.length
    · have i0 : (0 : Int) ≤ i := by omega
      have c0 := F.c0 i (by omega)
      have c1 := F.c1 i (by omega)
      have o0 := F.ok0 i (by omega)
      have o1 := F.ok1 i (by omega)
      have hA := F.some_ (by omega)
      have hb := plT_length l i
      have b1 : (i + 1) * 8 ≤ 140737488355328 := by omega
      have b2 : i + 1 ≤ 2 ^ 63 - 1 := by omega
      have hs := (plT_succ l i).symm
      simp (config := { maxSteps := 1000000 }) only [hlt, i0, c0, c1, o0, o1, hA, hb, b1, b2, hs, pAdd_zero, pAdd_add, pAdd_isSome, undef, push_cast, ↓Int.toNat_natCast, ↓Int.cast_ofNat_Int, Int.cast_ofNat_Int, ↓reduceIte, reduceCtorEq, Nat.reduceEqDiff, Nat.reduceLT, Nat.reduceLeDiff, Nat.reduceAdd, Nat.reduceSub, Nat.reduceMul, Int.reduceNeg, Int.reduceLE, Int.reduceLT, Int.reduceToNat, Int.reduceAdd, Int.reduceSub, Int.reduceMul, Int.reduceEq]
      (repeat (refine And.intro (by first | omega | decide) ?_))
      refine loopK_normal (i + 1) [3] (by omega) (by omega) ?_
      simp (config := { maxSteps := 1000000 }) only [push_cast, ↓Int.toNat_natCast, ↓Int.cast_ofNat_Int, Int.cast_ofNat_Int, ↓reduceIte, reduceCtorEq, Nat.reduceEqDiff, Nat.reduceLT, Nat.reduceLeDiff, Nat.reduceAdd, Nat.reduceSub, Nat.reduceMul, Int.reduceNeg, Int.reduceLE, Int.reduceLT, Int.reduceToNat, Int.reduceAdd, Int.reduceSub, Int.reduceMul, Int.reduceEq]
    · have e : i = l.length := by omega
      subst e
      simp (config := { maxSteps := 1000000 }) only [hlt, undef, ownT, push_cast, ↓Int.toNat_natCast, ↓Int.cast_ofNat_Int, Int.cast_ofNat_Int, ↓reduceIte, reduceCtorEq, Nat.reduceEqDiff, Nat.reduceLT, Nat.reduceLeDiff, Nat.reduceAdd, Nat.reduceSub, Nat.reduceMul, Int.reduceNeg, Int.reduceLE, Int.reduceLT, Int.reduceToNat, Int.reduceAdd, Int.reduceSub, Int.reduceMul, Int.reduceEq]
theorem placesOK {w0 : World} {hp : List Res} {sv : Sv} {l : List Sh} (hl : l.length ≤ 1000) (h : ShowsR w0 No hp sv l.length (shs l)) (hbr : ∀ r ∈ hp, Res.bnd hp.length r) : CallOK Tryd.prog w0 No 109 [sv] hp (.x (.a (.o hp.length))) (hp ++ [.own 23 (.u64 (l.map (·.1)))]) := callOK_own hbr trivial fun γ w hS => by
  obtain ⟨A, c, e1, b1, r1⟩ := h γ w hS
  show Calls _ _ #[sv.val γ] w _
  rw [e1]
  exact places_any l A c w hl r1
/-! ### Weights -/
theorem below_ne {xs : List UInt64} (ha : apartU xs = true) (i : Nat) (hi : i < xs.length) : ¬ prU xs i (ix xs i) xs.length % fpP = 0 := by
  have hq := apartU_q.1 ha
  have h := Prm.prq_ne (fun j => qU (ix xs j)) i (qU (ix xs i)) xs.length fun j hj hne e => hne (hq i j hi hj e).symm
  rw [← qU_prU] at h
  intro e
  apply h
  apply Fin.ext
  rw [qU_val]
  have := congrArg UInt64.toNat e
  rw [modP_toNat] at this
  exact this
set_option maxRecDepth 100000 in
set_option maxHeartbeats 2000000 in
theorem weights_any (xs : List UInt64) (at_ : UInt64) (A : Option Addr) (c : Nat) (w : World) (hl : pcOk xs = true) (hc : xs.length ≤ c) (hR : RdV w w.heap.size A (xs.map vU64)) : Calls Tryd.prog 110 #[.slice A xs.length c, vU64 at_] w fun e w' => ∃ v, e = .returned (.tuple #[v, .nilIface]) ∧ Own w' w.heap.size 23 v ((wtsU xs at_ xs.length).map vU64) ∧ Below w.heap.size w w' := by
  have F := FM.of hR
  have hl' := hl
  unfold pcOk at hl'
  rw [Bool.and_eq_true, decide_eq_true_eq] at hl'
  obtain ⟨h64, hap⟩ := hl'
  have he := pcErr_yes hl
  have h0 := fun h => calls_own2 (P := Tryd.prog) (w := w) (n := 67) Tryd.func110 rfl Tryd.ntmps110 [(.x (.a (.v (.slice A xs.length c)))), .x (.a (.v (vU64 at_)))] (by simp) 23 (.u64 (wtsU xs at_ xs.length)) .nilIface (vs := (wtsU xs at_ xs.length).map vU64) (fun _ => rfl) h
  refine h0 ?_
  clear h0
  simp (config := { maxSteps := 1000000 }) only [undef, push_cast, ↓Int.toNat_natCast, ↓Int.cast_ofNat_Int, Int.cast_ofNat_Int, ↓reduceIte, reduceCtorEq, Nat.reduceEqDiff, Nat.reduceLT, Nat.reduceLeDiff, Nat.reduceAdd, Nat.reduceSub, Nat.reduceMul, Int.reduceNeg, Int.reduceLE, Int.reduceLT, Int.reduceToNat, Int.reduceAdd, Int.reduceSub, Int.reduceMul, Int.reduceEq]
  refine callG_v rfl cb108 rfl (pcheckOK (xs := xs) (by omega) (shows_raw hR _ _ (by simp) hc)) (dOk_lt rfl) ?_
  simp (config := { maxSteps := 1000000 }) only [he, undef, push_cast, ↓Int.toNat_natCast, ↓Int.cast_ofNat_Int, Int.cast_ofNat_Int, ↓reduceIte, reduceCtorEq, Nat.reduceEqDiff, Nat.reduceLT, Nat.reduceLeDiff, Nat.reduceAdd, Nat.reduceSub, Nat.reduceMul, Int.reduceNeg, Int.reduceLE, Int.reduceLT, Int.reduceToNat, Int.reduceAdd, Int.reduceSub, Int.reduceMul, Int.reduceEq]
  (repeat (refine And.intro (by first | omega | decide) ?_))
  refine loop_rule (ι := Nat) (fun i => ⟨[(0, (.x (.a (.v (.slice A xs.length c))))), (1, .x (.a (.v (vU64 at_)))), (7, .x (.a (.o 0))), (24, (.x (.a (.v (.slice A xs.length c))))), (25, .x (.a (.v (.int .i64 xs.length)))), (26, .x (.a (.v (.int .i64 i))))], [.own 23 (.u64 (wtsU xs at_ i))]⟩) (fun i => i ≤ xs.length) (fun i => xs.length - i) 0 [0] (by omega) ?_ ?_
  · simp (config := { maxSteps := 1000000 }) only [wtsU_zero, List.replicate_zero, push_cast, ↓Int.toNat_natCast, ↓Int.cast_ofNat_Int, Int.cast_ofNat_Int, ↓reduceIte, reduceCtorEq, Nat.reduceEqDiff, Nat.reduceLT, Nat.reduceLeDiff, Nat.reduceAdd, Nat.reduceSub, Nat.reduceMul, Int.reduceNeg, Int.reduceLE, Int.reduceLT, Int.reduceToNat, Int.reduceAdd, Int.reduceSub, Int.reduceMul, Int.reduceEq]
  · intro i hi
    by_cases hlt : (i : Int) < xs.length
    · have i0 : (0 : Int) ≤ i := by omega
      have c0 := F.cell i (by omega)
      have o0 := F.ok i (by omega)
      have hA := F.some_ (by omega)
      simp (config := { maxSteps := 1000000 }) only [hlt, i0, c0, o0, hA, undef, push_cast, ↓Int.toNat_natCast, ↓Int.cast_ofNat_Int, Int.cast_ofNat_Int, ↓reduceIte, reduceCtorEq, Nat.reduceEqDiff, Nat.reduceLT, Nat.reduceLeDiff, Nat.reduceAdd, Nat.reduceSub, Nat.reduceMul, Int.reduceNeg, Int.reduceLE, Int.reduceLT, Int.reduceToNat, Int.reduceAdd, Int.reduceSub, Int.reduceMul, Int.reduceEq]
      (repeat (refine And.intro (by first | omega | decide) ?_))
      refine loop_rule (ι := Nat) (fun j => ⟨[(0, (.x (.a (.v (.slice A xs.length c))))), (1, .x (.a (.v (vU64 at_)))), (7, .x (.a (.o 0))), (8, .x (.a (.v (.int .i64 i)))), (9, .x (.a (.v (vU64 (ix xs i))))), (10, .x (.a (.v (vU64 (prU xs i at_ j))))), (11, .x (.a (.v (vU64 (prU xs i (ix xs i) j))))), (24, (.x (.a (.v (.slice A xs.length c))))), (25, .x (.a (.v (.int .i64 xs.length)))), (26, .x (.a (.v (.int .i64 i)))), (31, (.x (.a (.v (.slice A xs.length c))))), (32, .x (.a (.v (.int .i64 xs.length)))), (33, .x (.a (.v (.int .i64 j))))], [.own 23 (.u64 (wtsU xs at_ i))]⟩) (fun j => j ≤ xs.length) (fun j => xs.length - j) 0 [0] (by omega) ?_ ?_
      · simp (config := { maxSteps := 1000000 }) only [prU_zero, show n64 1 = 1 from rfl, push_cast, ↓Int.toNat_natCast, ↓Int.cast_ofNat_Int, Int.cast_ofNat_Int, ↓reduceIte, reduceCtorEq, Nat.reduceEqDiff, Nat.reduceLT, Nat.reduceLeDiff, Nat.reduceAdd, Nat.reduceSub, Nat.reduceMul, Int.reduceNeg, Int.reduceLE, Int.reduceLT, Int.reduceToNat, Int.reduceAdd, Int.reduceSub, Int.reduceMul, Int.reduceEq]
      · intro j hj
        by_cases hlj : (j : Int) < xs.length
        · have j0 : (0 : Int) ≤ j := by omega
          have c1 := F.cell j (by omega)
          have o1 := F.ok j (by omega)
          by_cases hji : (j : Int) = i
          · have hji' : j = i := by omega
            subst hji'
            simp (config := { maxSteps := 1000000 }) only [hlj, i0, c1, o1, hA, undef, push_cast, ↓Int.toNat_natCast, ↓Int.cast_ofNat_Int, Int.cast_ofNat_Int, ↓reduceIte, reduceCtorEq, Nat.reduceEqDiff, Nat.reduceLT, Nat.reduceLeDiff, Nat.reduceAdd, Nat.reduceSub, Nat.reduceMul, Int.reduceNeg, Int.reduceLE, Int.reduceLT, Int.reduceToNat, Int.reduceAdd, Int.reduceSub, Int.reduceMul, Int.reduceEq]
            (repeat (refine And.intro (by first | omega | decide) ?_))
            refine loopK_normal (j + 1) [0] (by omega) (by omega) ?_
            simp (config := { maxSteps := 1000000 }) only [prU_same, push_cast, ↓Int.toNat_natCast, ↓Int.cast_ofNat_Int, Int.cast_ofNat_Int, ↓reduceIte, reduceCtorEq, Nat.reduceEqDiff, Nat.reduceLT, Nat.reduceLeDiff, Nat.reduceAdd, Nat.reduceSub, Nat.reduceMul, Int.reduceNeg, Int.reduceLE, Int.reduceLT, Int.reduceToNat, Int.reduceAdd, Int.reduceSub, Int.reduceMul, Int.reduceEq]
          · have hne : j ≠ i := by omega
            simp (config := { maxSteps := 1000000 }) only [hlj, j0, c1, o1, hA, hji, undef, push_cast, ↓Int.toNat_natCast, ↓Int.cast_ofNat_Int, Int.cast_ofNat_Int, ↓reduceIte, reduceCtorEq, Nat.reduceEqDiff, Nat.reduceLT, Nat.reduceLeDiff, Nat.reduceAdd, Nat.reduceSub, Nat.reduceMul, Int.reduceNeg, Int.reduceLE, Int.reduceLT, Int.reduceToNat, Int.reduceAdd, Int.reduceSub, Int.reduceMul, Int.reduceEq]
            (repeat (refine And.intro (by first | omega | decide) ?_))
            refine callG_v rfl cb77 rfl (fpSubK at_ (ix xs j)) (dOk_lt rfl) ?_
            simp (config := { maxSteps := 1000000 }) only [undef, push_cast, ↓Int.toNat_natCast, ↓Int.cast_ofNat_Int, Int.cast_ofNat_Int, ↓reduceIte, reduceCtorEq, Nat.reduceEqDiff, Nat.reduceLT, Nat.reduceLeDiff, Nat.reduceAdd, Nat.reduceSub, Nat.reduceMul, Int.reduceNeg, Int.reduceLE, Int.reduceLT, Int.reduceToNat, Int.reduceAdd, Int.reduceSub, Int.reduceMul, Int.reduceEq]
            refine callG_v rfl cb97 rfl (fpMulK (prU xs i at_ j) (subU at_ (ix xs j))) (dOk_lt rfl) ?_
            simp (config := { maxSteps := 1000000 }) only [undef, push_cast, ↓Int.toNat_natCast, ↓Int.cast_ofNat_Int, Int.cast_ofNat_Int, ↓reduceIte, reduceCtorEq, Nat.reduceEqDiff, Nat.reduceLT, Nat.reduceLeDiff, Nat.reduceAdd, Nat.reduceSub, Nat.reduceMul, Int.reduceNeg, Int.reduceLE, Int.reduceLT, Int.reduceToNat, Int.reduceAdd, Int.reduceSub, Int.reduceMul, Int.reduceEq]
            refine callG_v rfl cb77 rfl (fpSubK (ix xs i) (ix xs j)) (dOk_lt rfl) ?_
            simp (config := { maxSteps := 1000000 }) only [undef, push_cast, ↓Int.toNat_natCast, ↓Int.cast_ofNat_Int, Int.cast_ofNat_Int, ↓reduceIte, reduceCtorEq, Nat.reduceEqDiff, Nat.reduceLT, Nat.reduceLeDiff, Nat.reduceAdd, Nat.reduceSub, Nat.reduceMul, Int.reduceNeg, Int.reduceLE, Int.reduceLT, Int.reduceToNat, Int.reduceAdd, Int.reduceSub, Int.reduceMul, Int.reduceEq]
            refine callG_v rfl cb97 rfl (fpMulK (prU xs i (ix xs i) j) (subU (ix xs i) (ix xs j))) (dOk_lt rfl) ?_
            simp (config := { maxSteps := 1000000 }) only [undef, push_cast, ↓Int.toNat_natCast, ↓Int.cast_ofNat_Int, Int.cast_ofNat_Int, ↓reduceIte, reduceCtorEq, Nat.reduceEqDiff, Nat.reduceLT, Nat.reduceLeDiff, Nat.reduceAdd, Nat.reduceSub, Nat.reduceMul, Int.reduceNeg, Int.reduceLE, Int.reduceLT, Int.reduceToNat, Int.reduceAdd, Int.reduceSub, Int.reduceMul, Int.reduceEq]
            (repeat (refine And.intro (by first | omega | decide) ?_))
            refine loopK_normal (j + 1) [0] (by omega) (by omega) ?_
            simp (config := { maxSteps := 1000000 }) only [prU_next hne, push_cast, ↓Int.toNat_natCast, ↓Int.cast_ofNat_Int, Int.cast_ofNat_Int, ↓reduceIte, reduceCtorEq, Nat.reduceEqDiff, Nat.reduceLT, Nat.reduceLeDiff, Nat.reduceAdd, Nat.reduceSub, Nat.reduceMul, Int.reduceNeg, Int.reduceLE, Int.reduceLT, Int.reduceToNat, Int.reduceAdd, Int.reduceSub, Int.reduceMul, Int.reduceEq]
        · have e : j = xs.length := by omega
          subst e
          have hw : fpMul (prU xs i at_ xs.length) (powU (prU xs i (ix xs i) xs.length) 2305843009213693949) = wtU xs at_ i := by unfold wtU; rfl
          have hb := wtsU_length xs at_ i
          have b1 : (i + 1) * 8 ≤ 140737488355328 := by omega
          have b2 : i + 1 ≤ 2 ^ 63 - 1 := by omega
          have hs := (wtsU_succ xs at_ i).symm
          simp (config := { maxSteps := 1000000 }) only [hlj, undef, push_cast, ↓Int.toNat_natCast, ↓Int.cast_ofNat_Int, Int.cast_ofNat_Int, ↓reduceIte, reduceCtorEq, Nat.reduceEqDiff, Nat.reduceLT, Nat.reduceLeDiff, Nat.reduceAdd, Nat.reduceSub, Nat.reduceMul, Int.reduceNeg, Int.reduceLE, Int.reduceLT, Int.reduceToNat, Int.reduceAdd, Int.reduceSub, Int.reduceMul, Int.reduceEq]
          refine callG_v rfl cb133 rfl (fpDivK (prU xs i at_ xs.length) (prU xs i (ix xs i) xs.length) (below_ne hap i (by omega))) (dOk_lt rfl) ?_
          simp (config := { maxSteps := 1000000 }) only [hw, hb, b1, b2, hs, undef, push_cast, ↓Int.toNat_natCast, ↓Int.cast_ofNat_Int, Int.cast_ofNat_Int, ↓reduceIte, reduceCtorEq, Nat.reduceEqDiff, Nat.reduceLT, Nat.reduceLeDiff, Nat.reduceAdd, Nat.reduceSub, Nat.reduceMul, Int.reduceNeg, Int.reduceLE, Int.reduceLT, Int.reduceToNat, Int.reduceAdd, Int.reduceSub, Int.reduceMul, Int.reduceEq]
          (repeat (refine And.intro (by first | omega | decide) ?_))
          refine loopK_normal (i + 1) [2] (by omega) (by omega) ?_
          simp (config := { maxSteps := 1000000 }) only [push_cast, ↓Int.toNat_natCast, ↓Int.cast_ofNat_Int, Int.cast_ofNat_Int, ↓reduceIte, reduceCtorEq, Nat.reduceEqDiff, Nat.reduceLT, Nat.reduceLeDiff, Nat.reduceAdd, Nat.reduceSub, Nat.reduceMul, Int.reduceNeg, Int.reduceLE, Int.reduceLT, Int.reduceToNat, Int.reduceAdd, Int.reduceSub, Int.reduceMul, Int.reduceEq]
    · have e : i = xs.length := by omega
      subst e
      simp (config := { maxSteps := 1000000 }) only [hlt, undef, ownT2, ownT, push_cast, ↓Int.toNat_natCast, ↓Int.cast_ofNat_Int, Int.cast_ofNat_Int, ↓reduceIte, reduceCtorEq, Nat.reduceEqDiff, Nat.reduceLT, Nat.reduceLeDiff, Nat.reduceAdd, Nat.reduceSub, Nat.reduceMul, Int.reduceNeg, Int.reduceLE, Int.reduceLT, Int.reduceToNat, Int.reduceAdd, Int.reduceSub, Int.reduceMul, Int.reduceEq]
theorem weightsOK {w0 : World} {hp : List Res} {sv : Sv} {xs : List UInt64} (at_ : UInt64) (hl : pcOk xs = true) (h : Shows w0 No hp sv (xs.map vU64)) (hbr : ∀ r ∈ hp, Res.bnd hp.length r) : CallOK Tryd.prog w0 No 110 [sv, .x (.a (.v (vU64 at_)))] hp (.t [.a (.o hp.length), .a (.v .nilIface)]) (hp ++ [.own 23 (.u64 (wtsU xs at_ xs.length))]) := callOK_own2 hbr trivial fun γ w hS => by
  obtain ⟨A, c, e1, b1, r1⟩ := h γ w hS
  rw [List.length_map] at e1 b1
  show Calls _ _ #[sv.val γ, vU64 at_] w _
  rw [e1]
  exact weights_any xs at_ A c w hl b1 r1
/-! ### The value at a place -/
set_option maxRecDepth 100000 in
set_option maxHeartbeats 2000000 in
theorem through_any (l : List Sh) (at_ : UInt64) (A : Option Addr) (c : Nat) (w : World) (hl : pcOk (l.map (·.1)) = true) (hc : l.length ≤ c) (hR : RdV w w.heap.size A (shs l)) : Calls Tryd.prog 84 #[.slice A l.length c, vU64 at_] w fun e w' => e = .returned (.tuple #[vU64 (thU l at_ l.length), .nilIface]) ∧ Below w.heap.size w w' := by
  have F := FS2.of hR
  have h64 : l.length ≤ 64 := by
    have hl' := hl
    unfold pcOk at hl'
    rw [Bool.and_eq_true, decide_eq_true_eq, List.length_map] at hl'
    exact hl'.1
  refine calls_v Tryd.func84 rfl Tryd.ntmps84 [(.x (.a (.v (.slice A l.length c)))), .x (.a (.v (vU64 at_)))] (by simp) (.t [.a (.v (vU64 (thU l at_ l.length))), .a (.v .nilIface)]) (fun _ => rfl) ?_
  simp (config := { maxSteps := 1000000 }) only [undef, push_cast, ↓Int.toNat_natCast, ↓Int.cast_ofNat_Int, Int.cast_ofNat_Int, ↓reduceIte, reduceCtorEq, Nat.reduceEqDiff, Nat.reduceLT, Nat.reduceLeDiff, Nat.reduceAdd, Nat.reduceSub, Nat.reduceMul, Int.reduceNeg, Int.reduceLE, Int.reduceLT, Int.reduceToNat, Int.reduceAdd, Int.reduceSub, Int.reduceMul, Int.reduceEq]
  refine callG_x rfl cb109 rfl (placesOK (l := l) (by omega) (showsR_raw hR hc) (by simp only [push_cast, ↓Int.toNat_natCast, ↓Int.cast_ofNat_Int, Int.cast_ofNat_Int, ↓reduceIte, reduceCtorEq, Nat.reduceEqDiff, Nat.reduceLT, Nat.reduceLeDiff, Nat.reduceAdd, Nat.reduceSub, Nat.reduceMul, Int.reduceNeg, Int.reduceLE, Int.reduceLT, Int.reduceToNat, Int.reduceAdd, Int.reduceSub, Int.reduceMul, Int.reduceEq])) (dOk_lt rfl) (by simp only [push_cast, ↓Int.toNat_natCast, ↓Int.cast_ofNat_Int, Int.cast_ofNat_Int, ↓reduceIte, reduceCtorEq, Nat.reduceEqDiff, Nat.reduceLT, Nat.reduceLeDiff, Nat.reduceAdd, Nat.reduceSub, Nat.reduceMul, Int.reduceNeg, Int.reduceLE, Int.reduceLT, Int.reduceToNat, Int.reduceAdd, Int.reduceSub, Int.reduceMul, Int.reduceEq]) ?_
  simp (config := { maxSteps := 1000000 }) only [undef, push_cast, ↓Int.toNat_natCast, ↓Int.cast_ofNat_Int, Int.cast_ofNat_Int, ↓reduceIte, reduceCtorEq, Nat.reduceEqDiff, Nat.reduceLT, Nat.reduceLeDiff, Nat.reduceAdd, Nat.reduceSub, Nat.reduceMul, Int.reduceNeg, Int.reduceLE, Int.reduceLT, Int.reduceToNat, Int.reduceAdd, Int.reduceSub, Int.reduceMul, Int.reduceEq]
  refine callG_x rfl cb110 rfl (weightsOK (xs := l.map (·.1)) at_ hl (shows_own rfl fun _ => rfl) (by simp only [push_cast, ↓Int.toNat_natCast, ↓Int.cast_ofNat_Int, Int.cast_ofNat_Int, ↓reduceIte, reduceCtorEq, Nat.reduceEqDiff, Nat.reduceLT, Nat.reduceLeDiff, Nat.reduceAdd, Nat.reduceSub, Nat.reduceMul, Int.reduceNeg, Int.reduceLE, Int.reduceLT, Int.reduceToNat, Int.reduceAdd, Int.reduceSub, Int.reduceMul, Int.reduceEq])) (dOk_lt rfl) (by simp only [push_cast, ↓Int.toNat_natCast, ↓Int.cast_ofNat_Int, Int.cast_ofNat_Int, ↓reduceIte, reduceCtorEq, Nat.reduceEqDiff, Nat.reduceLT, Nat.reduceLeDiff, Nat.reduceAdd, Nat.reduceSub, Nat.reduceMul, Int.reduceNeg, Int.reduceLE, Int.reduceLT, Int.reduceToNat, Int.reduceAdd, Int.reduceSub, Int.reduceMul, Int.reduceEq]) ?_
  have hwl := wtsU_length (l.map (·.1)) at_ (l.map (·.1)).length
  generalize hws : wtsU (l.map (·.1)) at_ (l.map (·.1)).length = ws at hwl
  have hwi : ∀ i, i < l.length → ix ws i = wtU (l.map (·.1)) at_ i := fun i hi => by rw [← hws]; exact wtsU_ix _ _ _ _ (by rw [List.length_map]; exact hi)
  rw [List.length_map] at hwl
  simp (config := { maxSteps := 1000000 }) only [hws, undef, push_cast, ↓Int.toNat_natCast, ↓Int.cast_ofNat_Int, Int.cast_ofNat_Int, ↓reduceIte, reduceCtorEq, Nat.reduceEqDiff, Nat.reduceLT, Nat.reduceLeDiff, Nat.reduceAdd, Nat.reduceSub, Nat.reduceMul, Int.reduceNeg, Int.reduceLE, Int.reduceLT, Int.reduceToNat, Int.reduceAdd, Int.reduceSub, Int.reduceMul, Int.reduceEq]
  (repeat (refine And.intro (by first | omega | decide) ?_))
  refine loop_rule (ι := Nat) (fun i => ⟨[(6, .x (.a (.o 0))), (8, .x (.a (.v (vU64 (thU l at_ i))))), (21, (.x (.a (.v (.slice A l.length c))))), (22, .x (.a (.v (.int .i64 l.length)))), (23, .x (.a (.v (.int .i64 i))))], [.own 23 (.u64 ws)]⟩) (fun i => i ≤ l.length) (fun i => l.length - i) 0 [1] (by omega) ?_ ?_
  · simp (config := { maxSteps := 1000000 }) only [thU_zero, show n64 0 = 0 from rfl, push_cast, ↓Int.toNat_natCast, ↓Int.cast_ofNat_Int, Int.cast_ofNat_Int, ↓reduceIte, reduceCtorEq, Nat.reduceEqDiff, Nat.reduceLT, Nat.reduceLeDiff, Nat.reduceAdd, Nat.reduceSub, Nat.reduceMul, Int.reduceNeg, Int.reduceLE, Int.reduceLT, Int.reduceToNat, Int.reduceAdd, Int.reduceSub, Int.reduceMul, Int.reduceEq]
  · intro i hi
    by_cases hlt : (i : Int) < l.length
    · have i0 : (0 : Int) ≤ i := by omega
      have i1 : i < l.length := by omega
      have c0 := F.c0 i (by omega)
      have c1 := F.c1 i (by omega)
      have o0 := F.ok0 i (by omega)
      have o1 := F.ok1 i (by omega)
      have hA := F.some_ (by omega)
      have hx := hwi i i1
      simp (config := { maxSteps := 1000000 }) only [hlt, i0, c0, c1, o0, o1, hA, pAdd_zero, pAdd_add, pAdd_isSome, undef, push_cast, ↓Int.toNat_natCast, ↓Int.cast_ofNat_Int, Int.cast_ofNat_Int, ↓reduceIte, reduceCtorEq, Nat.reduceEqDiff, Nat.reduceLT, Nat.reduceLeDiff, Nat.reduceAdd, Nat.reduceSub, Nat.reduceMul, Int.reduceNeg, Int.reduceLE, Int.reduceLT, Int.reduceToNat, Int.reduceAdd, Int.reduceSub, Int.reduceMul, Int.reduceEq]
      (repeat (refine And.intro (by first | omega | decide) ?_))
      refine draw_rule [(0, true), (1, true), (2, true), (3, true), (4, true), (5, true), (6, true), (7, false), (8, false), (9, true)] (by kernel_rfl) (by kernel_rfl) rfl (by kernel_rfl) ?_
      simp (config := { maxSteps := 1000000 }) only [hlt, hwl, i0, i1, hx, undef, push_cast, ↓Int.toNat_natCast, ↓Int.cast_ofNat_Int, Int.cast_ofNat_Int, ↓reduceIte, reduceCtorEq, Nat.reduceEqDiff, Nat.reduceLT, Nat.reduceLeDiff, Nat.reduceAdd, Nat.reduceSub, Nat.reduceMul, Int.reduceNeg, Int.reduceLE, Int.reduceLT, Int.reduceToNat, Int.reduceAdd, Int.reduceSub, Int.reduceMul, Int.reduceEq]
      (repeat (refine And.intro (by first | omega | decide) ?_))
      refine callM_v rfl cb97 rfl (fpMulK _ _) (dOk_lt rfl) ?_
      simp (config := { maxSteps := 1000000 }) only [undef, push_cast, ↓Int.toNat_natCast, ↓Int.cast_ofNat_Int, Int.cast_ofNat_Int, ↓reduceIte, reduceCtorEq, Nat.reduceEqDiff, Nat.reduceLT, Nat.reduceLeDiff, Nat.reduceAdd, Nat.reduceSub, Nat.reduceMul, Int.reduceNeg, Int.reduceLE, Int.reduceLT, Int.reduceToNat, Int.reduceAdd, Int.reduceSub, Int.reduceMul, Int.reduceEq]
      refine callM_v rfl cb72 rfl (fpAddK _ _) (dOk_lt rfl) ?_
      simp (config := { maxSteps := 1000000 }) only [undef, push_cast, ↓Int.toNat_natCast, ↓Int.cast_ofNat_Int, Int.cast_ofNat_Int, ↓reduceIte, reduceCtorEq, Nat.reduceEqDiff, Nat.reduceLT, Nat.reduceLeDiff, Nat.reduceAdd, Nat.reduceSub, Nat.reduceMul, Int.reduceNeg, Int.reduceLE, Int.reduceLT, Int.reduceToNat, Int.reduceAdd, Int.reduceSub, Int.reduceMul, Int.reduceEq]
      (repeat (refine And.intro (by first | omega | decide) ?_))
      refine loopK_normal (i + 1) [0] (by omega) (by omega) ?_
      simp (config := { maxSteps := 1000000 }) only [thU_succ, push_cast, ↓Int.toNat_natCast, ↓Int.cast_ofNat_Int, Int.cast_ofNat_Int, ↓reduceIte, reduceCtorEq, Nat.reduceEqDiff, Nat.reduceLT, Nat.reduceLeDiff, Nat.reduceAdd, Nat.reduceSub, Nat.reduceMul, Int.reduceNeg, Int.reduceLE, Int.reduceLT, Int.reduceToNat, Int.reduceAdd, Int.reduceSub, Int.reduceMul, Int.reduceEq]
    · have e : i = l.length := by omega
      subst e
      simp (config := { maxSteps := 1000000 }) only [hlt, undef, push_cast, ↓Int.toNat_natCast, ↓Int.cast_ofNat_Int, Int.cast_ofNat_Int, ↓reduceIte, reduceCtorEq, Nat.reduceEqDiff, Nat.reduceLT, Nat.reduceLeDiff, Nat.reduceAdd, Nat.reduceSub, Nat.reduceMul, Int.reduceNeg, Int.reduceLE, Int.reduceLT, Int.reduceToNat, Int.reduceAdd, Int.reduceSub, Int.reduceMul, Int.reduceEq]
theorem throughOK {w0 : World} {hp : List Res} {sv : Sv} {l : List Sh} (at_ : UInt64) (hl : pcOk (l.map (·.1)) = true) (h : ShowsR w0 No hp sv l.length (shs l)) : CallOK Tryd.prog w0 No 84 [sv, .x (.a (.v (vU64 at_)))] hp (.t [.a (.v (vU64 (thU l at_ l.length))), .a (.v .nilIface)]) hp := callOK_v fun γ w hS => by
  obtain ⟨A, c, e1, b1, r1⟩ := h γ w hS
  show Calls _ _ #[sv.val γ, vU64 at_] w _
  rw [e1]
  exact through_any l at_ A c w hl b1 r1
end Go.Proofs.YteiifdpikcnbgaaDoor
