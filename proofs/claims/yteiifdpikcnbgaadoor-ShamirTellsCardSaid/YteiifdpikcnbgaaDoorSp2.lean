/- The document's curve through points: Newton's; and whether more points are of it. -/
import Derived.Test.YteiifdpikcnbgaaDoorSp1
import Derived.Test.YteiifdpikcnbgaaDoorSo4
namespace Go.Proofs.YteiifdpikcnbgaaDoor
open Go.RowKit
set_option linter.unusedSimpArgs false
set_option linter.unusedVariables false
attribute [local irreducible] Callable CallOK CallG CallM DrawG LoopG symR symM
attribute [local irreducible] shc seenU metU apartU prU wtU wtsU thU powU polyU sortP splS polyN addU subU fpMul euS plT nwP nwV nwN lineU
set_option maxRecDepth 100000 in
set_option maxHeartbeats 4000000 in
theorem rThrough_any (l : List Sh) (at_ : UInt64) (A : Option Addr) (c : Nat) (w : World) (hpc : pcOk (PL l) = true) (hc : l.length ≤ c) (hR : RdV w w.heap.size A (shs l)) :
    Calls Tryd.prog 86 #[.slice A l.length c, vU64 at_] w fun e w' => e = .returned (.tuple #[vU64 (thU l at_ l.length), .int .i64 0]) ∧ Below w.heap.size w w' := by
  have F := FS2.of hR
  have h64 : l.length ≤ 64 ∧ apartU (PL l) = true := by
    have h := hpc
    unfold pcOk at h
    rw [Bool.and_eq_true, decide_eq_true_eq, List.length_map] at h
    exact h
  obtain ⟨h64, hap⟩ := h64
  have hr0 := rapN_ok hpc
  refine calls_v Tryd.func86 rfl Tryd.ntmps86 [(.x (.a (.v (.slice A l.length c)))), .x (.a (.v (vU64 at_)))] (by simp) (.t [.a (.v (vU64 (thU l at_ l.length))), .a (.v (.int .i64 0))]) (fun _ => rfl) ?_
  simp (config := { maxSteps := 1000000 }) only [undef, push_cast, ↓Int.toNat_natCast, ↓Int.cast_ofNat_Int, Int.cast_ofNat_Int, ↓reduceIte, reduceCtorEq, Nat.reduceEqDiff, Nat.reduceLT, Nat.reduceLeDiff, Nat.reduceAdd, Nat.reduceSub, Nat.reduceMul, Int.reduceNeg, Int.reduceLE, Int.reduceLT, Int.reduceToNat, Int.reduceAdd, Int.reduceSub, Int.reduceMul, Int.reduceEq]
  refine callG_x rfl cb112 rfl (rxsOK (l := l) (by omega) (showsR_raw hR hc) (by simp only [push_cast, ↓Int.toNat_natCast, ↓Int.cast_ofNat_Int, Int.cast_ofNat_Int, ↓reduceIte, reduceCtorEq, Nat.reduceEqDiff, Nat.reduceLT, Nat.reduceLeDiff, Nat.reduceAdd, Nat.reduceSub, Nat.reduceMul, Int.reduceNeg, Int.reduceLE, Int.reduceLT, Int.reduceToNat, Int.reduceAdd, Int.reduceSub, Int.reduceMul, Int.reduceEq])) (dOk_lt rfl) (by simp only [push_cast, ↓Int.toNat_natCast, ↓Int.cast_ofNat_Int, Int.cast_ofNat_Int, ↓reduceIte, reduceCtorEq, Nat.reduceEqDiff, Nat.reduceLT, Nat.reduceLeDiff, Nat.reduceAdd, Nat.reduceSub, Nat.reduceMul, Int.reduceNeg, Int.reduceLE, Int.reduceLT, Int.reduceToNat, Int.reduceAdd, Int.reduceSub, Int.reduceMul, Int.reduceEq]) ?_
  simp (config := { maxSteps := 1000000 }) only [undef, push_cast, ↓Int.toNat_natCast, ↓Int.cast_ofNat_Int, Int.cast_ofNat_Int, ↓reduceIte, reduceCtorEq, Nat.reduceEqDiff, Nat.reduceLT, Nat.reduceLeDiff, Nat.reduceAdd, Nat.reduceSub, Nat.reduceMul, Int.reduceNeg, Int.reduceLE, Int.reduceLT, Int.reduceToNat, Int.reduceAdd, Int.reduceSub, Int.reduceMul, Int.reduceEq]
  refine callG_v rfl cb111 rfl (rApartOK (xs := l.map (·.1)) (shows_own rfl fun _ => rfl)) (dOk_lt rfl) ?_
  simp (config := { maxSteps := 1000000 }) only [hr0, undef, push_cast, ↓Int.toNat_natCast, ↓Int.cast_ofNat_Int, Int.cast_ofNat_Int, ↓reduceIte, reduceCtorEq, Nat.reduceEqDiff, Nat.reduceLT, Nat.reduceLeDiff, Nat.reduceAdd, Nat.reduceSub, Nat.reduceMul, Int.reduceNeg, Int.reduceLE, Int.reduceLT, Int.reduceToNat, Int.reduceAdd, Int.reduceSub, Int.reduceMul, Int.reduceEq]
  (repeat (refine And.intro (by first | omega | decide) ?_))
  refine loop_ghost 7 23 (.u64 []) rfl rfl trivial (by simp only [push_cast, ↓Int.toNat_natCast, ↓Int.cast_ofNat_Int, Int.cast_ofNat_Int, ↓reduceIte, reduceCtorEq, Nat.reduceEqDiff, Nat.reduceLT, Nat.reduceLeDiff, Nat.reduceAdd, Nat.reduceSub, Nat.reduceMul, Int.reduceNeg, Int.reduceLE, Int.reduceLT, Int.reduceToNat, Int.reduceAdd, Int.reduceSub, Int.reduceMul, Int.reduceEq]) ?_
  refine loop_rule (ι := Nat) (fun i => ⟨[(0, (.x (.a (.v (.slice A l.length c))))), (1, .x (.a (.v (vU64 at_)))), (7, .x (.a (.o 0))), (8, .x (.a (.v (.int .i64 i))))], [.own 23 (.u64 (nwN l i))]⟩) (fun i => i ≤ l.length) (fun i => l.length - i) 0 [1] (by omega) ?_ ?_
  · simp (config := { maxSteps := 1000000 }) only [nwN_zero, push_cast, ↓Int.toNat_natCast, ↓Int.cast_ofNat_Int, Int.cast_ofNat_Int, ↓reduceIte, reduceCtorEq, Nat.reduceEqDiff, Nat.reduceLT, Nat.reduceLeDiff, Nat.reduceAdd, Nat.reduceSub, Nat.reduceMul, Int.reduceNeg, Int.reduceLE, Int.reduceLT, Int.reduceToNat, Int.reduceAdd, Int.reduceSub, Int.reduceMul, Int.reduceEq]
  · intro i hi
    have hle : (i : Int) ≤ l.length := by omega
    have hnl := nwN_length l i
    have z1 : n64 1 = 1 := rfl
    have z0 : n64 0 = 0 := rfl
    by_cases hlt : (i : Int) < l.length
    · have i0 : (0 : Int) ≤ i := by omega
      have hne : ¬ (i : Int) = l.length := by omega
      have c0 := F.c0 i (by omega)
      have c1 := F.c1 i (by omega)
      have o0 := F.ok0 i (by omega)
      have o1 := F.ok1 i (by omega)
      have hA := F.some_ (by omega)
      simp (config := { maxSteps := 1000000 }) only [hle, hlt, i0, c0, o0, hA, pAdd_zero, pAdd_add, pAdd_isSome, undef, push_cast, ↓Int.toNat_natCast, ↓Int.cast_ofNat_Int, Int.cast_ofNat_Int, ↓reduceIte, reduceCtorEq, Nat.reduceEqDiff, Nat.reduceLT, Nat.reduceLeDiff, Nat.reduceAdd, Nat.reduceSub, Nat.reduceMul, Int.reduceNeg, Int.reduceLE, Int.reduceLT, Int.reduceToNat, Int.reduceAdd, Int.reduceSub, Int.reduceMul, Int.reduceEq]
      (repeat (refine And.intro (by first | omega | decide) ?_))
      have hsucc := (nwN_succ l i).symm
      have hpn := nwP_ne hap i (by omega)
      generalize nwN l i = ns at *
      refine loop_rule (ι := Nat) (fun k => ⟨[(0, (.x (.a (.v (.slice A l.length c))))), (1, .x (.a (.v (vU64 at_)))), (7, .x (.a (.o 0))), (8, .x (.a (.v (.int .i64 i)))), (9, .x (.a (.v (vU64 (ix l i).1)))), (10, .x (.a (.v (vU64 (nwV l ns (ix l i).1 k))))), (11, .x (.a (.v (vU64 (nwP l (ix l i).1 k))))), (12, .x (.a (.v (.int .i64 k))))], [.own 23 (.u64 ns)]⟩) (fun k => k ≤ i) (fun k => i - k) 0 [0] (by omega) ?_ ?_
      · simp (config := { maxSteps := 1000000 }) only [nwV_zero, nwP_zero, z0, z1, push_cast, ↓Int.toNat_natCast, ↓Int.cast_ofNat_Int, Int.cast_ofNat_Int, ↓reduceIte, reduceCtorEq, Nat.reduceEqDiff, Nat.reduceLT, Nat.reduceLeDiff, Nat.reduceAdd, Nat.reduceSub, Nat.reduceMul, Int.reduceNeg, Int.reduceLE, Int.reduceLT, Int.reduceToNat, Int.reduceAdd, Int.reduceSub, Int.reduceMul, Int.reduceEq]
      · intro k hk
        by_cases hlk : (k : Int) < i
        · have k0 : (0 : Int) ≤ k := by omega
          have k1 : (k : Int) < l.length := by omega
          have k2 : k < i := by omega
          have d0 := F.c0 k (by omega)
          have p0 := F.ok0 k (by omega)
          simp (config := { maxSteps := 1000000 }) only [hlk, k0, k1, k2, hnl, d0, p0, hA, pAdd_zero, pAdd_add, pAdd_isSome, undef, push_cast, ↓Int.toNat_natCast, ↓Int.cast_ofNat_Int, Int.cast_ofNat_Int, ↓reduceIte, reduceCtorEq, Nat.reduceEqDiff, Nat.reduceLT, Nat.reduceLeDiff, Nat.reduceAdd, Nat.reduceSub, Nat.reduceMul, Int.reduceNeg, Int.reduceLE, Int.reduceLT, Int.reduceToNat, Int.reduceAdd, Int.reduceSub, Int.reduceMul, Int.reduceEq]
          (repeat (refine And.intro (by first | omega | decide) ?_))
          refine callG_v rfl cb102 rfl (refMulK _ _) (dOk_lt rfl) ?_
          simp (config := { maxSteps := 1000000 }) only [undef, push_cast, ↓Int.toNat_natCast, ↓Int.cast_ofNat_Int, Int.cast_ofNat_Int, ↓reduceIte, reduceCtorEq, Nat.reduceEqDiff, Nat.reduceLT, Nat.reduceLeDiff, Nat.reduceAdd, Nat.reduceSub, Nat.reduceMul, Int.reduceNeg, Int.reduceLE, Int.reduceLT, Int.reduceToNat, Int.reduceAdd, Int.reduceSub, Int.reduceMul, Int.reduceEq]
          refine callG_v rfl cb47 rfl (rAddK _ _) (dOk_lt rfl) ?_
          simp (config := { maxSteps := 1000000 }) only [hlk, k0, k1, k2, hnl, d0, p0, hA, pAdd_zero, pAdd_add, pAdd_isSome, undef, push_cast, ↓Int.toNat_natCast, ↓Int.cast_ofNat_Int, Int.cast_ofNat_Int, ↓reduceIte, reduceCtorEq, Nat.reduceEqDiff, Nat.reduceLT, Nat.reduceLeDiff, Nat.reduceAdd, Nat.reduceSub, Nat.reduceMul, Int.reduceNeg, Int.reduceLE, Int.reduceLT, Int.reduceToNat, Int.reduceAdd, Int.reduceSub, Int.reduceMul, Int.reduceEq]
          (repeat (refine And.intro (by first | omega | decide) ?_))
          refine callG_v rfl cb78 rfl (rSubK _ _) (dOk_lt rfl) ?_
          simp (config := { maxSteps := 1000000 }) only [undef, push_cast, ↓Int.toNat_natCast, ↓Int.cast_ofNat_Int, Int.cast_ofNat_Int, ↓reduceIte, reduceCtorEq, Nat.reduceEqDiff, Nat.reduceLT, Nat.reduceLeDiff, Nat.reduceAdd, Nat.reduceSub, Nat.reduceMul, Int.reduceNeg, Int.reduceLE, Int.reduceLT, Int.reduceToNat, Int.reduceAdd, Int.reduceSub, Int.reduceMul, Int.reduceEq]
          refine callG_v rfl cb102 rfl (refMulK _ _) (dOk_lt rfl) ?_
          simp (config := { maxSteps := 1000000 }) only [undef, push_cast, ↓Int.toNat_natCast, ↓Int.cast_ofNat_Int, Int.cast_ofNat_Int, ↓reduceIte, reduceCtorEq, Nat.reduceEqDiff, Nat.reduceLT, Nat.reduceLeDiff, Nat.reduceAdd, Nat.reduceSub, Nat.reduceMul, Int.reduceNeg, Int.reduceLE, Int.reduceLT, Int.reduceToNat, Int.reduceAdd, Int.reduceSub, Int.reduceMul, Int.reduceEq]
          (repeat (refine And.intro (by first | omega | decide) ?_))
          refine loopK_normal (k + 1) [0] (by omega) (by omega) ?_
          simp (config := { maxSteps := 1000000 }) only [nwV_succ, nwP_succ, push_cast, ↓Int.toNat_natCast, ↓Int.cast_ofNat_Int, Int.cast_ofNat_Int, ↓reduceIte, reduceCtorEq, Nat.reduceEqDiff, Nat.reduceLT, Nat.reduceLeDiff, Nat.reduceAdd, Nat.reduceSub, Nat.reduceMul, Int.reduceNeg, Int.reduceLE, Int.reduceLT, Int.reduceToNat, Int.reduceAdd, Int.reduceSub, Int.reduceMul, Int.reduceEq]
        · have e : k = i := by omega
          subst e
          have b1 : (k + 1) * 8 ≤ 140737488355328 := by omega
          have b2 : k + 1 ≤ 2 ^ 63 - 1 := by omega
          simp (config := { maxSteps := 1000000 }) only [hlk, hlt, hne, i0, c1, o1, hA, pAdd_zero, pAdd_add, pAdd_isSome, undef, push_cast, ↓Int.toNat_natCast, ↓Int.cast_ofNat_Int, Int.cast_ofNat_Int, ↓reduceIte, reduceCtorEq, Nat.reduceEqDiff, Nat.reduceLT, Nat.reduceLeDiff, Nat.reduceAdd, Nat.reduceSub, Nat.reduceMul, Int.reduceNeg, Int.reduceLE, Int.reduceLT, Int.reduceToNat, Int.reduceAdd, Int.reduceSub, Int.reduceMul, Int.reduceEq]
          (repeat (refine And.intro (by first | omega | decide) ?_))
          refine callG_v rfl cb78 rfl (rSubK _ _) (dOk_lt rfl) ?_
          simp (config := { maxSteps := 1000000 }) only [undef, push_cast, ↓Int.toNat_natCast, ↓Int.cast_ofNat_Int, Int.cast_ofNat_Int, ↓reduceIte, reduceCtorEq, Nat.reduceEqDiff, Nat.reduceLT, Nat.reduceLeDiff, Nat.reduceAdd, Nat.reduceSub, Nat.reduceMul, Int.reduceNeg, Int.reduceLE, Int.reduceLT, Int.reduceToNat, Int.reduceAdd, Int.reduceSub, Int.reduceMul, Int.reduceEq]
          refine callG_v rfl cb113 rfl (rInvK _ hpn) (dOk_lt rfl) ?_
          simp (config := { maxSteps := 1000000 }) only [undef, push_cast, ↓Int.toNat_natCast, ↓Int.cast_ofNat_Int, Int.cast_ofNat_Int, ↓reduceIte, reduceCtorEq, Nat.reduceEqDiff, Nat.reduceLT, Nat.reduceLeDiff, Nat.reduceAdd, Nat.reduceSub, Nat.reduceMul, Int.reduceNeg, Int.reduceLE, Int.reduceLT, Int.reduceToNat, Int.reduceAdd, Int.reduceSub, Int.reduceMul, Int.reduceEq]
          refine callG_v rfl cb102 rfl (refMulK _ _) (dOk_lt rfl) ?_
          simp (config := { maxSteps := 1000000 }) only [hsucc, hnl, b1, b2, undef, push_cast, ↓Int.toNat_natCast, ↓Int.cast_ofNat_Int, Int.cast_ofNat_Int, ↓reduceIte, reduceCtorEq, Nat.reduceEqDiff, Nat.reduceLT, Nat.reduceLeDiff, Nat.reduceAdd, Nat.reduceSub, Nat.reduceMul, Int.reduceNeg, Int.reduceLE, Int.reduceLT, Int.reduceToNat, Int.reduceAdd, Int.reduceSub, Int.reduceMul, Int.reduceEq]
          (repeat (refine And.intro (by first | omega | decide) ?_))
          refine loopK_normal (k + 1) [2] (by omega) (by omega) ?_
          simp (config := { maxSteps := 1000000 }) only [push_cast, ↓Int.toNat_natCast, ↓Int.cast_ofNat_Int, Int.cast_ofNat_Int, ↓reduceIte, reduceCtorEq, Nat.reduceEqDiff, Nat.reduceLT, Nat.reduceLeDiff, Nat.reduceAdd, Nat.reduceSub, Nat.reduceMul, Int.reduceNeg, Int.reduceLE, Int.reduceLT, Int.reduceToNat, Int.reduceAdd, Int.reduceSub, Int.reduceMul, Int.reduceEq]
    · have e : i = l.length := by omega
      have hth := nw_th hap at_
      subst e
      simp (config := { maxSteps := 1000000 }) only [hle, hlt, undef, push_cast, ↓Int.toNat_natCast, ↓Int.cast_ofNat_Int, Int.cast_ofNat_Int, ↓reduceIte, reduceCtorEq, Nat.reduceEqDiff, Nat.reduceLT, Nat.reduceLeDiff, Nat.reduceAdd, Nat.reduceSub, Nat.reduceMul, Int.reduceNeg, Int.reduceLE, Int.reduceLT, Int.reduceToNat, Int.reduceAdd, Int.reduceSub, Int.reduceMul, Int.reduceEq]
      (repeat (refine And.intro (by first | omega | decide) ?_))
      generalize nwN l l.length = ns at *
      refine loop_rule (ι := Nat) (fun k => ⟨[(0, (.x (.a (.v (.slice A l.length c))))), (1, .x (.a (.v (vU64 at_)))), (7, .x (.a (.o 0))), (8, .x (.a (.v (.int .i64 l.length)))), (9, .x (.a (.v (vU64 at_)))), (10, .x (.a (.v (vU64 (nwV l ns at_ k))))), (11, .x (.a (.v (vU64 (nwP l at_ k))))), (12, .x (.a (.v (.int .i64 k))))], [.own 23 (.u64 ns)]⟩) (fun k => k ≤ l.length) (fun k => l.length - k) 0 [0] (by omega) ?_ ?_
      · simp (config := { maxSteps := 1000000 }) only [nwV_zero, nwP_zero, z0, z1, push_cast, ↓Int.toNat_natCast, ↓Int.cast_ofNat_Int, Int.cast_ofNat_Int, ↓reduceIte, reduceCtorEq, Nat.reduceEqDiff, Nat.reduceLT, Nat.reduceLeDiff, Nat.reduceAdd, Nat.reduceSub, Nat.reduceMul, Int.reduceNeg, Int.reduceLE, Int.reduceLT, Int.reduceToNat, Int.reduceAdd, Int.reduceSub, Int.reduceMul, Int.reduceEq]
      · intro k hk
        by_cases hlk : (k : Int) < l.length
        · have k0 : (0 : Int) ≤ k := by omega
          have k2 : k < l.length := by omega
          have d0 := F.c0 k (by omega)
          have p0 := F.ok0 k (by omega)
          have hA := F.some_ (by omega)
          simp (config := { maxSteps := 1000000 }) only [hlk, k0, k2, hnl, d0, p0, hA, pAdd_zero, pAdd_add, pAdd_isSome, undef, push_cast, ↓Int.toNat_natCast, ↓Int.cast_ofNat_Int, Int.cast_ofNat_Int, ↓reduceIte, reduceCtorEq, Nat.reduceEqDiff, Nat.reduceLT, Nat.reduceLeDiff, Nat.reduceAdd, Nat.reduceSub, Nat.reduceMul, Int.reduceNeg, Int.reduceLE, Int.reduceLT, Int.reduceToNat, Int.reduceAdd, Int.reduceSub, Int.reduceMul, Int.reduceEq]
          (repeat (refine And.intro (by first | omega | decide) ?_))
          refine callG_v rfl cb102 rfl (refMulK _ _) (dOk_lt rfl) ?_
          simp (config := { maxSteps := 1000000 }) only [undef, push_cast, ↓Int.toNat_natCast, ↓Int.cast_ofNat_Int, Int.cast_ofNat_Int, ↓reduceIte, reduceCtorEq, Nat.reduceEqDiff, Nat.reduceLT, Nat.reduceLeDiff, Nat.reduceAdd, Nat.reduceSub, Nat.reduceMul, Int.reduceNeg, Int.reduceLE, Int.reduceLT, Int.reduceToNat, Int.reduceAdd, Int.reduceSub, Int.reduceMul, Int.reduceEq]
          refine callG_v rfl cb47 rfl (rAddK _ _) (dOk_lt rfl) ?_
          simp (config := { maxSteps := 1000000 }) only [hlk, k0, k2, hnl, d0, p0, hA, pAdd_zero, pAdd_add, pAdd_isSome, undef, push_cast, ↓Int.toNat_natCast, ↓Int.cast_ofNat_Int, Int.cast_ofNat_Int, ↓reduceIte, reduceCtorEq, Nat.reduceEqDiff, Nat.reduceLT, Nat.reduceLeDiff, Nat.reduceAdd, Nat.reduceSub, Nat.reduceMul, Int.reduceNeg, Int.reduceLE, Int.reduceLT, Int.reduceToNat, Int.reduceAdd, Int.reduceSub, Int.reduceMul, Int.reduceEq]
          (repeat (refine And.intro (by first | omega | decide) ?_))
          refine callG_v rfl cb78 rfl (rSubK _ _) (dOk_lt rfl) ?_
          simp (config := { maxSteps := 1000000 }) only [undef, push_cast, ↓Int.toNat_natCast, ↓Int.cast_ofNat_Int, Int.cast_ofNat_Int, ↓reduceIte, reduceCtorEq, Nat.reduceEqDiff, Nat.reduceLT, Nat.reduceLeDiff, Nat.reduceAdd, Nat.reduceSub, Nat.reduceMul, Int.reduceNeg, Int.reduceLE, Int.reduceLT, Int.reduceToNat, Int.reduceAdd, Int.reduceSub, Int.reduceMul, Int.reduceEq]
          refine callG_v rfl cb102 rfl (refMulK _ _) (dOk_lt rfl) ?_
          simp (config := { maxSteps := 1000000 }) only [undef, push_cast, ↓Int.toNat_natCast, ↓Int.cast_ofNat_Int, Int.cast_ofNat_Int, ↓reduceIte, reduceCtorEq, Nat.reduceEqDiff, Nat.reduceLT, Nat.reduceLeDiff, Nat.reduceAdd, Nat.reduceSub, Nat.reduceMul, Int.reduceNeg, Int.reduceLE, Int.reduceLT, Int.reduceToNat, Int.reduceAdd, Int.reduceSub, Int.reduceMul, Int.reduceEq]
          (repeat (refine And.intro (by first | omega | decide) ?_))
          refine loopK_normal (k + 1) [0] (by omega) (by omega) ?_
          simp (config := { maxSteps := 1000000 }) only [nwV_succ, nwP_succ, push_cast, ↓Int.toNat_natCast, ↓Int.cast_ofNat_Int, Int.cast_ofNat_Int, ↓reduceIte, reduceCtorEq, Nat.reduceEqDiff, Nat.reduceLT, Nat.reduceLeDiff, Nat.reduceAdd, Nat.reduceSub, Nat.reduceMul, Int.reduceNeg, Int.reduceLE, Int.reduceLT, Int.reduceToNat, Int.reduceAdd, Int.reduceSub, Int.reduceMul, Int.reduceEq]
        · have e : k = l.length := by omega
          subst e
          simp (config := { maxSteps := 1000000 }) only [hlk, hth, undef, push_cast, ↓Int.toNat_natCast, ↓Int.cast_ofNat_Int, Int.cast_ofNat_Int, ↓reduceIte, reduceCtorEq, Nat.reduceEqDiff, Nat.reduceLT, Nat.reduceLeDiff, Nat.reduceAdd, Nat.reduceSub, Nat.reduceMul, Int.reduceNeg, Int.reduceLE, Int.reduceLT, Int.reduceToNat, Int.reduceAdd, Int.reduceSub, Int.reduceMul, Int.reduceEq]
theorem rThroughOK {w0 : World} {hp : List Res} {sv : Sv} {l : List Sh} (at_ : UInt64) (hpc : pcOk (PL l) = true) (h : ShowsR w0 No hp sv l.length (shs l)) : CallOK Tryd.prog w0 No 86 [sv, .x (.a (.v (vU64 at_)))] hp (.t [.a (.v (vU64 (thU l at_ l.length))), .a (.v (.int .i64 0))]) hp := callOK_v fun γ w hS => by
  obtain ⟨A, c, e1, b1, r1⟩ := h γ w hS
  show Calls _ _ #[sv.val γ, vU64 at_] w _
  rw [e1]
  exact rThrough_any l at_ A c w hpc b1 r1
/-! ### Line -/
set_option maxRecDepth 100000 in
set_option maxHeartbeats 2000000 in
theorem rLine_any (l : List Sh) (m : Nat) (A : Option Addr) (c : Nat) (w : World) (hm : m ≤ l.length) (hpc : pcOk (PL l) = true) (hc : l.length ≤ c) (hR : RdV w w.heap.size A (shs l)) :
    Calls Tryd.prog 85 #[.slice A l.length c, .int .i64 m] w fun e w' => e = .returned (.tuple #[.bool (lineU l m), .int .i64 0]) ∧ Below w.heap.size w w' := by
  have F := FS2.of hR
  have h64 : l.length ≤ 64 := by
    have h := hpc
    unfold pcOk at h
    rw [Bool.and_eq_true, decide_eq_true_eq, List.length_map] at h
    exact h.1
  have hr0 := rapN_ok hpc
  refine calls_v Tryd.func85 rfl Tryd.ntmps85 [(.x (.a (.v (.slice A l.length c)))), .x (.a (.v (.int .i64 m)))] (by simp) (.t [.a (.v (.bool (lineU l m))), .a (.v (.int .i64 0))]) (fun _ => rfl) ?_
  have m0 : ¬ (m : Int) < 0 := by omega
  have g1 : ¬ (64 : Int) < l.length := by omega
  have hP0 : ¬ (2305843009213693951 : UInt64) = 0 := by decide
  have hlit : (2305843009213693951 : UInt64) = fpP := rfl
  have hP1 : ¬ fpP = 0 := by decide
  simp (config := { maxSteps := 1000000 }) only [m0, g1, undef, push_cast, ↓Int.toNat_natCast, ↓Int.cast_ofNat_Int, Int.cast_ofNat_Int, ↓reduceIte, reduceCtorEq, Nat.reduceEqDiff, Nat.reduceLT, Nat.reduceLeDiff, Nat.reduceAdd, Nat.reduceSub, Nat.reduceMul, Int.reduceNeg, Int.reduceLE, Int.reduceLT, Int.reduceToNat, Int.reduceAdd, Int.reduceSub, Int.reduceMul, Int.reduceEq]
  (repeat (refine And.intro (by first | omega | decide) ?_))
  refine callG_x rfl cb112 rfl (rxsOK (l := l) (by omega) (showsR_raw hR hc) (by simp only [push_cast, ↓Int.toNat_natCast, ↓Int.cast_ofNat_Int, Int.cast_ofNat_Int, ↓reduceIte, reduceCtorEq, Nat.reduceEqDiff, Nat.reduceLT, Nat.reduceLeDiff, Nat.reduceAdd, Nat.reduceSub, Nat.reduceMul, Int.reduceNeg, Int.reduceLE, Int.reduceLT, Int.reduceToNat, Int.reduceAdd, Int.reduceSub, Int.reduceMul, Int.reduceEq])) (dOk_lt rfl) (by simp only [push_cast, ↓Int.toNat_natCast, ↓Int.cast_ofNat_Int, Int.cast_ofNat_Int, ↓reduceIte, reduceCtorEq, Nat.reduceEqDiff, Nat.reduceLT, Nat.reduceLeDiff, Nat.reduceAdd, Nat.reduceSub, Nat.reduceMul, Int.reduceNeg, Int.reduceLE, Int.reduceLT, Int.reduceToNat, Int.reduceAdd, Int.reduceSub, Int.reduceMul, Int.reduceEq]) ?_
  simp (config := { maxSteps := 1000000 }) only [undef, push_cast, ↓Int.toNat_natCast, ↓Int.cast_ofNat_Int, Int.cast_ofNat_Int, ↓reduceIte, reduceCtorEq, Nat.reduceEqDiff, Nat.reduceLT, Nat.reduceLeDiff, Nat.reduceAdd, Nat.reduceSub, Nat.reduceMul, Int.reduceNeg, Int.reduceLE, Int.reduceLT, Int.reduceToNat, Int.reduceAdd, Int.reduceSub, Int.reduceMul, Int.reduceEq]
  refine callG_v rfl cb111 rfl (rApartOK (xs := l.map (·.1)) (shows_own rfl fun _ => rfl)) (dOk_lt rfl) ?_
  have hmin : (if (m : Int) < l.length then (m : Int) else l.length) = m := by split <;> omega
  have hmin2 : (if (l.length : Int) < m then (l.length : Int) else m) = m := by rw [if_neg (by omega)]
  simp (config := { maxSteps := 1000000 }) only [hr0, hmin, hmin2, undef, push_cast, ↓Int.toNat_natCast, ↓Int.cast_ofNat_Int, Int.cast_ofNat_Int, ↓reduceIte, reduceCtorEq, Nat.reduceEqDiff, Nat.reduceLT, Nat.reduceLeDiff, Nat.reduceAdd, Nat.reduceSub, Nat.reduceMul, Int.reduceNeg, Int.reduceLE, Int.reduceLT, Int.reduceToNat, Int.reduceAdd, Int.reduceSub, Int.reduceMul, Int.reduceEq]
  (repeat (refine And.intro (by first | omega | decide) ?_))
  refine loop_rule (ι := Nat) (fun k => ⟨[(0, (.x (.a (.v (.slice A l.length c))))), (7, .x (.a (.v (.int .i64 m)))), (8, .x (.a (.v (.int .i64 ((m + k : Nat) : Int)))))], []⟩) (fun k => m + k ≤ l.length ∧ ∀ i, i < k → thU (l.take m) (ix l (m + i)).1 m = (ix l (m + i)).2 % fpP) (fun k => l.length - k) 0 [] ⟨by omega, fun j h => absurd h (Nat.not_lt_zero _)⟩ ?_ ?_
  · simp (config := { maxSteps := 1000000 }) only [push_cast, ↓Int.toNat_natCast, ↓Int.cast_ofNat_Int, Int.cast_ofNat_Int, ↓reduceIte, reduceCtorEq, Nat.reduceEqDiff, Nat.reduceLT, Nat.reduceLeDiff, Nat.reduceAdd, Nat.reduceSub, Nat.reduceMul, Int.reduceNeg, Int.reduceLE, Int.reduceLT, Int.reduceToNat, Int.reduceAdd, Int.reduceSub, Int.reduceMul, Int.reduceEq]
  · rintro k ⟨hk, hkk⟩
    have hcast : ((m + k : Nat) : Int) = (m : Int) + k := by omega
    by_cases hlt : (m : Int) + k < l.length
    · have k0 : (0 : Int) ≤ (m : Int) + k := by omega
      have m1 : (0 : Int) ≤ m := by omega
      have m5 : (m : Int) ≤ c := by omega
      have c0 := F.c0 (m + k) (by omega)
      have c1 := F.c1 (m + k) (by omega)
      have o0 := F.ok0 (m + k) (by omega)
      have o1 := F.ok1 (m + k) (by omega)
      have hA := F.some_ (by omega)
      have tl := take_len (l := l) (m := m) (by omega)
      have e2 : ((m : Int) + k).toNat = m + k := by omega
      simp (config := { maxSteps := 1000000 }) only [hcast, hlt, undef, push_cast, ↓Int.toNat_natCast, ↓Int.cast_ofNat_Int, Int.cast_ofNat_Int, ↓reduceIte, reduceCtorEq, Nat.reduceEqDiff, Nat.reduceLT, Nat.reduceLeDiff, Nat.reduceAdd, Nat.reduceSub, Nat.reduceMul, Int.reduceNeg, Int.reduceLE, Int.reduceLT, Int.reduceToNat, Int.reduceAdd, Int.reduceSub, Int.reduceMul, Int.reduceEq]
      (repeat (refine And.intro (by first | omega | decide) ?_))
      have ht : ∀ {hp : List Res}, CallOK Tryd.prog w No 86 [.x (.a (.v (.slice A m c))), .x (.a (.v (vU64 (ix l (m + k)).1)))] hp (.t [.a (.v (vU64 (thU (l.take m) (ix l (m + k)).1 m))), .a (.v (.int .i64 0))]) hp := fun {hp} => by
        have := rThroughOK (hp := hp) (w0 := w) (sv := .x (.a (.v (.slice A m c)))) (l := l.take m) (ix l (m + k)).1 (pc_take m hpc) (by rw [tl]; exact showsR_raw (rd_take2 m hR) (by omega))
        rwa [tl] at this
      refine draw_rule [(0, true), (1, true), (2, true), (3, true), (4, true), (5, true), (6, true), (7, true), (8, false), (9, true), (10, true), (11, true), (12, true), (13, true)] (by kernel_rfl) (by kernel_rfl) rfl (by kernel_rfl) ?_
      simp (config := { maxSteps := 1000000 }) only [hcast, hlt, k0, m1, m5, e2, c0, c1, o0, o1, hA, pCutN_zero, Nat.sub_zero, pAdd_zero, pAdd_add, pAdd_isSome, undef, push_cast, ↓Int.toNat_natCast, ↓Int.cast_ofNat_Int, Int.cast_ofNat_Int, ↓reduceIte, reduceCtorEq, Nat.reduceEqDiff, Nat.reduceLT, Nat.reduceLeDiff, Nat.reduceAdd, Nat.reduceSub, Nat.reduceMul, Int.reduceNeg, Int.reduceLE, Int.reduceLT, Int.reduceToNat, Int.reduceAdd, Int.reduceSub, Int.reduceMul, Int.reduceEq]
      (repeat (refine And.intro (by first | omega | decide) ?_))
      refine callM_v rfl cb86 rfl ht (dOk_lt rfl) ?_
      by_cases he : thU (l.take m) (ix l (m + k)).1 m = (ix l (m + k)).2 % fpP
      · simp (config := { maxSteps := 1000000 }) only [hcast, hlt, k0, m1, m5, e2, c0, c1, o0, o1, hA, hP0, hP1, hlit, he, pAdd_zero, pAdd_add, pAdd_isSome, undef, push_cast, ↓Int.toNat_natCast, ↓Int.cast_ofNat_Int, Int.cast_ofNat_Int, ↓reduceIte, reduceCtorEq, Nat.reduceEqDiff, Nat.reduceLT, Nat.reduceLeDiff, Nat.reduceAdd, Nat.reduceSub, Nat.reduceMul, Int.reduceNeg, Int.reduceLE, Int.reduceLT, Int.reduceToNat, Int.reduceAdd, Int.reduceSub, Int.reduceMul, Int.reduceEq]
        (repeat (refine And.intro (by first | omega | decide) ?_))
        refine loopK_normal (k + 1) [] ⟨by omega, fun i h => ?_⟩ (by omega) ?_
        · by_cases e : i = k
          · rw [e]; exact he
          · exact hkk i (by omega)
        · simp (config := { maxSteps := 1000000 }) only [hcast, Int.add_assoc, push_cast, ↓Int.toNat_natCast, ↓Int.cast_ofNat_Int, Int.cast_ofNat_Int, ↓reduceIte, reduceCtorEq, Nat.reduceEqDiff, Nat.reduceLT, Nat.reduceLeDiff, Nat.reduceAdd, Nat.reduceSub, Nat.reduceMul, Int.reduceNeg, Int.reduceLE, Int.reduceLT, Int.reduceToNat, Int.reduceAdd, Int.reduceSub, Int.reduceMul, Int.reduceEq]
      · have e : lineU l m = false := by
          cases h : lineU l m
          · rfl
          · exact absurd (lineU_iff.1 h k (by omega)) he
        simp (config := { maxSteps := 1000000 }) only [hcast, hlt, k0, m1, m5, e2, c0, c1, o0, o1, hA, hP0, hP1, hlit, he, e, pAdd_zero, pAdd_add, pAdd_isSome, undef, push_cast, ↓Int.toNat_natCast, ↓Int.cast_ofNat_Int, Int.cast_ofNat_Int, ↓reduceIte, reduceCtorEq, Nat.reduceEqDiff, Nat.reduceLT, Nat.reduceLeDiff, Nat.reduceAdd, Nat.reduceSub, Nat.reduceMul, Int.reduceNeg, Int.reduceLE, Int.reduceLT, Int.reduceToNat, Int.reduceAdd, Int.reduceSub, Int.reduceMul, Int.reduceEq]
    · have e : lineU l m = true := lineU_iff.2 fun i hi => hkk i (by omega)
      simp (config := { maxSteps := 1000000 }) only [hcast, hlt, e, undef, push_cast, ↓Int.toNat_natCast, ↓Int.cast_ofNat_Int, Int.cast_ofNat_Int, ↓reduceIte, reduceCtorEq, Nat.reduceEqDiff, Nat.reduceLT, Nat.reduceLeDiff, Nat.reduceAdd, Nat.reduceSub, Nat.reduceMul, Int.reduceNeg, Int.reduceLE, Int.reduceLT, Int.reduceToNat, Int.reduceAdd, Int.reduceSub, Int.reduceMul, Int.reduceEq]
theorem rLineOK {w0 : World} {hp : List Res} {sv : Sv} {l : List Sh} (m : Nat) (hm : m ≤ l.length) (hpc : pcOk (PL l) = true) (h : ShowsR w0 No hp sv l.length (shs l)) :
    CallOK Tryd.prog w0 No 85 [sv, .x (.a (.v (.int .i64 m)))] hp (.t [.a (.v (.bool (lineU l m))), .a (.v (.int .i64 0))]) hp := callOK_v fun γ w hS => by
  obtain ⟨A, c, e1, b1, r1⟩ := h γ w hS
  show Calls _ _ #[sv.val γ, .int .i64 m] w _
  rw [e1]
  exact rLine_any l m A c w hm hpc b1 r1
end Go.Proofs.YteiifdpikcnbgaaDoor
