/- Shares that are of a curve, joined, summed: as the program does it (poly.Line, shamir.Sorted's refusals, Join, Sum). -/
import Derived.Test.YteiifdpikcnbgaaDoorSo3
namespace Go.Proofs.YteiifdpikcnbgaaDoor
open Go.RowKit
set_option linter.unusedSimpArgs false
set_option linter.unusedVariables false
attribute [local irreducible] Callable CallOK CallG CallM DrawG LoopG symR symM
attribute [local irreducible] shc seenU metU apartU prU wtU wtsU thU powU polyU sortP splS polyN
/-! ### Sorted: what it does not take -/
set_option maxRecDepth 100000 in
set_option maxHeartbeats 2000000 in
theorem sorted_no (l : List Sh) (A : Option Addr) (c : Nat) (w : World) (hl : l.length ≤ 1000) (hs : ¬ sorE l = 0) (hc : l.length ≤ c) (hR : RdV w w.heap.size A (shs l)) :
    Calls Tryd.prog 39 #[.slice A l.length c] w fun e w' => e = .returned (.tuple #[.slice none 0 0, errN (sorE l)]) ∧ Below w.heap.size w w' := by
  have F := FS2.of hR
  refine calls_v (n := 57) Tryd.func39 rfl Tryd.ntmps39 [(.x (.a (.v (.slice A l.length c))))] (by simp) (.t [.a (.v (.slice none 0 0)), .a (.v (errN (sorE l)))]) (fun _ => rfl) ?_
  by_cases g1 : (64 : Int) < l.length
  · have e : sorE l = 1 := if_neg (by omega)
    simp (config := { maxSteps := 1000000 }) only [g1, e, errN, undef, push_cast, ↓Int.toNat_natCast, ↓Int.cast_ofNat_Int, Int.cast_ofNat_Int, ↓reduceIte, reduceCtorEq, Nat.reduceEqDiff, Nat.reduceLT, Nat.reduceLeDiff, Nat.reduceAdd, Nat.reduceSub, Nat.reduceMul, Int.reduceNeg, Int.reduceLE, Int.reduceLT, Int.reduceToNat, Int.reduceAdd, Int.reduceSub, Int.reduceMul, Int.reduceEq]
  have h64 : l.length ≤ 64 := by omega
  have e0 : sorE l = if okAll l = true then (if asc (sortP l) = true then 0 else 8) else 1 := if_pos h64
  simp (config := { maxSteps := 1000000 }) only [g1, undef, push_cast, ↓Int.toNat_natCast, ↓Int.cast_ofNat_Int, Int.cast_ofNat_Int, ↓reduceIte, reduceCtorEq, Nat.reduceEqDiff, Nat.reduceLT, Nat.reduceLeDiff, Nat.reduceAdd, Nat.reduceSub, Nat.reduceMul, Int.reduceNeg, Int.reduceLE, Int.reduceLT, Int.reduceToNat, Int.reduceAdd, Int.reduceSub, Int.reduceMul, Int.reduceEq]
  (repeat (refine And.intro (by first | omega | decide) ?_))
  refine loop_rule (ι := Nat) (fun i => ⟨[(0, (.x (.a (.v (.slice A l.length c))))), (12, (.x (.a (.v (.slice A l.length c))))), (13, .x (.a (.v (.int .i64 l.length)))), (14, .x (.a (.v (.int .i64 i))))], []⟩) (fun i => i ≤ l.length ∧ ∀ j, j < i → okSh (ix l j) = true) (fun i => l.length - i) 0 [] ⟨by omega, fun j h => absurd h (Nat.not_lt_zero _)⟩ ?_ ?_
  · simp (config := { maxSteps := 1000000 }) only [push_cast, ↓Int.toNat_natCast, ↓Int.cast_ofNat_Int, Int.cast_ofNat_Int, ↓reduceIte, reduceCtorEq, Nat.reduceEqDiff, Nat.reduceLT, Nat.reduceLeDiff, Nat.reduceAdd, Nat.reduceSub, Nat.reduceMul, Int.reduceNeg, Int.reduceLE, Int.reduceLT, Int.reduceToNat, Int.reduceAdd, Int.reduceSub, Int.reduceMul, Int.reduceEq]
  · rintro i ⟨hi, hj⟩
    by_cases hlt : (i : Int) < l.length
    · have i0 : (0 : Int) ≤ i := by omega
      have c0 := F.c0 i (by omega)
      have c1 := F.c1 i (by omega)
      have o0 := F.ok0 i (by omega)
      have o1 := F.ok1 i (by omega)
      have hA := F.some_ (by omega)
      have hP : (2305843009213693951 : UInt64).toNat = 2305843009213693951 := rfl
      have bad : ¬ okSh (ix l i) = true → sorE l = 1 := fun h => by
        rw [e0, if_neg fun h2 => h (okSh_iff.2 (okAll_iff.1 h2 _ (ix_mem (by omega))))]
      by_cases k1 : (ix l i).1 = 0
      · have e := bad fun h => (okSh_iff.1 h).1 k1
        simp (config := { maxSteps := 1000000 }) only [hlt, i0, c0, c1, o0, o1, hA, k1, e, errN, show n64 0 = 0 from rfl, pAdd_zero, pAdd_add, pAdd_isSome, undef, push_cast, ↓Int.toNat_natCast, ↓Int.cast_ofNat_Int, Int.cast_ofNat_Int, ↓reduceIte, reduceCtorEq, Nat.reduceEqDiff, Nat.reduceLT, Nat.reduceLeDiff, Nat.reduceAdd, Nat.reduceSub, Nat.reduceMul, Int.reduceNeg, Int.reduceLE, Int.reduceLT, Int.reduceToNat, Int.reduceAdd, Int.reduceSub, Int.reduceMul, Int.reduceEq]
      by_cases k2 : (2305843009213693951 : UInt64) ≤ (ix l i).1
      · have e := bad fun h => by have := (okSh_iff.1 h).2.1; have := UInt64.le_iff_toNat_le.1 k2; omega
        simp (config := { maxSteps := 1000000 }) only [hlt, i0, c0, c1, o0, o1, hA, k1, k2, e, errN, pAdd_zero, pAdd_add, pAdd_isSome, undef, push_cast, ↓Int.toNat_natCast, ↓Int.cast_ofNat_Int, Int.cast_ofNat_Int, ↓reduceIte, reduceCtorEq, Nat.reduceEqDiff, Nat.reduceLT, Nat.reduceLeDiff, Nat.reduceAdd, Nat.reduceSub, Nat.reduceMul, Int.reduceNeg, Int.reduceLE, Int.reduceLT, Int.reduceToNat, Int.reduceAdd, Int.reduceSub, Int.reduceMul, Int.reduceEq]
      by_cases k3 : (2305843009213693951 : UInt64) ≤ (ix l i).2
      · have e := bad fun h => by have := (okSh_iff.1 h).2.2; have := UInt64.le_iff_toNat_le.1 k3; omega
        simp (config := { maxSteps := 1000000 }) only [hlt, i0, c0, c1, o0, o1, hA, k1, k2, k3, e, errN, pAdd_zero, pAdd_add, pAdd_isSome, undef, push_cast, ↓Int.toNat_natCast, ↓Int.cast_ofNat_Int, Int.cast_ofNat_Int, ↓reduceIte, reduceCtorEq, Nat.reduceEqDiff, Nat.reduceLT, Nat.reduceLeDiff, Nat.reduceAdd, Nat.reduceSub, Nat.reduceMul, Int.reduceNeg, Int.reduceLE, Int.reduceLT, Int.reduceToNat, Int.reduceAdd, Int.reduceSub, Int.reduceMul, Int.reduceEq]
      have good : okSh (ix l i) = true := okSh_iff.2 ⟨k1, by rw [UInt64.le_iff_toNat_le] at k2; omega, by rw [UInt64.le_iff_toNat_le] at k3; omega⟩
      simp (config := { maxSteps := 1000000 }) only [hlt, i0, c0, c1, o0, o1, hA, k1, k2, k3, pAdd_zero, pAdd_add, pAdd_isSome, undef, push_cast, ↓Int.toNat_natCast, ↓Int.cast_ofNat_Int, Int.cast_ofNat_Int, ↓reduceIte, reduceCtorEq, Nat.reduceEqDiff, Nat.reduceLT, Nat.reduceLeDiff, Nat.reduceAdd, Nat.reduceSub, Nat.reduceMul, Int.reduceNeg, Int.reduceLE, Int.reduceLT, Int.reduceToNat, Int.reduceAdd, Int.reduceSub, Int.reduceMul, Int.reduceEq]
      (repeat (refine And.intro (by first | omega | decide) ?_))
      refine loopK_normal (i + 1) [] ⟨by omega, fun j h => ?_⟩ (by omega) ?_
      · by_cases e : j = i
        · rw [e]; exact good
        · exact hj j (by omega)
      · simp (config := { maxSteps := 1000000 }) only [push_cast, ↓Int.toNat_natCast, ↓Int.cast_ofNat_Int, Int.cast_ofNat_Int, ↓reduceIte, reduceCtorEq, Nat.reduceEqDiff, Nat.reduceLT, Nat.reduceLeDiff, Nat.reduceAdd, Nat.reduceSub, Nat.reduceMul, Int.reduceNeg, Int.reduceLE, Int.reduceLT, Int.reduceToNat, Int.reduceAdd, Int.reduceSub, Int.reduceMul, Int.reduceEq]
    · have hok : okAll l = true := by
        unfold okAll
        rw [List.all_eq_true]
        intro s hs
        obtain ⟨j, hjl, rfl⟩ := List.mem_iff_getElem.1 hs
        have := hj j (by omega)
        rwa [ix_get hjl] at this
      have hna : ¬ asc (sortP l) = true := fun h => hs (by rw [e0, if_pos hok, if_pos h])
      have e8 : sorE l = 8 := by rw [e0, if_pos hok, if_neg hna]
      rw [e8] at *
      simp (config := { maxSteps := 1000000 }) only [hlt, undef, push_cast, ↓Int.toNat_natCast, ↓Int.cast_ofNat_Int, Int.cast_ofNat_Int, ↓reduceIte, reduceCtorEq, Nat.reduceEqDiff, Nat.reduceLT, Nat.reduceLeDiff, Nat.reduceAdd, Nat.reduceSub, Nat.reduceMul, Int.reduceNeg, Int.reduceLE, Int.reduceLT, Int.reduceToNat, Int.reduceAdd, Int.reduceSub, Int.reduceMul, Int.reduceEq]
      refine callG_x rfl cb79 rfl (cloneOK (l := l) (by omega) (showsR_raw hR hc) (by simp only [push_cast, ↓Int.toNat_natCast, ↓Int.cast_ofNat_Int, Int.cast_ofNat_Int, ↓reduceIte, reduceCtorEq, Nat.reduceEqDiff, Nat.reduceLT, Nat.reduceLeDiff, Nat.reduceAdd, Nat.reduceSub, Nat.reduceMul, Int.reduceNeg, Int.reduceLE, Int.reduceLT, Int.reduceToNat, Int.reduceAdd, Int.reduceSub, Int.reduceMul, Int.reduceEq])) (dOk_lt rfl) (by simp only [push_cast, ↓Int.toNat_natCast, ↓Int.cast_ofNat_Int, Int.cast_ofNat_Int, ↓reduceIte, reduceCtorEq, Nat.reduceEqDiff, Nat.reduceLT, Nat.reduceLeDiff, Nat.reduceAdd, Nat.reduceSub, Nat.reduceMul, Int.reduceNeg, Int.reduceLE, Int.reduceLT, Int.reduceToNat, Int.reduceAdd, Int.reduceSub, Int.reduceMul, Int.reduceEq]) ?_
      simp (config := { maxSteps := 1000000 }) only [undef, push_cast, ↓Int.toNat_natCast, ↓Int.cast_ofNat_Int, Int.cast_ofNat_Int, ↓reduceIte, reduceCtorEq, Nat.reduceEqDiff, Nat.reduceLT, Nat.reduceLeDiff, Nat.reduceAdd, Nat.reduceSub, Nat.reduceMul, Int.reduceNeg, Int.reduceLE, Int.reduceLT, Int.reduceToNat, Int.reduceAdd, Int.reduceSub, Int.reduceMul, Int.reduceEq]
      refine callG_rule rfl cb80 rfl (sortOK (k := 0) (L := l) rfl (by omega)) (dOk_lt rfl) (fun _ => by simp only [push_cast, ↓Int.toNat_natCast, ↓Int.cast_ofNat_Int, Int.cast_ofNat_Int, ↓reduceIte, reduceCtorEq, Nat.reduceEqDiff, Nat.reduceLT, Nat.reduceLeDiff, Nat.reduceAdd, Nat.reduceSub, Nat.reduceMul, Int.reduceNeg, Int.reduceLE, Int.reduceLT, Int.reduceToNat, Int.reduceAdd, Int.reduceSub, Int.reduceMul, Int.reduceEq]) ?_
      have hsl := sortP_length l
      generalize sortP l = S at *
      simp (config := { maxSteps := 1000000 }) only [undef, push_cast, ↓Int.toNat_natCast, ↓Int.cast_ofNat_Int, Int.cast_ofNat_Int, ↓reduceIte, reduceCtorEq, Nat.reduceEqDiff, Nat.reduceLT, Nat.reduceLeDiff, Nat.reduceAdd, Nat.reduceSub, Nat.reduceMul, Int.reduceNeg, Int.reduceLE, Int.reduceLT, Int.reduceToNat, Int.reduceAdd, Int.reduceSub, Int.reduceMul, Int.reduceEq]
      (repeat (refine And.intro (by first | omega | decide) ?_))
      refine loop_rule (ι := Nat) (fun j => ⟨[(6, .x (.a (.o 0))), (7, .x (.a (.v (.int .i64 ((j : Int) + 1)))))], [.onn 76 2 (.c (shc S))]⟩) (fun j => j ≤ S.length ∧ ∀ i, i < j → (ix S (i + 1)).1 ≠ (ix S i).1) (fun j => S.length - j) 0 [0] ⟨by omega, fun j h => absurd h (Nat.not_lt_zero _)⟩ ?_ ?_
      · simp (config := { maxSteps := 1000000 }) only [push_cast, ↓Int.toNat_natCast, ↓Int.cast_ofNat_Int, Int.cast_ofNat_Int, ↓reduceIte, reduceCtorEq, Nat.reduceEqDiff, Nat.reduceLT, Nat.reduceLeDiff, Nat.reduceAdd, Nat.reduceSub, Nat.reduceMul, Int.reduceNeg, Int.reduceLE, Int.reduceLT, Int.reduceToNat, Int.reduceAdd, Int.reduceSub, Int.reduceMul, Int.reduceEq]
      · rintro j ⟨hjl, hjj⟩
        by_cases hlj : (j : Int) + 1 < S.length
        · have j0 : (0 : Int) ≤ j := by omega
          have j1 : (0 : Int) ≤ (j : Int) + 1 := by omega
          have j2 : (j : Int) < S.length := by omega
          have j3 : j < S.length := by omega
          have j4 : j + 1 < S.length := by omega
          have e1 : (j : Int) + 1 - 1 = j := by omega
          have e2 : ((j : Int) + 1).toNat = j + 1 := by omega
          have q0 := shc_get0 S j (by omega)
          have q1 := shc_get0 S (j + 1) (by omega)
          simp (config := { maxSteps := 1000000 }) only [hlj, half2, undef, push_cast, ↓Int.toNat_natCast, ↓Int.cast_ofNat_Int, Int.cast_ofNat_Int, ↓reduceIte, reduceCtorEq, Nat.reduceEqDiff, Nat.reduceLT, Nat.reduceLeDiff, Nat.reduceAdd, Nat.reduceSub, Nat.reduceMul, Int.reduceNeg, Int.reduceLE, Int.reduceLT, Int.reduceToNat, Int.reduceAdd, Int.reduceSub, Int.reduceMul, Int.reduceEq]
          (repeat (refine And.intro (by first | omega | decide) ?_))
          refine draw_rule [(0, true), (1, true), (2, true), (3, true), (4, true), (5, true), (6, true), (7, true), (8, true), (9, true), (10, true), (11, true)] (by kernel_rfl) (by kernel_rfl) rfl (by kernel_rfl) ?_
          by_cases hne : (ix S (j + 1)).1 = (ix S j).1
          · simp (config := { maxSteps := 1000000 }) only [hlj, j0, j1, j2, e1, e2, half2, q0, q1, hne, errN, undef, push_cast, ↓Int.toNat_natCast, ↓Int.cast_ofNat_Int, Int.cast_ofNat_Int, ↓reduceIte, reduceCtorEq, Nat.reduceEqDiff, Nat.reduceLT, Nat.reduceLeDiff, Nat.reduceAdd, Nat.reduceSub, Nat.reduceMul, Int.reduceNeg, Int.reduceLE, Int.reduceLT, Int.reduceToNat, Int.reduceAdd, Int.reduceSub, Int.reduceMul, Int.reduceEq]
            (repeat (refine And.intro (by first | omega | decide) ?_))
            omega
          · simp (config := { maxSteps := 1000000 }) only [hlj, j0, j1, j2, e1, e2, half2, q0, q1, hne, undef, push_cast, ↓Int.toNat_natCast, ↓Int.cast_ofNat_Int, Int.cast_ofNat_Int, ↓reduceIte, reduceCtorEq, Nat.reduceEqDiff, Nat.reduceLT, Nat.reduceLeDiff, Nat.reduceAdd, Nat.reduceSub, Nat.reduceMul, Int.reduceNeg, Int.reduceLE, Int.reduceLT, Int.reduceToNat, Int.reduceAdd, Int.reduceSub, Int.reduceMul, Int.reduceEq]
            (repeat (refine And.intro (by first | omega | decide) ?_))
            refine loopK_normal (j + 1) [0] ⟨by omega, fun i h => ?_⟩ (by omega) ?_
            · by_cases e : i = j
              · rw [e]; exact hne
              · exact hjj i (by omega)
            · simp (config := { maxSteps := 1000000 }) only [push_cast, ↓Int.toNat_natCast, ↓Int.cast_ofNat_Int, Int.cast_ofNat_Int, ↓reduceIte, reduceCtorEq, Nat.reduceEqDiff, Nat.reduceLT, Nat.reduceLeDiff, Nat.reduceAdd, Nat.reduceSub, Nat.reduceMul, Int.reduceNeg, Int.reduceLE, Int.reduceLT, Int.reduceToNat, Int.reduceAdd, Int.reduceSub, Int.reduceMul, Int.reduceEq]
        · exact absurd (asc_iff.2 fun i hi => hjj i (by omega)) hna
theorem sortedNo {w0 : World} {hp : List Res} {sv : Sv} {l : List Sh} (hl : l.length ≤ 1000) (hs : ¬ sorE l = 0) (h : ShowsR w0 No hp sv l.length (shs l)) :
    CallOK Tryd.prog w0 No 39 [sv] hp (.t [.a (.v (.slice none 0 0)), .a (.v (errN (sorE l)))]) hp := callOK_v fun γ w hS => by
  obtain ⟨A, c, e1, b1, r1⟩ := h γ w hS
  show Calls _ _ #[sv.val γ] w _
  rw [e1]
  exact sorted_no l A c w hl hs b1 r1
/-! ### Line -/
theorem shs_take (l : List Sh) (m : Nat) : (shs l).take (m * 2) = shs (l.take m) := by
  induction l generalizing m with
  | nil => simp [shs]
  | cons p l ih =>
    cases m with
    | zero => simp [shs]
    | succ m =>
      rw [show (m + 1) * 2 = m * 2 + 1 + 1 from by omega]
      show vU64 p.1 :: vU64 p.2 :: (shs l).take (m * 2) = vU64 p.1 :: vU64 p.2 :: shs (l.take m)
      rw [ih]
theorem rd_take2 {w : World} {B : Nat} {A : Option Addr} {l : List Sh} (m : Nat) (h : RdV w B A (shs l)) : RdV w B A (shs (l.take m)) := by
  rw [← shs_take]; exact RdV.take' h _
theorem pc_take {l : List Sh} (m : Nat) (h : pcOk (PL l) = true) : pcOk (PL (l.take m)) = true := by
  unfold pcOk at *
  rw [Bool.and_eq_true, decide_eq_true_eq] at *
  obtain ⟨h1, h2⟩ := h
  rw [List.length_map] at h1
  refine ⟨by rw [List.length_map, List.length_take]; omega, ?_⟩
  rw [apartU_q] at *
  intro i j hi hj e
  rw [List.length_map, List.length_take] at hi hj
  have hl : (l.map (·.1)).length = l.length := List.length_map ..
  refine h2 i j (by rw [hl]; omega) (by rw [hl]; omega) ?_
  rw [ix_fst _ i (by rw [List.length_take]; omega), ix_fst _ j (by rw [List.length_take]; omega), ix_tk (by omega), ix_tk (by omega)] at e
  rw [ix_fst _ i (by omega), ix_fst _ j (by omega)]
  exact e
theorem lineU_iff {l : List Sh} {m : Nat} : lineU l m = true ↔ ∀ i, m + i < l.length → thU (l.take m) (ix l (m + i)).1 m = (ix l (m + i)).2 % fpP := by
  unfold lineU
  simp only [List.all_eq_true, List.mem_range, decide_eq_true_eq]
  exact ⟨fun h i hi => h i (by omega), fun h i hi => h i (by omega)⟩
theorem pCutN_ne (A : Option Addr) {l cap : Nat} (m : Nat) (h : ¬ cap = l) : pCutN A l cap m = pAdd A (l * m) := if_neg h
theorem pCutN_zero (A : Option Addr) (cap m : Nat) : pCutN A 0 cap m = A := by
  unfold pCutN
  split
  · rfl
  · rw [Nat.zero_mul, pAdd_zero]
set_option maxRecDepth 100000 in
set_option maxHeartbeats 2000000 in
theorem line_any (l : List Sh) (m : Nat) (A : Option Addr) (c : Nat) (w : World) (hm : m ≤ 1000) (hpc : pcOk (PL l) = true) (hc : l.length ≤ c) (hR : RdV w w.heap.size A (shs l)) :
    Calls Tryd.prog 83 #[.slice A l.length c, .int .i64 m] w fun e w' => e = .returned (.tuple #[.bool (lineU l m), .nilIface]) ∧ Below w.heap.size w w' := by
  have F := FS2.of hR
  have h64 : l.length ≤ 64 := by
    have h := hpc
    unfold pcOk at h
    rw [Bool.and_eq_true, decide_eq_true_eq, List.length_map] at h
    exact h.1
  refine calls_v (n := 50) Tryd.func83 rfl Tryd.ntmps83 [(.x (.a (.v (.slice A l.length c)))), .x (.a (.v (.int .i64 m)))] (by simp) (.t [.a (.v (.bool (lineU l m))), .a (.v .nilIface)]) (fun _ => rfl) ?_
  have m0 : ¬ (m : Int) < 0 := by omega
  simp (config := { maxSteps := 1000000 }) only [m0, undef, push_cast, ↓Int.toNat_natCast, ↓Int.cast_ofNat_Int, Int.cast_ofNat_Int, ↓reduceIte, reduceCtorEq, Nat.reduceEqDiff, Nat.reduceLT, Nat.reduceLeDiff, Nat.reduceAdd, Nat.reduceSub, Nat.reduceMul, Int.reduceNeg, Int.reduceLE, Int.reduceLT, Int.reduceToNat, Int.reduceAdd, Int.reduceSub, Int.reduceMul, Int.reduceEq]
  (repeat (refine And.intro (by first | omega | decide) ?_))
  refine callG_x rfl cb109 rfl (placesOK (l := l) (by omega) (showsR_raw hR hc) (by simp only [push_cast, ↓Int.toNat_natCast, ↓Int.cast_ofNat_Int, Int.cast_ofNat_Int, ↓reduceIte, reduceCtorEq, Nat.reduceEqDiff, Nat.reduceLT, Nat.reduceLeDiff, Nat.reduceAdd, Nat.reduceSub, Nat.reduceMul, Int.reduceNeg, Int.reduceLE, Int.reduceLT, Int.reduceToNat, Int.reduceAdd, Int.reduceSub, Int.reduceMul, Int.reduceEq])) (dOk_lt rfl) (by simp only [push_cast, ↓Int.toNat_natCast, ↓Int.cast_ofNat_Int, Int.cast_ofNat_Int, ↓reduceIte, reduceCtorEq, Nat.reduceEqDiff, Nat.reduceLT, Nat.reduceLeDiff, Nat.reduceAdd, Nat.reduceSub, Nat.reduceMul, Int.reduceNeg, Int.reduceLE, Int.reduceLT, Int.reduceToNat, Int.reduceAdd, Int.reduceSub, Int.reduceMul, Int.reduceEq]) ?_
  simp (config := { maxSteps := 1000000 }) only [undef, push_cast, ↓Int.toNat_natCast, ↓Int.cast_ofNat_Int, Int.cast_ofNat_Int, ↓reduceIte, reduceCtorEq, Nat.reduceEqDiff, Nat.reduceLT, Nat.reduceLeDiff, Nat.reduceAdd, Nat.reduceSub, Nat.reduceMul, Int.reduceNeg, Int.reduceLE, Int.reduceLT, Int.reduceToNat, Int.reduceAdd, Int.reduceSub, Int.reduceMul, Int.reduceEq]
  refine callG_v rfl cb108 rfl (pcheckOK (xs := l.map (·.1)) (by rw [List.length_map]; omega) (shows_own rfl fun _ => rfl)) (dOk_lt rfl) ?_
  have hpe : pcErr (l.map (·.1)) = .nilIface := pcErr_yes hpc
  by_cases g : (l.length : Int) ≤ m
  · have e : lineU l m = true := lineU_iff.2 fun i hi => by omega
    simp (config := { maxSteps := 1000000 }) only [hpe, g, e, undef, push_cast, ↓Int.toNat_natCast, ↓Int.cast_ofNat_Int, Int.cast_ofNat_Int, ↓reduceIte, reduceCtorEq, Nat.reduceEqDiff, Nat.reduceLT, Nat.reduceLeDiff, Nat.reduceAdd, Nat.reduceSub, Nat.reduceMul, Int.reduceNeg, Int.reduceLE, Int.reduceLT, Int.reduceToNat, Int.reduceAdd, Int.reduceSub, Int.reduceMul, Int.reduceEq]
  have cm : ¬ c = m := by omega
  have cc := pCutN_ne A 2 cm
  have m1 : (0 : Int) ≤ m := by omega
  have m2 : (m : Int) ≤ l.length := by omega
  have m3 : (l.length : Int) ≤ c := by omega
  have m4 : ((l.length - m : Nat) : Int) = l.length - m := by omega
  simp (config := { maxSteps := 1000000 }) only [hpe, g, cc, m1, m2, m3, undef, push_cast, ↓Int.toNat_natCast, ↓Int.cast_ofNat_Int, Int.cast_ofNat_Int, ↓reduceIte, reduceCtorEq, Nat.reduceEqDiff, Nat.reduceLT, Nat.reduceLeDiff, Nat.reduceAdd, Nat.reduceSub, Nat.reduceMul, Int.reduceNeg, Int.reduceLE, Int.reduceLT, Int.reduceToNat, Int.reduceAdd, Int.reduceSub, Int.reduceMul, Int.reduceEq]
  (repeat (refine And.intro (by first | omega | decide) ?_))
  refine loop_rule (ι := Nat) (fun k => ⟨[(0, (.x (.a (.v (.slice A l.length c))))), (1, .x (.a (.v (.int .i64 m)))), (26, .x (.a (.v (.slice (pAdd A (m * 2)) (l.length - m) (c - m))))), (27, .x (.a (.v (.int .i64 ((l.length - m : Nat) : Int))))), (28, .x (.a (.v (.int .i64 k))))], []⟩) (fun k => m + k ≤ l.length ∧ ∀ i, i < k → thU (l.take m) (ix l (m + i)).1 m = (ix l (m + i)).2 % fpP) (fun k => l.length - k) 0 [] ⟨by omega, fun j h => absurd h (Nat.not_lt_zero _)⟩ ?_ ?_
  · simp (config := { maxSteps := 1000000 }) only [push_cast, ↓Int.toNat_natCast, ↓Int.cast_ofNat_Int, Int.cast_ofNat_Int, ↓reduceIte, reduceCtorEq, Nat.reduceEqDiff, Nat.reduceLT, Nat.reduceLeDiff, Nat.reduceAdd, Nat.reduceSub, Nat.reduceMul, Int.reduceNeg, Int.reduceLE, Int.reduceLT, Int.reduceToNat, Int.reduceAdd, Int.reduceSub, Int.reduceMul, Int.reduceEq]
  · rintro k ⟨hk, hkk⟩
    by_cases hlt : (k : Int) < ((l.length - m : Nat) : Int)
    · have k0 : (0 : Int) ≤ k := by omega
      have c0 := F.c0 (m + k) (by omega)
      have c1 := F.c1 (m + k) (by omega)
      have o0 := F.ok0 (m + k) (by omega)
      have o1 := F.ok1 (m + k) (by omega)
      rw [Nat.add_mul] at c0 c1 o0 o1
      have hA := F.some_ (by omega)
      have tl := take_len (l := l) (m := m) (by omega)
      simp (config := { maxSteps := 1000000 }) only [hlt, k0, c0, c1, o0, o1, hA, pAdd_zero, pAdd_add, pAdd_isSome, undef, push_cast, ↓Int.toNat_natCast, ↓Int.cast_ofNat_Int, Int.cast_ofNat_Int, ↓reduceIte, reduceCtorEq, Nat.reduceEqDiff, Nat.reduceLT, Nat.reduceLeDiff, Nat.reduceAdd, Nat.reduceSub, Nat.reduceMul, Int.reduceNeg, Int.reduceLE, Int.reduceLT, Int.reduceToNat, Int.reduceAdd, Int.reduceSub, Int.reduceMul, Int.reduceEq]
      (repeat (refine And.intro (by first | omega | decide) ?_))
      refine draw_rule [(0, true), (1, true), (2, true), (3, true), (4, true), (5, false), (6, true), (7, true), (8, true), (9, true), (10, true)] (by kernel_rfl) (by kernel_rfl) rfl (by kernel_rfl) ?_
      have ht : ∀ {hp : List Res}, CallOK Tryd.prog w No 84 [.x (.a (.v (.slice A m c))), .x (.a (.v (vU64 (ix l (m + k)).1)))] hp (.t [.a (.v (vU64 (thU (l.take m) (ix l (m + k)).1 m))), .a (.v .nilIface)]) hp := fun {hp} => by
        have := throughOK (hp := hp) (w0 := w) (sv := .x (.a (.v (.slice A m c)))) (l := l.take m) (ix l (m + k)).1 (pc_take m hpc) (by rw [tl]; exact showsR_raw (rd_take2 m hR) (by omega))
        rwa [tl] at this
      have m5 : (m : Int) ≤ c := by omega
      simp (config := { maxSteps := 1000000 }) only [m1, m5, pCutN_zero, Nat.sub_zero, undef, push_cast, ↓Int.toNat_natCast, ↓Int.cast_ofNat_Int, Int.cast_ofNat_Int, ↓reduceIte, reduceCtorEq, Nat.reduceEqDiff, Nat.reduceLT, Nat.reduceLeDiff, Nat.reduceAdd, Nat.reduceSub, Nat.reduceMul, Int.reduceNeg, Int.reduceLE, Int.reduceLT, Int.reduceToNat, Int.reduceAdd, Int.reduceSub, Int.reduceMul, Int.reduceEq]
      (repeat (refine And.intro (by first | omega | decide) ?_))
      refine callM_v rfl cb84 rfl ht (dOk_lt rfl) ?_
      simp (config := { maxSteps := 1000000 }) only [undef, push_cast, ↓Int.toNat_natCast, ↓Int.cast_ofNat_Int, Int.cast_ofNat_Int, ↓reduceIte, reduceCtorEq, Nat.reduceEqDiff, Nat.reduceLT, Nat.reduceLeDiff, Nat.reduceAdd, Nat.reduceSub, Nat.reduceMul, Int.reduceNeg, Int.reduceLE, Int.reduceLT, Int.reduceToNat, Int.reduceAdd, Int.reduceSub, Int.reduceMul, Int.reduceEq]
      (repeat (refine And.intro (by first | omega | decide) ?_))
      refine callG_v rfl cb101 rfl (fpOfK (ix l (m + k)).2) (dOk_lt rfl) ?_
      by_cases he : thU (l.take m) (ix l (m + k)).1 m = (ix l (m + k)).2 % fpP
      · simp (config := { maxSteps := 1000000 }) only [he, undef, push_cast, ↓Int.toNat_natCast, ↓Int.cast_ofNat_Int, Int.cast_ofNat_Int, ↓reduceIte, reduceCtorEq, Nat.reduceEqDiff, Nat.reduceLT, Nat.reduceLeDiff, Nat.reduceAdd, Nat.reduceSub, Nat.reduceMul, Int.reduceNeg, Int.reduceLE, Int.reduceLT, Int.reduceToNat, Int.reduceAdd, Int.reduceSub, Int.reduceMul, Int.reduceEq]
        (repeat (refine And.intro (by first | omega | decide) ?_))
        refine loopK_normal (k + 1) [] ⟨by omega, fun i h => ?_⟩ (by omega) ?_
        · by_cases e : i = k
          · rw [e]; exact he
          · exact hkk i (by omega)
        · simp (config := { maxSteps := 1000000 }) only [push_cast, ↓Int.toNat_natCast, ↓Int.cast_ofNat_Int, Int.cast_ofNat_Int, ↓reduceIte, reduceCtorEq, Nat.reduceEqDiff, Nat.reduceLT, Nat.reduceLeDiff, Nat.reduceAdd, Nat.reduceSub, Nat.reduceMul, Int.reduceNeg, Int.reduceLE, Int.reduceLT, Int.reduceToNat, Int.reduceAdd, Int.reduceSub, Int.reduceMul, Int.reduceEq]
      · have e : lineU l m = false := by
          cases h : lineU l m
          · rfl
          · exact absurd (lineU_iff.1 h k (by omega)) he
        simp (config := { maxSteps := 1000000 }) only [he, e, undef, push_cast, ↓Int.toNat_natCast, ↓Int.cast_ofNat_Int, Int.cast_ofNat_Int, ↓reduceIte, reduceCtorEq, Nat.reduceEqDiff, Nat.reduceLT, Nat.reduceLeDiff, Nat.reduceAdd, Nat.reduceSub, Nat.reduceMul, Int.reduceNeg, Int.reduceLE, Int.reduceLT, Int.reduceToNat, Int.reduceAdd, Int.reduceSub, Int.reduceMul, Int.reduceEq]
    · have e : lineU l m = true := lineU_iff.2 fun i hi => hkk i (by omega)
      simp (config := { maxSteps := 1000000 }) only [hlt, e, undef, push_cast, ↓Int.toNat_natCast, ↓Int.cast_ofNat_Int, Int.cast_ofNat_Int, ↓reduceIte, reduceCtorEq, Nat.reduceEqDiff, Nat.reduceLT, Nat.reduceLeDiff, Nat.reduceAdd, Nat.reduceSub, Nat.reduceMul, Int.reduceNeg, Int.reduceLE, Int.reduceLT, Int.reduceToNat, Int.reduceAdd, Int.reduceSub, Int.reduceMul, Int.reduceEq]
theorem lineOK {w0 : World} {hp : List Res} {sv : Sv} {l : List Sh} (m : Nat) (hm : m ≤ 1000) (hpc : pcOk (PL l) = true) (h : ShowsR w0 No hp sv l.length (shs l)) :
    CallOK Tryd.prog w0 No 83 [sv, .x (.a (.v (.int .i64 m)))] hp (.t [.a (.v (.bool (lineU l m))), .a (.v .nilIface)]) hp := callOK_v fun γ w hS => by
  obtain ⟨A, c, e1, b1, r1⟩ := h γ w hS
  show Calls _ _ #[sv.val γ, .int .i64 m] w _
  rw [e1]
  exact line_any l m A c w hm hpc b1 r1
/-! ### Join -/
theorem showsR_shy {w0 : World} {ow : Nat → Prop} {hp : List Res} {k n : Nat} {e : TypeId} {l : List Sh} (hr : hp[k]? = some (.onn e 2 (.c (shc l)))) (hn : n ≤ l.length) : ShowsR w0 ow hp (.x (.a (.y k 2 0 n))) (l.take n).length (shs (l.take n)) := by
  have := showsR_y (w0 := w0) (ow := ow) (vs := shs l) 0 n hr (fun γ => shc_vals γ l) (by rw [shs_len]; omega)
  rw [Nat.zero_mul, List.drop_zero, shs_take] at this
  rwa [take_len hn]
set_option maxRecDepth 100000 in
set_option maxHeartbeats 2000000 in
theorem join_any (l : List Sh) (m : Int) (A : Option Addr) (c : Nat) (w : World) (hl : l.length ≤ 1000) (hc : l.length ≤ c) (hR : RdV w w.heap.size A (shs l)) :
    Calls Tryd.prog 41 #[.slice A l.length c, .int .i64 m] w fun e w' => e = .returned (.tuple #[vU64 (joiU l m), erS (joiE l m)]) ∧ Below w.heap.size w w' := by
  refine calls_v (n := 43) Tryd.func41 rfl Tryd.ntmps41 [(.x (.a (.v (.slice A l.length c)))), .x (.a (.v (.int .i64 m)))] (by simp) (.t [.a (.v (vU64 (joiU l m))), .a (.v (erS (joiE l m)))]) (fun _ => rfl) ?_
  have no : ∀ {n : Int}, joiE l m = n → ¬ n = 0 → vU64 (joiU l m) = .int .u64 0 ∧ erS (joiE l m) = errN n := fun {n} h1 h2 => by
    subst h1
    exact ⟨by unfold joiU; rw [if_neg h2]; rfl, erS_ne h2⟩
  have z0 : n64 0 = 0 := rfl
  by_cases g1 : m < 1
  · obtain ⟨e1, e2⟩ := no (n := 1) (if_pos g1) (by decide)
    simp (config := { maxSteps := 1000000 }) only [g1, e1, e2, z0, errN, undef, push_cast, ↓Int.toNat_natCast, ↓Int.cast_ofNat_Int, Int.cast_ofNat_Int, ↓reduceIte, reduceCtorEq, Nat.reduceEqDiff, Nat.reduceLT, Nat.reduceLeDiff, Nat.reduceAdd, Nat.reduceSub, Nat.reduceMul, Int.reduceNeg, Int.reduceLE, Int.reduceLT, Int.reduceToNat, Int.reduceAdd, Int.reduceSub, Int.reduceMul, Int.reduceEq]
  simp (config := { maxSteps := 1000000 }) only [g1, undef, push_cast, ↓Int.toNat_natCast, ↓Int.cast_ofNat_Int, Int.cast_ofNat_Int, ↓reduceIte, reduceCtorEq, Nat.reduceEqDiff, Nat.reduceLT, Nat.reduceLeDiff, Nat.reduceAdd, Nat.reduceSub, Nat.reduceMul, Int.reduceNeg, Int.reduceLE, Int.reduceLT, Int.reduceToNat, Int.reduceAdd, Int.reduceSub, Int.reduceMul, Int.reduceEq]
  (repeat (refine And.intro (by first | omega | decide) ?_))
  have j0 : joiE l m = if sorE l = 0 then (if (l.length : Int) < m then 7 else if lineU (sortP l) m.toNat = true then 0 else 4) else sorE l := if_neg g1
  by_cases g2 : sorE l = 0
  · rw [if_pos g2] at j0
    refine callG_x rfl cb39 rfl (sortedOK g2 (showsR_raw hR hc) (by simp only [push_cast, ↓Int.toNat_natCast, ↓Int.cast_ofNat_Int, Int.cast_ofNat_Int, ↓reduceIte, reduceCtorEq, Nat.reduceEqDiff, Nat.reduceLT, Nat.reduceLeDiff, Nat.reduceAdd, Nat.reduceSub, Nat.reduceMul, Int.reduceNeg, Int.reduceLE, Int.reduceLT, Int.reduceToNat, Int.reduceAdd, Int.reduceSub, Int.reduceMul, Int.reduceEq])) (dOk_lt rfl) (by simp only [push_cast, ↓Int.toNat_natCast, ↓Int.cast_ofNat_Int, Int.cast_ofNat_Int, ↓reduceIte, reduceCtorEq, Nat.reduceEqDiff, Nat.reduceLT, Nat.reduceLeDiff, Nat.reduceAdd, Nat.reduceSub, Nat.reduceMul, Int.reduceNeg, Int.reduceLE, Int.reduceLT, Int.reduceToNat, Int.reduceAdd, Int.reduceSub, Int.reduceMul, Int.reduceEq]) ?_
    have hsl := sortP_length l
    obtain ⟨h64, hok, hasc⟩ := sorE_ok g2
    have hpc := pcOk_of (l := sortP l) (by omega) (okAll_perm (sortP_perm l) hok) (nodup_of hasc)
    by_cases g3 : (l.length : Int) < m
    · rw [if_pos g3] at j0
      obtain ⟨e1, e2⟩ := no (n := 7) j0 (by decide)
      simp (config := { maxSteps := 1000000 }) only [hsl, half2, g3, e1, e2, z0, errN, undef, push_cast, ↓Int.toNat_natCast, ↓Int.cast_ofNat_Int, Int.cast_ofNat_Int, ↓reduceIte, reduceCtorEq, Nat.reduceEqDiff, Nat.reduceLT, Nat.reduceLeDiff, Nat.reduceAdd, Nat.reduceSub, Nat.reduceMul, Int.reduceNeg, Int.reduceLE, Int.reduceLT, Int.reduceToNat, Int.reduceAdd, Int.reduceSub, Int.reduceMul, Int.reduceEq]
    rw [if_neg g3] at j0
    obtain ⟨n, rfl⟩ : ∃ n : Nat, m = n := ⟨m.toNat, by omega⟩
    rw [Int.toNat_natCast] at j0
    simp (config := { maxSteps := 1000000 }) only [hsl, half2, g3, undef, push_cast, ↓Int.toNat_natCast, ↓Int.cast_ofNat_Int, Int.cast_ofNat_Int, ↓reduceIte, reduceCtorEq, Nat.reduceEqDiff, Nat.reduceLT, Nat.reduceLeDiff, Nat.reduceAdd, Nat.reduceSub, Nat.reduceMul, Int.reduceNeg, Int.reduceLE, Int.reduceLT, Int.reduceToNat, Int.reduceAdd, Int.reduceSub, Int.reduceMul, Int.reduceEq]
    (repeat (refine And.intro (by first | omega | decide) ?_))
    refine callG_v rfl cb83 rfl (lineOK n (by omega) hpc (showsR_shc rfl)) (dOk_lt rfl) ?_
    cases g4 : lineU (sortP l) n
    · rw [g4] at j0
      obtain ⟨e1, e2⟩ := no (n := 4) j0 (by decide)
      simp (config := { maxSteps := 1000000 }) only [e1, e2, z0, errN, undef, push_cast, ↓Int.toNat_natCast, ↓Int.cast_ofNat_Int, Int.cast_ofNat_Int, ↓reduceIte, reduceCtorEq, Nat.reduceEqDiff, Nat.reduceLT, Nat.reduceLeDiff, Nat.reduceAdd, Nat.reduceSub, Nat.reduceMul, Int.reduceNeg, Int.reduceLE, Int.reduceLT, Int.reduceToNat, Int.reduceAdd, Int.reduceSub, Int.reduceMul, Int.reduceEq]
    · rw [g4] at j0
      have j0 : joiE l n = 0 := j0
      have e2 : erS (joiE l n) = .nilIface := by rw [j0]; rfl
      have e1 : joiU l n = thU ((sortP l).take n) 0 n := by
        unfold joiU
        rw [if_pos j0, Int.toNat_natCast]
      have tl := take_len (l := sortP l) (m := n) (by omega)
      have n0 : (0 : Int) ≤ n := by omega
      have n1 : (n : Int) ≤ l.length := by omega
      simp (config := { maxSteps := 1000000 }) only [n0, n1, hsl, half2, Nat.sub_zero, undef, push_cast, ↓Int.toNat_natCast, ↓Int.cast_ofNat_Int, Int.cast_ofNat_Int, ↓reduceIte, reduceCtorEq, Nat.reduceEqDiff, Nat.reduceLT, Nat.reduceLeDiff, Nat.reduceAdd, Nat.reduceSub, Nat.reduceMul, Int.reduceNeg, Int.reduceLE, Int.reduceLT, Int.reduceToNat, Int.reduceAdd, Int.reduceSub, Int.reduceMul, Int.reduceEq]
      (repeat (refine And.intro (by first | omega | decide) ?_))
      have ht := throughOK (w0 := w) (hp := [.onn 76 2 (.c (shc (sortP l)))]) (sv := .x (.a (.y 0 2 0 n))) (l := (sortP l).take n) 0 (pc_take n hpc) (showsR_shy rfl (by omega))
      rw [tl] at ht
      refine callG_v rfl cb84 rfl ht (dOk_lt rfl) ?_
      simp (config := { maxSteps := 1000000 }) only [e1, e2, undef, push_cast, ↓Int.toNat_natCast, ↓Int.cast_ofNat_Int, Int.cast_ofNat_Int, ↓reduceIte, reduceCtorEq, Nat.reduceEqDiff, Nat.reduceLT, Nat.reduceLeDiff, Nat.reduceAdd, Nat.reduceSub, Nat.reduceMul, Int.reduceNeg, Int.reduceLE, Int.reduceLT, Int.reduceToNat, Int.reduceAdd, Int.reduceSub, Int.reduceMul, Int.reduceEq]
  · rw [if_neg g2] at j0
    obtain ⟨e1, e2⟩ := no j0 g2
    refine callG_v rfl cb39 rfl (sortedNo hl g2 (showsR_raw hR hc)) (dOk_lt rfl) ?_
    simp (config := { maxSteps := 1000000 }) only [e1, e2, z0, errN, undef, push_cast, ↓Int.toNat_natCast, ↓Int.cast_ofNat_Int, Int.cast_ofNat_Int, ↓reduceIte, reduceCtorEq, Nat.reduceEqDiff, Nat.reduceLT, Nat.reduceLeDiff, Nat.reduceAdd, Nat.reduceSub, Nat.reduceMul, Int.reduceNeg, Int.reduceLE, Int.reduceLT, Int.reduceToNat, Int.reduceAdd, Int.reduceSub, Int.reduceMul, Int.reduceEq]
theorem joinOK {w0 : World} {hp : List Res} {sv : Sv} {l : List Sh} (m : Int) (hl : l.length ≤ 1000) (h : ShowsR w0 No hp sv l.length (shs l)) :
    CallOK Tryd.prog w0 No 41 [sv, .x (.a (.v (.int .i64 m)))] hp (.t [.a (.v (vU64 (joiU l m))), .a (.v (erS (joiE l m)))]) hp := callOK_v fun γ w hS => by
  obtain ⟨A, c, e1, b1, r1⟩ := h γ w hS
  show Calls _ _ #[sv.val γ, .int .i64 m] w _
  rw [e1]
  exact join_any l m A c w hl b1 r1
end Go.Proofs.YteiifdpikcnbgaaDoor
