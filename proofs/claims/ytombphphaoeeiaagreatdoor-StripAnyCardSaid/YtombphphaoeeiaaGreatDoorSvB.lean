import Derived.Test.YtombphphaoeeiaaGreatDoorSvA
import Derived.Test.YtombphphaoeeiaaGreatDoorLiS
import Derived.Lib.Walk
import Derived.Shelf.SlicesE.Kit
/- SvB: So1, So2, So3, So4, So5, joined. -/
/- Curves through points, as the program goes through them (poly: places, Weights, Through). -/
namespace Go.Proofs.YtombphphaoeeiaaGreatDoor
open Go.RowKit
set_option linter.unusedSimpArgs false
set_option linter.unusedVariables false
/-! ### The places of shares -/
def plT (l : List Sh) : Nat → List UInt64
  | 0 => []
  | k + 1 => plT l k ++ [(ix l k).1]
theorem plT_zero (l : List Sh) : plT l 0 = [] := rfl
theorem plT_succ (l : List Sh) (k : Nat) : plT l (k + 1) = plT l k ++ [(ix l k).1] := rfl
theorem plT_take (l : List Sh) : ∀ k, k ≤ l.length → plT l k = (l.map (·.1)).take k
  | 0, _ => by rw [List.take_zero]; rfl
  | k + 1, h => by
    rw [plT_succ, plT_take l k (by omega), List.take_add_one, List.getElem?_map, List.getElem?_eq_getElem (show k < l.length by omega), ix_get (show k < l.length by omega)]
    rfl
theorem plT_all (l : List Sh) : plT l l.length = l.map (·.1) := by
  rw [plT_take l _ (Nat.le_refl _)]
  exact List.take_of_length_le (by simp)
theorem plT_length (l : List Sh) (k : Nat) : (plT l k).length = k := by
  induction k with
  | zero => rfl
  | succ k ih => simp [plT, ih]
attribute [local irreducible] Callable CallOK CallG CallM DrawG LoopG symR symM
attribute [local irreducible] plT seenU metU apartU prU wtU wtsU thU powU
set_option maxRecDepth 100000 in
set_option maxHeartbeats 1000000 in
theorem places_any (l : List Sh) (A : Option Addr) (c : Nat) (w : World) (hl : l.length ≤ 1000) (hR : RdV w w.heap.size A (shs l)) : Calls Tryz.prog 62 #[.slice A l.length c] w fun e w' => ∃ v, e = .returned v ∧ Own w' w.heap.size 51 v ((l.map (·.1)).map vU64) ∧ Below w.heap.size w w' := by
  have F := FS2.of hR
  have h0 := fun h => calls_own (P := Tryz.prog) (w := w) (n := 22) Tryz.func62 rfl Tryz.ntmps62 [(.x (.a (.v (.slice A l.length c))))] (by simp) 51 (.u64 (plT l l.length)) (vs := (l.map (·.1)).map vU64) (fun _ => by show List.map vU64 _ = _; rw [plT_all]) h
  refine h0 ?_
  clear h0
  simp (config := { maxSteps := 1000000 }) only [push_cast, ↓Int.cast_ofNat_Int, Int.cast_ofNat_Int, ↓reduceIte, reduceCtorEq, Nat.reduceLT, Int.reduceLE]
  (repeat (refine And.intro (by first | omega | decide) ?_))
  refine loop_rule (ι := Nat) (fun i => ⟨[(3, .x (.a (.o 0))), (9, (.x (.a (.v (.slice A l.length c))))), (10, .x (.a (.v (.int .i64 l.length)))), (11, .x (.a (.v (.int .i64 i))))], [.own 51 (.u64 (plT l i))]⟩) (fun i => i ≤ l.length) (fun i => l.length - i) 0 [0] (by omega) ?_ ?_
  · simp (config := { maxSteps := 1000000 }) only [plT_zero, List.replicate_zero, push_cast, ↓Int.cast_ofNat_Int, Int.cast_ofNat_Int, ↓reduceIte, Nat.reduceEqDiff, Nat.reduceLT]
  · intro i hi
    by_cases hlt : (i : Int) < l.length
    · have i0 : (0 : Int) ≤ i := by omega
      have c0 := F.c0 i (by omega)
      have c1 := F.c1 i (by omega)
      have o0 := F.ok0 i (by omega)
      have o1 := F.ok1 i (by omega)
      have hA := F.some_ (by omega)
      have hb := plT_length l i
      have b1 : (i + 1) * 8 ≤ 140737488355328 := by omega
      have b2 : i + 1 ≤ 2 ^ 63 - 1 := by omega
      have hs := (plT_succ l i).symm
      simp (config := { maxSteps := 1000000 }) only [hlt, i0, c0, c1, o0, o1, hA, hb, b1, b2, hs, pAdd_zero, pAdd_add, pAdd_isSome, undef, push_cast, ↓Int.toNat_natCast, ↓reduceIte, reduceCtorEq, Nat.reduceEqDiff, Nat.reduceLT, Nat.reduceLeDiff, Nat.reduceAdd, Int.reduceNeg]
      (repeat (refine And.intro (by first | omega | decide) ?_))
      refine loopK_normal (i + 1) [3] (by omega) (by omega) ?_
      simp (config := { maxSteps := 1000000 }) only [push_cast, ↓reduceIte, Nat.reduceEqDiff, Nat.reduceLT]
    · have e : i = l.length := by omega
      subst e
      simp (config := { maxSteps := 1000000 }) only [hlt, ownT, push_cast, ↓reduceIte, Nat.reduceEqDiff, Nat.reduceLT]
theorem placesOK {w0 : World} {hp : List Res} {sv : Sv} {l : List Sh} (hl : l.length ≤ 1000) (h : ShowsR w0 No hp sv l.length (shs l)) (hbr : ∀ r ∈ hp, Res.bnd hp.length r) : CallOK Tryz.prog w0 No 62 [sv] hp (.x (.a (.o hp.length))) (hp ++ [.own 51 (.u64 (l.map (·.1)))]) := callOK_own hbr trivial fun γ w hS => by
  obtain ⟨A, c, e1, b1, r1⟩ := h γ w hS
  show Calls _ _ #[sv.val γ] w _
  rw [e1]
  exact places_any l A c w hl r1
/-! ### Weights -/
theorem below_ne {xs : List UInt64} (ha : apartU xs = true) (i : Nat) (hi : i < xs.length) : ¬ prU xs i (ix xs i) xs.length % fpP = 0 := by
  have hq := apartU_q.1 ha
  have h := Prm.prq_ne (fun j => qU (ix xs j)) i (qU (ix xs i)) xs.length fun j hj hne e => hne (hq i j hi hj e).symm
  rw [← qU_prU] at h
  intro e
  apply h
  apply Fin.ext
  rw [qU_val]
  have := congrArg UInt64.toNat e
  rw [modP_toNat] at this
  exact this
set_option maxRecDepth 100000 in
set_option maxHeartbeats 2000000 in
theorem weights_any (xs : List UInt64) (at_ : UInt64) (A : Option Addr) (c : Nat) (w : World) (hl : pcOk xs = true) (hc : xs.length ≤ c) (hR : RdV w w.heap.size A (xs.map vU64)) : Calls Tryz.prog 64 #[.slice A xs.length c, vU64 at_] w fun e w' => ∃ v, e = .returned (.tuple #[v, .nilIface]) ∧ Own w' w.heap.size 51 v ((wtsU xs at_ xs.length).map vU64) ∧ Below w.heap.size w w' := by
  have F := FM.of hR
  have hl' := hl
  unfold pcOk at hl'
  rw [Bool.and_eq_true, decide_eq_true_eq] at hl'
  obtain ⟨h64, hap⟩ := hl'
  have he := pcErr_yes hl
  have h0 := fun h => calls_own2 (P := Tryz.prog) (w := w) (n := 67) Tryz.func64 rfl Tryz.ntmps64 [(.x (.a (.v (.slice A xs.length c)))), .x (.a (.v (vU64 at_)))] (by simp) 51 (.u64 (wtsU xs at_ xs.length)) .nilIface (vs := (wtsU xs at_ xs.length).map vU64) (fun _ => rfl) h
  refine h0 ?_
  clear h0
  simp (config := { maxSteps := 1000000 }) only [push_cast, ↓reduceIte, reduceCtorEq, Nat.reduceLT]
  refine callG_v rfl cb61 rfl (pcheckOK (xs := xs) (by omega) (shows_raw hR _ _ (by simp) hc)) (dOk_lt rfl) ?_
  simp (config := { maxSteps := 1000000 }) only [he, push_cast, ↓Int.cast_ofNat_Int, Int.cast_ofNat_Int, ↓reduceIte, reduceCtorEq, Nat.reduceLT, Int.reduceLE]
  (repeat (refine And.intro (by first | omega | decide) ?_))
  refine loop_rule (ι := Nat) (fun i => ⟨[(0, (.x (.a (.v (.slice A xs.length c))))), (1, .x (.a (.v (vU64 at_)))), (7, .x (.a (.o 0))), (24, (.x (.a (.v (.slice A xs.length c))))), (25, .x (.a (.v (.int .i64 xs.length)))), (26, .x (.a (.v (.int .i64 i))))], [.own 51 (.u64 (wtsU xs at_ i))]⟩) (fun i => i ≤ xs.length) (fun i => xs.length - i) 0 [0] (by omega) ?_ ?_
  · simp (config := { maxSteps := 1000000 }) only [wtsU_zero, List.replicate_zero, push_cast, ↓Int.cast_ofNat_Int, Int.cast_ofNat_Int, ↓reduceIte, reduceCtorEq, Nat.reduceEqDiff, Nat.reduceLT]
  · intro i hi
    by_cases hlt : (i : Int) < xs.length
    · have i0 : (0 : Int) ≤ i := by omega
      have c0 := F.cell i (by omega)
      have o0 := F.ok i (by omega)
      have hA := F.some_ (by omega)
      simp (config := { maxSteps := 1000000 }) only [hlt, i0, c0, o0, hA, push_cast, ↓Int.toNat_natCast, ↓reduceIte, reduceCtorEq, Nat.reduceEqDiff, Nat.reduceLT]
      (repeat (refine And.intro (by first | omega | decide) ?_))
      refine loop_rule (ι := Nat) (fun j => ⟨[(0, (.x (.a (.v (.slice A xs.length c))))), (1, .x (.a (.v (vU64 at_)))), (7, .x (.a (.o 0))), (8, .x (.a (.v (.int .i64 i)))), (9, .x (.a (.v (vU64 (ix xs i))))), (10, .x (.a (.v (vU64 (prU xs i at_ j))))), (11, .x (.a (.v (vU64 (prU xs i (ix xs i) j))))), (24, (.x (.a (.v (.slice A xs.length c))))), (25, .x (.a (.v (.int .i64 xs.length)))), (26, .x (.a (.v (.int .i64 i)))), (31, (.x (.a (.v (.slice A xs.length c))))), (32, .x (.a (.v (.int .i64 xs.length)))), (33, .x (.a (.v (.int .i64 j))))], [.own 51 (.u64 (wtsU xs at_ i))]⟩) (fun j => j ≤ xs.length) (fun j => xs.length - j) 0 [0] (by omega) ?_ ?_
      · simp (config := { maxSteps := 1000000 }) only [prU_zero, show n64 1 = 1 from rfl, push_cast, ↓Int.cast_ofNat_Int, Int.cast_ofNat_Int, ↓reduceIte, reduceCtorEq, Nat.reduceEqDiff, Nat.reduceLT]
      · intro j hj
        by_cases hlj : (j : Int) < xs.length
        · have j0 : (0 : Int) ≤ j := by omega
          have c1 := F.cell j (by omega)
          have o1 := F.ok j (by omega)
          by_cases hji : (j : Int) = i
          · have hji' : j = i := by omega
            subst hji'
            simp (config := { maxSteps := 1000000 }) only [hlj, i0, c1, o1, hA, push_cast, ↓Int.toNat_natCast, ↓reduceIte, reduceCtorEq, Nat.reduceEqDiff, Nat.reduceLT, Int.reduceNeg]
            (repeat (refine And.intro (by first | omega | decide) ?_))
            refine loopK_normal (j + 1) [0] (by omega) (by omega) ?_
            simp (config := { maxSteps := 1000000 }) only [prU_same, push_cast, ↓reduceIte, reduceCtorEq, Nat.reduceEqDiff, Nat.reduceLT]
          · have hne : j ≠ i := by omega
            simp (config := { maxSteps := 1000000 }) only [hlj, j0, c1, o1, hA, hji, push_cast, ↓Int.toNat_natCast, ↓reduceIte, reduceCtorEq, Nat.reduceEqDiff, Nat.reduceLT]
            (repeat (refine And.intro (by first | omega | decide) ?_))
            refine callG_v rfl cb75 rfl (fpSubK at_ (ix xs j)) (dOk_lt rfl) ?_
            simp (config := { maxSteps := 1000000 }) only [push_cast, ↓reduceIte]
            refine callG_v rfl cb44 rfl (fpMulK (prU xs i at_ j) (subU at_ (ix xs j))) (dOk_lt rfl) ?_
            simp (config := { maxSteps := 1000000 }) only [push_cast, ↓reduceIte, reduceCtorEq, Nat.reduceEqDiff, Nat.reduceLT]
            refine callG_v rfl cb75 rfl (fpSubK (ix xs i) (ix xs j)) (dOk_lt rfl) ?_
            simp (config := { maxSteps := 1000000 }) only [push_cast, ↓reduceIte]
            refine callG_v rfl cb44 rfl (fpMulK (prU xs i (ix xs i) j) (subU (ix xs i) (ix xs j))) (dOk_lt rfl) ?_
            simp (config := { maxSteps := 1000000 }) only [push_cast, ↓reduceIte, reduceCtorEq, Nat.reduceEqDiff, Nat.reduceLT, Int.reduceNeg]
            (repeat (refine And.intro (by first | omega | decide) ?_))
            refine loopK_normal (j + 1) [0] (by omega) (by omega) ?_
            simp (config := { maxSteps := 1000000 }) only [prU_next hne, push_cast, ↓reduceIte, reduceCtorEq, Nat.reduceEqDiff, Nat.reduceLT]
        · have e : j = xs.length := by omega
          subst e
          have hw : fpMul (prU xs i at_ xs.length) (powU (prU xs i (ix xs i) xs.length) 2305843009213693949) = wtU xs at_ i := by unfold wtU; rfl
          have hb := wtsU_length xs at_ i
          have b1 : (i + 1) * 8 ≤ 140737488355328 := by omega
          have b2 : i + 1 ≤ 2 ^ 63 - 1 := by omega
          have hs := (wtsU_succ xs at_ i).symm
          simp (config := { maxSteps := 1000000 }) only [hlj, push_cast, ↓reduceIte, reduceCtorEq, Nat.reduceEqDiff, Nat.reduceLT]
          refine callG_v rfl cb76 rfl (fpDivK (prU xs i at_ xs.length) (prU xs i (ix xs i) xs.length) (below_ne hap i (by omega))) (dOk_lt rfl) ?_
          simp (config := { maxSteps := 1000000 }) only [hw, hb, b1, b2, hs, push_cast, ↓reduceIte, reduceCtorEq, Nat.reduceEqDiff, Nat.reduceLT, Nat.reduceLeDiff, Nat.reduceAdd, Int.reduceNeg]
          (repeat (refine And.intro (by first | omega | decide) ?_))
          refine loopK_normal (i + 1) [2] (by omega) (by omega) ?_
          simp (config := { maxSteps := 1000000 }) only [push_cast, ↓reduceIte, reduceCtorEq, Nat.reduceEqDiff, Nat.reduceLT]
    · have e : i = xs.length := by omega
      subst e
      simp (config := { maxSteps := 1000000 }) only [hlt, ownT2, ownT, push_cast, ↓reduceIte, reduceCtorEq, Nat.reduceEqDiff, Nat.reduceLT]
theorem weightsOK {w0 : World} {hp : List Res} {sv : Sv} {xs : List UInt64} (at_ : UInt64) (hl : pcOk xs = true) (h : Shows w0 No hp sv (xs.map vU64)) (hbr : ∀ r ∈ hp, Res.bnd hp.length r) : CallOK Tryz.prog w0 No 64 [sv, .x (.a (.v (vU64 at_)))] hp (.t [.a (.o hp.length), .a (.v .nilIface)]) (hp ++ [.own 51 (.u64 (wtsU xs at_ xs.length))]) := callOK_own2 hbr trivial fun γ w hS => by
  obtain ⟨A, c, e1, b1, r1⟩ := h γ w hS
  rw [List.length_map] at e1 b1
  show Calls _ _ #[sv.val γ, vU64 at_] w _
  rw [e1]
  exact weights_any xs at_ A c w hl b1 r1
/-! ### The value at a place -/
set_option maxRecDepth 100000 in
set_option maxHeartbeats 2000000 in
theorem through_any (l : List Sh) (at_ : UInt64) (A : Option Addr) (c : Nat) (w : World) (hl : pcOk (l.map (·.1)) = true) (hc : l.length ≤ c) (hR : RdV w w.heap.size A (shs l)) : Calls Tryz.prog 41 #[.slice A l.length c, vU64 at_] w fun e w' => e = .returned (.tuple #[vU64 (thU l at_ l.length), .nilIface]) ∧ Below w.heap.size w w' := by
  have F := FS2.of hR
  have h64 : l.length ≤ 64 := by
    have hl' := hl
    unfold pcOk at hl'
    rw [Bool.and_eq_true, decide_eq_true_eq, List.length_map] at hl'
    exact hl'.1
  refine calls_v Tryz.func41 rfl Tryz.ntmps41 [(.x (.a (.v (.slice A l.length c)))), .x (.a (.v (vU64 at_)))] (by simp) (.t [.a (.v (vU64 (thU l at_ l.length))), .a (.v .nilIface)]) (fun _ => rfl) ?_
  simp (config := { maxSteps := 1000000 }) only [push_cast, ↓reduceIte, reduceCtorEq, Nat.reduceLT]
  refine callG_x rfl cb62 rfl (placesOK (l := l) (by omega) (showsR_raw hR hc) (by simp only [push_cast])) (dOk_lt rfl) (by simp only [push_cast]) ?_
  simp (config := { maxSteps := 1000000 }) only [push_cast, ↓reduceIte, reduceCtorEq, Nat.reduceEqDiff, Nat.reduceLT]
  refine callG_x rfl cb64 rfl (weightsOK (xs := l.map (·.1)) at_ hl (shows_own rfl fun _ => rfl) (by simp only [push_cast])) (dOk_lt rfl) (by simp only [push_cast, Nat.reduceLT]) ?_
  have hwl := wtsU_length (l.map (·.1)) at_ (l.map (·.1)).length
  generalize hws : wtsU (l.map (·.1)) at_ (l.map (·.1)).length = ws at hwl
  have hwi : ∀ i, i < l.length → ix ws i = wtU (l.map (·.1)) at_ i := fun i hi => by rw [← hws]; exact wtsU_ix _ _ _ _ (by rw [List.length_map]; exact hi)
  rw [List.length_map] at hwl
  simp (config := { maxSteps := 1000000 }) only [push_cast, ↓reduceIte, reduceCtorEq, Nat.reduceEqDiff, Nat.reduceLT, Nat.reduceAdd]
  (repeat (refine And.intro (by first | omega | decide) ?_))
  refine loop_rule (ι := Nat) (fun i => ⟨[(6, .x (.a (.o 0))), (8, .x (.a (.v (vU64 (thU l at_ i))))), (21, (.x (.a (.v (.slice A l.length c))))), (22, .x (.a (.v (.int .i64 l.length)))), (23, .x (.a (.v (.int .i64 i))))], [.own 51 (.u64 ws)]⟩) (fun i => i ≤ l.length) (fun i => l.length - i) 0 [1] (by omega) ?_ ?_
  · simp (config := { maxSteps := 1000000 }) only [thU_zero, show n64 0 = 0 from rfl, push_cast, ↓Int.cast_ofNat_Int, Int.cast_ofNat_Int, ↓reduceIte, Nat.reduceEqDiff, Nat.reduceLT]
  · intro i hi
    by_cases hlt : (i : Int) < l.length
    · have i0 : (0 : Int) ≤ i := by omega
      have i1 : i < l.length := by omega
      have c0 := F.c0 i (by omega)
      have c1 := F.c1 i (by omega)
      have o0 := F.ok0 i (by omega)
      have o1 := F.ok1 i (by omega)
      have hA := F.some_ (by omega)
      have hx := hwi i i1
      simp (config := { maxSteps := 1000000 }) only [hlt, i0, c0, c1, o0, o1, hA, pAdd_zero, pAdd_add, pAdd_isSome, undef, push_cast, ↓Int.toNat_natCast, ↓reduceIte, reduceCtorEq, Nat.reduceEqDiff, Nat.reduceLT, Nat.reduceAdd]
      (repeat (refine And.intro (by first | omega | decide) ?_))
      refine draw_rule [(0, true), (1, true), (2, true), (3, true), (4, true), (5, true), (6, true), (7, false), (8, false), (9, true)] (by kernel_rfl) (by kernel_rfl) rfl (by kernel_rfl) ?_
      simp (config := { maxSteps := 1000000 }) only [hlt, hwl, i0, i1, hx, undef, push_cast, ↓Int.toNat_natCast, ↓reduceIte, reduceCtorEq, Nat.reduceEqDiff, Nat.reduceLT, Nat.reduceAdd]
      (repeat (refine And.intro (by first | omega | decide) ?_))
      refine callM_v rfl cb44 rfl (fpMulK _ _) (dOk_lt rfl) ?_
      simp (config := { maxSteps := 1000000 }) only [push_cast, ↓reduceIte]
      refine callM_v rfl cb65 rfl (fpAddK _ _) (dOk_lt rfl) ?_
      simp (config := { maxSteps := 1000000 }) only [push_cast, ↓reduceIte, Nat.reduceEqDiff, Nat.reduceLT, Nat.reduceAdd, Int.reduceNeg]
      (repeat (refine And.intro (by first | omega | decide) ?_))
      refine loopK_normal (i + 1) [0] (by omega) (by omega) ?_
      simp (config := { maxSteps := 1000000 }) only [thU_succ, push_cast, ↓reduceIte, Nat.reduceEqDiff, Nat.reduceLT]
    · have e : i = l.length := by omega
      subst e
      simp (config := { maxSteps := 1000000 }) only [hlt, push_cast, ↓reduceIte, Nat.reduceEqDiff, Nat.reduceLT]
theorem throughOK {w0 : World} {hp : List Res} {sv : Sv} {l : List Sh} (at_ : UInt64) (hl : pcOk (l.map (·.1)) = true) (h : ShowsR w0 No hp sv l.length (shs l)) : CallOK Tryz.prog w0 No 41 [sv, .x (.a (.v (vU64 at_)))] hp (.t [.a (.v (vU64 (thU l at_ l.length))), .a (.v .nilIface)]) hp := callOK_v fun γ w hS => by
  obtain ⟨A, c, e1, b1, r1⟩ := h γ w hS
  show Calls _ _ #[sv.val γ, vU64 at_] w _
  rw [e1]
  exact through_any l at_ A c w hl b1 r1
end Go.Proofs.YtombphphaoeeiaaGreatDoor
/- The library's sort and copy at shares, in the engine's words. -/
namespace Go.Proofs
open Go.Shelf Go.RowKit Go.Lib Go.Sort
set_option linter.unusedVariables false
theorem Tryz.isNaN_u64 (x : Int) (w : World) : Calls Tryz.prog 74 #[.int .u64 x] w fun e w' => e = .returned (.bool false) ∧ w' = w := by
  have t4 := Tryz.underlying4; have a4 := Tryz.isAgg4; have z4 := Tryz.sizeOf4; have v4 := Tryz.zeroValue4; have t22 := Tryz.underlying51; have a22 := Tryz.isAgg51; have z22 := Tryz.sizeOf51; have v22 := Tryz.zeroValue51
  go_enter Tryz.func74, Tryz.ntmps74
  go_wp2
  go_ret
  exact ⟨by simp, rfl⟩
set_option maxRecDepth 100000 in
set_option maxHeartbeats 1000000 in
theorem Tryz.compare_u64 (x y : Int) (w : World) : Calls Tryz.prog 60 #[.int .u64 x, .int .u64 y] w fun e w' => e = .returned (.int .i64 (Lib.compareInt x y)) ∧ w' = w := by
  have t3 := Tryz.underlying3; have a3 := Tryz.isAgg3; have z3 := Tryz.sizeOf3; have v3 := Tryz.zeroValue3; have t4 := Tryz.underlying4; have a4 := Tryz.isAgg4; have z4 := Tryz.sizeOf4; have v4 := Tryz.zeroValue4; have t22 := Tryz.underlying51; have a22 := Tryz.isAgg51; have z22 := Tryz.sizeOf51; have v22 := Tryz.zeroValue51
  have e7 : ∀ args w, (callFunc 74 args).run Tryz.prog w = .ok (.enter 74 args) w := enters_of Tryz.func74 (by kernel_rfl) rfl
  go_enter Tryz.func60, Tryz.ntmps60
  go_wp2_with (go_at_call 74; refine (Tryz.isNaN_u64 _ _).mono ?_; rintro e w' ⟨rfl, hw⟩; rw [hw])
  all_goals (go_ret; refine ⟨?_, rfl⟩; unfold Lib.compareInt; (repeat' split) <;> first | rfl | (exfalso; omega))
set_option maxRecDepth 100000 in
set_option maxHeartbeats 1000000 in
/-- The closure: two blocks are laid. -/
theorem Tryz.cmpSh_int (x1 x2 y1 y2 : Int) (W : World) : Calls Tryz.prog 59 #[.agg #[.int .u64 x1, .int .u64 x2], .agg #[.int .u64 y1, .int .u64 y2]] W fun e w' => e = .returned (.int .i64 (Lib.compareInt x1 y1)) ∧ ∃ q os', w' = grow (W.drewN q) os' := by
  have hcon := fun W' => Tryz.compare_u64 x1 y1 W'
  generalize Lib.compareInt x1 y1 = r at hcon ⊢
  go_enter Tryz.func59, Tryz.ntmps59
  go_wp2_with (go_at_call 60; refine (hcon _).mono ?_; rintro e w' ⟨rfl, rfl⟩)
  go_ret
  exact ⟨rfl, 0, _, by rw [alloc_eq_grow, alloc_eq_grow, grow_grow]; rfl⟩
set_option maxRecDepth 100000 in
theorem Tryz.infoSh : ∃ i0, Tryz.prog.info? 71 = some i0 ∧ i0.zero = some (.agg #[.int .u64 0, .int .u64 0]) ∧ i0.size = 2 ∧ i0.bytes = 16 := ⟨_, rfl, rfl, rfl, rfl⟩
set_option maxRecDepth 100000 in
set_option maxHeartbeats 1000000 in
theorem Tryz.cloneSh_at (ad : Addr) (n c : Nat) (news : List Value) (w : World) (hl : news.length = n * 2) (hn : n ≤ 1000) (hc : ∀ j u, news[j]? = some u → w.cell? (ad.add j) = some u) (h1 : ∀ u ∈ news, u.oneCell' = true) :
    Calls Tryz.prog 57 #[.slice (some ad) n c] w fun e w' => ∃ v', e = .returned v' ∧ w'.ownsRow w.heap.size 71 2 v' n news ∧ Below w.heap.size w w' := by
  obtain ⟨i0, hi, hz0, hz1, hz2⟩ := Tryz.infoSh
  have t22 : Tryz.prog.underlying 68 = some (.slice 71) := Tryz.cloneSh.t22
  have q22 : ∀ (w : World) (a : Option Addr) (n c n' c' : Nat), (binOp .eql 68 (.slice a n c) (.slice none n' c')).run Tryz.prog w = .ok (.bool a.isNone) w := fun w a n c n' c' => Lib.run_eql_slice_nil w _ _ a n c n' c' t22
  have u22 : ∀ w, Sem.run Tryz.prog (underlying 68) w = .ok (TypeDesc.slice 71) w := run_underlying t22
  have z23 : ∀ w, (Go.sizeOf 71).run Tryz.prog w = .ok 2 w := Tryz.sizeOf71
  have A : Aside (∀ j u, news[j]? = some u → w.cell? (ad.add j) = some u) := hc
  clear hc
  go_enter Tryz.func57, Tryz.ntmps57
  go_wp2_with (at_builtin; refine wpList_append_own _ rfl _ _ 68 rfl w.heap.size 71 i0 _ 2 16 t22 hi hz0 hz1 hz2 rfl (by decide) _ _ _ rfl (World.ownsRow_made w #[] 0 (Nat.le_refl _) (Nat.zero_le _) (by simp)) ad n c news rfl ?qc1 ?qc2 ?qc3 ?qc4 ?qc5 ?qc6 ?_)
  case qc1 => exact hl
  case qc2 =>
    intro j u hj
    exact Lib.cell?_alloc_some _ (A.out j u hj)
  case qc3 => exact h1
  case qc4 => rw [Nat.zero_add]; unfold maxLen; omega
  case qc5 => rw [Nat.zero_add]; omega
  case qc6 => simp
  intro v' w1 hown hgrow hnil
  go_wp2
  go_ret
  refine ⟨v', rfl, by simpa using hown, ?_⟩
  exact ((Below.refl _ w).alloc (Nat.le_refl _) _).grown hgrow (by simp) (by intro k hk; simp [Value.ownBlock] at hk; omega)
end Go.Proofs
namespace Go.Proofs.YtombphphaoeeiaaGreatDoor
open Go.RowKit
set_option linter.unusedSimpArgs false
set_option linter.unusedVariables false
theorem cmpS_int (x y : Sh) : Lib.compareInt (x.1.toNat : Int) (y.1.toNat : Int) = cmpS x y := by
  unfold Lib.compareInt cmpS
  simp only [UInt64.lt_iff_toNat_lt, Int.ofNat_lt]
theorem cmpSh_lays (blk size : Nat) (w : World) : CmpLays Tryz.prog 59 #[] shv 2 cmpS blk 0 size w := fun _ _ _ _ x y => by
  have := Tryz.cmpSh_int x.1.toNat x.2.toNat y.1.toNat y.2.toNat
  rw [cmpS_int] at this
  exact this _
theorem sortF_any (d : Array Sh) (g cap : Nat) (w : World) (hH : Go.Sort.HoldsK shv 2 w g 0 d) (hg : g < w.heap.size) (hsz : d.size < 4611686018427387904) :
    Calls Tryz.prog 58 #[.slice (some ⟨g, 0, none⟩) d.size cap, .func (.func 59) #[] #[]] w fun e w' => e = .returned (.tuple #[]) ∧ ∃ n os, w' = sortWorldK shv 2 w g 0 n (sortA d) os := by
  have eg : ∀ args w, (callFunc 59 args).run Tryz.prog w = .ok (.enter 59 args) w := enters_of Tryz.func59 (by kernel_rfl) rfl
  exact AnyQ.slices_SortFunc_eq Tryz.sortSh 2 Tryz.isAgg71 Tryz.sizeOf71 shv shv_len shv_one cmpS swoS 59 #[] g 0 cap d w eg (cmpSh_lays g d.size w) hH hg hsz
theorem sortF_none (w : World) : Calls Tryz.prog 58 #[.slice none 0 0, .func (.func 59) #[] #[]] w fun e w' => e = .returned (.tuple #[]) ∧ w' = w :=
  AnyF.slices_SortFunc_none Tryz.sortSh none 0 _ w
theorem sortOK {w0 : World} {ow : Nat → Prop} {hp : List Res} {k : Nat} {L : List Sh} (hk : hp[k]? = some (.onn 71 2 (.c (shc L)))) (hl : L.length ≤ 1000) :
    CallOK Tryz.prog w0 ow 58 [.x (.a (.o k)), .x (.a (.v (.func (.func 59) #[] #[])))] hp (.t []) (hp.set k (.onn 71 2 (.c (shc (sortP L))))) :=
  callOK_sort hk (fun _ => rfl) (fun g cap w hH hg => sortF_any L.toArray g cap w hH hg (by simp; omega)) fun w _ => sortF_none w
/-! ### Copies -/
theorem clone_any (l : List Sh) (A : Option Addr) (c : Nat) (w : World) (hl : l.length ≤ 1000) (hR : RdV w w.heap.size A (shs l)) : Calls Tryz.prog 57 #[.slice A l.length c] w fun e w' => ∃ v, e = .returned v ∧ w'.ownsRow w.heap.size 71 2 v l.length (shs l) ∧ Below w.heap.size w w' := by
  cases A with
  | none =>
    have hn : l = [] := by
      cases l with
      | nil => rfl
      | cons x r => obtain ⟨b, off, h, _⟩ := hR (by rw [shs_len]; simp); cases h
    subst hn
    refine (AnyE.slices_Clone_nil Tryz.cloneSh 0 c w).mono ?_
    rintro e w' ⟨rfl, rfl⟩
    exact ⟨_, rfl, World.ownsRow_nil _ _ _ _, Below.refl _ _⟩
  | some a =>
    refine Tryz.cloneSh_at a l.length c (shs l) w (shs_len l) hl (fun j u hj => ?_) ?_
    · obtain ⟨b, off, h1, h2, h3⟩ := hR (by have := (List.getElem?_eq_some_iff.1 hj).1; omega)
      cases h1
      rw [add_plain]
      exact h3 j u hj
    · intro u hu
      obtain ⟨p, hp, hu⟩ := List.mem_flatMap.1 hu
      exact shv_one p u hu
theorem cloneOK {w0 : World} {hp : List Res} {sv : Sv} {l : List Sh} (hl : l.length ≤ 1000) (h : ShowsR w0 No hp sv l.length (shs l)) (hbr : ∀ r ∈ hp, Res.bnd hp.length r) : CallOK Tryz.prog w0 No 57 [sv] hp (.x (.a (.o hp.length))) (hp ++ [.onn 71 2 (.c (shc l))]) := fun γ w hS => by
  obtain ⟨A, c, e1, b1, r1⟩ := h γ w hS
  show Calls _ _ #[sv.val γ] w _
  rw [e1]
  refine (clone_any l A c w hl r1).mono ?_
  rintro en w' ⟨v, rfl, ho, hb⟩
  have hlen := hS.len
  refine ⟨[.s v], by simp [Sv.val, Sc.val, At.val, nmS_last hlen], ?_⟩
  refine hS.push (X := fun _ => False) (Keeps.of_below (own := fun _ => False) hb) (fun b h => h.elim) hbr ⟨by rw [get_last hlen, nmS_last hlen], by decide, l.length, ?_⟩ ?_
  · rw [nmS_last hlen]
    have e2 : (shc l).map (At.val (γ ++ [.s v])) = shs l := shc_vals _ l
    show World.ownsRow _ 0 _ 2 v l.length ((shc l).map (At.val (γ ++ [.s v])))
    rw [e2]
    exact ⟨ho.1, ho.2.imp id fun ⟨g, cap, cur, h1, _, h3⟩ => ⟨g, cap, cur, h1, Nat.zero_le _, h3⟩⟩
  · intro n hn
    simp only [Res.has, nmS_last hlen] at hn
    have := World.ownsRow.lt ho n hn
    exact ⟨.inr this.1, this.2⟩
end Go.Proofs.YtombphphaoeeiaaGreatDoor
/- Shares in order, and split: as the program does it (shamir.Sorted, Split). -/
namespace Go.Proofs.YtombphphaoeeiaaGreatDoor
open Go.RowKit
set_option linter.unusedSimpArgs false
set_option linter.unusedVariables false
/-! ### Cells of shares -/
theorem shc_nil : shc [] = [] := rfl
theorem shc_cons (p : Sh) (l : List Sh) : shc (p :: l) = .v (vU64 p.1) :: .v (vU64 p.2) :: shc l := rfl
theorem shc_app (l m : List Sh) : shc (l ++ m) = shc l ++ shc m := by unfold shc; rw [List.flatMap_append]
theorem shc_len (l : List Sh) : (shc l).length = l.length * 2 := by
  induction l with
  | nil => rfl
  | cons p l ih => rw [shc_cons]; simp only [List.length_cons, ih]; omega
theorem shc_ren (ρ : List Nat) (l : List Sh) : (shc l).map (At.ren ρ) = shc l := by
  induction l with
  | nil => rfl
  | cons p l ih => rw [shc_cons, List.map_cons, List.map_cons, ih]; rfl
theorem shc_forall {Q : At → Prop} (l : List Sh) : (∀ x ∈ shc l, Q x) = ∀ p ∈ l, Q (.v (vU64 p.1)) ∧ Q (.v (vU64 p.2)) := by
  apply propext
  induction l with
  | nil => simp [shc_nil]
  | cons p l ih =>
    rw [shc_cons, List.forall_mem_cons, List.forall_mem_cons, List.forall_mem_cons, ih, and_assoc]
theorem shc_snoc (l : List Sh) (x y : UInt64) : shc l ++ [.v (vU64 x), .v (vU64 y)] = shc (l ++ [(x, y)]) := by
  rw [shc_app, shc_cons, shc_nil]
theorem shc_get0 (l : List Sh) (i : Nat) (h : i < l.length) (x : At) : (shc l).getD (i * 2) x = .v (vU64 (ix l i).1) := by
  induction l generalizing i with
  | nil => simp at h
  | cons p l ih =>
    cases i with
    | zero => rw [shc_cons]; rfl
    | succ i =>
      rw [shc_cons, show (i + 1) * 2 = i * 2 + 1 + 1 from by omega, List.getD_cons_succ, List.getD_cons_succ, ih i (by simpa using h)]
      rfl
theorem half2 (n : Nat) : n * 2 / 2 = n := Nat.mul_div_cancel n (by omega)
attribute [push_cast] shc_ren shc_len shc_forall
attribute [local irreducible] shc
theorem showsR_shc {w0 : World} {ow : Nat → Prop} {hp : List Res} {k : Nat} {e : TypeId} {l : List Sh} (hr : hp[k]? = some (.onn e 2 (.c (shc l)))) : ShowsR w0 ow hp (.x (.a (.o k))) l.length (shs l) :=
  showsR_onn hr (fun γ => shc_vals γ l) (shs_len l)
/-- Shares that come anew, and something beside them. -/
theorem callOK_shs {w0 : World} {f : FuncId} {svs : List Sv} {hp : List Res} {L : List Sh} {y : Value} (hbr : ∀ r ∈ hp, Res.bnd hp.length r)
    (h : ∀ γ w, Sat w0 No γ hp w → Calls Tryz.prog f (svs.map (Sv.val γ)).toArray w fun e w' => ∃ γ1, e = .returned ((Sv.t [.a (.o 0), .a (.v y)]).val γ1) ∧ Sat w No γ1 [.onn 71 2 (.c (shc L))] w') :
    CallOK Tryz.prog w0 No f svs hp (.t [.a (.o hp.length), .a (.v y)]) (hp ++ [.onn 71 2 (.c (shc L))]) := by
  have := callOK_take (P := Tryz.prog) (f := f) (svs := svs) (w0 := w0) (ow := No) (hp := hp) (sv1 := .t [.a (.o 0), .a (.v y)]) (hp1 := [.onn 71 2 (.c (shc L))]) [] hbr (by simp only [push_cast]) (by simp only [push_cast, Nat.reduceLT])
    fun γ w hS => ⟨No, fun b h => h.elim, h γ w hS⟩
  simp only [goneAll, shiftL, List.range_succ, List.range_zero, push_cast] at this
  exact this
def erS (n : Int) : Value := if n = 0 then .nilIface else errN n
theorem erS_ne {n : Int} (h : ¬ n = 0) : erS n = errN n := if_neg h
attribute [local irreducible] Callable CallOK CallG CallM DrawG LoopG symR symM
attribute [local irreducible] seenU metU apartU prU wtU wtsU thU powU polyU sortP splS polyN
/-! ### Split -/
/-! ### Sorted -/
set_option maxRecDepth 100000 in
set_option maxHeartbeats 2000000 in
theorem sorted_yes (l : List Sh) (A : Option Addr) (c : Nat) (w : World) (hs : sorE l = 0) (hc : l.length ≤ c) (hR : RdV w w.heap.size A (shs l)) :
    Calls Tryz.prog 39 (List.map (Sv.val []) [(.x (.a (.v (.slice A l.length c))))]).toArray w fun e w' => ∃ γ1, e = .returned ((Sv.t [.a (.o 0), .a (.v .nilIface)]).val γ1) ∧ Sat w No γ1 [.onn 71 2 (.c (shc (sortP l)))] w' := by
  have F := FS2.of hR
  obtain ⟨h64, hok, hasc⟩ := sorE_ok hs
  refine calls_fun (n := 57) Tryz.func39 rfl Tryz.ntmps39 [(.x (.a (.v (.slice A l.length c))))] (Sat.init w No) (by simp) _ _ ?_
  have g1 : ¬ (64 : Int) < l.length := by omega
  simp (config := { maxSteps := 1000000 }) only [g1, push_cast, ↓reduceIte, reduceCtorEq, Nat.reduceLT]
  (repeat (refine And.intro (by first | omega | decide) ?_))
  refine loop_rule (ι := Nat) (fun i => ⟨[(0, (.x (.a (.v (.slice A l.length c))))), (12, (.x (.a (.v (.slice A l.length c))))), (13, .x (.a (.v (.int .i64 l.length)))), (14, .x (.a (.v (.int .i64 i))))], []⟩) (fun i => i ≤ l.length) (fun i => l.length - i) 0 [] (by omega) ?_ ?_
  · simp (config := { maxSteps := 1000000 }) only [push_cast, ↓Int.cast_ofNat_Int, Int.cast_ofNat_Int, ↓reduceIte, reduceCtorEq, Nat.reduceEqDiff]
  · intro i hi
    by_cases hlt : (i : Int) < l.length
    · have i0 : (0 : Int) ≤ i := by omega
      have c0 := F.c0 i (by omega)
      have c1 := F.c1 i (by omega)
      have o0 := F.ok0 i (by omega)
      have o1 := F.ok1 i (by omega)
      have hA := F.some_ (by omega)
      obtain ⟨k1, k2, k3⟩ := okAll_iff.1 hok _ (ix_memS (l := l) (i := i) (by omega))
      have k2 : ¬ (2305843009213693951 : UInt64) ≤ (ix l i).1 := fun h => by have := UInt64.le_iff_toNat_le.1 h; have e : (2305843009213693951 : UInt64).toNat = 2305843009213693951 := rfl; omega
      have k3 : ¬ (2305843009213693951 : UInt64) ≤ (ix l i).2 := fun h => by have := UInt64.le_iff_toNat_le.1 h; have e : (2305843009213693951 : UInt64).toNat = 2305843009213693951 := rfl; omega
      simp (config := { maxSteps := 1000000 }) only [hlt, i0, c0, c1, o0, o1, hA, k1, k2, k3, pAdd_zero, pAdd_add, pAdd_isSome, undef, push_cast, ↓Int.toNat_natCast, ↓reduceIte, reduceCtorEq, Nat.reduceEqDiff, Nat.reduceLT, Nat.reduceAdd, Int.reduceNeg]
      (repeat (refine And.intro (by first | omega | decide) ?_))
      refine loopK_normal (i + 1) [] (by omega) (by omega) ?_
      simp (config := { maxSteps := 1000000 }) only [push_cast, ↓reduceIte, reduceCtorEq, Nat.reduceEqDiff]
    · simp (config := { maxSteps := 1000000 }) only [hlt, push_cast, ↓reduceIte, reduceCtorEq, Nat.reduceEqDiff, Nat.reduceLT]
      refine callG_x rfl cb57 rfl (cloneOK (l := l) (by omega) (showsR_raw hR hc) (by simp only [push_cast])) (dOk_lt rfl) (by simp only [push_cast]) ?_
      simp (config := { maxSteps := 1000000 }) only [push_cast, ↓reduceIte, Nat.reduceLT]
      refine callG_rule rfl cb58 rfl (sortOK (k := 0) (L := l) rfl (by omega)) (dOk_lt rfl) (fun _ => by simp only [push_cast, Nat.reduceLT]) ?_
      have hsl := sortP_length l
      have hst := asc_iff.1 hasc
      generalize sortP l = S at *
      simp (config := { maxSteps := 1000000 }) only [push_cast, ↓reduceIte, Nat.reduceLT]
      (repeat (refine And.intro (by first | omega | decide) ?_))
      refine loop_rule (ι := Nat) (fun j => ⟨[(6, .x (.a (.o 0))), (7, .x (.a (.v (.int .i64 ((j : Int) + 1)))))], [.onn 71 2 (.c (shc S))]⟩) (fun j => j ≤ S.length) (fun j => S.length - j) 0 [0] (by omega) ?_ ?_
      · simp (config := { maxSteps := 1000000 }) only [push_cast, ↓Int.cast_ofNat_Int, Int.cast_ofNat_Int, ↓reduceIte, Nat.reduceEqDiff, Nat.reduceLT, Int.reduceAdd]
      · intro j hj
        by_cases hlj : (j : Int) + 1 < S.length
        · have j0 : (0 : Int) ≤ j := by omega
          have j1 : (0 : Int) ≤ (j : Int) + 1 := by omega
          have j2 : (j : Int) < S.length := by omega
          have j3 : j < S.length := by omega
          have j4 : j + 1 < S.length := by omega
          have e1 : (j : Int) + 1 - 1 = j := by omega
          have e2 : ((j : Int) + 1).toNat = j + 1 := by omega
          have q0 := shc_get0 S j (by omega)
          have q1 := shc_get0 S (j + 1) (by omega)
          have hne := hst j (by omega)
          simp (config := { maxSteps := 1000000 }) only [hlj, half2, push_cast, ↓reduceIte, Nat.reduceEqDiff, Nat.reduceLT]
          (repeat (refine And.intro (by first | omega | decide) ?_))
          refine draw_rule [(0, true), (1, true), (2, true), (3, true), (4, true), (5, true), (6, true), (7, true), (8, true), (9, true), (10, true), (11, true)] (by kernel_rfl) (by kernel_rfl) rfl (by kernel_rfl) ?_
          simp (config := { maxSteps := 1000000 }) only [hlj, j0, j1, j2, e1, e2, half2, q0, q1, hne, undef, push_cast, ↓Int.toNat_natCast, ↓reduceIte, reduceCtorEq, Nat.reduceEqDiff, Nat.reduceLT, Int.reduceNeg]
          (repeat (refine And.intro (by first | omega | decide) ?_))
          refine loopK_normal (j + 1) [0] (by omega) (by omega) ?_
          simp (config := { maxSteps := 1000000 }) only [push_cast, ↓reduceIte, Nat.reduceEqDiff, Nat.reduceLT]
        · simp (config := { maxSteps := 1000000 }) only [hlj, half2, push_cast, ↓reduceIte, Nat.reduceEqDiff, Nat.reduceLT]
          refine endsAs [0] ?_
          simp (config := { maxSteps := 1000000 }) only [push_cast, ↓reduceIte, Nat.reduceLT]
theorem sortedOK {w0 : World} {hp : List Res} {sv : Sv} {l : List Sh} (hs : sorE l = 0) (h : ShowsR w0 No hp sv l.length (shs l)) (hbr : ∀ r ∈ hp, Res.bnd hp.length r) :
    CallOK Tryz.prog w0 No 39 [sv] hp (.t [.a (.o hp.length), .a (.v .nilIface)]) (hp ++ [.onn 71 2 (.c (shc (sortP l)))]) := callOK_shs hbr fun γ w hS => by
  obtain ⟨A, c, e1, b1, r1⟩ := h γ w hS
  show Calls _ _ #[sv.val γ] w _
  rw [e1]
  exact sorted_yes l A c w hs b1 r1
end Go.Proofs.YtombphphaoeeiaaGreatDoor
/- Shares that are of a curve, joined, summed: as the program does it (poly.Line, shamir.Sorted's refusals, Join, Sum). -/
namespace Go.Proofs.YtombphphaoeeiaaGreatDoor
open Go.RowKit
set_option linter.unusedSimpArgs false
set_option linter.unusedVariables false
attribute [local irreducible] Callable CallOK CallG CallM DrawG LoopG symR symM
attribute [local irreducible] shc seenU metU apartU prU wtU wtsU thU powU polyU sortP splS polyN
/-! ### Sorted: what it does not take -/
set_option maxRecDepth 100000 in
set_option maxHeartbeats 2000000 in
theorem sorted_no (l : List Sh) (A : Option Addr) (c : Nat) (w : World) (hl : l.length ≤ 1000) (hs : ¬ sorE l = 0) (hc : l.length ≤ c) (hR : RdV w w.heap.size A (shs l)) :
    Calls Tryz.prog 39 #[.slice A l.length c] w fun e w' => e = .returned (.tuple #[.slice none 0 0, errN (sorE l)]) ∧ Below w.heap.size w w' := by
  have F := FS2.of hR
  refine calls_v (n := 57) Tryz.func39 rfl Tryz.ntmps39 [(.x (.a (.v (.slice A l.length c))))] (by simp) (.t [.a (.v (.slice none 0 0)), .a (.v (errN (sorE l)))]) (fun _ => rfl) ?_
  by_cases g1 : (64 : Int) < l.length
  · have e : sorE l = 1 := if_neg (by omega)
    simp (config := { maxSteps := 1000000 }) only [g1, e, errN, push_cast, ↓reduceIte, reduceCtorEq, Nat.reduceEqDiff, Nat.reduceLT]
  have h64 : l.length ≤ 64 := by omega
  have e0 : sorE l = if okAll l = true then (if asc (sortP l) = true then 0 else 8) else 1 := if_pos h64
  simp (config := { maxSteps := 1000000 }) only [g1, push_cast, ↓reduceIte, reduceCtorEq, Nat.reduceLT]
  (repeat (refine And.intro (by first | omega | decide) ?_))
  refine loop_rule (ι := Nat) (fun i => ⟨[(0, (.x (.a (.v (.slice A l.length c))))), (12, (.x (.a (.v (.slice A l.length c))))), (13, .x (.a (.v (.int .i64 l.length)))), (14, .x (.a (.v (.int .i64 i))))], []⟩) (fun i => i ≤ l.length ∧ ∀ j, j < i → okSh (ix l j) = true) (fun i => l.length - i) 0 [] ⟨by omega, fun j h => absurd h (Nat.not_lt_zero _)⟩ ?_ ?_
  · simp (config := { maxSteps := 1000000 }) only [push_cast, ↓Int.cast_ofNat_Int, Int.cast_ofNat_Int, ↓reduceIte, reduceCtorEq, Nat.reduceEqDiff]
  · rintro i ⟨hi, hj⟩
    by_cases hlt : (i : Int) < l.length
    · have i0 : (0 : Int) ≤ i := by omega
      have c0 := F.c0 i (by omega)
      have c1 := F.c1 i (by omega)
      have o0 := F.ok0 i (by omega)
      have o1 := F.ok1 i (by omega)
      have hA := F.some_ (by omega)
      have hP : (2305843009213693951 : UInt64).toNat = 2305843009213693951 := rfl
      have bad : ¬ okSh (ix l i) = true → sorE l = 1 := fun h => by
        rw [e0, if_neg fun h2 => h (okSh_iff.2 (okAll_iff.1 h2 _ (ix_memS (by omega))))]
      by_cases k1 : (ix l i).1 = 0
      · have e := bad fun h => (okSh_iff.1 h).1 k1
        simp (config := { maxSteps := 1000000 }) only [hlt, i0, c0, c1, o0, o1, hA, k1, e, errN, show n64 0 = 0 from rfl, pAdd_zero, pAdd_add, pAdd_isSome, undef, push_cast, ↓Int.toNat_natCast, ↓reduceIte, reduceCtorEq, Nat.reduceEqDiff, Nat.reduceLT, Nat.reduceAdd]
      by_cases k2 : (2305843009213693951 : UInt64) ≤ (ix l i).1
      · have e := bad fun h => by have := (okSh_iff.1 h).2.1; have := UInt64.le_iff_toNat_le.1 k2; omega
        simp (config := { maxSteps := 1000000 }) only [hlt, i0, c0, c1, o0, o1, hA, k1, k2, e, errN, pAdd_zero, pAdd_add, pAdd_isSome, undef, push_cast, ↓Int.toNat_natCast, ↓reduceIte, reduceCtorEq, Nat.reduceEqDiff, Nat.reduceLT, Nat.reduceAdd]
      by_cases k3 : (2305843009213693951 : UInt64) ≤ (ix l i).2
      · have e := bad fun h => by have := (okSh_iff.1 h).2.2; have := UInt64.le_iff_toNat_le.1 k3; omega
        simp (config := { maxSteps := 1000000 }) only [hlt, i0, c0, c1, o0, o1, hA, k1, k2, k3, e, errN, pAdd_zero, pAdd_add, pAdd_isSome, undef, push_cast, ↓Int.toNat_natCast, ↓reduceIte, reduceCtorEq, Nat.reduceEqDiff, Nat.reduceLT, Nat.reduceAdd]
      have good : okSh (ix l i) = true := okSh_iff.2 ⟨k1, by rw [UInt64.le_iff_toNat_le] at k2; omega, by rw [UInt64.le_iff_toNat_le] at k3; omega⟩
      simp (config := { maxSteps := 1000000 }) only [hlt, i0, c0, c1, o0, o1, hA, k1, k2, k3, pAdd_zero, pAdd_add, pAdd_isSome, undef, push_cast, ↓Int.toNat_natCast, ↓reduceIte, reduceCtorEq, Nat.reduceEqDiff, Nat.reduceLT, Nat.reduceAdd, Int.reduceNeg]
      (repeat (refine And.intro (by first | omega | decide) ?_))
      refine loopK_normal (i + 1) [] ⟨by omega, fun j h => ?_⟩ (by omega) ?_
      · by_cases e : j = i
        · rw [e]; exact good
        · exact hj j (by omega)
      · simp (config := { maxSteps := 1000000 }) only [push_cast, ↓reduceIte, reduceCtorEq, Nat.reduceEqDiff]
    · have hok : okAll l = true := by
        unfold okAll
        rw [List.all_eq_true]
        intro s hs
        obtain ⟨j, hjl, rfl⟩ := List.mem_iff_getElem.1 hs
        have := hj j (by omega)
        rwa [ix_get hjl] at this
      have hna : ¬ asc (sortP l) = true := fun h => hs (by rw [e0, if_pos hok, if_pos h])
      have e8 : sorE l = 8 := by rw [e0, if_pos hok, if_neg hna]
      rw [e8] at *
      simp (config := { maxSteps := 1000000 }) only [hlt, push_cast, ↓reduceIte, reduceCtorEq, Nat.reduceEqDiff, Nat.reduceLT]
      refine callG_x rfl cb57 rfl (cloneOK (l := l) (by omega) (showsR_raw hR hc) (by simp only [push_cast])) (dOk_lt rfl) (by simp only [push_cast]) ?_
      simp (config := { maxSteps := 1000000 }) only [push_cast, ↓reduceIte, Nat.reduceLT]
      refine callG_rule rfl cb58 rfl (sortOK (k := 0) (L := l) rfl (by omega)) (dOk_lt rfl) (fun _ => by simp only [push_cast, Nat.reduceLT]) ?_
      have hsl := sortP_length l
      generalize sortP l = S at *
      simp (config := { maxSteps := 1000000 }) only [push_cast, ↓reduceIte, Nat.reduceLT]
      (repeat (refine And.intro (by first | omega | decide) ?_))
      refine loop_rule (ι := Nat) (fun j => ⟨[(6, .x (.a (.o 0))), (7, .x (.a (.v (.int .i64 ((j : Int) + 1)))))], [.onn 71 2 (.c (shc S))]⟩) (fun j => j ≤ S.length ∧ ∀ i, i < j → (ix S (i + 1)).1 ≠ (ix S i).1) (fun j => S.length - j) 0 [0] ⟨by omega, fun j h => absurd h (Nat.not_lt_zero _)⟩ ?_ ?_
      · simp (config := { maxSteps := 1000000 }) only [push_cast, ↓Int.cast_ofNat_Int, Int.cast_ofNat_Int, ↓reduceIte, Nat.reduceEqDiff, Nat.reduceLT, Int.reduceAdd]
      · rintro j ⟨hjl, hjj⟩
        by_cases hlj : (j : Int) + 1 < S.length
        · have j0 : (0 : Int) ≤ j := by omega
          have j1 : (0 : Int) ≤ (j : Int) + 1 := by omega
          have j2 : (j : Int) < S.length := by omega
          have j3 : j < S.length := by omega
          have j4 : j + 1 < S.length := by omega
          have e1 : (j : Int) + 1 - 1 = j := by omega
          have e2 : ((j : Int) + 1).toNat = j + 1 := by omega
          have q0 := shc_get0 S j (by omega)
          have q1 := shc_get0 S (j + 1) (by omega)
          simp (config := { maxSteps := 1000000 }) only [hlj, half2, push_cast, ↓reduceIte, Nat.reduceEqDiff, Nat.reduceLT]
          (repeat (refine And.intro (by first | omega | decide) ?_))
          refine draw_rule [(0, true), (1, true), (2, true), (3, true), (4, true), (5, true), (6, true), (7, true), (8, true), (9, true), (10, true), (11, true)] (by kernel_rfl) (by kernel_rfl) rfl (by kernel_rfl) ?_
          by_cases hne : (ix S (j + 1)).1 = (ix S j).1
          · simp (config := { maxSteps := 1000000 }) only [hlj, j0, j1, j2, e1, e2, half2, q0, q1, hne, errN, undef, push_cast, ↓Int.toNat_natCast, ↓reduceIte, reduceCtorEq, Nat.reduceEqDiff, Nat.reduceLT, Int.reduceNeg]
            (repeat (refine And.intro (by first | omega | decide) ?_))
            omega
          · simp (config := { maxSteps := 1000000 }) only [hlj, j0, j1, j2, e1, e2, half2, q0, q1, hne, undef, push_cast, ↓Int.toNat_natCast, ↓reduceIte, reduceCtorEq, Nat.reduceEqDiff, Nat.reduceLT, Int.reduceNeg]
            (repeat (refine And.intro (by first | omega | decide) ?_))
            refine loopK_normal (j + 1) [0] ⟨by omega, fun i h => ?_⟩ (by omega) ?_
            · by_cases e : i = j
              · rw [e]; exact hne
              · exact hjj i (by omega)
            · simp (config := { maxSteps := 1000000 }) only [push_cast, ↓reduceIte, Nat.reduceEqDiff, Nat.reduceLT]
        · exact absurd (asc_iff.2 fun i hi => hjj i (by omega)) hna
theorem sortedNo {w0 : World} {hp : List Res} {sv : Sv} {l : List Sh} (hl : l.length ≤ 1000) (hs : ¬ sorE l = 0) (h : ShowsR w0 No hp sv l.length (shs l)) :
    CallOK Tryz.prog w0 No 39 [sv] hp (.t [.a (.v (.slice none 0 0)), .a (.v (errN (sorE l)))]) hp := callOK_v fun γ w hS => by
  obtain ⟨A, c, e1, b1, r1⟩ := h γ w hS
  show Calls _ _ #[sv.val γ] w _
  rw [e1]
  exact sorted_no l A c w hl hs b1 r1
/-! ### Line -/
theorem shs_take (l : List Sh) (m : Nat) : (shs l).take (m * 2) = shs (l.take m) := by
  induction l generalizing m with
  | nil => simp [shs]
  | cons p l ih =>
    cases m with
    | zero => simp [shs]
    | succ m =>
      rw [show (m + 1) * 2 = m * 2 + 1 + 1 from by omega]
      show vU64 p.1 :: vU64 p.2 :: (shs l).take (m * 2) = vU64 p.1 :: vU64 p.2 :: shs (l.take m)
      rw [ih]
theorem rd_take2 {w : World} {B : Nat} {A : Option Addr} {l : List Sh} (m : Nat) (h : RdV w B A (shs l)) : RdV w B A (shs (l.take m)) := by
  rw [← shs_take]; exact RdV.take' h _
theorem pc_take {l : List Sh} (m : Nat) (h : pcOk (PL l) = true) : pcOk (PL (l.take m)) = true := by
  unfold pcOk at *
  rw [Bool.and_eq_true, decide_eq_true_eq] at *
  obtain ⟨h1, h2⟩ := h
  rw [List.length_map] at h1
  refine ⟨by rw [List.length_map, List.length_take]; omega, ?_⟩
  rw [apartU_q] at *
  intro i j hi hj e
  rw [List.length_map, List.length_take] at hi hj
  have hl : (l.map (·.1)).length = l.length := List.length_map ..
  refine h2 i j (by rw [hl]; omega) (by rw [hl]; omega) ?_
  rw [ix_fst _ i (by rw [List.length_take]; omega), ix_fst _ j (by rw [List.length_take]; omega), ix_tk (by omega), ix_tk (by omega)] at e
  rw [ix_fst _ i (by omega), ix_fst _ j (by omega)]
  exact e
theorem lineU_iff {l : List Sh} {m : Nat} : lineU l m = true ↔ ∀ i, m + i < l.length → thU (l.take m) (ix l (m + i)).1 m = (ix l (m + i)).2 % fpP := by
  unfold lineU
  simp only [List.all_eq_true, List.mem_range, decide_eq_true_eq]
  exact ⟨fun h i hi => h i (by omega), fun h i hi => h i (by omega)⟩
theorem pCutN_ne (A : Option Addr) {l cap : Nat} (m : Nat) (h : ¬ cap = l) : pCutN A l cap m = pAdd A (l * m) := if_neg h
theorem pCutN_zero (A : Option Addr) (cap m : Nat) : pCutN A 0 cap m = A := by
  unfold pCutN
  split
  · rfl
  · rw [Nat.zero_mul, pAdd_zero]
set_option maxRecDepth 100000 in
set_option maxHeartbeats 2000000 in
theorem line_any (l : List Sh) (m : Nat) (A : Option Addr) (c : Nat) (w : World) (hm : m ≤ 1000) (hpc : pcOk (PL l) = true) (hc : l.length ≤ c) (hR : RdV w w.heap.size A (shs l)) :
    Calls Tryz.prog 40 #[.slice A l.length c, .int .i64 m] w fun e w' => e = .returned (.tuple #[.bool (lineU l m), .nilIface]) ∧ Below w.heap.size w w' := by
  have F := FS2.of hR
  have h64 : l.length ≤ 64 := by
    have h := hpc
    unfold pcOk at h
    rw [Bool.and_eq_true, decide_eq_true_eq, List.length_map] at h
    exact h.1
  refine calls_v (n := 50) Tryz.func40 rfl Tryz.ntmps40 [(.x (.a (.v (.slice A l.length c)))), .x (.a (.v (.int .i64 m)))] (by simp) (.t [.a (.v (.bool (lineU l m))), .a (.v .nilIface)]) (fun _ => rfl) ?_
  have m0 : ¬ (m : Int) < 0 := by omega
  simp (config := { maxSteps := 1000000 }) only [m0, push_cast, ↓reduceIte, reduceCtorEq, Nat.reduceEqDiff, Nat.reduceLT]
  (repeat (refine And.intro (by first | omega | decide) ?_))
  refine callG_x rfl cb62 rfl (placesOK (l := l) (by omega) (showsR_raw hR hc) (by simp only [push_cast])) (dOk_lt rfl) (by simp only [push_cast]) ?_
  simp (config := { maxSteps := 1000000 }) only [push_cast, ↓reduceIte]
  refine callG_v rfl cb61 rfl (pcheckOK (xs := l.map (·.1)) (by rw [List.length_map]; omega) (shows_own rfl fun _ => rfl)) (dOk_lt rfl) ?_
  have hpe : pcErr (l.map (·.1)) = .nilIface := pcErr_yes hpc
  by_cases g : (l.length : Int) ≤ m
  · have e : lineU l m = true := lineU_iff.2 fun i hi => by omega
    simp (config := { maxSteps := 1000000 }) only [hpe, g, e, push_cast, ↓reduceIte, reduceCtorEq, Nat.reduceEqDiff, Nat.reduceLT]
  have cm : ¬ c = m := by omega
  have cc := pCutN_ne A 2 cm
  have m1 : (0 : Int) ≤ m := by omega
  have m2 : (m : Int) ≤ l.length := by omega
  have m3 : (l.length : Int) ≤ c := by omega
  have m4 : ((l.length - m : Nat) : Int) = l.length - m := by omega
  simp (config := { maxSteps := 1000000 }) only [hpe, g, cc, m1, m2, m3, push_cast, ↓Int.toNat_natCast, ↓reduceIte, reduceCtorEq, Nat.reduceEqDiff, Nat.reduceLT]
  (repeat (refine And.intro (by first | omega | decide) ?_))
  refine loop_rule (ι := Nat) (fun k => ⟨[(0, (.x (.a (.v (.slice A l.length c))))), (1, .x (.a (.v (.int .i64 m)))), (26, .x (.a (.v (.slice (pAdd A (m * 2)) (l.length - m) (c - m))))), (27, .x (.a (.v (.int .i64 ((l.length - m : Nat) : Int))))), (28, .x (.a (.v (.int .i64 k))))], []⟩) (fun k => m + k ≤ l.length ∧ ∀ i, i < k → thU (l.take m) (ix l (m + i)).1 m = (ix l (m + i)).2 % fpP) (fun k => l.length - k) 0 [] ⟨by omega, fun j h => absurd h (Nat.not_lt_zero _)⟩ ?_ ?_
  · simp (config := { maxSteps := 1000000 }) only [push_cast, ↓Int.cast_ofNat_Int, Int.cast_ofNat_Int, ↓reduceIte, reduceCtorEq, Nat.reduceEqDiff]
  · rintro k ⟨hk, hkk⟩
    by_cases hlt : (k : Int) < ((l.length - m : Nat) : Int)
    · have k0 : (0 : Int) ≤ k := by omega
      have c0 := F.c0 (m + k) (by omega)
      have c1 := F.c1 (m + k) (by omega)
      have o0 := F.ok0 (m + k) (by omega)
      have o1 := F.ok1 (m + k) (by omega)
      rw [Nat.add_mul] at c0 c1 o0 o1
      have hA := F.some_ (by omega)
      have tl := take_len (l := l) (m := m) (by omega)
      simp (config := { maxSteps := 1000000 }) only [hlt, k0, c0, c1, o0, o1, hA, pAdd_zero, pAdd_add, pAdd_isSome, undef, push_cast, ↓Int.toNat_natCast, ↓reduceIte, reduceCtorEq, Nat.reduceEqDiff, Nat.reduceLT, Nat.reduceAdd]
      (repeat (refine And.intro (by first | omega | decide) ?_))
      refine draw_rule [(0, true), (1, true), (2, true), (3, true), (4, true), (5, false), (6, true), (7, true), (8, true), (9, true), (10, true)] (by kernel_rfl) (by kernel_rfl) rfl (by kernel_rfl) ?_
      have ht : ∀ {hp : List Res}, CallOK Tryz.prog w No 41 [.x (.a (.v (.slice A m c))), .x (.a (.v (vU64 (ix l (m + k)).1)))] hp (.t [.a (.v (vU64 (thU (l.take m) (ix l (m + k)).1 m))), .a (.v .nilIface)]) hp := fun {hp} => by
        have := throughOK (hp := hp) (w0 := w) (sv := .x (.a (.v (.slice A m c)))) (l := l.take m) (ix l (m + k)).1 (pc_take m hpc) (by rw [tl]; exact showsR_raw (rd_take2 m hR) (by omega))
        rwa [tl] at this
      have m5 : (m : Int) ≤ c := by omega
      simp (config := { maxSteps := 1000000 }) only [m1, m5, pCutN_zero, Nat.sub_zero, undef, push_cast, ↓Int.toNat_natCast, ↓reduceIte, reduceCtorEq, Nat.reduceEqDiff, Nat.reduceLT, Nat.reduceAdd, Int.reduceLE]
      (repeat (refine And.intro (by first | omega | decide) ?_))
      refine callM_v rfl cb41 rfl ht (dOk_lt rfl) ?_
      simp (config := { maxSteps := 1000000 }) only [undef, push_cast, ↓reduceIte, reduceCtorEq, Nat.reduceEqDiff, Nat.reduceLT, Nat.reduceAdd]
      (repeat (refine And.intro (by first | omega | decide) ?_))
      refine callG_v rfl cb63 rfl (fpOfK (ix l (m + k)).2) (dOk_lt rfl) ?_
      by_cases he : thU (l.take m) (ix l (m + k)).1 m = (ix l (m + k)).2 % fpP
      · simp (config := { maxSteps := 1000000 }) only [he, push_cast, ↓reduceIte, reduceCtorEq, Nat.reduceEqDiff, Nat.reduceLT, Int.reduceNeg]
        (repeat (refine And.intro (by first | omega | decide) ?_))
        refine loopK_normal (k + 1) [] ⟨by omega, fun i h => ?_⟩ (by omega) ?_
        · by_cases e : i = k
          · rw [e]; exact he
          · exact hkk i (by omega)
        · simp (config := { maxSteps := 1000000 }) only [push_cast, ↓reduceIte, reduceCtorEq, Nat.reduceEqDiff]
      · have e : lineU l m = false := by
          cases h : lineU l m
          · rfl
          · exact absurd (lineU_iff.1 h k (by omega)) he
        simp (config := { maxSteps := 1000000 }) only [he, e, push_cast, ↓reduceIte, Nat.reduceEqDiff, Nat.reduceLT]
    · have e : lineU l m = true := lineU_iff.2 fun i hi => hkk i (by omega)
      simp (config := { maxSteps := 1000000 }) only [hlt, e, push_cast, ↓reduceIte, reduceCtorEq, Nat.reduceEqDiff, Nat.reduceLT]
theorem lineOK {w0 : World} {hp : List Res} {sv : Sv} {l : List Sh} (m : Nat) (hm : m ≤ 1000) (hpc : pcOk (PL l) = true) (h : ShowsR w0 No hp sv l.length (shs l)) :
    CallOK Tryz.prog w0 No 40 [sv, .x (.a (.v (.int .i64 m)))] hp (.t [.a (.v (.bool (lineU l m))), .a (.v .nilIface)]) hp := callOK_v fun γ w hS => by
  obtain ⟨A, c, e1, b1, r1⟩ := h γ w hS
  show Calls _ _ #[sv.val γ, .int .i64 m] w _
  rw [e1]
  exact line_any l m A c w hm hpc b1 r1
/-! ### Join -/
theorem showsR_shy {w0 : World} {ow : Nat → Prop} {hp : List Res} {k n : Nat} {e : TypeId} {l : List Sh} (hr : hp[k]? = some (.onn e 2 (.c (shc l)))) (hn : n ≤ l.length) : ShowsR w0 ow hp (.x (.a (.y k 2 0 n))) (l.take n).length (shs (l.take n)) := by
  have := showsR_y (w0 := w0) (ow := ow) (vs := shs l) 0 n hr (fun γ => shc_vals γ l) (by rw [shs_len]; omega)
  rw [Nat.zero_mul, List.drop_zero, shs_take] at this
  rwa [take_len hn]
set_option maxRecDepth 100000 in
set_option maxHeartbeats 2000000 in
theorem join_any (l : List Sh) (m : Int) (A : Option Addr) (c : Nat) (w : World) (hl : l.length ≤ 1000) (hc : l.length ≤ c) (hR : RdV w w.heap.size A (shs l)) :
    Calls Tryz.prog 21 #[.slice A l.length c, .int .i64 m] w fun e w' => e = .returned (.tuple #[vU64 (joiU l m), erS (joiE l m)]) ∧ Below w.heap.size w w' := by
  refine calls_v (n := 43) Tryz.func21 rfl Tryz.ntmps21 [(.x (.a (.v (.slice A l.length c)))), .x (.a (.v (.int .i64 m)))] (by simp) (.t [.a (.v (vU64 (joiU l m))), .a (.v (erS (joiE l m)))]) (fun _ => rfl) ?_
  have no : ∀ {n : Int}, joiE l m = n → ¬ n = 0 → vU64 (joiU l m) = .int .u64 0 ∧ erS (joiE l m) = errN n := fun {n} h1 h2 => by
    subst h1
    exact ⟨by unfold joiU; rw [if_neg h2]; rfl, erS_ne h2⟩
  have z0 : n64 0 = 0 := rfl
  by_cases g1 : m < 1
  · obtain ⟨e1, e2⟩ := no (n := 1) (if_pos g1) (by decide)
    simp (config := { maxSteps := 1000000 }) only [g1, e1, e2, errN, push_cast, ↓reduceIte, reduceCtorEq, Nat.reduceEqDiff, Nat.reduceLT]
  simp (config := { maxSteps := 1000000 }) only [g1, push_cast, ↓reduceIte, reduceCtorEq, Nat.reduceEqDiff, Nat.reduceLT]
  (repeat (refine And.intro (by first | omega | decide) ?_))
  have j0 : joiE l m = if sorE l = 0 then (if (l.length : Int) < m then 7 else if lineU (sortP l) m.toNat = true then 0 else 4) else sorE l := if_neg g1
  by_cases g2 : sorE l = 0
  · rw [if_pos g2] at j0
    refine callG_x rfl cb39 rfl (sortedOK g2 (showsR_raw hR hc) (by simp only [push_cast])) (dOk_lt rfl) (by simp only [push_cast]) ?_
    have hsl := sortP_length l
    obtain ⟨h64, hok, hasc⟩ := sorE_ok g2
    have hpc := pcOk_of (l := sortP l) (by omega) (okAll_perm (sortP_perm l) hok) (nodup_of hasc)
    by_cases g3 : (l.length : Int) < m
    · rw [if_pos g3] at j0
      obtain ⟨e1, e2⟩ := no (n := 7) j0 (by decide)
      simp (config := { maxSteps := 1000000 }) only [hsl, half2, g3, e1, e2, errN, push_cast, ↓reduceIte, reduceCtorEq, Nat.reduceEqDiff, Nat.reduceLT]
    rw [if_neg g3] at j0
    obtain ⟨n, rfl⟩ : ∃ n : Nat, m = n := ⟨m.toNat, by omega⟩
    rw [Int.toNat_natCast] at j0
    simp (config := { maxSteps := 1000000 }) only [hsl, half2, g3, push_cast, ↓reduceIte, reduceCtorEq, Nat.reduceEqDiff, Nat.reduceLT]
    (repeat (refine And.intro (by first | omega | decide) ?_))
    refine callG_v rfl cb40 rfl (lineOK n (by omega) hpc (showsR_shc rfl)) (dOk_lt rfl) ?_
    cases g4 : lineU (sortP l) n
    · rw [g4] at j0
      obtain ⟨e1, e2⟩ := no (n := 4) j0 (by decide)
      simp (config := { maxSteps := 1000000 }) only [e1, e2, errN, push_cast, ↓reduceIte, Nat.reduceEqDiff, Nat.reduceLT]
    · rw [g4] at j0
      have j0 : joiE l n = 0 := j0
      have e2 : erS (joiE l n) = .nilIface := by rw [j0]; rfl
      have e1 : joiU l n = thU ((sortP l).take n) 0 n := by
        unfold joiU
        rw [if_pos j0, Int.toNat_natCast]
      have tl := take_len (l := sortP l) (m := n) (by omega)
      have n0 : (0 : Int) ≤ n := by omega
      have n1 : (n : Int) ≤ l.length := by omega
      simp (config := { maxSteps := 1000000 }) only [n0, n1, hsl, half2, Nat.sub_zero, push_cast, ↓Int.toNat_natCast, ↓reduceIte, reduceCtorEq, Nat.reduceEqDiff, Nat.reduceLT, Int.reduceLE]
      (repeat (refine And.intro (by first | omega | decide) ?_))
      have ht := throughOK (w0 := w) (hp := [.onn 71 2 (.c (shc (sortP l)))]) (sv := .x (.a (.y 0 2 0 n))) (l := (sortP l).take n) 0 (pc_take n hpc) (showsR_shy rfl (by omega))
      rw [tl] at ht
      refine callG_v rfl cb41 rfl ht (dOk_lt rfl) ?_
      simp (config := { maxSteps := 1000000 }) only [e1, e2, push_cast, ↓reduceIte, Nat.reduceEqDiff, Nat.reduceLT]
  · rw [if_neg g2] at j0
    obtain ⟨e1, e2⟩ := no j0 g2
    refine callG_v rfl cb39 rfl (sortedNo hl g2 (showsR_raw hR hc)) (dOk_lt rfl) ?_
    simp (config := { maxSteps := 1000000 }) only [e1, e2, errN, push_cast, ↓reduceIte, Nat.reduceEqDiff, Nat.reduceLT]
theorem joinOK {w0 : World} {hp : List Res} {sv : Sv} {l : List Sh} (m : Int) (hl : l.length ≤ 1000) (h : ShowsR w0 No hp sv l.length (shs l)) :
    CallOK Tryz.prog w0 No 21 [sv, .x (.a (.v (.int .i64 m)))] hp (.t [.a (.v (vU64 (joiU l m))), .a (.v (erS (joiE l m)))]) hp := callOK_v fun γ w hS => by
  obtain ⟨A, c, e1, b1, r1⟩ := h γ w hS
  show Calls _ _ #[sv.val γ, .int .i64 m] w _
  rw [e1]
  exact join_any l m A c w hl b1 r1
end Go.Proofs.YtombphphaoeeiaaGreatDoor
/- Shares summed, as the program does it (shamir.Sum). -/
namespace Go.Proofs.YtombphphaoeeiaaGreatDoor
open Go.RowKit
set_option linter.unusedSimpArgs false
set_option linter.unusedVariables false
attribute [local irreducible] Callable CallOK CallG CallM DrawG LoopG symR symM
attribute [local irreducible] shc seenU metU apartU prU wtU wtsU thU powU polyU sortP splS polyN addU sumTo
end Go.Proofs.YtombphphaoeeiaaGreatDoor
