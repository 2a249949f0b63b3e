/- The document's inverse; its places, and whether they may be. -/
import Derived.Test.YteiifdpikcnbgaaDoorSp0
import Derived.Test.YteiifdpikcnbgaaDoorSo3
namespace Go.Proofs.YteiifdpikcnbgaaDoor
open Go.RowKit
set_option linter.unusedSimpArgs false
set_option linter.unusedVariables false
attribute [local irreducible] Callable CallOK CallG CallM DrawG LoopG symR symM
attribute [local irreducible] shc seenU metU apartU prU wtU wtsU thU powU polyU sortP splS polyN addU subU fpMul euS plT
set_option maxRecDepth 100000 in
set_option maxHeartbeats 2000000 in
theorem rInv_any (a : UInt64) (ha : ¬ a % fpP = 0) (w : World) : Calls Tryd.prog 113 #[vU64 a] w fun e w' => e = .returned (vU64 (powU a 2305843009213693949)) ∧ Below w.heap.size w w' := by
  refine calls_v Tryd.func113 rfl Tryd.ntmps113 [.x (.a (.v (vU64 a)))] (by simp) (.x (.a (.v (vU64 (powU a 2305843009213693949))))) (fun _ => rfl) ?_
  have hP0 : ¬ (2305843009213693951 : UInt64) = 0 := by decide
  have hlit : (2305843009213693951 : UInt64) = fpP := rfl
  have hP1 : ¬ fpP = 0 := by decide
  simp (config := { maxSteps := 1000000 }) only [hP0, hP1, hlit, undef, push_cast, ↓Int.toNat_natCast, ↓Int.cast_ofNat_Int, Int.cast_ofNat_Int, ↓reduceIte, reduceCtorEq, Nat.reduceEqDiff, Nat.reduceLT, Nat.reduceLeDiff, Nat.reduceAdd, Nat.reduceSub, Nat.reduceMul, Int.reduceNeg, Int.reduceLE, Int.reduceLT, Int.reduceToNat, Int.reduceAdd, Int.reduceSub, Int.reduceMul, Int.reduceEq]
  (repeat (refine And.intro (by first | omega | decide) ?_))
  refine loop_rule (ι := Nat) (fun i => ⟨[(3, .x (.a (.v (vU64 (euS a i).r)))), (4, .x (.a (.v (vU64 (euS a i).s)))), (5, .x (.a (.v (vU64 (euS a i).x)))), (6, .x (.a (.v (vU64 (euS a i).y)))), (7, .x (.a (.v (.int .i64 i))))], []⟩) (fun i => i ≤ 100) (fun i => 100 - i) 0 [] (by omega) ?_ ?_
  · simp (config := { maxSteps := 1000000 }) only [euS_zero, show n64 1 = 1 from rfl, show n64 0 = 0 from rfl, show n64 2305843009213693951 = 2305843009213693951 from rfl, push_cast, ↓Int.toNat_natCast, ↓Int.cast_ofNat_Int, Int.cast_ofNat_Int, ↓reduceIte, reduceCtorEq, Nat.reduceEqDiff, Nat.reduceLT, Nat.reduceLeDiff, Nat.reduceAdd, Nat.reduceSub, Nat.reduceMul, Int.reduceNeg, Int.reduceLE, Int.reduceLT, Int.reduceToNat, Int.reduceAdd, Int.reduceSub, Int.reduceMul, Int.reduceEq]
  · intro i hi
    have fin : ¬ 0 < (euS a i).s → (euS a i).r = 1 ∧ (euS a i).x = powU a 2305843009213693949 := fun h => eu_done ha h
    have hstep := fun h => euS_step (a := a) (k := i) h
    have hend : i = 100 → ¬ 0 < (euS a i).s := fun h => by subst h; exact eu_end a
    by_cases hlt : (i : Int) < 100
    · by_cases hs : 0 < (euS a i).s
      · have hst := hstep hs
        generalize euS a i = E at *
        have hs0 : ¬ E.s = 0 := fun e => by rw [e] at hs; exact absurd hs (by decide)
        simp (config := { maxSteps := 1000000 }) only [hlt, hs, hs0, show n64 0 = 0 from rfl, undef, push_cast, ↓Int.toNat_natCast, ↓Int.cast_ofNat_Int, Int.cast_ofNat_Int, ↓reduceIte, reduceCtorEq, Nat.reduceEqDiff, Nat.reduceLT, Nat.reduceLeDiff, Nat.reduceAdd, Nat.reduceSub, Nat.reduceMul, Int.reduceNeg, Int.reduceLE, Int.reduceLT, Int.reduceToNat, Int.reduceAdd, Int.reduceSub, Int.reduceMul, Int.reduceEq]
        (repeat (refine And.intro (by first | omega | decide) ?_))
        refine callG_v rfl cb102 rfl (refMulK _ _) (dOk_lt rfl) ?_
        simp (config := { maxSteps := 1000000 }) only [undef, push_cast, ↓Int.toNat_natCast, ↓Int.cast_ofNat_Int, Int.cast_ofNat_Int, ↓reduceIte, reduceCtorEq, Nat.reduceEqDiff, Nat.reduceLT, Nat.reduceLeDiff, Nat.reduceAdd, Nat.reduceSub, Nat.reduceMul, Int.reduceNeg, Int.reduceLE, Int.reduceLT, Int.reduceToNat, Int.reduceAdd, Int.reduceSub, Int.reduceMul, Int.reduceEq]
        refine callG_v rfl cb78 rfl (rSubK _ _) (dOk_lt rfl) ?_
        simp (config := { maxSteps := 1000000 }) only [undef, push_cast, ↓Int.toNat_natCast, ↓Int.cast_ofNat_Int, Int.cast_ofNat_Int, ↓reduceIte, reduceCtorEq, Nat.reduceEqDiff, Nat.reduceLT, Nat.reduceLeDiff, Nat.reduceAdd, Nat.reduceSub, Nat.reduceMul, Int.reduceNeg, Int.reduceLE, Int.reduceLT, Int.reduceToNat, Int.reduceAdd, Int.reduceSub, Int.reduceMul, Int.reduceEq]
        (repeat (refine And.intro (by first | omega | decide) ?_))
        refine loopK_normal (i + 1) [] (by omega) (by omega) ?_
        simp (config := { maxSteps := 1000000 }) only [hst, push_cast, ↓Int.toNat_natCast, ↓Int.cast_ofNat_Int, Int.cast_ofNat_Int, ↓reduceIte, reduceCtorEq, Nat.reduceEqDiff, Nat.reduceLT, Nat.reduceLeDiff, Nat.reduceAdd, Nat.reduceSub, Nat.reduceMul, Int.reduceNeg, Int.reduceLE, Int.reduceLT, Int.reduceToNat, Int.reduceAdd, Int.reduceSub, Int.reduceMul, Int.reduceEq]
      · obtain ⟨e1, e2⟩ := fin hs
        simp (config := { maxSteps := 1000000 }) only [hlt, hs, e1, e2, show n64 0 = 0 from rfl, undef, push_cast, ↓Int.toNat_natCast, ↓Int.cast_ofNat_Int, Int.cast_ofNat_Int, ↓reduceIte, reduceCtorEq, Nat.reduceEqDiff, Nat.reduceLT, Nat.reduceLeDiff, Nat.reduceAdd, Nat.reduceSub, Nat.reduceMul, Int.reduceNeg, Int.reduceLE, Int.reduceLT, Int.reduceToNat, Int.reduceAdd, Int.reduceSub, Int.reduceMul, Int.reduceEq]
    · have hs := hend (by omega)
      obtain ⟨e1, e2⟩ := fin hs
      simp (config := { maxSteps := 1000000 }) only [hlt, e1, e2, undef, push_cast, ↓Int.toNat_natCast, ↓Int.cast_ofNat_Int, Int.cast_ofNat_Int, ↓reduceIte, reduceCtorEq, Nat.reduceEqDiff, Nat.reduceLT, Nat.reduceLeDiff, Nat.reduceAdd, Nat.reduceSub, Nat.reduceMul, Int.reduceNeg, Int.reduceLE, Int.reduceLT, Int.reduceToNat, Int.reduceAdd, Int.reduceSub, Int.reduceMul, Int.reduceEq]
theorem rInvK {w0 : World} {hp : List Res} (a : UInt64) (ha : ¬ a % fpP = 0) : CallOK Tryd.prog w0 No 113 [.x (.a (.v (vU64 a)))] hp (.x (.a (.v (vU64 (powU a 2305843009213693949))))) hp := callOK_v fun _ w _ => rInv_any a ha w
/-! ### Apart -/
def rapN (xs : List UInt64) : Int := if xs.length ≤ 64 then (if apartU xs = true then 0 else 8) else 1
theorem apart_at {xs : List UInt64} : apartU xs = true ↔ ∀ i k, k < i → i < xs.length → ix xs i % fpP ≠ ix xs k % fpP := by
  rw [apartU_q]
  constructor
  · intro h i k hk hi e
    have := h i k hi (by omega) (n64_qU (by rw [e]))
    omega
  · intro h i j hi hj e
    have hm : ix xs i % fpP = ix xs j % fpP := by
      have := n64_of_qU e
      exact n64_inj.1 this
    rcases Nat.lt_trichotomy i j with hl | hl | hl
    · exact absurd hm.symm (h j i hl hj)
    · exact hl
    · exact absurd hm (h i j hl hi)
set_option maxRecDepth 100000 in
set_option maxHeartbeats 2000000 in
theorem rApart_any (xs : List UInt64) (A : Option Addr) (c : Nat) (w : World) (hR : RdV w w.heap.size A (xs.map vU64)) : Calls Tryd.prog 111 #[.slice A xs.length c] w fun e w' => e = .returned (.int .i64 (rapN xs)) ∧ Below w.heap.size w w' := by
  have F := FM.of hR
  refine calls_v Tryd.func111 rfl Tryd.ntmps111 [(.x (.a (.v (.slice A xs.length c))))] (by simp) (.x (.a (.v (.int .i64 (rapN xs))))) (fun _ => rfl) ?_
  have hP0 : ¬ (2305843009213693951 : UInt64) = 0 := by decide
  have hlit : (2305843009213693951 : UInt64) = fpP := rfl
  have hP1 : ¬ fpP = 0 := by decide
  by_cases h64 : (64 : Int) < xs.length
  · have e : rapN xs = 1 := if_neg (by omega)
    simp (config := { maxSteps := 1000000 }) only [h64, e, undef, push_cast, ↓Int.toNat_natCast, ↓Int.cast_ofNat_Int, Int.cast_ofNat_Int, ↓reduceIte, reduceCtorEq, Nat.reduceEqDiff, Nat.reduceLT, Nat.reduceLeDiff, Nat.reduceAdd, Nat.reduceSub, Nat.reduceMul, Int.reduceNeg, Int.reduceLE, Int.reduceLT, Int.reduceToNat, Int.reduceAdd, Int.reduceSub, Int.reduceMul, Int.reduceEq]
  have e0 : rapN xs = if apartU xs = true then 0 else 8 := if_pos (by omega)
  simp (config := { maxSteps := 1000000 }) only [h64, undef, push_cast, ↓Int.toNat_natCast, ↓Int.cast_ofNat_Int, Int.cast_ofNat_Int, ↓reduceIte, reduceCtorEq, Nat.reduceEqDiff, Nat.reduceLT, Nat.reduceLeDiff, Nat.reduceAdd, Nat.reduceSub, Nat.reduceMul, Int.reduceNeg, Int.reduceLE, Int.reduceLT, Int.reduceToNat, Int.reduceAdd, Int.reduceSub, Int.reduceMul, Int.reduceEq]
  (repeat (refine And.intro (by first | omega | decide) ?_))
  refine loop_rule (ι := Nat) (fun i => ⟨[(0, (.x (.a (.v (.slice A xs.length c))))), (3, .x (.a (.v (.int .i64 i))))], []⟩) (fun i => i ≤ xs.length ∧ ∀ j k, k < j → j < i → ix xs j % fpP ≠ ix xs k % fpP) (fun i => xs.length - i) 0 [] ⟨by omega, fun j k _ h => absurd h (Nat.not_lt_zero _)⟩ ?_ ?_
  · simp (config := { maxSteps := 1000000 }) only [push_cast, ↓Int.toNat_natCast, ↓Int.cast_ofNat_Int, Int.cast_ofNat_Int, ↓reduceIte, reduceCtorEq, Nat.reduceEqDiff, Nat.reduceLT, Nat.reduceLeDiff, Nat.reduceAdd, Nat.reduceSub, Nat.reduceMul, Int.reduceNeg, Int.reduceLE, Int.reduceLT, Int.reduceToNat, Int.reduceAdd, Int.reduceSub, Int.reduceMul, Int.reduceEq]
  · rintro i ⟨hi, hj⟩
    by_cases hlt : (i : Int) < xs.length
    · have i0 : (0 : Int) ≤ i := by omega
      have c0 := F.cell i (by omega)
      have o0 := F.ok i (by omega)
      have hA := F.some_ (by omega)
      simp (config := { maxSteps := 1000000 }) only [hlt, undef, push_cast, ↓Int.toNat_natCast, ↓Int.cast_ofNat_Int, Int.cast_ofNat_Int, ↓reduceIte, reduceCtorEq, Nat.reduceEqDiff, Nat.reduceLT, Nat.reduceLeDiff, Nat.reduceAdd, Nat.reduceSub, Nat.reduceMul, Int.reduceNeg, Int.reduceLE, Int.reduceLT, Int.reduceToNat, Int.reduceAdd, Int.reduceSub, Int.reduceMul, Int.reduceEq]
      (repeat (refine And.intro (by first | omega | decide) ?_))
      refine loop_rule (ι := Nat) (fun k => ⟨[(0, (.x (.a (.v (.slice A xs.length c))))), (3, .x (.a (.v (.int .i64 i)))), (4, .x (.a (.v (.int .i64 k))))], []⟩) (fun k => k ≤ i ∧ ∀ j, j < k → ix xs i % fpP ≠ ix xs j % fpP) (fun k => i - k) 0 [] ⟨by omega, fun j h => absurd h (Nat.not_lt_zero _)⟩ ?_ ?_
      · simp (config := { maxSteps := 1000000 }) only [push_cast, ↓Int.toNat_natCast, ↓Int.cast_ofNat_Int, Int.cast_ofNat_Int, ↓reduceIte, reduceCtorEq, Nat.reduceEqDiff, Nat.reduceLT, Nat.reduceLeDiff, Nat.reduceAdd, Nat.reduceSub, Nat.reduceMul, Int.reduceNeg, Int.reduceLE, Int.reduceLT, Int.reduceToNat, Int.reduceAdd, Int.reduceSub, Int.reduceMul, Int.reduceEq]
      · rintro k ⟨hk, hkk⟩
        by_cases hlk : (k : Int) < i
        · have k0 : (0 : Int) ≤ k := by omega
          have k1 : (k : Int) < xs.length := by omega
          have c1 := F.cell k (by omega)
          have o1 := F.ok k (by omega)
          simp (config := { maxSteps := 1000000 }) only [hlk, undef, push_cast, ↓Int.toNat_natCast, ↓Int.cast_ofNat_Int, Int.cast_ofNat_Int, ↓reduceIte, reduceCtorEq, Nat.reduceEqDiff, Nat.reduceLT, Nat.reduceLeDiff, Nat.reduceAdd, Nat.reduceSub, Nat.reduceMul, Int.reduceNeg, Int.reduceLE, Int.reduceLT, Int.reduceToNat, Int.reduceAdd, Int.reduceSub, Int.reduceMul, Int.reduceEq]
          (repeat (refine And.intro (by first | omega | decide) ?_))
          refine draw_rule [(0, true), (1, true), (2, true), (3, true), (4, true), (5, true), (6, true), (7, true), (8, true), (9, true), (10, true)] (by kernel_rfl) (by kernel_rfl) rfl (by kernel_rfl) ?_
          by_cases he : ix xs i % fpP = ix xs k % fpP
          · have e : rapN xs = 8 := by rw [e0, if_neg fun h => apart_at.1 h i k (by omega) (by omega) he]
            simp (config := { maxSteps := 1000000 }) only [hlt, i0, k0, k1, c0, o0, c1, o1, hA, hP0, hP1, hlit, he, e, undef, push_cast, ↓Int.toNat_natCast, ↓Int.cast_ofNat_Int, Int.cast_ofNat_Int, ↓reduceIte, reduceCtorEq, Nat.reduceEqDiff, Nat.reduceLT, Nat.reduceLeDiff, Nat.reduceAdd, Nat.reduceSub, Nat.reduceMul, Int.reduceNeg, Int.reduceLE, Int.reduceLT, Int.reduceToNat, Int.reduceAdd, Int.reduceSub, Int.reduceMul, Int.reduceEq]
          · simp (config := { maxSteps := 1000000 }) only [hlt, i0, k0, k1, c0, o0, c1, o1, hA, hP0, hP1, hlit, he, undef, push_cast, ↓Int.toNat_natCast, ↓Int.cast_ofNat_Int, Int.cast_ofNat_Int, ↓reduceIte, reduceCtorEq, Nat.reduceEqDiff, Nat.reduceLT, Nat.reduceLeDiff, Nat.reduceAdd, Nat.reduceSub, Nat.reduceMul, Int.reduceNeg, Int.reduceLE, Int.reduceLT, Int.reduceToNat, Int.reduceAdd, Int.reduceSub, Int.reduceMul, Int.reduceEq]
            (repeat (refine And.intro (by first | omega | decide) ?_))
            refine loopK_normal (k + 1) [] ⟨by omega, fun j h => ?_⟩ (by omega) ?_
            · by_cases e : j = k
              · rw [e]; exact he
              · exact hkk j (by omega)
            · simp (config := { maxSteps := 1000000 }) only [push_cast, ↓Int.toNat_natCast, ↓Int.cast_ofNat_Int, Int.cast_ofNat_Int, ↓reduceIte, reduceCtorEq, Nat.reduceEqDiff, Nat.reduceLT, Nat.reduceLeDiff, Nat.reduceAdd, Nat.reduceSub, Nat.reduceMul, Int.reduceNeg, Int.reduceLE, Int.reduceLT, Int.reduceToNat, Int.reduceAdd, Int.reduceSub, Int.reduceMul, Int.reduceEq]
        · simp (config := { maxSteps := 1000000 }) only [hlk, undef, push_cast, ↓Int.toNat_natCast, ↓Int.cast_ofNat_Int, Int.cast_ofNat_Int, ↓reduceIte, reduceCtorEq, Nat.reduceEqDiff, Nat.reduceLT, Nat.reduceLeDiff, Nat.reduceAdd, Nat.reduceSub, Nat.reduceMul, Int.reduceNeg, Int.reduceLE, Int.reduceLT, Int.reduceToNat, Int.reduceAdd, Int.reduceSub, Int.reduceMul, Int.reduceEq]
          (repeat (refine And.intro (by first | omega | decide) ?_))
          refine loopK_normal (i + 1) [] ⟨by omega, fun j k' h1 h2 => ?_⟩ (by omega) ?_
          · by_cases e : j = i
            · rw [e]; exact hkk k' (by omega)
            · exact hj j k' h1 (by omega)
          · simp (config := { maxSteps := 1000000 }) only [push_cast, ↓Int.toNat_natCast, ↓Int.cast_ofNat_Int, Int.cast_ofNat_Int, ↓reduceIte, reduceCtorEq, Nat.reduceEqDiff, Nat.reduceLT, Nat.reduceLeDiff, Nat.reduceAdd, Nat.reduceSub, Nat.reduceMul, Int.reduceNeg, Int.reduceLE, Int.reduceLT, Int.reduceToNat, Int.reduceAdd, Int.reduceSub, Int.reduceMul, Int.reduceEq]
    · have e : rapN xs = 0 := by rw [e0, if_pos (apart_at.2 fun j k h1 h2 => hj j k h1 (by omega))]
      simp (config := { maxSteps := 1000000 }) only [hlt, e, undef, push_cast, ↓Int.toNat_natCast, ↓Int.cast_ofNat_Int, Int.cast_ofNat_Int, ↓reduceIte, reduceCtorEq, Nat.reduceEqDiff, Nat.reduceLT, Nat.reduceLeDiff, Nat.reduceAdd, Nat.reduceSub, Nat.reduceMul, Int.reduceNeg, Int.reduceLE, Int.reduceLT, Int.reduceToNat, Int.reduceAdd, Int.reduceSub, Int.reduceMul, Int.reduceEq]
theorem rApartOK {w0 : World} {hp : List Res} {sv : Sv} {xs : List UInt64} (h : Shows w0 No hp sv (xs.map vU64)) : CallOK Tryd.prog w0 No 111 [sv] hp (.x (.a (.v (.int .i64 (rapN xs))))) hp := callOK_v fun γ w hS => by
  obtain ⟨A, c, e1, b1, r1⟩ := h γ w hS
  rw [List.length_map] at e1
  show Calls _ _ #[sv.val γ] w _
  rw [e1]
  exact rApart_any xs A c w r1
theorem rapN_ok {xs : List UInt64} (h : pcOk xs = true) : rapN xs = 0 := by
  unfold pcOk at h
  rw [Bool.and_eq_true, decide_eq_true_eq] at h
  unfold rapN
  rw [if_pos h.1, if_pos h.2]
/-! ### The places -/
set_option maxRecDepth 100000 in
set_option maxHeartbeats 1000000 in
theorem rxs_any (l : List Sh) (A : Option Addr) (c : Nat) (w : World) (hl : l.length ≤ 1000) (hR : RdV w w.heap.size A (shs l)) : Calls Tryd.prog 112 #[.slice A l.length c] w fun e w' => ∃ v, e = .returned v ∧ Own w' w.heap.size 23 v ((l.map (·.1)).map vU64) ∧ Below w.heap.size w w' := by
  have F := FS2.of hR
  have h0 := fun h => calls_own (P := Tryd.prog) (w := w) (n := 20) Tryd.func112 rfl Tryd.ntmps112 [(.x (.a (.v (.slice A l.length c))))] (by simp) 23 (.u64 (plT l l.length)) (vs := (l.map (·.1)).map vU64) (fun _ => by show List.map vU64 _ = _; rw [plT_all]) h
  refine h0 ?_
  clear h0
  simp (config := { maxSteps := 1000000 }) only [undef, push_cast, ↓Int.toNat_natCast, ↓Int.cast_ofNat_Int, Int.cast_ofNat_Int, ↓reduceIte, reduceCtorEq, Nat.reduceEqDiff, Nat.reduceLT, Nat.reduceLeDiff, Nat.reduceAdd, Nat.reduceSub, Nat.reduceMul, Int.reduceNeg, Int.reduceLE, Int.reduceLT, Int.reduceToNat, Int.reduceAdd, Int.reduceSub, Int.reduceMul, Int.reduceEq]
  (repeat (refine And.intro (by first | omega | decide) ?_))
  refine loop_ghost 3 23 (.u64 []) rfl rfl trivial (by simp only [push_cast, ↓Int.toNat_natCast, ↓Int.cast_ofNat_Int, Int.cast_ofNat_Int, ↓reduceIte, reduceCtorEq, Nat.reduceEqDiff, Nat.reduceLT, Nat.reduceLeDiff, Nat.reduceAdd, Nat.reduceSub, Nat.reduceMul, Int.reduceNeg, Int.reduceLE, Int.reduceLT, Int.reduceToNat, Int.reduceAdd, Int.reduceSub, Int.reduceMul, Int.reduceEq]) ?_
  refine loop_rule (ι := Nat) (fun i => ⟨[(0, (.x (.a (.v (.slice A l.length c))))), (3, .x (.a (.o 0))), (4, .x (.a (.v (.int .i64 i))))], [.own 23 (.u64 (plT l i))]⟩) (fun i => i ≤ l.length) (fun i => l.length - i) 0 [0] (by omega) ?_ ?_
  · simp (config := { maxSteps := 1000000 }) only [plT_zero, push_cast, ↓Int.toNat_natCast, ↓Int.cast_ofNat_Int, Int.cast_ofNat_Int, ↓reduceIte, reduceCtorEq, Nat.reduceEqDiff, Nat.reduceLT, Nat.reduceLeDiff, Nat.reduceAdd, Nat.reduceSub, Nat.reduceMul, Int.reduceNeg, Int.reduceLE, Int.reduceLT, Int.reduceToNat, Int.reduceAdd, Int.reduceSub, Int.reduceMul, Int.reduceEq]
  · intro i hi
    by_cases hlt : (i : Int) < l.length
    · have i0 : (0 : Int) ≤ i := by omega
      have c0 := F.c0 i (by omega)
      have o0 := F.ok0 i (by omega)
      have hA := F.some_ (by omega)
      have hb := plT_length l i
      have b1 : (i + 1) * 8 ≤ 140737488355328 := by omega
      have b2 : i + 1 ≤ 2 ^ 63 - 1 := by omega
      have hs := (plT_succ l i).symm
      simp (config := { maxSteps := 1000000 }) only [hlt, i0, c0, o0, hA, hb, b1, b2, hs, pAdd_zero, pAdd_add, pAdd_isSome, undef, push_cast, ↓Int.toNat_natCast, ↓Int.cast_ofNat_Int, Int.cast_ofNat_Int, ↓reduceIte, reduceCtorEq, Nat.reduceEqDiff, Nat.reduceLT, Nat.reduceLeDiff, Nat.reduceAdd, Nat.reduceSub, Nat.reduceMul, Int.reduceNeg, Int.reduceLE, Int.reduceLT, Int.reduceToNat, Int.reduceAdd, Int.reduceSub, Int.reduceMul, Int.reduceEq]
      (repeat (refine And.intro (by first | omega | decide) ?_))
      refine loopK_normal (i + 1) [2] (by omega) (by omega) ?_
      simp (config := { maxSteps := 1000000 }) only [push_cast, ↓Int.toNat_natCast, ↓Int.cast_ofNat_Int, Int.cast_ofNat_Int, ↓reduceIte, reduceCtorEq, Nat.reduceEqDiff, Nat.reduceLT, Nat.reduceLeDiff, Nat.reduceAdd, Nat.reduceSub, Nat.reduceMul, Int.reduceNeg, Int.reduceLE, Int.reduceLT, Int.reduceToNat, Int.reduceAdd, Int.reduceSub, Int.reduceMul, Int.reduceEq]
    · have e : i = l.length := by omega
      subst e
      simp (config := { maxSteps := 1000000 }) only [hlt, undef, ownT, push_cast, ↓Int.toNat_natCast, ↓Int.cast_ofNat_Int, Int.cast_ofNat_Int, ↓reduceIte, reduceCtorEq, Nat.reduceEqDiff, Nat.reduceLT, Nat.reduceLeDiff, Nat.reduceAdd, Nat.reduceSub, Nat.reduceMul, Int.reduceNeg, Int.reduceLE, Int.reduceLT, Int.reduceToNat, Int.reduceAdd, Int.reduceSub, Int.reduceMul, Int.reduceEq]
theorem rxsOK {w0 : World} {hp : List Res} {sv : Sv} {l : List Sh} (hl : l.length ≤ 1000) (h : ShowsR w0 No hp sv l.length (shs l)) (hbr : ∀ r ∈ hp, Res.bnd hp.length r) : CallOK Tryd.prog w0 No 112 [sv] hp (.x (.a (.o hp.length))) (hp ++ [.own 23 (.u64 (l.map (·.1)))]) := callOK_own hbr trivial fun γ w hS => by
  obtain ⟨A, c, e1, b1, r1⟩ := h γ w hS
  show Calls _ _ #[sv.val γ] w _
  rw [e1]
  exact rxs_any l A c w hl r1
end Go.Proofs.YteiifdpikcnbgaaDoor
