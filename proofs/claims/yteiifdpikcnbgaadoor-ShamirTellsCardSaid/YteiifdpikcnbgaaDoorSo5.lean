/- Shares summed, as the program does it (shamir.Sum). -/
import Derived.Test.YteiifdpikcnbgaaDoorSo4
namespace Go.Proofs.YteiifdpikcnbgaaDoor
open Go.RowKit
set_option linter.unusedSimpArgs false
set_option linter.unusedVariables false
theorem sumTo_zero (a b : List Sh) : sumTo a b 0 = a := rfl
theorem sumTo_succ (a b : List Sh) (k : Nat) : sumTo a b (k + 1) = (sumTo a b k).set k ((ix a k).1, addU (ix a k).2 (ix b k).2) := rfl
theorem sumTo_length (a b : List Sh) (k : Nat) : (sumTo a b k).length = a.length := by
  induction k with
  | zero => rfl
  | succ k ih => rw [sumTo_succ, List.length_set, ih]
theorem sumTo_late (a b : List Sh) (k i : Nat) (h : k ≤ i) : ix (sumTo a b k) i = ix a i := by
  induction k with
  | zero => rfl
  | succ k ih => rw [sumTo_succ, ix_set_ne _ _ _ _ (by omega), ih (by omega)]
theorem sumTo_early (a b : List Sh) (k i : Nat) (h : i < k) (hk : k ≤ a.length) : ix (sumTo a b k) i = ((ix a i).1, addU (ix a i).2 (ix b i).2) := by
  induction k with
  | zero => omega
  | succ k ih =>
    rw [sumTo_succ]
    by_cases e : i = k
    · subst e
      rw [ix_set_eq _ _ _ (by rw [sumTo_length]; omega)]
    · rw [ix_set_ne _ _ _ _ (by omega), ih (by omega) (by omega)]
theorem sameX_iff {a b : List Sh} : sameX a b = true ↔ ∀ i, i < a.length → (ix a i).1 = (ix b i).1 := by
  unfold sameX
  simp only [List.all_eq_true, List.mem_range, decide_eq_true_eq]
attribute [local irreducible] Callable CallOK CallG CallM DrawG LoopG symR symM
attribute [local irreducible] shc seenU metU apartU prU wtU wtsU thU powU polyU sortP splS polyN addU sumTo
theorem sumE_ok {l m : List Sh} (h : sumE l m = 0) : sorE l = 0 ∧ sorE m = 0 ∧ l.length = m.length ∧ sameX (sortP l) (sortP m) = true := by
  unfold sumE at h
  split at h
  · rename_i h1
    split at h
    · rename_i h2
      split at h
      · rename_i h3
        split at h
        · rename_i h4
          exact ⟨h1, h2, h3, h4⟩
        · cases h
      · cases h
    · rename_i h2
      exact absurd h h2
  · rename_i h1
    exact absurd h h1
set_option maxRecDepth 100000 in
set_option maxHeartbeats 2000000 in
theorem sum_yes (l m : List Sh) (A : Option Addr) (c : Nat) (A2 : Option Addr) (c2 : Nat) (w : World) (hs : sumE l m = 0) (hc : l.length ≤ c) (hc2 : m.length ≤ c2) (hR : RdV w w.heap.size A (shs l)) (hR2 : RdV w w.heap.size A2 (shs m)) :
    Calls Tryd.prog 43 (List.map (Sv.val []) [(.x (.a (.v (.slice A l.length c)))), (.x (.a (.v (.slice A2 m.length c2))))]).toArray w fun e w' => ∃ γ1, e = .returned ((Sv.t [.a (.o 0), .a (.v .nilIface)]).val γ1) ∧ Sat w No γ1 [.onn 76 2 (.c (shc (sumTo (sortP l) (sortP m) l.length)))] w' := by
  obtain ⟨h1, h2, h3, h4⟩ := sumE_ok hs
  have h64 := (sorE_ok h1).1
  refine calls_fun (n := 66) Tryd.func43 rfl Tryd.ntmps43 [(.x (.a (.v (.slice A l.length c)))), (.x (.a (.v (.slice A2 m.length c2))))] (Sat.init w No) (by simp) _ _ ?_
  simp (config := { maxSteps := 1000000 }) only [undef, push_cast, ↓Int.toNat_natCast, ↓Int.cast_ofNat_Int, Int.cast_ofNat_Int, ↓reduceIte, reduceCtorEq, Nat.reduceEqDiff, Nat.reduceLT, Nat.reduceLeDiff, Nat.reduceAdd, Nat.reduceSub, Nat.reduceMul, Int.reduceNeg, Int.reduceLE, Int.reduceLT, Int.reduceToNat, Int.reduceAdd, Int.reduceSub, Int.reduceMul, Int.reduceEq]
  refine callG_x rfl cb39 rfl (sortedOK h1 (showsR_raw hR hc) (by simp only [push_cast, ↓Int.toNat_natCast, ↓Int.cast_ofNat_Int, Int.cast_ofNat_Int, ↓reduceIte, reduceCtorEq, Nat.reduceEqDiff, Nat.reduceLT, Nat.reduceLeDiff, Nat.reduceAdd, Nat.reduceSub, Nat.reduceMul, Int.reduceNeg, Int.reduceLE, Int.reduceLT, Int.reduceToNat, Int.reduceAdd, Int.reduceSub, Int.reduceMul, Int.reduceEq])) (dOk_lt rfl) (by simp only [push_cast, ↓Int.toNat_natCast, ↓Int.cast_ofNat_Int, Int.cast_ofNat_Int, ↓reduceIte, reduceCtorEq, Nat.reduceEqDiff, Nat.reduceLT, Nat.reduceLeDiff, Nat.reduceAdd, Nat.reduceSub, Nat.reduceMul, Int.reduceNeg, Int.reduceLE, Int.reduceLT, Int.reduceToNat, Int.reduceAdd, Int.reduceSub, Int.reduceMul, Int.reduceEq]) ?_
  simp (config := { maxSteps := 1000000 }) only [undef, push_cast, ↓Int.toNat_natCast, ↓Int.cast_ofNat_Int, Int.cast_ofNat_Int, ↓reduceIte, reduceCtorEq, Nat.reduceEqDiff, Nat.reduceLT, Nat.reduceLeDiff, Nat.reduceAdd, Nat.reduceSub, Nat.reduceMul, Int.reduceNeg, Int.reduceLE, Int.reduceLT, Int.reduceToNat, Int.reduceAdd, Int.reduceSub, Int.reduceMul, Int.reduceEq]
  refine callG_x rfl cb39 rfl (sortedOK h2 (showsR_raw hR2 hc2) (by simp only [push_cast, ↓Int.toNat_natCast, ↓Int.cast_ofNat_Int, Int.cast_ofNat_Int, ↓reduceIte, reduceCtorEq, Nat.reduceEqDiff, Nat.reduceLT, Nat.reduceLeDiff, Nat.reduceAdd, Nat.reduceSub, Nat.reduceMul, Int.reduceNeg, Int.reduceLE, Int.reduceLT, Int.reduceToNat, Int.reduceAdd, Int.reduceSub, Int.reduceMul, Int.reduceEq])) (dOk_lt rfl) (by simp only [push_cast, ↓Int.toNat_natCast, ↓Int.cast_ofNat_Int, Int.cast_ofNat_Int, ↓reduceIte, reduceCtorEq, Nat.reduceEqDiff, Nat.reduceLT, Nat.reduceLeDiff, Nat.reduceAdd, Nat.reduceSub, Nat.reduceMul, Int.reduceNeg, Int.reduceLE, Int.reduceLT, Int.reduceToNat, Int.reduceAdd, Int.reduceSub, Int.reduceMul, Int.reduceEq]) ?_
  have e1 := sortP_length l
  have e2 := sortP_length m
  have hX := sameX_iff.1 h4
  rw [← h3] at e2
  generalize sortP l = S at *
  generalize sortP m = T at *
  simp (config := { maxSteps := 1000000 }) only [e1, e2, half2, undef, push_cast, ↓Int.toNat_natCast, ↓Int.cast_ofNat_Int, Int.cast_ofNat_Int, ↓reduceIte, reduceCtorEq, Nat.reduceEqDiff, Nat.reduceLT, Nat.reduceLeDiff, Nat.reduceAdd, Nat.reduceSub, Nat.reduceMul, Int.reduceNeg, Int.reduceLE, Int.reduceLT, Int.reduceToNat, Int.reduceAdd, Int.reduceSub, Int.reduceMul, Int.reduceEq]
  (repeat (refine And.intro (by first | omega | decide) ?_))
  refine loop_rule (ι := Nat) (fun i => ⟨[(6, .x (.a (.o 0))), (8, .x (.a (.o 1))), (33, .x (.a (.v (.int .i64 l.length)))), (34, .x (.a (.v (.int .i64 i))))], [.onn 76 2 (.c (shc (sumTo S T i))), .onn 76 2 (.c (shc T))]⟩) (fun i => i ≤ l.length) (fun i => l.length - i) 0 [0, 1] (by omega) ?_ ?_
  · simp (config := { maxSteps := 1000000 }) only [sumTo_zero, push_cast, ↓Int.toNat_natCast, ↓Int.cast_ofNat_Int, Int.cast_ofNat_Int, ↓reduceIte, reduceCtorEq, Nat.reduceEqDiff, Nat.reduceLT, Nat.reduceLeDiff, Nat.reduceAdd, Nat.reduceSub, Nat.reduceMul, Int.reduceNeg, Int.reduceLE, Int.reduceLT, Int.reduceToNat, Int.reduceAdd, Int.reduceSub, Int.reduceMul, Int.reduceEq]
  · intro i hi
    by_cases hlt : (i : Int) < l.length
    · have i0 : (0 : Int) ≤ i := by omega
      have i1 : i < l.length := by omega
      have i2 : i * 2 < l.length * 2 := by omega
      have i3 : i * 2 + 1 < l.length * 2 := by omega
      have hU := sumTo_late S T i i (Nat.le_refl _)
      have hUl := sumTo_length S T i
      have hsucc := sumTo_succ S T i
      generalize sumTo S T i = U at *
      have q0 := shc_get0 U i (by omega)
      have q1 := shc_get1 U i (by omega)
      have p0 := shc_get0 T i (by omega)
      have p1 := shc_get1 T i (by omega)
      have st := shc_set1 U i (addU (ix S i).2 (ix T i).2) (by omega)
      rw [hU] at q0 q1 st
      rw [← hsucc] at st
      have hx := hX i (by omega)
      rw [e1] at hUl
      simp (config := { maxSteps := 1000000 }) only [hlt, undef, push_cast, ↓Int.toNat_natCast, ↓Int.cast_ofNat_Int, Int.cast_ofNat_Int, ↓reduceIte, reduceCtorEq, Nat.reduceEqDiff, Nat.reduceLT, Nat.reduceLeDiff, Nat.reduceAdd, Nat.reduceSub, Nat.reduceMul, Int.reduceNeg, Int.reduceLE, Int.reduceLT, Int.reduceToNat, Int.reduceAdd, Int.reduceSub, Int.reduceMul, Int.reduceEq]
      (repeat (refine And.intro (by first | omega | decide) ?_))
      refine draw_rule [(0, true), (1, true), (2, true), (3, true), (4, true), (5, true), (6, true), (7, true), (8, true), (9, true), (10, true)] (by kernel_rfl) (by kernel_rfl) rfl (by kernel_rfl) ?_
      simp (config := { maxSteps := 1000000 }) only [hlt, i0, i1, i2, i3, hUl, e1, e2, q0, q1, p0, p1, hx, half2, undef, push_cast, ↓Int.toNat_natCast, ↓Int.cast_ofNat_Int, Int.cast_ofNat_Int, ↓reduceIte, reduceCtorEq, Nat.reduceEqDiff, Nat.reduceLT, Nat.reduceLeDiff, Nat.reduceAdd, Nat.reduceSub, Nat.reduceMul, Int.reduceNeg, Int.reduceLE, Int.reduceLT, Int.reduceToNat, Int.reduceAdd, Int.reduceSub, Int.reduceMul, Int.reduceEq]
      (repeat (refine And.intro (by first | omega | decide) ?_))
      refine drawT_rule 15 [(0, true), (1, true), (2, true), (3, true), (4, true), (5, true), (6, true), (7, true), (8, true), (9, true), (10, true), (11, true), (12, false), (13, true), (14, true)] (by kernel_rfl) (by kernel_rfl) ?_
      simp (config := { maxSteps := 1000000 }) only [hlt, i0, i1, i2, i3, hUl, e1, e2, q0, q1, p0, p1, half2, undef, push_cast, ↓Int.toNat_natCast, ↓Int.cast_ofNat_Int, Int.cast_ofNat_Int, ↓reduceIte, reduceCtorEq, Nat.reduceEqDiff, Nat.reduceLT, Nat.reduceLeDiff, Nat.reduceAdd, Nat.reduceSub, Nat.reduceMul, Int.reduceNeg, Int.reduceLE, Int.reduceLT, Int.reduceToNat, Int.reduceAdd, Int.reduceSub, Int.reduceMul, Int.reduceEq]
      (repeat (refine And.intro (by first | omega | decide) ?_))
      refine callM_v rfl cb72 rfl (fpAddK _ _) (dOk_lt rfl) ?_
      simp (config := { maxSteps := 1000000 }) only [hlt, i0, i1, i2, i3, hUl, e1, e2, st, half2, undef, push_cast, ↓Int.toNat_natCast, ↓Int.cast_ofNat_Int, Int.cast_ofNat_Int, ↓reduceIte, reduceCtorEq, Nat.reduceEqDiff, Nat.reduceLT, Nat.reduceLeDiff, Nat.reduceAdd, Nat.reduceSub, Nat.reduceMul, Int.reduceNeg, Int.reduceLE, Int.reduceLT, Int.reduceToNat, Int.reduceAdd, Int.reduceSub, Int.reduceMul, Int.reduceEq]
      (repeat (refine And.intro (by first | omega | decide) ?_))
      refine loopK_normal (i + 1) [0, 1] (by omega) (by omega) ?_
      simp (config := { maxSteps := 1000000 }) only [push_cast, ↓Int.toNat_natCast, ↓Int.cast_ofNat_Int, Int.cast_ofNat_Int, ↓reduceIte, reduceCtorEq, Nat.reduceEqDiff, Nat.reduceLT, Nat.reduceLeDiff, Nat.reduceAdd, Nat.reduceSub, Nat.reduceMul, Int.reduceNeg, Int.reduceLE, Int.reduceLT, Int.reduceToNat, Int.reduceAdd, Int.reduceSub, Int.reduceMul, Int.reduceEq]
    · have e : i = l.length := by omega
      subst e
      simp (config := { maxSteps := 1000000 }) only [hlt, undef, push_cast, ↓Int.toNat_natCast, ↓Int.cast_ofNat_Int, Int.cast_ofNat_Int, ↓reduceIte, reduceCtorEq, Nat.reduceEqDiff, Nat.reduceLT, Nat.reduceLeDiff, Nat.reduceAdd, Nat.reduceSub, Nat.reduceMul, Int.reduceNeg, Int.reduceLE, Int.reduceLT, Int.reduceToNat, Int.reduceAdd, Int.reduceSub, Int.reduceMul, Int.reduceEq]
      refine endsAs [0] ?_
      simp (config := { maxSteps := 1000000 }) only [push_cast, ↓Int.toNat_natCast, ↓Int.cast_ofNat_Int, Int.cast_ofNat_Int, ↓reduceIte, reduceCtorEq, Nat.reduceEqDiff, Nat.reduceLT, Nat.reduceLeDiff, Nat.reduceAdd, Nat.reduceSub, Nat.reduceMul, Int.reduceNeg, Int.reduceLE, Int.reduceLT, Int.reduceToNat, Int.reduceAdd, Int.reduceSub, Int.reduceMul, Int.reduceEq]
theorem sumOK {w0 : World} {hp : List Res} {s1 s2 : Sv} {l m : List Sh} (hs : sumE l m = 0) (h1 : ShowsR w0 No hp s1 l.length (shs l)) (h2 : ShowsR w0 No hp s2 m.length (shs m)) (hbr : ∀ r ∈ hp, Res.bnd hp.length r) :
    CallOK Tryd.prog w0 No 43 [s1, s2] hp (.t [.a (.o hp.length), .a (.v .nilIface)]) (hp ++ [.onn 76 2 (.c (shc (sumTo (sortP l) (sortP m) l.length)))]) := callOK_shs hbr fun γ w hS => by
  obtain ⟨A, c, e1, b1, r1⟩ := h1 γ w hS
  obtain ⟨A2, c2, e2, b2, r2⟩ := h2 γ w hS
  show Calls _ _ #[s1.val γ, s2.val γ] w _
  rw [e1, e2]
  exact sum_yes l m A c A2 c2 w hs b1 b2 r1 r2
end Go.Proofs.YteiifdpikcnbgaaDoor
