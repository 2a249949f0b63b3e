/- Shares summed, as the document does it; and the program's sum that may be none. What is handed on. -/
import Derived.Test.YteiifdpikcnbgaaDoorSp4
import Derived.Test.YteiifdpikcnbgaaDoorSo5
namespace Go.Proofs.YteiifdpikcnbgaaDoor
open Go.RowKit
set_option linter.unusedSimpArgs false
set_option linter.unusedVariables false
def rsT (a b : List Sh) : Nat → List Sh
  | 0 => []
  | k + 1 => rsT a b k ++ [((ix a k).1, addU (ix a k).2 (ix b k).2)]
theorem rsT_zero (a b : List Sh) : rsT a b 0 = [] := rfl
theorem rsT_succ (a b : List Sh) (k : Nat) : rsT a b (k + 1) = rsT a b k ++ [((ix a k).1, addU (ix a k).2 (ix b k).2)] := rfl
theorem rsT_length (a b : List Sh) (k : Nat) : (rsT a b k).length = k := by
  induction k with
  | zero => rfl
  | succ k ih => simp [rsT, ih]
theorem rsT_ix (a b : List Sh) (n i : Nat) (h : i < n) : ix (rsT a b n) i = ((ix a i).1, addU (ix a i).2 (ix b i).2) := by
  induction n with
  | zero => omega
  | succ n ih =>
    rw [rsT_succ]
    by_cases e : i = n
    · subst e
      simp [ix, List.getD_eq_getElem?_getD, rsT_length]
    · rw [show ∀ y, ix (rsT a b n ++ [y]) i = ix (rsT a b n) i from fun y => by simp [ix, List.getD_eq_getElem?_getD, List.getElem?_append_left (show i < (rsT a b n).length by rw [rsT_length]; omega)]]
      exact ih (by omega)
theorem rsT_all (a b : List Sh) : rsT a b a.length = sumTo a b a.length := by
  have h1 := rsT_length a b a.length
  refine List.ext_getElem (by rw [h1, sumTo_length]) fun i h2 h3 => ?_
  have e1 := rsT_ix a b a.length i (by omega)
  have e2 := sumTo_early a b a.length i (by omega) (Nat.le_refl _)
  rw [ix_get h2] at e1
  rw [ix_get h3] at e2
  rw [e1, e2]
theorem sumE_no {l m : List Sh} (h1 : sorE l = 0) (h2 : sorE m = 0) : sumE l m = if l.length = m.length then (if sameX (sortP l) (sortP m) = true then 0 else 1) else 1 := by
  unfold sumE
  rw [if_pos h1, if_pos h2]
theorem sumE_l {l m : List Sh} (h1 : ¬ sorE l = 0) : sumE l m = sorE l := if_neg h1
theorem sumE_m {l m : List Sh} (h1 : sorE l = 0) (h2 : ¬ sorE m = 0) : sumE l m = sorE m := by
  unfold sumE
  rw [if_pos h1, if_neg h2]
attribute [local irreducible] Callable CallOK CallG CallM DrawG LoopG symR symM
attribute [local irreducible] shc seenU metU apartU prU wtU wtsU thU powU polyU sortP splS polyN addU subU fpMul euS plT nwP nwV nwN lineU sumTo rsT sumE sorE
/-! ### Sums that are none -/
set_option maxRecDepth 100000 in
set_option maxHeartbeats 2000000 in
theorem sum_no (l m : List Sh) (A : Option Addr) (c : Nat) (A2 : Option Addr) (c2 : Nat) (w : World) (hl : l.length ≤ 1000) (hm : m.length ≤ 1000) (hs : ¬ sumE l m = 0) (hc : l.length ≤ c) (hc2 : m.length ≤ c2) (hR : RdV w w.heap.size A (shs l)) (hR2 : RdV w w.heap.size A2 (shs m)) :
    Calls Tryd.prog 43 #[.slice A l.length c, .slice A2 m.length c2] w fun e w' => e = .returned (.tuple #[.slice none 0 0, errN (sumE l m)]) ∧ Below w.heap.size w w' := by
  refine calls_v (n := 66) Tryd.func43 rfl Tryd.ntmps43 [(.x (.a (.v (.slice A l.length c)))), (.x (.a (.v (.slice A2 m.length c2))))] (by simp) (.t [.a (.v (.slice none 0 0)), .a (.v (errN (sumE l m)))]) (fun _ => rfl) ?_
  simp (config := { maxSteps := 1000000 }) only [undef, push_cast, ↓Int.toNat_natCast, ↓Int.cast_ofNat_Int, Int.cast_ofNat_Int, ↓reduceIte, reduceCtorEq, Nat.reduceEqDiff, Nat.reduceLT, Nat.reduceLeDiff, Nat.reduceAdd, Nat.reduceSub, Nat.reduceMul, Int.reduceNeg, Int.reduceLE, Int.reduceLT, Int.reduceToNat, Int.reduceAdd, Int.reduceSub, Int.reduceMul, Int.reduceEq]
  by_cases h1 : sorE l = 0
  · refine callG_x rfl cb39 rfl (sortedOK h1 (showsR_raw hR hc) (by simp only [push_cast, ↓Int.toNat_natCast, ↓Int.cast_ofNat_Int, Int.cast_ofNat_Int, ↓reduceIte, reduceCtorEq, Nat.reduceEqDiff, Nat.reduceLT, Nat.reduceLeDiff, Nat.reduceAdd, Nat.reduceSub, Nat.reduceMul, Int.reduceNeg, Int.reduceLE, Int.reduceLT, Int.reduceToNat, Int.reduceAdd, Int.reduceSub, Int.reduceMul, Int.reduceEq])) (dOk_lt rfl) (by simp only [push_cast, ↓Int.toNat_natCast, ↓Int.cast_ofNat_Int, Int.cast_ofNat_Int, ↓reduceIte, reduceCtorEq, Nat.reduceEqDiff, Nat.reduceLT, Nat.reduceLeDiff, Nat.reduceAdd, Nat.reduceSub, Nat.reduceMul, Int.reduceNeg, Int.reduceLE, Int.reduceLT, Int.reduceToNat, Int.reduceAdd, Int.reduceSub, Int.reduceMul, Int.reduceEq]) ?_
    simp (config := { maxSteps := 1000000 }) only [undef, push_cast, ↓Int.toNat_natCast, ↓Int.cast_ofNat_Int, Int.cast_ofNat_Int, ↓reduceIte, reduceCtorEq, Nat.reduceEqDiff, Nat.reduceLT, Nat.reduceLeDiff, Nat.reduceAdd, Nat.reduceSub, Nat.reduceMul, Int.reduceNeg, Int.reduceLE, Int.reduceLT, Int.reduceToNat, Int.reduceAdd, Int.reduceSub, Int.reduceMul, Int.reduceEq]
    by_cases h2 : sorE m = 0
    · refine callG_x rfl cb39 rfl (sortedOK h2 (showsR_raw hR2 hc2) (by simp only [push_cast, ↓Int.toNat_natCast, ↓Int.cast_ofNat_Int, Int.cast_ofNat_Int, ↓reduceIte, reduceCtorEq, Nat.reduceEqDiff, Nat.reduceLT, Nat.reduceLeDiff, Nat.reduceAdd, Nat.reduceSub, Nat.reduceMul, Int.reduceNeg, Int.reduceLE, Int.reduceLT, Int.reduceToNat, Int.reduceAdd, Int.reduceSub, Int.reduceMul, Int.reduceEq])) (dOk_lt rfl) (by simp only [push_cast, ↓Int.toNat_natCast, ↓Int.cast_ofNat_Int, Int.cast_ofNat_Int, ↓reduceIte, reduceCtorEq, Nat.reduceEqDiff, Nat.reduceLT, Nat.reduceLeDiff, Nat.reduceAdd, Nat.reduceSub, Nat.reduceMul, Int.reduceNeg, Int.reduceLE, Int.reduceLT, Int.reduceToNat, Int.reduceAdd, Int.reduceSub, Int.reduceMul, Int.reduceEq]) ?_
      have e0 := sumE_no h1 h2
      have e1 := sortP_length l
      have e2 := sortP_length m
      have h64 := (sorE_ok h1).1
      generalize sortP l = S at *
      generalize sortP m = T at *
      by_cases h3 : (l.length : Int) = m.length
      · rw [if_pos (by omega)] at e0
        have hX : ¬ sameX S T = true := fun h => hs (by rw [e0, if_pos h])
        have e9 : sumE l m = 1 := by rw [e0, if_neg hX]
        rw [e9]
        have e2' : T.length = l.length := by omega
        simp (config := { maxSteps := 1000000 }) only [e1, e2', h3.symm, half2, undef, push_cast, ↓Int.toNat_natCast, ↓Int.cast_ofNat_Int, Int.cast_ofNat_Int, ↓reduceIte, reduceCtorEq, Nat.reduceEqDiff, Nat.reduceLT, Nat.reduceLeDiff, Nat.reduceAdd, Nat.reduceSub, Nat.reduceMul, Int.reduceNeg, Int.reduceLE, Int.reduceLT, Int.reduceToNat, Int.reduceAdd, Int.reduceSub, Int.reduceMul, Int.reduceEq]
        (repeat (refine And.intro (by first | omega | decide) ?_))
        refine loop_rule (ι := Nat) (fun i => ⟨[(6, .x (.a (.o 0))), (8, .x (.a (.o 1))), (33, .x (.a (.v (.int .i64 l.length)))), (34, .x (.a (.v (.int .i64 i))))], [.onn 76 2 (.c (shc (sumTo S T i))), .onn 76 2 (.c (shc T))]⟩) (fun i => i ≤ l.length ∧ ∀ j, j < i → (ix S j).1 = (ix T j).1) (fun i => l.length - i) 0 [0, 1] ⟨by omega, fun j h => absurd h (Nat.not_lt_zero _)⟩ ?_ ?_
        · simp (config := { maxSteps := 1000000 }) only [sumTo_zero, push_cast, ↓Int.toNat_natCast, ↓Int.cast_ofNat_Int, Int.cast_ofNat_Int, ↓reduceIte, reduceCtorEq, Nat.reduceEqDiff, Nat.reduceLT, Nat.reduceLeDiff, Nat.reduceAdd, Nat.reduceSub, Nat.reduceMul, Int.reduceNeg, Int.reduceLE, Int.reduceLT, Int.reduceToNat, Int.reduceAdd, Int.reduceSub, Int.reduceMul, Int.reduceEq]
        · rintro i ⟨hi, hj⟩
          by_cases hlt : (i : Int) < l.length
          · have i0 : (0 : Int) ≤ i := by omega
            have i1 : i < l.length := by omega
            have i2 : i * 2 < l.length * 2 := by omega
            have i3 : i * 2 + 1 < l.length * 2 := by omega
            have hU := sumTo_late S T i i (Nat.le_refl _)
            have hUl := sumTo_length S T i
            have hsucc := sumTo_succ S T i
            generalize sumTo S T i = U at *
            have q0 := shc_get0 U i (by omega)
            have q1 := shc_get1 U i (by omega)
            have p0 := shc_get0 T i (by omega)
            have p1 := shc_get1 T i (by omega)
            have st := shc_set1 U i (addU (ix S i).2 (ix T i).2) (by omega)
            rw [hU] at q0 q1 st
            rw [← hsucc] at st
            rw [e1] at hUl
            simp (config := { maxSteps := 1000000 }) only [hlt, undef, push_cast, ↓Int.toNat_natCast, ↓Int.cast_ofNat_Int, Int.cast_ofNat_Int, ↓reduceIte, reduceCtorEq, Nat.reduceEqDiff, Nat.reduceLT, Nat.reduceLeDiff, Nat.reduceAdd, Nat.reduceSub, Nat.reduceMul, Int.reduceNeg, Int.reduceLE, Int.reduceLT, Int.reduceToNat, Int.reduceAdd, Int.reduceSub, Int.reduceMul, Int.reduceEq]
            (repeat (refine And.intro (by first | omega | decide) ?_))
            refine draw_rule [(0, true), (1, true), (2, true), (3, true), (4, true), (5, true), (6, true), (7, true), (8, true), (9, true), (10, true)] (by kernel_rfl) (by kernel_rfl) rfl (by kernel_rfl) ?_
            by_cases hx : (ix S i).1 = (ix T i).1
            · simp (config := { maxSteps := 1000000 }) only [hlt, i0, i1, i2, i3, hUl, e1, e2', q0, q1, p0, p1, hx, half2, undef, push_cast, ↓Int.toNat_natCast, ↓Int.cast_ofNat_Int, Int.cast_ofNat_Int, ↓reduceIte, reduceCtorEq, Nat.reduceEqDiff, Nat.reduceLT, Nat.reduceLeDiff, Nat.reduceAdd, Nat.reduceSub, Nat.reduceMul, Int.reduceNeg, Int.reduceLE, Int.reduceLT, Int.reduceToNat, Int.reduceAdd, Int.reduceSub, Int.reduceMul, Int.reduceEq]
              (repeat (refine And.intro (by first | omega | decide) ?_))
              refine drawT_rule 15 [(0, true), (1, true), (2, true), (3, true), (4, true), (5, true), (6, true), (7, true), (8, true), (9, true), (10, true), (11, true), (12, false), (13, true), (14, true)] (by kernel_rfl) (by kernel_rfl) ?_
              simp (config := { maxSteps := 1000000 }) only [hlt, i0, i1, i2, i3, hUl, e1, e2', q0, q1, p0, p1, half2, undef, push_cast, ↓Int.toNat_natCast, ↓Int.cast_ofNat_Int, Int.cast_ofNat_Int, ↓reduceIte, reduceCtorEq, Nat.reduceEqDiff, Nat.reduceLT, Nat.reduceLeDiff, Nat.reduceAdd, Nat.reduceSub, Nat.reduceMul, Int.reduceNeg, Int.reduceLE, Int.reduceLT, Int.reduceToNat, Int.reduceAdd, Int.reduceSub, Int.reduceMul, Int.reduceEq]
              (repeat (refine And.intro (by first | omega | decide) ?_))
              refine callM_v rfl cb72 rfl (fpAddK _ _) (dOk_lt rfl) ?_
              simp (config := { maxSteps := 1000000 }) only [hlt, i0, i1, i2, i3, hUl, e1, e2', st, half2, undef, push_cast, ↓Int.toNat_natCast, ↓Int.cast_ofNat_Int, Int.cast_ofNat_Int, ↓reduceIte, reduceCtorEq, Nat.reduceEqDiff, Nat.reduceLT, Nat.reduceLeDiff, Nat.reduceAdd, Nat.reduceSub, Nat.reduceMul, Int.reduceNeg, Int.reduceLE, Int.reduceLT, Int.reduceToNat, Int.reduceAdd, Int.reduceSub, Int.reduceMul, Int.reduceEq]
              (repeat (refine And.intro (by first | omega | decide) ?_))
              refine loopK_normal (i + 1) [0, 1] ⟨by omega, fun j h => ?_⟩ (by omega) ?_
              · by_cases e : j = i
                · rw [e]; exact hx
                · exact hj j (by omega)
              · simp (config := { maxSteps := 1000000 }) only [push_cast, ↓Int.toNat_natCast, ↓Int.cast_ofNat_Int, Int.cast_ofNat_Int, ↓reduceIte, reduceCtorEq, Nat.reduceEqDiff, Nat.reduceLT, Nat.reduceLeDiff, Nat.reduceAdd, Nat.reduceSub, Nat.reduceMul, Int.reduceNeg, Int.reduceLE, Int.reduceLT, Int.reduceToNat, Int.reduceAdd, Int.reduceSub, Int.reduceMul, Int.reduceEq]
            · simp (config := { maxSteps := 1000000 }) only [hlt, i0, i1, i2, i3, hUl, e1, e2', q0, q1, p0, p1, hx, errN, half2, undef, push_cast, ↓Int.toNat_natCast, ↓Int.cast_ofNat_Int, Int.cast_ofNat_Int, ↓reduceIte, reduceCtorEq, Nat.reduceEqDiff, Nat.reduceLT, Nat.reduceLeDiff, Nat.reduceAdd, Nat.reduceSub, Nat.reduceMul, Int.reduceNeg, Int.reduceLE, Int.reduceLT, Int.reduceToNat, Int.reduceAdd, Int.reduceSub, Int.reduceMul, Int.reduceEq]
              (repeat (refine And.intro (by first | omega | decide) ?_))
          · exact absurd (sameX_iff.2 fun i h => hj i (by omega)) hX
      · have e9 : sumE l m = 1 := by rw [e0, if_neg (by omega)]
        rw [e9]
        simp (config := { maxSteps := 1000000 }) only [e1, e2, h3, half2, errN, undef, push_cast, ↓Int.toNat_natCast, ↓Int.cast_ofNat_Int, Int.cast_ofNat_Int, ↓reduceIte, reduceCtorEq, Nat.reduceEqDiff, Nat.reduceLT, Nat.reduceLeDiff, Nat.reduceAdd, Nat.reduceSub, Nat.reduceMul, Int.reduceNeg, Int.reduceLE, Int.reduceLT, Int.reduceToNat, Int.reduceAdd, Int.reduceSub, Int.reduceMul, Int.reduceEq]
    · have e9 := sumE_m h1 h2
      rw [e9]
      refine callG_v rfl cb39 rfl (sortedNo hm h2 (showsR_raw hR2 hc2)) (dOk_lt rfl) ?_
      simp (config := { maxSteps := 1000000 }) only [errN, undef, push_cast, ↓Int.toNat_natCast, ↓Int.cast_ofNat_Int, Int.cast_ofNat_Int, ↓reduceIte, reduceCtorEq, Nat.reduceEqDiff, Nat.reduceLT, Nat.reduceLeDiff, Nat.reduceAdd, Nat.reduceSub, Nat.reduceMul, Int.reduceNeg, Int.reduceLE, Int.reduceLT, Int.reduceToNat, Int.reduceAdd, Int.reduceSub, Int.reduceMul, Int.reduceEq]
  · have e9 := sumE_l (m := m) h1
    rw [e9]
    refine callG_v rfl cb39 rfl (sortedNo hl h1 (showsR_raw hR hc)) (dOk_lt rfl) ?_
    simp (config := { maxSteps := 1000000 }) only [errN, undef, push_cast, ↓Int.toNat_natCast, ↓Int.cast_ofNat_Int, Int.cast_ofNat_Int, ↓reduceIte, reduceCtorEq, Nat.reduceEqDiff, Nat.reduceLT, Nat.reduceLeDiff, Nat.reduceAdd, Nat.reduceSub, Nat.reduceMul, Int.reduceNeg, Int.reduceLE, Int.reduceLT, Int.reduceToNat, Int.reduceAdd, Int.reduceSub, Int.reduceMul, Int.reduceEq]
theorem sumAll {w0 : World} {hp : List Res} {s1 s2 : Sv} {l m : List Sh} (hl : l.length ≤ 1000) (hm : m.length ≤ 1000) (h1 : ShowsR w0 No hp s1 l.length (shs l)) (h2 : ShowsR w0 No hp s2 m.length (shs m)) (hbr : ∀ r ∈ hp, Res.bnd hp.length r) :
    CallOK Tryd.prog w0 No 43 [s1, s2] hp (.t [.a (.o hp.length), .a (.v (erS (sumE l m)))]) (hp ++ [.onn 76 2 (.c (shc (sumL l m)))]) := callOK_shT 76 hbr fun γ w hS => by
  obtain ⟨A, c, e1, b1, r1⟩ := h1 γ w hS
  obtain ⟨A2, c2, e2, b2, r2⟩ := h2 γ w hS
  show Calls _ _ #[s1.val γ, s2.val γ] w _
  rw [e1, e2]
  by_cases hs : sumE l m = 0
  · have e : sumL l m = sumTo (sortP l) (sortP m) l.length := if_pos hs
    rw [e, hs]
    exact sum_yes l m A c A2 c2 w hs b1 b2 r1 r2
  · have e : sumL l m = [] := if_neg hs
    rw [e, erS_ne hs]
    exact nil_shs 76 (sum_no l m A c A2 c2 w hl hm hs b1 b2 r1 r2)
set_option maxRecDepth 100000 in
set_option maxHeartbeats 2000000 in
theorem rsum_yes (l m : List Sh) (A : Option Addr) (c : Nat) (A2 : Option Addr) (c2 : Nat) (w : World) (hl : l.length ≤ 1000) (hm : m.length ≤ 1000) (hs : sumE l m = 0) (hc : l.length ≤ c) (hc2 : m.length ≤ c2) (hR : RdV w w.heap.size A (shs l)) (hR2 : RdV w w.heap.size A2 (shs m)) :
    Calls Tryd.prog 44 (List.map (Sv.val []) [(.x (.a (.v (.slice A l.length c)))), (.x (.a (.v (.slice A2 m.length c2))))]).toArray w fun e w' => ∃ γ1, e = .returned ((Sv.t [.a (.o 0), .a (.v (.int .i64 0))]).val γ1) ∧ Sat w No γ1 [.onn 80 2 (.c (shc (sumTo (sortP l) (sortP m) l.length)))] w' := by
  obtain ⟨h1, h2, h3, h4⟩ := sumE_ok hs
  refine calls_fun (n := 71) Tryd.func44 rfl Tryd.ntmps44 [(.x (.a (.v (.slice A l.length c)))), (.x (.a (.v (.slice A2 m.length c2))))] (Sat.init w No) (by simp) _ _ ?_
  simp (config := { maxSteps := 1000000 }) only [undef, push_cast, ↓Int.toNat_natCast, ↓Int.cast_ofNat_Int, Int.cast_ofNat_Int, ↓reduceIte, reduceCtorEq, Nat.reduceEqDiff, Nat.reduceLT, Nat.reduceLeDiff, Nat.reduceAdd, Nat.reduceSub, Nat.reduceMul, Int.reduceNeg, Int.reduceLE, Int.reduceLT, Int.reduceToNat, Int.reduceAdd, Int.reduceSub, Int.reduceMul, Int.reduceEq]
  refine callG_x rfl cb40 rfl (rSortedOK hl (showsR_raw hR hc) (by simp only [push_cast, ↓Int.toNat_natCast, ↓Int.cast_ofNat_Int, Int.cast_ofNat_Int, ↓reduceIte, reduceCtorEq, Nat.reduceEqDiff, Nat.reduceLT, Nat.reduceLeDiff, Nat.reduceAdd, Nat.reduceSub, Nat.reduceMul, Int.reduceNeg, Int.reduceLE, Int.reduceLT, Int.reduceToNat, Int.reduceAdd, Int.reduceSub, Int.reduceMul, Int.reduceEq])) (dOk_lt rfl) (by simp only [push_cast, ↓Int.toNat_natCast, ↓Int.cast_ofNat_Int, Int.cast_ofNat_Int, ↓reduceIte, reduceCtorEq, Nat.reduceEqDiff, Nat.reduceLT, Nat.reduceLeDiff, Nat.reduceAdd, Nat.reduceSub, Nat.reduceMul, Int.reduceNeg, Int.reduceLE, Int.reduceLT, Int.reduceToNat, Int.reduceAdd, Int.reduceSub, Int.reduceMul, Int.reduceEq]) ?_
  have hL : sorL l = sortP l := if_pos h1
  rw [hL]
  simp (config := { maxSteps := 1000000 }) only [h1, undef, push_cast, ↓Int.toNat_natCast, ↓Int.cast_ofNat_Int, Int.cast_ofNat_Int, ↓reduceIte, reduceCtorEq, Nat.reduceEqDiff, Nat.reduceLT, Nat.reduceLeDiff, Nat.reduceAdd, Nat.reduceSub, Nat.reduceMul, Int.reduceNeg, Int.reduceLE, Int.reduceLT, Int.reduceToNat, Int.reduceAdd, Int.reduceSub, Int.reduceMul, Int.reduceEq]
  (repeat (refine And.intro (by first | omega | decide) ?_))
  refine callG_x rfl cb40 rfl (rSortedOK hm (showsR_raw hR2 hc2) (by simp only [push_cast, ↓Int.toNat_natCast, ↓Int.cast_ofNat_Int, Int.cast_ofNat_Int, ↓reduceIte, reduceCtorEq, Nat.reduceEqDiff, Nat.reduceLT, Nat.reduceLeDiff, Nat.reduceAdd, Nat.reduceSub, Nat.reduceMul, Int.reduceNeg, Int.reduceLE, Int.reduceLT, Int.reduceToNat, Int.reduceAdd, Int.reduceSub, Int.reduceMul, Int.reduceEq])) (dOk_lt rfl) (by simp only [push_cast, ↓Int.toNat_natCast, ↓Int.cast_ofNat_Int, Int.cast_ofNat_Int, ↓reduceIte, reduceCtorEq, Nat.reduceEqDiff, Nat.reduceLT, Nat.reduceLeDiff, Nat.reduceAdd, Nat.reduceSub, Nat.reduceMul, Int.reduceNeg, Int.reduceLE, Int.reduceLT, Int.reduceToNat, Int.reduceAdd, Int.reduceSub, Int.reduceMul, Int.reduceEq]) ?_
  have hM : sorL m = sortP m := if_pos h2
  rw [hM]
  have e1 := sortP_length l
  have e2 := sortP_length m
  have h64 := (sorE_ok h1).1
  have hX := sameX_iff.1 h4
  generalize sortP l = S at *
  generalize sortP m = T at *
  have hall := rsT_all S T
  rw [e1] at hall
  have e2' : T.length = l.length := by omega
  simp (config := { maxSteps := 1000000 }) only [h2, e1, e2', half2, undef, push_cast, ↓Int.toNat_natCast, ↓Int.cast_ofNat_Int, Int.cast_ofNat_Int, ↓reduceIte, reduceCtorEq, Nat.reduceEqDiff, Nat.reduceLT, Nat.reduceLeDiff, Nat.reduceAdd, Nat.reduceSub, Nat.reduceMul, Int.reduceNeg, Int.reduceLE, Int.reduceLT, Int.reduceToNat, Int.reduceAdd, Int.reduceSub, Int.reduceMul, Int.reduceEq]
  (repeat (refine And.intro (by first | omega | decide) ?_))
  refine loop_ghostN 10 80 2 (.c []) (by omega) rfl rfl (by simp only [push_cast, ↓Int.toNat_natCast, ↓Int.cast_ofNat_Int, Int.cast_ofNat_Int, ↓reduceIte, reduceCtorEq, Nat.reduceEqDiff, Nat.reduceLT, Nat.reduceLeDiff, Nat.reduceAdd, Nat.reduceSub, Nat.reduceMul, Int.reduceNeg, Int.reduceLE, Int.reduceLT, Int.reduceToNat, Int.reduceAdd, Int.reduceSub, Int.reduceMul, Int.reduceEq]) ?_
  refine loop_rule (ι := Nat) (fun i => ⟨[(6, .x (.a (.o 0))), (8, .x (.a (.o 1))), (10, .x (.a (.o 2))), (11, .x (.a (.v (.int .i64 i))))], [.onn 80 2 (.c (shc S)), .onn 80 2 (.c (shc T)), .onn 80 2 (.c (shc (rsT S T i)))]⟩) (fun i => i ≤ l.length) (fun i => l.length - i) 0 [0, 1, 2] (by omega) ?_ ?_
  · simp (config := { maxSteps := 1000000 }) only [rsT_zero, shc_nil, push_cast, ↓Int.toNat_natCast, ↓Int.cast_ofNat_Int, Int.cast_ofNat_Int, ↓reduceIte, reduceCtorEq, Nat.reduceEqDiff, Nat.reduceLT, Nat.reduceLeDiff, Nat.reduceAdd, Nat.reduceSub, Nat.reduceMul, Int.reduceNeg, Int.reduceLE, Int.reduceLT, Int.reduceToNat, Int.reduceAdd, Int.reduceSub, Int.reduceMul, Int.reduceEq]
  · intro i hi
    by_cases hlt : (i : Int) < l.length
    · have i0 : (0 : Int) ≤ i := by omega
      have i1 : i < l.length := by omega
      have i2 : i * 2 < l.length * 2 := by omega
      have i3 : i * 2 + 1 < l.length * 2 := by omega
      have q0 := shc_get0 S i (by omega)
      have q1 := shc_get1 S i (by omega)
      have p0 := shc_get0 T i (by omega)
      have p1 := shc_get1 T i (by omega)
      have hRl := rsT_length S T i
      have hsn : shc (rsT S T i) ++ [.v (vU64 (ix S i).1), .v (vU64 (addU (ix S i).2 (ix T i).2))] = shc (rsT S T (i + 1)) := by rw [rsT_succ]; exact shc_snoc _ _ _
      have b5 : (i + 1) * 16 ≤ 140737488355328 := by omega
      have b6 : i + 1 ≤ 2 ^ 63 - 1 := by omega
      simp (config := { maxSteps := 1000000 }) only [hlt, e1, half2, undef, push_cast, ↓Int.toNat_natCast, ↓Int.cast_ofNat_Int, Int.cast_ofNat_Int, ↓reduceIte, reduceCtorEq, Nat.reduceEqDiff, Nat.reduceLT, Nat.reduceLeDiff, Nat.reduceAdd, Nat.reduceSub, Nat.reduceMul, Int.reduceNeg, Int.reduceLE, Int.reduceLT, Int.reduceToNat, Int.reduceAdd, Int.reduceSub, Int.reduceMul, Int.reduceEq]
      (repeat (refine And.intro (by first | omega | decide) ?_))
      refine draw_rule [(0, true), (1, true), (2, true), (3, true), (4, true), (5, true), (6, true), (7, true), (8, true), (9, true), (10, true)] (by kernel_rfl) (by kernel_rfl) rfl (by kernel_rfl) ?_
      have hx := hX i (by omega)
      simp (config := { maxSteps := 1000000 }) only [hlt, i0, i1, i2, i3, e1, e2', q0, q1, p0, p1, hx, half2, undef, push_cast, ↓Int.toNat_natCast, ↓Int.cast_ofNat_Int, Int.cast_ofNat_Int, ↓reduceIte, reduceCtorEq, Nat.reduceEqDiff, Nat.reduceLT, Nat.reduceLeDiff, Nat.reduceAdd, Nat.reduceSub, Nat.reduceMul, Int.reduceNeg, Int.reduceLE, Int.reduceLT, Int.reduceToNat, Int.reduceAdd, Int.reduceSub, Int.reduceMul, Int.reduceEq]
      (repeat (refine And.intro (by first | omega | decide) ?_))
      refine drawK_rule [2] [(0, true), (1, true), (2, true), (3, true), (4, true), (5, true), (6, true), (7, true), (8, true), (9, true), (10, true), (11, true), (12, true), (13, true), (14, true), (15, true), (16, false), (17, true), (18, false), (19, false), (20, true)] (by kernel_rfl) (by kernel_rfl) rfl (by kernel_rfl) ?_
      simp (config := { maxSteps := 1000000 }) only [hlt, i0, i1, i2, i3, e1, e2', q0, q1, p0, p1, half2, undef, push_cast, ↓Int.toNat_natCast, ↓Int.cast_ofNat_Int, Int.cast_ofNat_Int, ↓reduceIte, reduceCtorEq, Nat.reduceEqDiff, Nat.reduceLT, Nat.reduceLeDiff, Nat.reduceAdd, Nat.reduceSub, Nat.reduceMul, Int.reduceNeg, Int.reduceLE, Int.reduceLT, Int.reduceToNat, Int.reduceAdd, Int.reduceSub, Int.reduceMul, Int.reduceEq]
      (repeat (refine And.intro (by first | omega | decide) ?_))
      refine callK_v rfl cb47 rfl (rAddK _ _) (dOk_lt rfl) ?_
      simp (config := { maxSteps := 1000000 }) only [hsn, hRl, b5, b6, half2, undef, push_cast, ↓Int.toNat_natCast, ↓Int.cast_ofNat_Int, Int.cast_ofNat_Int, ↓reduceIte, reduceCtorEq, Nat.reduceEqDiff, Nat.reduceLT, Nat.reduceLeDiff, Nat.reduceAdd, Nat.reduceSub, Nat.reduceMul, Int.reduceNeg, Int.reduceLE, Int.reduceLT, Int.reduceToNat, Int.reduceAdd, Int.reduceSub, Int.reduceMul, Int.reduceEq]
      (repeat (refine And.intro (by first | omega | decide) ?_))
      refine loopK_normal (i + 1) [0, 1, 4] (by omega) (by omega) ?_
      simp (config := { maxSteps := 1000000 }) only [push_cast, ↓Int.toNat_natCast, ↓Int.cast_ofNat_Int, Int.cast_ofNat_Int, ↓reduceIte, reduceCtorEq, Nat.reduceEqDiff, Nat.reduceLT, Nat.reduceLeDiff, Nat.reduceAdd, Nat.reduceSub, Nat.reduceMul, Int.reduceNeg, Int.reduceLE, Int.reduceLT, Int.reduceToNat, Int.reduceAdd, Int.reduceSub, Int.reduceMul, Int.reduceEq]
    · have e : i = l.length := by omega
      subst e
      rw [hall]
      simp (config := { maxSteps := 1000000 }) only [hlt, e1, half2, undef, push_cast, ↓Int.toNat_natCast, ↓Int.cast_ofNat_Int, Int.cast_ofNat_Int, ↓reduceIte, reduceCtorEq, Nat.reduceEqDiff, Nat.reduceLT, Nat.reduceLeDiff, Nat.reduceAdd, Nat.reduceSub, Nat.reduceMul, Int.reduceNeg, Int.reduceLE, Int.reduceLT, Int.reduceToNat, Int.reduceAdd, Int.reduceSub, Int.reduceMul, Int.reduceEq]
      refine endsAs [2] ?_
      simp (config := { maxSteps := 1000000 }) only [push_cast, ↓Int.toNat_natCast, ↓Int.cast_ofNat_Int, Int.cast_ofNat_Int, ↓reduceIte, reduceCtorEq, Nat.reduceEqDiff, Nat.reduceLT, Nat.reduceLeDiff, Nat.reduceAdd, Nat.reduceSub, Nat.reduceMul, Int.reduceNeg, Int.reduceLE, Int.reduceLT, Int.reduceToNat, Int.reduceAdd, Int.reduceSub, Int.reduceMul, Int.reduceEq]
set_option maxRecDepth 100000 in
set_option maxHeartbeats 2000000 in
theorem rsum_no (l m : List Sh) (A : Option Addr) (c : Nat) (A2 : Option Addr) (c2 : Nat) (w : World) (hl : l.length ≤ 1000) (hm : m.length ≤ 1000) (hs : ¬ sumE l m = 0) (hc : l.length ≤ c) (hc2 : m.length ≤ c2) (hR : RdV w w.heap.size A (shs l)) (hR2 : RdV w w.heap.size A2 (shs m)) :
    Calls Tryd.prog 44 #[.slice A l.length c, .slice A2 m.length c2] w fun e w' => e = .returned (.tuple #[.slice none 0 0, .int .i64 (sumE l m)]) ∧ Below w.heap.size w w' := by
  refine calls_v (n := 71) Tryd.func44 rfl Tryd.ntmps44 [(.x (.a (.v (.slice A l.length c)))), (.x (.a (.v (.slice A2 m.length c2))))] (by simp) (.t [.a (.v (.slice none 0 0)), .a (.v (.int .i64 (sumE l m)))]) (fun _ => rfl) ?_
  simp (config := { maxSteps := 1000000 }) only [undef, push_cast, ↓Int.toNat_natCast, ↓Int.cast_ofNat_Int, Int.cast_ofNat_Int, ↓reduceIte, reduceCtorEq, Nat.reduceEqDiff, Nat.reduceLT, Nat.reduceLeDiff, Nat.reduceAdd, Nat.reduceSub, Nat.reduceMul, Int.reduceNeg, Int.reduceLE, Int.reduceLT, Int.reduceToNat, Int.reduceAdd, Int.reduceSub, Int.reduceMul, Int.reduceEq]
  refine callG_x rfl cb40 rfl (rSortedOK hl (showsR_raw hR hc) (by simp only [push_cast, ↓Int.toNat_natCast, ↓Int.cast_ofNat_Int, Int.cast_ofNat_Int, ↓reduceIte, reduceCtorEq, Nat.reduceEqDiff, Nat.reduceLT, Nat.reduceLeDiff, Nat.reduceAdd, Nat.reduceSub, Nat.reduceMul, Int.reduceNeg, Int.reduceLE, Int.reduceLT, Int.reduceToNat, Int.reduceAdd, Int.reduceSub, Int.reduceMul, Int.reduceEq])) (dOk_lt rfl) (by simp only [push_cast, ↓Int.toNat_natCast, ↓Int.cast_ofNat_Int, Int.cast_ofNat_Int, ↓reduceIte, reduceCtorEq, Nat.reduceEqDiff, Nat.reduceLT, Nat.reduceLeDiff, Nat.reduceAdd, Nat.reduceSub, Nat.reduceMul, Int.reduceNeg, Int.reduceLE, Int.reduceLT, Int.reduceToNat, Int.reduceAdd, Int.reduceSub, Int.reduceMul, Int.reduceEq]) ?_
  by_cases h1 : sorE l = 0
  rotate_left
  · have e9 := sumE_l (m := m) h1
    rw [e9]
    simp (config := { maxSteps := 1000000 }) only [h1, undef, push_cast, ↓Int.toNat_natCast, ↓Int.cast_ofNat_Int, Int.cast_ofNat_Int, ↓reduceIte, reduceCtorEq, Nat.reduceEqDiff, Nat.reduceLT, Nat.reduceLeDiff, Nat.reduceAdd, Nat.reduceSub, Nat.reduceMul, Int.reduceNeg, Int.reduceLE, Int.reduceLT, Int.reduceToNat, Int.reduceAdd, Int.reduceSub, Int.reduceMul, Int.reduceEq]
  have hL : sorL l = sortP l := if_pos h1
  rw [hL]
  simp (config := { maxSteps := 1000000 }) only [h1, undef, push_cast, ↓Int.toNat_natCast, ↓Int.cast_ofNat_Int, Int.cast_ofNat_Int, ↓reduceIte, reduceCtorEq, Nat.reduceEqDiff, Nat.reduceLT, Nat.reduceLeDiff, Nat.reduceAdd, Nat.reduceSub, Nat.reduceMul, Int.reduceNeg, Int.reduceLE, Int.reduceLT, Int.reduceToNat, Int.reduceAdd, Int.reduceSub, Int.reduceMul, Int.reduceEq]
  (repeat (refine And.intro (by first | omega | decide) ?_))
  refine callG_x rfl cb40 rfl (rSortedOK hm (showsR_raw hR2 hc2) (by simp only [push_cast, ↓Int.toNat_natCast, ↓Int.cast_ofNat_Int, Int.cast_ofNat_Int, ↓reduceIte, reduceCtorEq, Nat.reduceEqDiff, Nat.reduceLT, Nat.reduceLeDiff, Nat.reduceAdd, Nat.reduceSub, Nat.reduceMul, Int.reduceNeg, Int.reduceLE, Int.reduceLT, Int.reduceToNat, Int.reduceAdd, Int.reduceSub, Int.reduceMul, Int.reduceEq])) (dOk_lt rfl) (by simp only [push_cast, ↓Int.toNat_natCast, ↓Int.cast_ofNat_Int, Int.cast_ofNat_Int, ↓reduceIte, reduceCtorEq, Nat.reduceEqDiff, Nat.reduceLT, Nat.reduceLeDiff, Nat.reduceAdd, Nat.reduceSub, Nat.reduceMul, Int.reduceNeg, Int.reduceLE, Int.reduceLT, Int.reduceToNat, Int.reduceAdd, Int.reduceSub, Int.reduceMul, Int.reduceEq]) ?_
  by_cases h2 : sorE m = 0
  rotate_left
  · have e9 := sumE_m h1 h2
    rw [e9]
    simp (config := { maxSteps := 1000000 }) only [h2, undef, push_cast, ↓Int.toNat_natCast, ↓Int.cast_ofNat_Int, Int.cast_ofNat_Int, ↓reduceIte, reduceCtorEq, Nat.reduceEqDiff, Nat.reduceLT, Nat.reduceLeDiff, Nat.reduceAdd, Nat.reduceSub, Nat.reduceMul, Int.reduceNeg, Int.reduceLE, Int.reduceLT, Int.reduceToNat, Int.reduceAdd, Int.reduceSub, Int.reduceMul, Int.reduceEq]
  have hM : sorL m = sortP m := if_pos h2
  rw [hM]
  have e1 := sortP_length l
  have e2 := sortP_length m
  have h64 := (sorE_ok h1).1
  have e0 := sumE_no h1 h2
  generalize sortP l = S at *
  generalize sortP m = T at *
  by_cases h3 : (l.length : Int) = m.length
  rotate_left
  · have e9 : sumE l m = 1 := by rw [e0, if_neg (by omega)]
    rw [e9]
    simp (config := { maxSteps := 1000000 }) only [h2, e1, e2, h3, half2, undef, push_cast, ↓Int.toNat_natCast, ↓Int.cast_ofNat_Int, Int.cast_ofNat_Int, ↓reduceIte, reduceCtorEq, Nat.reduceEqDiff, Nat.reduceLT, Nat.reduceLeDiff, Nat.reduceAdd, Nat.reduceSub, Nat.reduceMul, Int.reduceNeg, Int.reduceLE, Int.reduceLT, Int.reduceToNat, Int.reduceAdd, Int.reduceSub, Int.reduceMul, Int.reduceEq]
  rw [if_pos (by omega)] at e0
  have hX : ¬ sameX S T = true := fun h => hs (by rw [e0, if_pos h])
  have e9 : sumE l m = 1 := by rw [e0, if_neg hX]
  rw [e9]
  have e2' : T.length = l.length := by omega
  simp (config := { maxSteps := 1000000 }) only [h2, e1, e2', h3.symm, half2, undef, push_cast, ↓Int.toNat_natCast, ↓Int.cast_ofNat_Int, Int.cast_ofNat_Int, ↓reduceIte, reduceCtorEq, Nat.reduceEqDiff, Nat.reduceLT, Nat.reduceLeDiff, Nat.reduceAdd, Nat.reduceSub, Nat.reduceMul, Int.reduceNeg, Int.reduceLE, Int.reduceLT, Int.reduceToNat, Int.reduceAdd, Int.reduceSub, Int.reduceMul, Int.reduceEq]
  (repeat (refine And.intro (by first | omega | decide) ?_))
  refine loop_ghostN 10 80 2 (.c []) (by omega) rfl rfl (by simp only [push_cast, ↓Int.toNat_natCast, ↓Int.cast_ofNat_Int, Int.cast_ofNat_Int, ↓reduceIte, reduceCtorEq, Nat.reduceEqDiff, Nat.reduceLT, Nat.reduceLeDiff, Nat.reduceAdd, Nat.reduceSub, Nat.reduceMul, Int.reduceNeg, Int.reduceLE, Int.reduceLT, Int.reduceToNat, Int.reduceAdd, Int.reduceSub, Int.reduceMul, Int.reduceEq]) ?_
  refine loop_rule (ι := Nat) (fun i => ⟨[(6, .x (.a (.o 0))), (8, .x (.a (.o 1))), (10, .x (.a (.o 2))), (11, .x (.a (.v (.int .i64 i))))], [.onn 80 2 (.c (shc S)), .onn 80 2 (.c (shc T)), .onn 80 2 (.c (shc (rsT S T i)))]⟩) (fun i => i ≤ l.length ∧ ∀ j, j < i → (ix S j).1 = (ix T j).1) (fun i => l.length - i) 0 [0, 1, 2] ⟨by omega, fun j h => absurd h (Nat.not_lt_zero _)⟩ ?_ ?_
  · simp (config := { maxSteps := 1000000 }) only [rsT_zero, shc_nil, push_cast, ↓Int.toNat_natCast, ↓Int.cast_ofNat_Int, Int.cast_ofNat_Int, ↓reduceIte, reduceCtorEq, Nat.reduceEqDiff, Nat.reduceLT, Nat.reduceLeDiff, Nat.reduceAdd, Nat.reduceSub, Nat.reduceMul, Int.reduceNeg, Int.reduceLE, Int.reduceLT, Int.reduceToNat, Int.reduceAdd, Int.reduceSub, Int.reduceMul, Int.reduceEq]
  · rintro i ⟨hi, hj⟩
    by_cases hlt : (i : Int) < l.length
    · have i0 : (0 : Int) ≤ i := by omega
      have i1 : i < l.length := by omega
      have i2 : i * 2 < l.length * 2 := by omega
      have i3 : i * 2 + 1 < l.length * 2 := by omega
      have q0 := shc_get0 S i (by omega)
      have q1 := shc_get1 S i (by omega)
      have p0 := shc_get0 T i (by omega)
      have p1 := shc_get1 T i (by omega)
      have hRl := rsT_length S T i
      have hsn : shc (rsT S T i) ++ [.v (vU64 (ix S i).1), .v (vU64 (addU (ix S i).2 (ix T i).2))] = shc (rsT S T (i + 1)) := by rw [rsT_succ]; exact shc_snoc _ _ _
      have b5 : (i + 1) * 16 ≤ 140737488355328 := by omega
      have b6 : i + 1 ≤ 2 ^ 63 - 1 := by omega
      simp (config := { maxSteps := 1000000 }) only [hlt, e1, half2, undef, push_cast, ↓Int.toNat_natCast, ↓Int.cast_ofNat_Int, Int.cast_ofNat_Int, ↓reduceIte, reduceCtorEq, Nat.reduceEqDiff, Nat.reduceLT, Nat.reduceLeDiff, Nat.reduceAdd, Nat.reduceSub, Nat.reduceMul, Int.reduceNeg, Int.reduceLE, Int.reduceLT, Int.reduceToNat, Int.reduceAdd, Int.reduceSub, Int.reduceMul, Int.reduceEq]
      (repeat (refine And.intro (by first | omega | decide) ?_))
      refine draw_rule [(0, true), (1, true), (2, true), (3, true), (4, true), (5, true), (6, true), (7, true), (8, true), (9, true), (10, true)] (by kernel_rfl) (by kernel_rfl) rfl (by kernel_rfl) ?_
      by_cases hx : (ix S i).1 = (ix T i).1
      · simp (config := { maxSteps := 1000000 }) only [hlt, i0, i1, i2, i3, e1, e2', q0, q1, p0, p1, hx, half2, undef, push_cast, ↓Int.toNat_natCast, ↓Int.cast_ofNat_Int, Int.cast_ofNat_Int, ↓reduceIte, reduceCtorEq, Nat.reduceEqDiff, Nat.reduceLT, Nat.reduceLeDiff, Nat.reduceAdd, Nat.reduceSub, Nat.reduceMul, Int.reduceNeg, Int.reduceLE, Int.reduceLT, Int.reduceToNat, Int.reduceAdd, Int.reduceSub, Int.reduceMul, Int.reduceEq]
        (repeat (refine And.intro (by first | omega | decide) ?_))
        refine drawK_rule [2] [(0, true), (1, true), (2, true), (3, true), (4, true), (5, true), (6, true), (7, true), (8, true), (9, true), (10, true), (11, true), (12, true), (13, true), (14, true), (15, true), (16, false), (17, true), (18, false), (19, false), (20, true)] (by kernel_rfl) (by kernel_rfl) rfl (by kernel_rfl) ?_
        simp (config := { maxSteps := 1000000 }) only [hlt, i0, i1, i2, i3, e1, e2', q0, q1, p0, p1, half2, undef, push_cast, ↓Int.toNat_natCast, ↓Int.cast_ofNat_Int, Int.cast_ofNat_Int, ↓reduceIte, reduceCtorEq, Nat.reduceEqDiff, Nat.reduceLT, Nat.reduceLeDiff, Nat.reduceAdd, Nat.reduceSub, Nat.reduceMul, Int.reduceNeg, Int.reduceLE, Int.reduceLT, Int.reduceToNat, Int.reduceAdd, Int.reduceSub, Int.reduceMul, Int.reduceEq]
        (repeat (refine And.intro (by first | omega | decide) ?_))
        refine callK_v rfl cb47 rfl (rAddK _ _) (dOk_lt rfl) ?_
        simp (config := { maxSteps := 1000000 }) only [hsn, hRl, b5, b6, half2, undef, push_cast, ↓Int.toNat_natCast, ↓Int.cast_ofNat_Int, Int.cast_ofNat_Int, ↓reduceIte, reduceCtorEq, Nat.reduceEqDiff, Nat.reduceLT, Nat.reduceLeDiff, Nat.reduceAdd, Nat.reduceSub, Nat.reduceMul, Int.reduceNeg, Int.reduceLE, Int.reduceLT, Int.reduceToNat, Int.reduceAdd, Int.reduceSub, Int.reduceMul, Int.reduceEq]
        (repeat (refine And.intro (by first | omega | decide) ?_))
        refine loopK_normal (i + 1) [0, 1, 4] ⟨by omega, fun j h => ?_⟩ (by omega) ?_
        · by_cases e : j = i
          · rw [e]; exact hx
          · exact hj j (by omega)
        · simp (config := { maxSteps := 1000000 }) only [push_cast, ↓Int.toNat_natCast, ↓Int.cast_ofNat_Int, Int.cast_ofNat_Int, ↓reduceIte, reduceCtorEq, Nat.reduceEqDiff, Nat.reduceLT, Nat.reduceLeDiff, Nat.reduceAdd, Nat.reduceSub, Nat.reduceMul, Int.reduceNeg, Int.reduceLE, Int.reduceLT, Int.reduceToNat, Int.reduceAdd, Int.reduceSub, Int.reduceMul, Int.reduceEq]
      · simp (config := { maxSteps := 1000000 }) only [hlt, i0, i1, i2, i3, e1, e2', q0, q1, p0, p1, hx, half2, undef, push_cast, ↓Int.toNat_natCast, ↓Int.cast_ofNat_Int, Int.cast_ofNat_Int, ↓reduceIte, reduceCtorEq, Nat.reduceEqDiff, Nat.reduceLT, Nat.reduceLeDiff, Nat.reduceAdd, Nat.reduceSub, Nat.reduceMul, Int.reduceNeg, Int.reduceLE, Int.reduceLT, Int.reduceToNat, Int.reduceAdd, Int.reduceSub, Int.reduceMul, Int.reduceEq]
    · exact absurd (sameX_iff.2 fun i h => hj i (by omega)) hX
theorem rsumAll {w0 : World} {hp : List Res} {s1 s2 : Sv} {l m : List Sh} (hl : l.length ≤ 1000) (hm : m.length ≤ 1000) (h1 : ShowsR w0 No hp s1 l.length (shs l)) (h2 : ShowsR w0 No hp s2 m.length (shs m)) (hbr : ∀ r ∈ hp, Res.bnd hp.length r) :
    CallOK Tryd.prog w0 No 44 [s1, s2] hp (.t [.a (.o hp.length), .a (.v (.int .i64 (sumE l m)))]) (hp ++ [.onn 80 2 (.c (shc (sumL l m)))]) := callOK_shT 80 hbr fun γ w hS => by
  obtain ⟨A, c, e1, b1, r1⟩ := h1 γ w hS
  obtain ⟨A2, c2, e2, b2, r2⟩ := h2 γ w hS
  show Calls _ _ #[s1.val γ, s2.val γ] w _
  rw [e1, e2]
  by_cases hs : sumE l m = 0
  · have e : sumL l m = sumTo (sortP l) (sortP m) l.length := if_pos hs
    rw [e, hs]
    exact rsum_yes l m A c A2 c2 w hl hm hs b1 b2 r1 r2
  · have e : sumL l m = [] := if_neg hs
    rw [e]
    exact nil_shs 80 (rsum_no l m A c A2 c2 w hl hm hs b1 b2 r1 r2)
/-! ### What is handed on -/
set_option maxRecDepth 100000 in
set_option maxHeartbeats 2000000 in
theorem give_any (l : List Sh) (A : Option Addr) (c : Nat) (w : World) (hl : l.length ≤ 1000) (hR : RdV w w.heap.size A (shs l)) : Calls Tryd.prog 36 (List.map (Sv.val []) [(.x (.a (.v (.slice A l.length c))))]).toArray w fun e w' => ∃ γ1, e = .returned ((Sv.x (.a (.o 0))).val γ1) ∧ Sat w No γ1 [.onn 76 2 (.c (shc l))] w' := by
  have F := FS2.of hR
  refine calls_fun (n := 19) Tryd.func36 rfl Tryd.ntmps36 [(.x (.a (.v (.slice A l.length c))))] (Sat.init w No) (by simp) _ _ ?_
  simp (config := { maxSteps := 1000000 }) only [undef, push_cast, ↓Int.toNat_natCast, ↓Int.cast_ofNat_Int, Int.cast_ofNat_Int, ↓reduceIte, reduceCtorEq, Nat.reduceEqDiff, Nat.reduceLT, Nat.reduceLeDiff, Nat.reduceAdd, Nat.reduceSub, Nat.reduceMul, Int.reduceNeg, Int.reduceLE, Int.reduceLT, Int.reduceToNat, Int.reduceAdd, Int.reduceSub, Int.reduceMul, Int.reduceEq]
  (repeat (refine And.intro (by first | omega | decide) ?_))
  refine loop_ghostN 3 76 2 (.c []) (by omega) rfl rfl (by simp only [push_cast, ↓Int.toNat_natCast, ↓Int.cast_ofNat_Int, Int.cast_ofNat_Int, ↓reduceIte, reduceCtorEq, Nat.reduceEqDiff, Nat.reduceLT, Nat.reduceLeDiff, Nat.reduceAdd, Nat.reduceSub, Nat.reduceMul, Int.reduceNeg, Int.reduceLE, Int.reduceLT, Int.reduceToNat, Int.reduceAdd, Int.reduceSub, Int.reduceMul, Int.reduceEq]) ?_
  refine loop_rule (ι := Nat) (fun i => ⟨[(0, (.x (.a (.v (.slice A l.length c))))), (3, .x (.a (.o 0))), (4, .x (.a (.v (.int .i64 i))))], [.onn 76 2 (.c (shc (l.take i)))]⟩) (fun i => i ≤ l.length) (fun i => l.length - i) 0 [0] (by omega) ?_ ?_
  · simp (config := { maxSteps := 1000000 }) only [List.take_zero, shc_nil, push_cast, ↓Int.toNat_natCast, ↓Int.cast_ofNat_Int, Int.cast_ofNat_Int, ↓reduceIte, reduceCtorEq, Nat.reduceEqDiff, Nat.reduceLT, Nat.reduceLeDiff, Nat.reduceAdd, Nat.reduceSub, Nat.reduceMul, Int.reduceNeg, Int.reduceLE, Int.reduceLT, Int.reduceToNat, Int.reduceAdd, Int.reduceSub, Int.reduceMul, Int.reduceEq]
  · intro i hi
    by_cases hlt : (i : Int) < l.length
    · have i0 : (0 : Int) ≤ i := by omega
      have c0 := F.c0 i (by omega)
      have c1 := F.c1 i (by omega)
      have o0 := F.ok0 i (by omega)
      have o1 := F.ok1 i (by omega)
      have hA := F.some_ (by omega)
      have tl := take_len (l := l) (m := i) (by omega)
      have hsn : shc (l.take i) ++ [.v (vU64 (ix l i).1), .v (vU64 (ix l i).2)] = shc (l.take (i + 1)) := by
        rw [List.take_add_one, List.getElem?_eq_getElem (show i < l.length by omega), ← ix_get (show i < l.length by omega)]
        exact shc_snoc _ _ _
      have b5 : (i + 1) * 16 ≤ 140737488355328 := by omega
      have b6 : i + 1 ≤ 2 ^ 63 - 1 := by omega
      generalize l.take i = L at *
      simp (config := { maxSteps := 1000000 }) only [hlt, i0, c0, c1, o0, o1, hA, tl, hsn, b5, b6, half2, pAdd_zero, pAdd_add, pAdd_isSome, undef, push_cast, ↓Int.toNat_natCast, ↓Int.cast_ofNat_Int, Int.cast_ofNat_Int, ↓reduceIte, reduceCtorEq, Nat.reduceEqDiff, Nat.reduceLT, Nat.reduceLeDiff, Nat.reduceAdd, Nat.reduceSub, Nat.reduceMul, Int.reduceNeg, Int.reduceLE, Int.reduceLT, Int.reduceToNat, Int.reduceAdd, Int.reduceSub, Int.reduceMul, Int.reduceEq]
      (repeat (refine And.intro (by first | omega | decide) ?_))
      refine loopK_normal (i + 1) [2] (by omega) (by omega) ?_
      simp (config := { maxSteps := 1000000 }) only [push_cast, ↓Int.toNat_natCast, ↓Int.cast_ofNat_Int, Int.cast_ofNat_Int, ↓reduceIte, reduceCtorEq, Nat.reduceEqDiff, Nat.reduceLT, Nat.reduceLeDiff, Nat.reduceAdd, Nat.reduceSub, Nat.reduceMul, Int.reduceNeg, Int.reduceLE, Int.reduceLT, Int.reduceToNat, Int.reduceAdd, Int.reduceSub, Int.reduceMul, Int.reduceEq]
    · have e : i = l.length := by omega
      subst e
      rw [List.take_length]
      simp (config := { maxSteps := 1000000 }) only [hlt, undef, push_cast, ↓Int.toNat_natCast, ↓Int.cast_ofNat_Int, Int.cast_ofNat_Int, ↓reduceIte, reduceCtorEq, Nat.reduceEqDiff, Nat.reduceLT, Nat.reduceLeDiff, Nat.reduceAdd, Nat.reduceSub, Nat.reduceMul, Int.reduceNeg, Int.reduceLE, Int.reduceLT, Int.reduceToNat, Int.reduceAdd, Int.reduceSub, Int.reduceMul, Int.reduceEq]
      refine endsAs [0] ?_
      simp (config := { maxSteps := 1000000 }) only [push_cast, ↓Int.toNat_natCast, ↓Int.cast_ofNat_Int, Int.cast_ofNat_Int, ↓reduceIte, reduceCtorEq, Nat.reduceEqDiff, Nat.reduceLT, Nat.reduceLeDiff, Nat.reduceAdd, Nat.reduceSub, Nat.reduceMul, Int.reduceNeg, Int.reduceLE, Int.reduceLT, Int.reduceToNat, Int.reduceAdd, Int.reduceSub, Int.reduceMul, Int.reduceEq]
theorem giveOK04 {w0 : World} {hp : List Res} {sv : Sv} {l : List Sh} (hl : l.length ≤ 1000) (h : ShowsR w0 No hp sv l.length (shs l)) (hbr : ∀ r ∈ hp, Res.bnd hp.length r) :
    CallOK Tryd.prog w0 No 36 [sv] hp (.x (.a (.o hp.length))) (hp ++ [.onn 76 2 (.c (shc l))]) := by
  have := callOK_take (P := Tryd.prog) (f := 36) (svs := [sv]) (w0 := w0) (ow := No) (hp := hp) (sv1 := .x (.a (.o 0))) (hp1 := [.onn 76 2 (.c (shc l))]) [] hbr (by simp only [push_cast, ↓Int.toNat_natCast, ↓Int.cast_ofNat_Int, Int.cast_ofNat_Int, ↓reduceIte, reduceCtorEq, Nat.reduceEqDiff, Nat.reduceLT, Nat.reduceLeDiff, Nat.reduceAdd, Nat.reduceSub, Nat.reduceMul, Int.reduceNeg, Int.reduceLE, Int.reduceLT, Int.reduceToNat, Int.reduceAdd, Int.reduceSub, Int.reduceMul, Int.reduceEq]) (by simp only [push_cast, ↓Int.toNat_natCast, ↓Int.cast_ofNat_Int, Int.cast_ofNat_Int, ↓reduceIte, reduceCtorEq, Nat.reduceEqDiff, Nat.reduceLT, Nat.reduceLeDiff, Nat.reduceAdd, Nat.reduceSub, Nat.reduceMul, Int.reduceNeg, Int.reduceLE, Int.reduceLT, Int.reduceToNat, Int.reduceAdd, Int.reduceSub, Int.reduceMul, Int.reduceEq])
    fun γ w hS => ⟨No, fun b h => h.elim, by
      obtain ⟨A, c, e1, b1, r1⟩ := h γ w hS
      show Calls _ _ #[sv.val γ] w _
      rw [e1]
      exact give_any l A c w hl r1⟩
  simp only [goneAll, shiftL, List.range_succ, List.range_zero, push_cast, ↓Int.toNat_natCast, ↓Int.cast_ofNat_Int, Int.cast_ofNat_Int, ↓reduceIte, reduceCtorEq, Nat.reduceEqDiff, Nat.reduceLT, Nat.reduceLeDiff, Nat.reduceAdd, Nat.reduceSub, Nat.reduceMul, Int.reduceNeg, Int.reduceLE, Int.reduceLT, Int.reduceToNat, Int.reduceAdd, Int.reduceSub, Int.reduceMul, Int.reduceEq] at this
  exact this
end Go.Proofs.YteiifdpikcnbgaaDoor
