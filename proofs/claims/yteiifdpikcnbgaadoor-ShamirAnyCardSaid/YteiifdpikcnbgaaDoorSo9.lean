/- ShamirAny walked. -/
import Derived.Test.YteiifdpikcnbgaaDoorSo7
import Derived.Test.YteiifdpikcnbgaaDoorSo8
import Derived.Test.YteiifdpikcnbgaaDoorDrA
namespace Go.Proofs.YteiifdpikcnbgaaDoor
open Go.RowKit
set_option linter.unusedSimpArgs false
set_option linter.unusedVariables false
/-- The second numbers of the first k pairs. -/
def sdT (l : List Sh) : Nat → List UInt64
  | 0 => []
  | k + 1 => sdT l k ++ [(ix l k).2]
theorem sdT_zero (l : List Sh) : sdT l 0 = [] := rfl
theorem sdT_succ (l : List Sh) (k : Nat) : sdT l (k + 1) = sdT l k ++ [(ix l k).2] := rfl
theorem sdT_length (l : List Sh) (k : Nat) : (sdT l k).length = k := by
  induction k with
  | zero => rfl
  | succ k ih => simp [sdT, ih]
theorem shc_part (l : List Sh) (i : Nat) (h : i < l.length) : List.take 2 (List.drop (i * 2) (shc l)) = [.v (vU64 (ix l i).1), .v (vU64 (ix l i).2)] := by
  induction l generalizing i with
  | nil => simp at h
  | cons p l ih =>
    cases i with
    | zero => rw [shc_cons]; rfl
    | succ i =>
      rw [shc_cons, show (i + 1) * 2 = i * 2 + 1 + 1 from by omega, List.drop_succ_cons, List.drop_succ_cons, ih i (by simpa using h)]
      rfl
attribute [local irreducible] Callable CallOK CallG CallM DrawG LoopG symR symM
attribute [local irreducible] shc seenU metU apartU prU wtU wtsU thU powU polyU sortP splS polyN addU sumTo joiU joiE sorE sumE plT sdT somI
set_option maxRecDepth 100000 in
set_option maxHeartbeats 8000000 in
theorem any04_any (s0 s1 : UInt64) (ch : List Sh) (A : Option Addr) (c : Nat) (sk : List Bool) (A2 : Option Addr) (c2 : Nat) (w : World) (hb1 : ch.length ≤ 1152921504606846976) (hb2 : sk.length ≤ 1152921504606846976) (hc : ch.length ≤ c) (hc2 : sk.length ≤ c2) (hR : RdV w w.heap.size A (shs ch)) (hR2 : RdV w w.heap.size A2 (sk.map Value.bool)) (hg : Handle w) :
    Calls Tryd.prog 8 (List.map (Sv.val []) [.x (.a64 [s0, s1]), (.x (.a (.v (.slice A ch.length c)))), (.x (.a (.v (.slice A2 sk.length c2))))]).toArray w fun e w' => e = .returned (.bool true) ∧ Below w.heap.size w w' := by
  have F := FS2.of hR
  refine calls_v (n := 214) Tryd.func8 rfl Tryd.ntmps8 [.x (.a64 [s0, s1]), (.x (.a (.v (.slice A ch.length c)))), (.x (.a (.v (.slice A2 sk.length c2))))] (by simp) (.x (.a (.v (.bool true)))) (fun _ => rfl) ?_
  obtain ⟨T, hT⟩ : ∃ T : Nat, (ch.length : Int) + sk.length = T := ⟨ch.length + sk.length, by omega⟩
  have t0 : (-9223372036854775808 : Int) ≤ T := by omega
  have t1 : (T : Int) ≤ 9223372036854775807 := by omega
  by_cases g8 : (8 : Int) < ch.length
  · simp (config := { maxSteps := 1000000 }) only [hT, t0, t1, g8, undef, push_cast, ↓Int.toNat_natCast, ↓Int.cast_ofNat_Int, Int.cast_ofNat_Int, ↓reduceIte, reduceCtorEq, Nat.reduceEqDiff, Nat.reduceLT, Nat.reduceLeDiff, Nat.reduceAdd, Nat.reduceSub, Nat.reduceMul, Int.reduceNeg, Int.reduceLE, Int.reduceLT, Int.reduceToNat, Int.reduceAdd, Int.reduceSub, Int.reduceMul, Int.reduceEq]
    refine callG_v rfl cb35 rfl (sure04OK hg) (dOk_lt rfl) ?_
    simp (config := { maxSteps := 1000000 }) only [undef, push_cast, ↓Int.toNat_natCast, ↓Int.cast_ofNat_Int, Int.cast_ofNat_Int, ↓reduceIte, reduceCtorEq, Nat.reduceEqDiff, Nat.reduceLT, Nat.reduceLeDiff, Nat.reduceAdd, Nat.reduceSub, Nat.reduceMul, Int.reduceNeg, Int.reduceLE, Int.reduceLT, Int.reduceToNat, Int.reduceAdd, Int.reduceSub, Int.reduceMul, Int.reduceEq]
  simp (config := { maxSteps := 1000000 }) only [hT, t0, t1, g8, undef, push_cast, ↓Int.toNat_natCast, ↓Int.cast_ofNat_Int, Int.cast_ofNat_Int, ↓reduceIte, reduceCtorEq, Nat.reduceEqDiff, Nat.reduceLT, Nat.reduceLeDiff, Nat.reduceAdd, Nat.reduceSub, Nat.reduceMul, Int.reduceNeg, Int.reduceLE, Int.reduceLT, Int.reduceToNat, Int.reduceAdd, Int.reduceSub, Int.reduceMul, Int.reduceEq]
  (repeat (refine And.intro (by first | omega | decide) ?_))
  refine loop_ghost 8 23 (.u64 []) rfl rfl trivial (by simp only [push_cast, ↓Int.toNat_natCast, ↓Int.cast_ofNat_Int, Int.cast_ofNat_Int, ↓reduceIte, reduceCtorEq, Nat.reduceEqDiff, Nat.reduceLT, Nat.reduceLeDiff, Nat.reduceAdd, Nat.reduceSub, Nat.reduceMul, Int.reduceNeg, Int.reduceLE, Int.reduceLT, Int.reduceToNat, Int.reduceAdd, Int.reduceSub, Int.reduceMul, Int.reduceEq]) ?_
  refine loop_ghost 9 23 (.u64 []) rfl rfl trivial (by simp only [push_cast, ↓Int.toNat_natCast, ↓Int.cast_ofNat_Int, Int.cast_ofNat_Int, ↓reduceIte, reduceCtorEq, Nat.reduceEqDiff, Nat.reduceLT, Nat.reduceLeDiff, Nat.reduceAdd, Nat.reduceSub, Nat.reduceMul, Int.reduceNeg, Int.reduceLE, Int.reduceLT, Int.reduceToNat, Int.reduceAdd, Int.reduceSub, Int.reduceMul, Int.reduceEq]) ?_
  refine loop_rule (ι := Nat) (fun i => ⟨[(1, (.x (.a (.v (.slice A ch.length c))))), (2, (.x (.a (.v (.slice A2 sk.length c2))))), (3, (.x (.a (.p 0 0)))), (7, .x (.a (.v (.int .i64 T)))), (8, .x (.a (.o 1))), (9, .x (.a (.o 2))), (10, .x (.a (.v (.int .i64 i))))], [(.blk 66 (.u64 [s0, s1])), (.own 23 (.u64 (plT ch i))), .own 23 (.u64 (sdT ch i))]⟩) (fun i => i ≤ ch.length) (fun i => ch.length - i) 0 [0, 1, 2] (by omega) ?_ ?_
  · simp (config := { maxSteps := 1000000 }) only [plT_zero, sdT_zero, push_cast, ↓Int.toNat_natCast, ↓Int.cast_ofNat_Int, Int.cast_ofNat_Int, ↓reduceIte, reduceCtorEq, Nat.reduceEqDiff, Nat.reduceLT, Nat.reduceLeDiff, Nat.reduceAdd, Nat.reduceSub, Nat.reduceMul, Int.reduceNeg, Int.reduceLE, Int.reduceLT, Int.reduceToNat, Int.reduceAdd, Int.reduceSub, Int.reduceMul, Int.reduceEq]
  · intro i hi
    by_cases hlt : (i : Int) < ch.length
    · have i0 : (0 : Int) ≤ i := by omega
      have c0 := F.c0 i (by omega)
      have c1 := F.c1 i (by omega)
      have o0 := F.ok0 i (by omega)
      have o1 := F.ok1 i (by omega)
      have hA := F.some_ (by omega)
      simp (config := { maxSteps := 1000000 }) only [hlt, undef, push_cast, ↓Int.toNat_natCast, ↓Int.cast_ofNat_Int, Int.cast_ofNat_Int, ↓reduceIte, reduceCtorEq, Nat.reduceEqDiff, Nat.reduceLT, Nat.reduceLeDiff, Nat.reduceAdd, Nat.reduceSub, Nat.reduceMul, Int.reduceNeg, Int.reduceLE, Int.reduceLT, Int.reduceToNat, Int.reduceAdd, Int.reduceSub, Int.reduceMul, Int.reduceEq]
      (repeat (refine And.intro (by first | omega | decide) ?_))
      refine drawV_rule 3 [1, 2] (.rd 0 (.rd 1 (.rd 2 (.rd 3 (.rd 4 (.rd 5 (.rd 8 (.rd 9 (.rd 10 (.rd 11 (.rd 12 (.rd 13 (.fk 6 (.fk 7 (.wr 14 (.wr 15 (.rd 16 (.rd 17 .nil)))) 14 (.wr 7 (.wr 15 (.rd 16 (.rd 17 .nil))))) 14 (.wr 6 (.wr 7 (.wr 15 (.rd 16 (.rd 17 .nil)))))))))))))))))) ⟨[(1, (.x (.a (.v (.slice A ch.length c))))), (2, (.x (.a (.v (.slice A2 sk.length c2))))), (3, (.x (.a (.p 0 0)))), (7, .x (.a (.v (.int .i64 T)))), (8, .x (.a (.o 1))), (9, .x (.a (.o 2))), (10, .x (.a (.v (.int .i64 i))))], [(.blk 66 (.u64 [s0, s1])), .own 23 (.u64 (plT ch (i + 1))), .own 23 (.u64 (sdT ch (i + 1)))]⟩ (by kernel_rfl) (by kernel_rfl) (by kernel_rfl) (Nat.le_add_left 3 0) ?_ ?_
      · have hp := (plT_succ ch i).symm
        have hs := (sdT_succ ch i).symm
        have hpl := plT_length ch i
        have hsl := sdT_length ch i
        have b1 : (i + 1) * 8 ≤ 140737488355328 := by omega
        have b2 : i + 1 ≤ 2 ^ 63 - 1 := by omega
        simp (config := { maxSteps := 1000000 }) only [hlt, i0, c0, c1, o0, o1, hA, hp, hs, hpl, hsl, b1, b2, pAdd_zero, pAdd_add, pAdd_isSome, undef, push_cast, ↓Int.toNat_natCast, ↓Int.cast_ofNat_Int, Int.cast_ofNat_Int, ↓reduceIte, reduceCtorEq, Nat.reduceEqDiff, Nat.reduceLT, Nat.reduceLeDiff, Nat.reduceAdd, Nat.reduceSub, Nat.reduceMul, Int.reduceNeg, Int.reduceLE, Int.reduceLT, Int.reduceToNat, Int.reduceAdd, Int.reduceSub, Int.reduceMul, Int.reduceEq]
        (repeat (refine And.intro (by first | omega | decide) ?_))
        repeat' refine And.intro ?_ ?_
        all_goals first | (refine leads_le [0, 4, 6] ?_; (simp (config := { maxSteps := 1000000 }) only [push_cast, ↓Int.toNat_natCast, ↓Int.cast_ofNat_Int, Int.cast_ofNat_Int, ↓reduceIte, reduceCtorEq, Nat.reduceEqDiff, Nat.reduceLT, Nat.reduceLeDiff, Nat.reduceAdd, Nat.reduceSub, Nat.reduceMul, Int.reduceNeg, Int.reduceLE, Int.reduceLT, Int.reduceToNat, Int.reduceAdd, Int.reduceSub, Int.reduceMul, Int.reduceEq]); done) | (refine leads_le [0, 5, 6] ?_; (simp (config := { maxSteps := 1000000 }) only [push_cast, ↓Int.toNat_natCast, ↓Int.cast_ofNat_Int, Int.cast_ofNat_Int, ↓reduceIte, reduceCtorEq, Nat.reduceEqDiff, Nat.reduceLT, Nat.reduceLeDiff, Nat.reduceAdd, Nat.reduceSub, Nat.reduceMul, Int.reduceNeg, Int.reduceLE, Int.reduceLT, Int.reduceToNat, Int.reduceAdd, Int.reduceSub, Int.reduceMul, Int.reduceEq]); done) | (refine leads_le [0, 6, 5] ?_; (simp (config := { maxSteps := 1000000 }) only [push_cast, ↓Int.toNat_natCast, ↓Int.cast_ofNat_Int, Int.cast_ofNat_Int, ↓reduceIte, reduceCtorEq, Nat.reduceEqDiff, Nat.reduceLT, Nat.reduceLeDiff, Nat.reduceAdd, Nat.reduceSub, Nat.reduceMul, Int.reduceNeg, Int.reduceLE, Int.reduceLT, Int.reduceToNat, Int.reduceAdd, Int.reduceSub, Int.reduceMul, Int.reduceEq]); done) | (refine leads_le [0, 6, 4] ?_; (simp (config := { maxSteps := 1000000 }) only [push_cast, ↓Int.toNat_natCast, ↓Int.cast_ofNat_Int, Int.cast_ofNat_Int, ↓reduceIte, reduceCtorEq, Nat.reduceEqDiff, Nat.reduceLT, Nat.reduceLeDiff, Nat.reduceAdd, Nat.reduceSub, Nat.reduceMul, Int.reduceNeg, Int.reduceLE, Int.reduceLT, Int.reduceToNat, Int.reduceAdd, Int.reduceSub, Int.reduceMul, Int.reduceEq]); done)
      · simp (config := { maxSteps := 1000000 }) only [undef, push_cast, ↓Int.toNat_natCast, ↓Int.cast_ofNat_Int, Int.cast_ofNat_Int, ↓reduceIte, reduceCtorEq, Nat.reduceEqDiff, Nat.reduceLT, Nat.reduceLeDiff, Nat.reduceAdd, Nat.reduceSub, Nat.reduceMul, Int.reduceNeg, Int.reduceLE, Int.reduceLT, Int.reduceToNat, Int.reduceAdd, Int.reduceSub, Int.reduceMul, Int.reduceEq]
        (repeat (refine And.intro (by first | omega | decide) ?_))
        refine loopK_normal (i + 1) [0, 1, 2] (by omega) (by omega) ?_
        simp (config := { maxSteps := 1000000 }) only [push_cast, ↓Int.toNat_natCast, ↓Int.cast_ofNat_Int, Int.cast_ofNat_Int, ↓reduceIte, reduceCtorEq, Nat.reduceEqDiff, Nat.reduceLT, Nat.reduceLeDiff, Nat.reduceAdd, Nat.reduceSub, Nat.reduceMul, Int.reduceNeg, Int.reduceLE, Int.reduceLT, Int.reduceToNat, Int.reduceAdd, Int.reduceSub, Int.reduceMul, Int.reduceEq]
    · have e : i = ch.length := by omega
      subst e
      have hcl := plT_length ch ch.length
      have hdl := sdT_length ch ch.length
      generalize plT ch ch.length = cs at *
      generalize sdT ch ch.length = ds at *
      obtain ⟨K, hK⟩ : ∃ K : Nat, (ch.length : Int) + 1 = K := ⟨ch.length + 1, by omega⟩
      obtain ⟨N, hN⟩ : ∃ N : Nat, (K : Int) + 3 = N := ⟨K + 3, by omega⟩
      simp (config := { maxSteps := 1000000 }) only [hlt, hcl, hK, hN, undef, push_cast, ↓Int.toNat_natCast, ↓Int.cast_ofNat_Int, Int.cast_ofNat_Int, ↓reduceIte, reduceCtorEq, Nat.reduceEqDiff, Nat.reduceLT, Nat.reduceLeDiff, Nat.reduceAdd, Nat.reduceSub, Nat.reduceMul, Int.reduceNeg, Int.reduceLE, Int.reduceLT, Int.reduceToNat, Int.reduceAdd, Int.reduceSub, Int.reduceMul, Int.reduceEq]
      (repeat (refine And.intro (by first | omega | decide) ?_))
      have K1 : K = ch.length + 1 := by omega
      have N1 : N = K + 3 := by omega
      have h64 : N ≤ 64 := by omega
      have hm : cs.length + 1 = K := by omega
      have f1 := some_join (s0 := s0) (cs := cs) (N := N) (T := T) (sk := sk) K hm N1 h64
      have f2 := few_join (s0 := s0) (cs := cs) (N := N) (T := T) (sk := sk) K hm N1 h64
      have f3 := wrong_join (s0 := s0) (cs := cs) (N := N) K hm N1 h64 (T % N) (Nat.mod_lt _ (by omega))
      have f4 := sum_join (s0 := s0) (s1 := s1) (cs := cs) (ds := ds) (N := N) K hm (by omega) N1 h64
      have hsl := soL_length (s0 := s0) (cs := cs) (N := N) (T := T) (sk := sk)
      have la := splS_length (s0 :: cs) N
      have lS := sum_len (s0 := s0) (s1 := s1) (cs := cs) (ds := ds) (N := N)
      have hse := spl_sumE (s0 :: cs) (s1 :: ds) N h64
      have hso := spl_sorted (s0 :: cs) N h64
      have hso2 := spl_sorted (s1 :: ds) N h64
      have hx0 : ix [s0, s1] 0 = s0 := rfl
      have hx1 : ix [s0, s1] 1 = s1 := rfl
      rw [hx0]
      refine callG_x rfl cb37 rfl (splitOK (l := cs) s0 N (by omega) h64 (by omega) (shows_own rfl fun _ => rfl) (by simp only [push_cast, ↓Int.toNat_natCast, ↓Int.cast_ofNat_Int, Int.cast_ofNat_Int, ↓reduceIte, reduceCtorEq, Nat.reduceEqDiff, Nat.reduceLT, Nat.reduceLeDiff, Nat.reduceAdd, Nat.reduceSub, Nat.reduceMul, Int.reduceNeg, Int.reduceLE, Int.reduceLT, Int.reduceToNat, Int.reduceAdd, Int.reduceSub, Int.reduceMul, Int.reduceEq])) (dOk_lt rfl) (by simp only [push_cast, ↓Int.toNat_natCast, ↓Int.cast_ofNat_Int, Int.cast_ofNat_Int, ↓reduceIte, reduceCtorEq, Nat.reduceEqDiff, Nat.reduceLT, Nat.reduceLeDiff, Nat.reduceAdd, Nat.reduceSub, Nat.reduceMul, Int.reduceNeg, Int.reduceLE, Int.reduceLT, Int.reduceToNat, Int.reduceAdd, Int.reduceSub, Int.reduceMul, Int.reduceEq]) ?_
      simp (config := { maxSteps := 1000000 }) only [hK, hN, hx1, undef, push_cast, ↓Int.toNat_natCast, ↓Int.cast_ofNat_Int, Int.cast_ofNat_Int, ↓reduceIte, reduceCtorEq, Nat.reduceEqDiff, Nat.reduceLT, Nat.reduceLeDiff, Nat.reduceAdd, Nat.reduceSub, Nat.reduceMul, Int.reduceNeg, Int.reduceLE, Int.reduceLT, Int.reduceToNat, Int.reduceAdd, Int.reduceSub, Int.reduceMul, Int.reduceEq]
      (repeat (refine And.intro (by first | omega | decide) ?_))
      refine callG_x rfl cb37 rfl (splitOK (l := ds) s1 N (by omega) h64 (by omega) (shows_own rfl fun _ => rfl) (by simp only [push_cast, ↓Int.toNat_natCast, ↓Int.cast_ofNat_Int, Int.cast_ofNat_Int, ↓reduceIte, reduceCtorEq, Nat.reduceEqDiff, Nat.reduceLT, Nat.reduceLeDiff, Nat.reduceAdd, Nat.reduceSub, Nat.reduceMul, Int.reduceNeg, Int.reduceLE, Int.reduceLT, Int.reduceToNat, Int.reduceAdd, Int.reduceSub, Int.reduceMul, Int.reduceEq])) (dOk_lt rfl) (by simp only [push_cast, ↓Int.toNat_natCast, ↓Int.cast_ofNat_Int, Int.cast_ofNat_Int, ↓reduceIte, reduceCtorEq, Nat.reduceEqDiff, Nat.reduceLT, Nat.reduceLeDiff, Nat.reduceAdd, Nat.reduceSub, Nat.reduceMul, Int.reduceNeg, Int.reduceLE, Int.reduceLT, Int.reduceToNat, Int.reduceAdd, Int.reduceSub, Int.reduceMul, Int.reduceEq]) ?_
      simp (config := { maxSteps := 1000000 }) only [undef, push_cast, ↓Int.toNat_natCast, ↓Int.cast_ofNat_Int, Int.cast_ofNat_Int, ↓reduceIte, reduceCtorEq, Nat.reduceEqDiff, Nat.reduceLT, Nat.reduceLeDiff, Nat.reduceAdd, Nat.reduceSub, Nat.reduceMul, Int.reduceNeg, Int.reduceLE, Int.reduceLT, Int.reduceToNat, Int.reduceAdd, Int.reduceSub, Int.reduceMul, Int.reduceEq]
      (repeat (refine And.intro (by first | omega | decide) ?_))
      refine callG_x rfl cb43 rfl (sumOK (l := splS (s0 :: cs) N) (m := splS (s1 :: ds) N) hse (showsR_shc rfl) (showsR_shc rfl) (by simp only [push_cast, ↓Int.toNat_natCast, ↓Int.cast_ofNat_Int, Int.cast_ofNat_Int, ↓reduceIte, reduceCtorEq, Nat.reduceEqDiff, Nat.reduceLT, Nat.reduceLeDiff, Nat.reduceAdd, Nat.reduceSub, Nat.reduceMul, Int.reduceNeg, Int.reduceLE, Int.reduceLT, Int.reduceToNat, Int.reduceAdd, Int.reduceSub, Int.reduceMul, Int.reduceEq])) (dOk_lt rfl) (by simp only [push_cast, ↓Int.toNat_natCast, ↓Int.cast_ofNat_Int, Int.cast_ofNat_Int, ↓reduceIte, reduceCtorEq, Nat.reduceEqDiff, Nat.reduceLT, Nat.reduceLeDiff, Nat.reduceAdd, Nat.reduceSub, Nat.reduceMul, Int.reduceNeg, Int.reduceLE, Int.reduceLT, Int.reduceToNat, Int.reduceAdd, Int.reduceSub, Int.reduceMul, Int.reduceEq]) ?_
      rw [hso, hso2, la]
      unfold soL at f1 f2 hsl
      unfold aL at f1 f2 f3 f4 hsl lS
      generalize splS (s0 :: cs) N = a at *
      generalize splS (s1 :: ds) N = b at *
      generalize sumTo a b N = S at *
      simp (config := { maxSteps := 1000000 }) only [hN, la, half2, undef, push_cast, ↓Int.toNat_natCast, ↓Int.cast_ofNat_Int, Int.cast_ofNat_Int, ↓reduceIte, reduceCtorEq, Nat.reduceEqDiff, Nat.reduceLT, Nat.reduceLeDiff, Nat.reduceAdd, Nat.reduceSub, Nat.reduceMul, Int.reduceNeg, Int.reduceLE, Int.reduceLT, Int.reduceToNat, Int.reduceAdd, Int.reduceSub, Int.reduceMul, Int.reduceEq]
      (repeat (refine And.intro (by first | omega | decide) ?_))
      refine loop_ghostN 18 76 2 (.c []) (by omega) rfl rfl (by simp only [push_cast, ↓Int.toNat_natCast, ↓Int.cast_ofNat_Int, Int.cast_ofNat_Int, ↓reduceIte, reduceCtorEq, Nat.reduceEqDiff, Nat.reduceLT, Nat.reduceLeDiff, Nat.reduceAdd, Nat.reduceSub, Nat.reduceMul, Int.reduceNeg, Int.reduceLE, Int.reduceLT, Int.reduceToNat, Int.reduceAdd, Int.reduceSub, Int.reduceMul, Int.reduceEq]) ?_
      refine loop_rule (ι := Nat) (fun i => ⟨[(2, (.x (.a (.v (.slice A2 sk.length c2))))), (3, (.x (.a (.p 0 0)))), (7, .x (.a (.v (.int .i64 T)))), (11, .x (.a (.v (.int .i64 K)))), (12, .x (.a (.o 1))), (16, .x (.a (.o 2))), (18, .x (.a (.o 3))), (19, .x (.a (.v (.int .i64 ((somI N T sk i).2 : Int))))), (20, .x (.a (.v (.int .i64 i))))], [(.blk 66 (.u64 [s0, s1])), .onn 76 2 (.c (shc a)), .onn 76 2 (.c (shc S)), .onn 76 2 (.c (shc ((somI N T sk i).1.map (ix a))))]⟩) (fun i => i ≤ N) (fun i => N - i) 0 [0, 3, 5, 6] (by omega) ?_ ?_
      · simp (config := { maxSteps := 1000000 }) only [somI_zero, shc_nil, show ((3 : Nat) : Int) = 3 from rfl, push_cast, ↓Int.toNat_natCast, ↓Int.cast_ofNat_Int, Int.cast_ofNat_Int, ↓reduceIte, reduceCtorEq, Nat.reduceEqDiff, Nat.reduceLT, Nat.reduceLeDiff, Nat.reduceAdd, Nat.reduceSub, Nat.reduceMul, Int.reduceNeg, Int.reduceLE, Int.reduceLT, Int.reduceToNat, Int.reduceAdd, Int.reduceSub, Int.reduceMul, Int.reduceEq]
      · clear hi hlt
        intro i hi
        by_cases hlt : (i : Int) < N
        · have i0 : (0 : Int) ≤ i := by omega
          have hmany := somI_many N T sk i
          have hskip := somI_skip (N := N) (T := T) (sk := sk) (k := i)
          have htake := somI_take (N := N) (T := T) (sk := sk) (k := i)
          generalize somI N T sk i = p at *
          have hjN := Nat.mod_lt (i + T) (show N > 0 by omega)
          have hmod : ((i : Int) + T).tmod N = (((i + T) % N : Nat) : Int) := by
            rw [← Int.natCast_add, ← Int.ofNat_tmod]
          generalize (i + T) % N = j at *
          have j0 : (0 : Int) ≤ j := by omega
          have j1 : (j : Int) < N := by omega
          have j2 : j * 2 + 2 ≤ N * 2 := by omega
          have hN0 : ¬ (N : Int) = 0 := by omega
          have hpart := shc_part a j (by omega)
          have hsn := shc_snoc (p.1.map (ix a)) (ix a j).1 (ix a j).2
          have hmp : p.1.map (ix a) ++ [((ix a j).1, (ix a j).2)] = (p.1 ++ [j]).map (ix a) := by simp
          rw [hmp] at hsn
          have b5 : (p.1.length + 1) * 16 ≤ 140737488355328 := by omega
          have b6 : p.1.length + 1 ≤ 2 ^ 63 - 1 := by omega
          have w1 : (-9223372036854775808 : Int) ≤ (i : Int) + T := by omega
          have w2 : (i : Int) + T ≤ 9223372036854775807 := by omega
          by_cases h1 : (i : Int) < sk.length
          · have hcell := (FV.no hR2).cell (i := i) (u := .bool (ix sk i)) (by rw [List.getElem?_map, List.getElem?_eq_getElem (show i < sk.length by omega), ix_get (show i < sk.length by omega)]; rfl)
            obtain ⟨e0, o0⟩ := hcell
            have hA2 := (FV.no hR2).some_ (by rw [List.length_map]; omega)
            cases h2 : ix sk i
            · have h3 : True := trivial
              have ht := htake (fun h => by rw [h2] at h; cases h.2.1)
              rw [h2] at e0
              simp (config := { maxSteps := 1000000 }) only [hlt, h1, h3, i0, e0, o0, hA2, hmod, j0, j1, j2, hN0, hpart, hsn, b5, b6, w1, w2, la, half2, pAdd_zero, pAdd_add, pAdd_isSome, undef, push_cast, ↓Int.toNat_natCast, ↓Int.cast_ofNat_Int, Int.cast_ofNat_Int, ↓reduceIte, reduceCtorEq, Nat.reduceEqDiff, Nat.reduceLT, Nat.reduceLeDiff, Nat.reduceAdd, Nat.reduceSub, Nat.reduceMul, Int.reduceNeg, Int.reduceLE, Int.reduceLT, Int.reduceToNat, Int.reduceAdd, Int.reduceSub, Int.reduceMul, Int.reduceEq]; (repeat (refine And.intro (by first | omega | decide) ?_)); refine loopK_normal (i + 1) [0, 1, 2, 5] (by omega) (by omega) ?_; simp (config := { maxSteps := 1000000 }) only [ht, push_cast, ↓Int.toNat_natCast, ↓Int.cast_ofNat_Int, Int.cast_ofNat_Int, ↓reduceIte, reduceCtorEq, Nat.reduceEqDiff, Nat.reduceLT, Nat.reduceLeDiff, Nat.reduceAdd, Nat.reduceSub, Nat.reduceMul, Int.reduceNeg, Int.reduceLE, Int.reduceLT, Int.reduceToNat, Int.reduceAdd, Int.reduceSub, Int.reduceMul, Int.reduceEq]
            · rw [h2] at e0
              by_cases h3 : (0 : Int) < p.2
              · have hs := hskip ⟨by omega, h2, by omega⟩
                have e3 : ((p.2 - 1 : Nat) : Int) = (p.2 : Int) - 1 := by omega
                have e4 : (-9223372036854775808 : Int) ≤ (p.2 : Int) - 1 := by omega
                simp (config := { maxSteps := 1000000 }) only [hlt, h1, i0, h3, e0, o0, hA2, la, half2, pAdd_zero, pAdd_add, pAdd_isSome, undef, push_cast, ↓Int.toNat_natCast, ↓Int.cast_ofNat_Int, Int.cast_ofNat_Int, ↓reduceIte, reduceCtorEq, Nat.reduceEqDiff, Nat.reduceLT, Nat.reduceLeDiff, Nat.reduceAdd, Nat.reduceSub, Nat.reduceMul, Int.reduceNeg, Int.reduceLE, Int.reduceLT, Int.reduceToNat, Int.reduceAdd, Int.reduceSub, Int.reduceMul, Int.reduceEq]
                (repeat (refine And.intro (by first | omega | decide) ?_))
                refine loopK_normal (i + 1) [0, 1, 2, 3] (by omega) (by omega) ?_
                simp (config := { maxSteps := 1000000 }) only [hs, e3, push_cast, ↓Int.toNat_natCast, ↓Int.cast_ofNat_Int, Int.cast_ofNat_Int, ↓reduceIte, reduceCtorEq, Nat.reduceEqDiff, Nat.reduceLT, Nat.reduceLeDiff, Nat.reduceAdd, Nat.reduceSub, Nat.reduceMul, Int.reduceNeg, Int.reduceLE, Int.reduceLT, Int.reduceToNat, Int.reduceAdd, Int.reduceSub, Int.reduceMul, Int.reduceEq]
              · have ht := htake (fun h => by omega)
                simp (config := { maxSteps := 1000000 }) only [hlt, h1, h3, i0, e0, o0, hA2, hmod, j0, j1, j2, hN0, hpart, hsn, b5, b6, w1, w2, la, half2, pAdd_zero, pAdd_add, pAdd_isSome, undef, push_cast, ↓Int.toNat_natCast, ↓Int.cast_ofNat_Int, Int.cast_ofNat_Int, ↓reduceIte, reduceCtorEq, Nat.reduceEqDiff, Nat.reduceLT, Nat.reduceLeDiff, Nat.reduceAdd, Nat.reduceSub, Nat.reduceMul, Int.reduceNeg, Int.reduceLE, Int.reduceLT, Int.reduceToNat, Int.reduceAdd, Int.reduceSub, Int.reduceMul, Int.reduceEq]; (repeat (refine And.intro (by first | omega | decide) ?_)); refine loopK_normal (i + 1) [0, 1, 2, 5] (by omega) (by omega) ?_; simp (config := { maxSteps := 1000000 }) only [ht, push_cast, ↓Int.toNat_natCast, ↓Int.cast_ofNat_Int, Int.cast_ofNat_Int, ↓reduceIte, reduceCtorEq, Nat.reduceEqDiff, Nat.reduceLT, Nat.reduceLeDiff, Nat.reduceAdd, Nat.reduceSub, Nat.reduceMul, Int.reduceNeg, Int.reduceLE, Int.reduceLT, Int.reduceToNat, Int.reduceAdd, Int.reduceSub, Int.reduceMul, Int.reduceEq]
          · have e0 : True := trivial
            have o0 : True := trivial
            have hA2 : True := trivial
            have h3 : True := trivial
            have ht := htake (fun h => by omega)
            simp (config := { maxSteps := 1000000 }) only [hlt, h1, i0, e0, o0, hA2, hmod, j0, j1, j2, hN0, hpart, hsn, b5, b6, w1, w2, la, half2, pAdd_zero, pAdd_add, pAdd_isSome, undef, push_cast, ↓Int.toNat_natCast, ↓Int.cast_ofNat_Int, Int.cast_ofNat_Int, ↓reduceIte, reduceCtorEq, Nat.reduceEqDiff, Nat.reduceLT, Nat.reduceLeDiff, Nat.reduceAdd, Nat.reduceSub, Nat.reduceMul, Int.reduceNeg, Int.reduceLE, Int.reduceLT, Int.reduceToNat, Int.reduceAdd, Int.reduceSub, Int.reduceMul, Int.reduceEq]
            refine And.intro ⟨by omega, by omega⟩ ?_
            refine loopK_normal (i + 1) [0, 1, 2, 5] (by omega) (by omega) ?_
            simp (config := { maxSteps := 1000000 }) only [ht, push_cast, ↓Int.toNat_natCast, ↓Int.cast_ofNat_Int, Int.cast_ofNat_Int, ↓reduceIte, reduceCtorEq, Nat.reduceEqDiff, Nat.reduceLT, Nat.reduceLeDiff, Nat.reduceAdd, Nat.reduceSub, Nat.reduceMul, Int.reduceNeg, Int.reduceLE, Int.reduceLT, Int.reduceToNat, Int.reduceAdd, Int.reduceSub, Int.reduceMul, Int.reduceEq]
        · have e : i = N := by omega
          subst e
          simp (config := { maxSteps := 1000000 }) only [hlt, la, half2, undef, push_cast, ↓Int.toNat_natCast, ↓Int.cast_ofNat_Int, Int.cast_ofNat_Int, ↓reduceIte, reduceCtorEq, Nat.reduceEqDiff, Nat.reduceLT, Nat.reduceLeDiff, Nat.reduceAdd, Nat.reduceSub, Nat.reduceMul, Int.reduceNeg, Int.reduceLE, Int.reduceLT, Int.reduceToNat, Int.reduceAdd, Int.reduceSub, Int.reduceMul, Int.reduceEq]
          (repeat (refine And.intro (by first | omega | decide) ?_))
          generalize (somI i T sk i).1.map (ix a) = L at *
          obtain ⟨J, rfl⟩ : ∃ J, K = J + 1 := ⟨K - 1, by omega⟩
          have hJ : ((J + 1 : Nat) : Int) - 1 = J := by omega
          have hJ' : (J : Int) + 1 - 1 = J := by omega
          rw [Nat.add_sub_cancel] at f2
          have J0 : (0 : Int) ≤ J := by omega
          have J1 : (J : Int) ≤ L.length := by omega
          have J2 : (-9223372036854775808 : Int) ≤ J := by omega
          have J3 : (J : Int) ≤ 9223372036854775807 := by omega
          have e7 : erS 7 = .iface 121 (.int .i64 7) := rfl
          have e4 : erS 4 = .iface 121 (.int .i64 4) := rfl
          have hP0 : ¬ (2305843009213693951 : UInt64) = 0 := by decide
          have hlit : (2305843009213693951 : UInt64) = fpP := rfl
          refine callG_v rfl cb41 rfl (joinOK (l := L) ((J + 1 : Nat) : Int) (by omega) (showsR_shc rfl)) (dOk_lt rfl) ?_
          rw [f1.1, f1.2]
          simp (config := { maxSteps := 1000000 }) only [erS_zero, undef, push_cast, ↓Int.toNat_natCast, ↓Int.cast_ofNat_Int, Int.cast_ofNat_Int, ↓reduceIte, reduceCtorEq, Nat.reduceEqDiff, Nat.reduceLT, Nat.reduceLeDiff, Nat.reduceAdd, Nat.reduceSub, Nat.reduceMul, Int.reduceNeg, Int.reduceLE, Int.reduceLT, Int.reduceToNat, Int.reduceAdd, Int.reduceSub, Int.reduceMul, Int.reduceEq]
          (repeat (refine And.intro (by first | omega | decide) ?_))
          refine callG_v rfl cb41 rfl (joinOK (l := S) ((J + 1 : Nat) : Int) (by omega) (showsR_shc rfl)) (dOk_lt rfl) ?_
          rw [f4.1, f4.2]
          simp (config := { maxSteps := 1000000 }) only [erS_zero, hJ, hJ', J0, J1, J2, J3, Nat.sub_zero, half2, undef, push_cast, ↓Int.toNat_natCast, ↓Int.cast_ofNat_Int, Int.cast_ofNat_Int, ↓reduceIte, reduceCtorEq, Nat.reduceEqDiff, Nat.reduceLT, Nat.reduceLeDiff, Nat.reduceAdd, Nat.reduceSub, Nat.reduceMul, Int.reduceNeg, Int.reduceLE, Int.reduceLT, Int.reduceToNat, Int.reduceAdd, Int.reduceSub, Int.reduceMul, Int.reduceEq]
          (repeat (refine And.intro (by first | omega | decide) ?_))
          refine callG_v rfl cb41 rfl (joinOK (l := L.take J) ((J + 1 : Nat) : Int) (by rw [List.length_take]; omega) (showsR_shy rfl (by omega))) (dOk_lt rfl) ?_
          rw [f2, e7]
          simp (config := { maxSteps := 1000000 }) only [hx0, hx1, hP0, hlit, undef, push_cast, ↓Int.toNat_natCast, ↓Int.cast_ofNat_Int, Int.cast_ofNat_Int, ↓reduceIte, reduceCtorEq, Nat.reduceEqDiff, Nat.reduceLT, Nat.reduceLeDiff, Nat.reduceAdd, Nat.reduceSub, Nat.reduceMul, Int.reduceNeg, Int.reduceLE, Int.reduceLT, Int.reduceToNat, Int.reduceAdd, Int.reduceSub, Int.reduceMul, Int.reduceEq]
          (repeat (refine And.intro (by first | omega | decide) ?_))
          refine callG_v rfl cb47 rfl (rAddK s0 s1) (dOk_lt rfl) ?_
          simp (config := { maxSteps := 1000000 }) only [undef, push_cast, ↓Int.toNat_natCast, ↓Int.cast_ofNat_Int, Int.cast_ofNat_Int, ↓reduceIte, reduceCtorEq, Nat.reduceEqDiff, Nat.reduceLT, Nat.reduceLeDiff, Nat.reduceAdd, Nat.reduceSub, Nat.reduceMul, Int.reduceNeg, Int.reduceLE, Int.reduceLT, Int.reduceToNat, Int.reduceAdd, Int.reduceSub, Int.reduceMul, Int.reduceEq]
          (repeat (refine And.intro (by first | omega | decide) ?_))
          refine callG_v rfl cb46 rfl (nmOK04 7 hg) (dOk_lt rfl) ?_
          simp (config := { maxSteps := 1000000 }) only [undef, push_cast, ↓Int.toNat_natCast, ↓Int.cast_ofNat_Int, Int.cast_ofNat_Int, ↓reduceIte, reduceCtorEq, Nat.reduceEqDiff, Nat.reduceLT, Nat.reduceLeDiff, Nat.reduceAdd, Nat.reduceSub, Nat.reduceMul, Int.reduceNeg, Int.reduceLE, Int.reduceLT, Int.reduceToNat, Int.reduceAdd, Int.reduceSub, Int.reduceMul, Int.reduceEq]
          (repeat (refine And.intro (by first | omega | decide) ?_))
          have hmod : (T : Int).tmod i = ((T % i : Nat) : Int) := by rw [← Int.ofNat_tmod]
          have hjN := Nat.mod_lt T (show i > 0 by omega)
          generalize T % i = j at *
          have j0 : (0 : Int) ≤ j := by omega
          have j1 : (j : Int) < i := by omega
          have j2 : j < i := by omega
          have j3 : j * 2 + 1 < i * 2 := by omega
          have hN0 : ¬ (i : Int) = 0 := by omega
          have q1 := shc_get1 a j (by omega)
          have st := shc_set1 a j (addU (ix a j).2 1) (by omega)
          refine drawT_rule 16 [(0, true), (1, true), (2, true), (3, true), (4, true), (5, true), (6, true), (7, true), (8, true), (9, true), (10, true), (11, true), (12, true), (13, false), (14, true), (15, true)] (by kernel_rfl) (by kernel_rfl) ?_
          simp (config := { maxSteps := 1000000 }) only [hmod, j0, j1, j2, j3, hN0, la, half2, q1, undef, push_cast, ↓Int.toNat_natCast, ↓Int.cast_ofNat_Int, Int.cast_ofNat_Int, ↓reduceIte, reduceCtorEq, Nat.reduceEqDiff, Nat.reduceLT, Nat.reduceLeDiff, Nat.reduceAdd, Nat.reduceSub, Nat.reduceMul, Int.reduceNeg, Int.reduceLE, Int.reduceLT, Int.reduceToNat, Int.reduceAdd, Int.reduceSub, Int.reduceMul, Int.reduceEq]
          (repeat (refine And.intro (by first | omega | decide) ?_))
          refine callM_v rfl cb47 rfl (rAddK (ix a j).2 1) (dOk_lt rfl) ?_
          simp (config := { maxSteps := 1000000 }) only [hmod, j0, j1, j2, j3, hN0, la, half2, q1, st, undef, push_cast, ↓Int.toNat_natCast, ↓Int.cast_ofNat_Int, Int.cast_ofNat_Int, ↓reduceIte, reduceCtorEq, Nat.reduceEqDiff, Nat.reduceLT, Nat.reduceLeDiff, Nat.reduceAdd, Nat.reduceSub, Nat.reduceMul, Int.reduceNeg, Int.reduceLE, Int.reduceLT, Int.reduceToNat, Int.reduceAdd, Int.reduceSub, Int.reduceMul, Int.reduceEq]
          (repeat (refine And.intro (by first | omega | decide) ?_))
          refine callG_v rfl cb41 rfl (joinOK (l := a.set j ((ix a j).1, addU (ix a j).2 1)) ((J + 1 : Nat) : Int) (by rw [List.length_set]; omega) (showsR_shc rfl)) (dOk_lt rfl) ?_
          rw [f3, e4]
          simp (config := { maxSteps := 1000000 }) only [undef, push_cast, ↓Int.toNat_natCast, ↓Int.cast_ofNat_Int, Int.cast_ofNat_Int, ↓reduceIte, reduceCtorEq, Nat.reduceEqDiff, Nat.reduceLT, Nat.reduceLeDiff, Nat.reduceAdd, Nat.reduceSub, Nat.reduceMul, Int.reduceNeg, Int.reduceLE, Int.reduceLT, Int.reduceToNat, Int.reduceAdd, Int.reduceSub, Int.reduceMul, Int.reduceEq]
          (repeat (refine And.intro (by first | omega | decide) ?_))
          refine callG_v rfl cb46 rfl (nmOK04 4 hg) (dOk_lt rfl) ?_
          simp (config := { maxSteps := 1000000 }) only [undef, push_cast, ↓Int.toNat_natCast, ↓Int.cast_ofNat_Int, Int.cast_ofNat_Int, ↓reduceIte, reduceCtorEq, Nat.reduceEqDiff, Nat.reduceLT, Nat.reduceLeDiff, Nat.reduceAdd, Nat.reduceSub, Nat.reduceMul, Int.reduceNeg, Int.reduceLE, Int.reduceLT, Int.reduceToNat, Int.reduceAdd, Int.reduceSub, Int.reduceMul, Int.reduceEq]
          (repeat (refine And.intro (by first | omega | decide) ?_))
          refine callG_v rfl cb35 rfl (sure04OK hg) (dOk_lt rfl) ?_
          simp (config := { maxSteps := 1000000 }) only [undef, push_cast, ↓Int.toNat_natCast, ↓Int.cast_ofNat_Int, Int.cast_ofNat_Int, ↓reduceIte, reduceCtorEq, Nat.reduceEqDiff, Nat.reduceLT, Nat.reduceLeDiff, Nat.reduceAdd, Nat.reduceSub, Nat.reduceMul, Int.reduceNeg, Int.reduceLE, Int.reduceLT, Int.reduceToNat, Int.reduceAdd, Int.reduceSub, Int.reduceMul, Int.reduceEq]
end Go.Proofs.YteiifdpikcnbgaaDoor
