/- Chapter 25's shares, by the document (caucusref25). -/
import Derived.Test.YteiifdpikcnbgaaDoorEsE
namespace Go.Proofs.YteiifdpikcnbgaaDoor
open Go.RowKit
set_option linter.unusedSimpArgs false
theorem isP_none (p : Pr) : isP [] p = false := rfl
theorem isP_step (l : List Pr) (p : Pr) (i : Nat) (h : i < l.length) : isP (l.take (i + 1)) p = (isP (l.take i) p || decide (ix l i = p)) := by
  have e : ix l i = l[i] := by simp [ix, List.getD_eq_getElem?_getD, List.getElem?_eq_getElem h]
  unfold isP
  rw [List.take_add_one, List.getElem?_eq_getElem h, Bool.eq_iff_iff, Bool.or_eq_true, decide_eq_true_eq, decide_eq_true_eq, decide_eq_true_eq, List.mem_append, e]
  simp [eq_comm]
attribute [local irreducible] Callable CallOK CallG CallM DrawG LoopG symR symM
attribute [local irreducible] may isP bxErr bxOut bxOk bxTo bxV addU subU polyU powU hidU atU eopErr eopX eopY eopOk
set_option maxRecDepth 100000 in
set_option maxHeartbeats 8000000 in
theorem rbox_any (me gen need : Int) (self key : UInt64) (of an : List UInt64) (l : List Pr) (A : Option Addr) (c : Nat) (A2 : Option Addr) (c2 : Nat) (A3 : Option Addr) (c3 : Nat) (w : World) (hl : l.length ≤ 1000) (h2l : of.length ≤ 1000) (h3l : an.length ≤ 1000)
    (hc : l.length ≤ c) (hc2 : of.length ≤ c2) (hc3 : an.length ≤ c3) (hR : RdV w w.heap.size A (pvs l)) (hR2 : RdV w w.heap.size A2 (of.map vU64)) (hR3 : RdV w w.heap.size A3 (an.map vU64)) :
    Calls Tryd.prog 29 (List.map (Sv.val []) [.x (.a (.v (.int .i64 me))), .x (.a (.v (.int .i64 gen))), (.x (.g [.v (vU64 self), .v (vU64 key), .v (.slice A2 of.length c2), .v (.slice A3 an.length c3)])), .x (.a (.v (.int .i64 need))), .x (.a (.v (.slice A l.length c)))]).toArray w fun e w' => ∃ v, e = .returned (.tuple #[v, .bool (bxOk me gen need key of.length an.length l)]) ∧ Own w' w.heap.size 23 v ((bxOut me gen need self key of an l).map vU64) ∧ Below w.heap.size w w' := by
  have F := FP.of hR
  have h0 := fun h => calls_own2 (P := Tryd.prog) (w := w) (n := 147) Tryd.func29 rfl Tryd.ntmps29 [.x (.a (.v (.int .i64 me))), .x (.a (.v (.int .i64 gen))), (.x (.g [.v (vU64 self), .v (vU64 key), .v (.slice A2 of.length c2), .v (.slice A3 an.length c3)])), .x (.a (.v (.int .i64 need))), .x (.a (.v (.slice A l.length c)))] (by simp) 23 (.u64 (bxOut me gen need self key of an l)) (.bool (bxOk me gen need key of.length an.length l)) (vs := (bxOut me gen need self key of an l).map vU64) (fun _ => rfl) h
  refine h0 ?_
  clear h0
  have no : ¬ bxOk me gen need key of.length an.length l = true → bxOk me gen need key of.length an.length l = false ∧ bxOut me gen need self key of an l = [] := fun h => ⟨by simpa using h, (bx_no h self).2⟩
  simp (config := { maxSteps := 1000000 }) only [undef, push_cast, ↓Int.toNat_natCast, ↓Int.cast_ofNat_Int, Int.cast_ofNat_Int, ↓reduceIte, reduceCtorEq, Nat.reduceEqDiff, Nat.reduceLT, Nat.reduceLeDiff, Nat.reduceAdd, Nat.reduceSub, Nat.reduceMul, Int.reduceNeg, Int.reduceLE, Int.reduceLT, Int.reduceToNat, Int.reduceAdd, Int.reduceSub, Int.reduceMul, Int.reduceEq]
  refine callG_v rfl cb60 rfl (may09OK (by omega) (showsR_raw hR hc)) (dOk_lt rfl) ?_
  cases hm : may l
  · obtain ⟨n1, n2⟩ := no fun h => by rw [(bxOk_spec.1 h).1] at hm; cases hm
    simp (config := { maxSteps := 1000000 }) only [n1, n2, undef, ownT2, ownT, push_cast, ↓Int.toNat_natCast, ↓Int.cast_ofNat_Int, Int.cast_ofNat_Int, ↓reduceIte, reduceCtorEq, Nat.reduceEqDiff, Nat.reduceLT, Nat.reduceLeDiff, Nat.reduceAdd, Nat.reduceSub, Nat.reduceMul, Int.reduceNeg, Int.reduceLE, Int.reduceLT, Int.reduceToNat, Int.reduceAdd, Int.reduceSub, Int.reduceMul, Int.reduceEq]
  by_cases g1 : gen < 1
  · obtain ⟨n1, n2⟩ := no fun h => by have := bxOk_spec.1 h; omega
    simp (config := { maxSteps := 1000000 }) only [g1, n1, n2, undef, ownT2, ownT, push_cast, ↓Int.toNat_natCast, ↓Int.cast_ofNat_Int, Int.cast_ofNat_Int, ↓reduceIte, reduceCtorEq, Nat.reduceEqDiff, Nat.reduceLT, Nat.reduceLeDiff, Nat.reduceAdd, Nat.reduceSub, Nat.reduceMul, Int.reduceNeg, Int.reduceLE, Int.reduceLT, Int.reduceToNat, Int.reduceAdd, Int.reduceSub, Int.reduceMul, Int.reduceEq]
  by_cases g2 : 1073741824 < gen
  · obtain ⟨n1, n2⟩ := no fun h => by have := bxOk_spec.1 h; omega
    simp (config := { maxSteps := 1000000 }) only [g1, g2, n1, n2, undef, ownT2, ownT, push_cast, ↓Int.toNat_natCast, ↓Int.cast_ofNat_Int, Int.cast_ofNat_Int, ↓reduceIte, reduceCtorEq, Nat.reduceEqDiff, Nat.reduceLT, Nat.reduceLeDiff, Nat.reduceAdd, Nat.reduceSub, Nat.reduceMul, Int.reduceNeg, Int.reduceLE, Int.reduceLT, Int.reduceToNat, Int.reduceAdd, Int.reduceSub, Int.reduceMul, Int.reduceEq]
  by_cases g3 : need < 1
  · obtain ⟨n1, n2⟩ := no fun h => by have := bxOk_spec.1 h; omega
    simp (config := { maxSteps := 1000000 }) only [g1, g2, g3, n1, n2, undef, ownT2, ownT, push_cast, ↓Int.toNat_natCast, ↓Int.cast_ofNat_Int, Int.cast_ofNat_Int, ↓reduceIte, reduceCtorEq, Nat.reduceEqDiff, Nat.reduceLT, Nat.reduceLeDiff, Nat.reduceAdd, Nat.reduceSub, Nat.reduceMul, Int.reduceNeg, Int.reduceLE, Int.reduceLT, Int.reduceToNat, Int.reduceAdd, Int.reduceSub, Int.reduceMul, Int.reduceEq]
  by_cases g4 : (l.length : Int) < need
  · obtain ⟨n1, n2⟩ := no fun h => by have := bxOk_spec.1 h; omega
    simp (config := { maxSteps := 1000000 }) only [g1, g2, g3, g4, n1, n2, undef, ownT2, ownT, push_cast, ↓Int.toNat_natCast, ↓Int.cast_ofNat_Int, Int.cast_ofNat_Int, ↓reduceIte, reduceCtorEq, Nat.reduceEqDiff, Nat.reduceLT, Nat.reduceLeDiff, Nat.reduceAdd, Nat.reduceSub, Nat.reduceMul, Int.reduceNeg, Int.reduceLE, Int.reduceLT, Int.reduceToNat, Int.reduceAdd, Int.reduceSub, Int.reduceMul, Int.reduceEq]
  obtain ⟨nn, hq⟩ : ∃ nn : Nat, need - 1 = nn := ⟨(need - 1).toNat, by omega⟩
  have b1 : (-9223372036854775808 : Int) ≤ nn := by omega
  have b2 : (nn : Int) ≤ 9223372036854775807 := by omega
  by_cases g5 : (of.length : Int) < nn
  · obtain ⟨n1, n2⟩ := no fun h => by have := bxOk_spec.1 h; omega
    simp (config := { maxSteps := 1000000 }) only [g1, g2, g3, g4, g5, hq, b1, b2, n1, n2, undef, ownT2, ownT, push_cast, ↓Int.toNat_natCast, ↓Int.cast_ofNat_Int, Int.cast_ofNat_Int, ↓reduceIte, reduceCtorEq, Nat.reduceEqDiff, Nat.reduceLT, Nat.reduceLeDiff, Nat.reduceAdd, Nat.reduceSub, Nat.reduceMul, Int.reduceNeg, Int.reduceLE, Int.reduceLT, Int.reduceToNat, Int.reduceAdd, Int.reduceSub, Int.reduceMul, Int.reduceEq]
  by_cases g6 : (an.length : Int) < nn
  · obtain ⟨n1, n2⟩ := no fun h => by have := bxOk_spec.1 h; omega
    simp (config := { maxSteps := 1000000 }) only [g1, g2, g3, g4, g5, g6, hq, b1, b2, n1, n2, undef, ownT2, ownT, push_cast, ↓Int.toNat_natCast, ↓Int.cast_ofNat_Int, Int.cast_ofNat_Int, ↓reduceIte, reduceCtorEq, Nat.reduceEqDiff, Nat.reduceLT, Nat.reduceLeDiff, Nat.reduceAdd, Nat.reduceSub, Nat.reduceMul, Int.reduceNeg, Int.reduceLE, Int.reduceLT, Int.reduceToNat, Int.reduceAdd, Int.reduceSub, Int.reduceMul, Int.reduceEq]
  simp (config := { maxSteps := 1000000 }) only [g1, g2, g3, g4, g5, g6, hq, b1, b2, undef, push_cast, ↓Int.toNat_natCast, ↓Int.cast_ofNat_Int, Int.cast_ofNat_Int, ↓reduceIte, reduceCtorEq, Nat.reduceEqDiff, Nat.reduceLT, Nat.reduceLeDiff, Nat.reduceAdd, Nat.reduceSub, Nat.reduceMul, Int.reduceNeg, Int.reduceLE, Int.reduceLT, Int.reduceToNat, Int.reduceAdd, Int.reduceSub, Int.reduceMul, Int.reduceEq]
  (repeat (refine And.intro (by first | omega | decide) ?_))
  refine loop_rule (ι := Nat) (fun i => ⟨[(0, .x (.a (.v (.int .i64 me)))), (1, .x (.a (.v (.int .i64 gen)))), (3, .x (.a (.v (.int .i64 need)))), (4, .x (.a (.v (.slice A l.length c)))), (7, .x (.a (.p 0 0))), (12, .x (.a (.v (.bool (isP (l.take i) (me, powU 3 key)))))), (13, .x (.a (.v (.int .i64 i))))], [.blk 64 (.c [.v (vU64 self), .v (vU64 key), .v (.slice A2 of.length c2), .v (.slice A3 an.length c3)])]⟩) (fun i => i ≤ l.length) (fun i => l.length - i) 0 [0] (by omega) ?_ ?_
  · simp (config := { maxSteps := 1000000 }) only [List.take_zero, isP_none, push_cast, ↓Int.toNat_natCast, ↓Int.cast_ofNat_Int, Int.cast_ofNat_Int, ↓reduceIte, reduceCtorEq, Nat.reduceEqDiff, Nat.reduceLT, Nat.reduceLeDiff, Nat.reduceAdd, Nat.reduceSub, Nat.reduceMul, Int.reduceNeg, Int.reduceLE, Int.reduceLT, Int.reduceToNat, Int.reduceAdd, Int.reduceSub, Int.reduceMul, Int.reduceEq]
  · intro i hil
    by_cases hlt : (i : Int) < l.length
    · have i0 : (0 : Int) ≤ i := by omega
      have c0 := F.c0 i (by omega)
      have c1 := F.c1 i (by omega)
      have o0 := F.ok0 i (by omega)
      have o1 := F.ok1 i (by omega)
      have hA := F.some_ (by omega)
      have hst := isP_step l (me, powU 3 key) i (by omega)
      have hpe := pr_eq (ix l i) (me, powU 3 key)
      cases hi : isP (l.take i) (me, powU 3 key)
      · rw [hi, Bool.false_or] at hst
        simp (config := { maxSteps := 1000000 }) only [hlt, undef, push_cast, ↓Int.toNat_natCast, ↓Int.cast_ofNat_Int, Int.cast_ofNat_Int, ↓reduceIte, reduceCtorEq, Nat.reduceEqDiff, Nat.reduceLT, Nat.reduceLeDiff, Nat.reduceAdd, Nat.reduceSub, Nat.reduceMul, Int.reduceNeg, Int.reduceLE, Int.reduceLT, Int.reduceToNat, Int.reduceAdd, Int.reduceSub, Int.reduceMul, Int.reduceEq]
        (repeat (refine And.intro (by first | omega | decide) ?_))
        refine draw_rule [(0, true), (1, true), (2, true), (3, true), (4, true), (5, true), (6, true), (7, true), (8, true), (9, false), (10, true), (11, true), (12, true), (13, true)] (by kernel_rfl) (by kernel_rfl) rfl (by kernel_rfl) ?_
        simp (config := { maxSteps := 1000000 }) only [hlt, i0, c0, c1, o0, o1, hA, hi, pAdd_zero, pAdd_add, pAdd_isSome, undef, push_cast, ↓Int.toNat_natCast, ↓Int.cast_ofNat_Int, Int.cast_ofNat_Int, ↓reduceIte, reduceCtorEq, Nat.reduceEqDiff, Nat.reduceLT, Nat.reduceLeDiff, Nat.reduceAdd, Nat.reduceSub, Nat.reduceMul, Int.reduceNeg, Int.reduceLE, Int.reduceLT, Int.reduceToNat, Int.reduceAdd, Int.reduceSub, Int.reduceMul, Int.reduceEq]
        (repeat (refine And.intro (by first | omega | decide) ?_))
        refine callM_v rfl cb74 rfl (refPowK 3 key) (dOk_lt rfl) ?_
        simp (config := { maxSteps := 1000000 }) only [hlt, i0, c0, c1, o0, o1, hA, hi, hpe, pAdd_zero, pAdd_add, pAdd_isSome, undef, push_cast, ↓Int.toNat_natCast, ↓Int.cast_ofNat_Int, Int.cast_ofNat_Int, ↓reduceIte, reduceCtorEq, Nat.reduceEqDiff, Nat.reduceLT, Nat.reduceLeDiff, Nat.reduceAdd, Nat.reduceSub, Nat.reduceMul, Int.reduceNeg, Int.reduceLE, Int.reduceLT, Int.reduceToNat, Int.reduceAdd, Int.reduceSub, Int.reduceMul, Int.reduceEq]
        (repeat (refine And.intro (by first | omega | decide) ?_))
        refine loopK_normal (i + 1) [0] (by omega) (by omega) ?_
        simp (config := { maxSteps := 1000000 }) only [hst, push_cast, ↓Int.toNat_natCast, ↓Int.cast_ofNat_Int, Int.cast_ofNat_Int, ↓reduceIte, reduceCtorEq, Nat.reduceEqDiff, Nat.reduceLT, Nat.reduceLeDiff, Nat.reduceAdd, Nat.reduceSub, Nat.reduceMul, Int.reduceNeg, Int.reduceLE, Int.reduceLT, Int.reduceToNat, Int.reduceAdd, Int.reduceSub, Int.reduceMul, Int.reduceEq]
      · rw [hi, Bool.true_or] at hst
        simp (config := { maxSteps := 1000000 }) only [hlt, undef, push_cast, ↓Int.toNat_natCast, ↓Int.cast_ofNat_Int, Int.cast_ofNat_Int, ↓reduceIte, reduceCtorEq, Nat.reduceEqDiff, Nat.reduceLT, Nat.reduceLeDiff, Nat.reduceAdd, Nat.reduceSub, Nat.reduceMul, Int.reduceNeg, Int.reduceLE, Int.reduceLT, Int.reduceToNat, Int.reduceAdd, Int.reduceSub, Int.reduceMul, Int.reduceEq]
        (repeat (refine And.intro (by first | omega | decide) ?_))
        refine draw_rule [(0, true), (1, true), (2, true), (3, true), (4, true), (5, true), (6, true), (7, true), (8, true), (9, false), (10, true), (11, true), (12, true), (13, true)] (by kernel_rfl) (by kernel_rfl) rfl (by kernel_rfl) ?_
        simp (config := { maxSteps := 1000000 }) only [hlt, i0, c0, c1, o0, o1, hA, hi, pAdd_zero, pAdd_add, pAdd_isSome, undef, push_cast, ↓Int.toNat_natCast, ↓Int.cast_ofNat_Int, Int.cast_ofNat_Int, ↓reduceIte, reduceCtorEq, Nat.reduceEqDiff, Nat.reduceLT, Nat.reduceLeDiff, Nat.reduceAdd, Nat.reduceSub, Nat.reduceMul, Int.reduceNeg, Int.reduceLE, Int.reduceLT, Int.reduceToNat, Int.reduceAdd, Int.reduceSub, Int.reduceMul, Int.reduceEq]
        (repeat (refine And.intro (by first | omega | decide) ?_))
        refine loopK_normal (i + 1) [0] (by omega) (by omega) ?_
        simp (config := { maxSteps := 1000000 }) only [hst, push_cast, ↓Int.toNat_natCast, ↓Int.cast_ofNat_Int, Int.cast_ofNat_Int, ↓reduceIte, reduceCtorEq, Nat.reduceEqDiff, Nat.reduceLT, Nat.reduceLeDiff, Nat.reduceAdd, Nat.reduceSub, Nat.reduceMul, Int.reduceNeg, Int.reduceLE, Int.reduceLT, Int.reduceToNat, Int.reduceAdd, Int.reduceSub, Int.reduceMul, Int.reduceEq]
    · have e : i = l.length := by omega
      subst e
      cases hi : isP l (me, powU 3 key)
      · obtain ⟨n1, n2⟩ := no fun h => by rw [(bxOk_spec.1 h).2.1] at hi; cases hi
        simp (config := { maxSteps := 1000000 }) only [hlt, List.take_length, hi, n1, n2, undef, ownT2, ownT, push_cast, ↓Int.toNat_natCast, ↓Int.cast_ofNat_Int, Int.cast_ofNat_Int, ↓reduceIte, reduceCtorEq, Nat.reduceEqDiff, Nat.reduceLT, Nat.reduceLeDiff, Nat.reduceAdd, Nat.reduceSub, Nat.reduceMul, Int.reduceNeg, Int.reduceLE, Int.reduceLT, Int.reduceToNat, Int.reduceAdd, Int.reduceSub, Int.reduceMul, Int.reduceEq]
      obtain ⟨_, n2⟩ := bx_yes (me := me) (gen := gen) (need := need) (key := key) (of := of) (an := an) (l := l) (bxOk_spec.2 ⟨hm, hi, by omega, by omega, by omega, by omega, by omega, by omega⟩) self
      have n1 : bxOk me gen need key of.length an.length l = true := bxOk_spec.2 ⟨hm, hi, by omega, by omega, by omega, by omega, by omega, by omega⟩
      obtain ⟨e2, k2⟩ := rd64_take nn (by omega) hR2
      obtain ⟨e3, k3⟩ := rd64_take nn (by omega) hR3
      have m1 : nn ≤ c2 := by omega
      have m2 : nn ≤ c3 := by omega
      have m3 : 0 ≤ (nn : Int) := by omega
      have t2 : (of.take nn).length = nn := by rw [List.length_take]; omega
      have t3 : (an.take nn).length = nn := by rw [List.length_take]; omega
      have b3 : (1 + nn) * 8 ≤ 140737488355328 := by omega
      have b4 : 1 + nn ≤ 2 ^ 63 - 1 := by omega
      simp (config := { maxSteps := 1000000 }) only [hlt, List.take_length, hi, undef, push_cast, ↓Int.toNat_natCast, ↓Int.cast_ofNat_Int, Int.cast_ofNat_Int, ↓reduceIte, reduceCtorEq, Nat.reduceEqDiff, Nat.reduceLT, Nat.reduceLeDiff, Nat.reduceAdd, Nat.reduceSub, Nat.reduceMul, Int.reduceNeg, Int.reduceLE, Int.reduceLT, Int.reduceToNat, Int.reduceAdd, Int.reduceSub, Int.reduceMul, Int.reduceEq]
      (repeat (refine And.intro (by first | omega | decide) ?_))
      refine drawK_rule [1] [(0, true), (1, true), (3, true), (4, true), (5, true), (6, true), (7, true), (2, false), (8, false), (9, true)] (by kernel_rfl) (by kernel_rfl) rfl (by kernel_rfl) ?_
      simp (config := { maxSteps := 1000000 }) only [pCut_zero, Nat.sub_zero, hq, b1, b2, b3, b4, m1, m2, m3, e2, e3, k2, k3, t2, t3, undef, push_cast, ↓Int.toNat_natCast, ↓Int.cast_ofNat_Int, Int.cast_ofNat_Int, ↓reduceIte, reduceCtorEq, Nat.reduceEqDiff, Nat.reduceLT, Nat.reduceLeDiff, Nat.reduceAdd, Nat.reduceSub, Nat.reduceMul, Int.reduceNeg, Int.reduceLE, Int.reduceLT, Int.reduceToNat, Int.reduceAdd, Int.reduceSub, Int.reduceMul, Int.reduceEq]
      (repeat (refine And.intro (by first | omega | decide) ?_))
      refine drawK_rule [3] [(0, true), (1, true), (3, true), (4, true), (5, true), (6, true), (7, true), (2, false), (8, false), (9, true)] (by kernel_rfl) (by kernel_rfl) rfl (by kernel_rfl) ?_
      simp (config := { maxSteps := 1000000 }) only [pCut_zero, Nat.sub_zero, hq, b1, b2, b3, b4, m1, m2, m3, e2, e3, k2, k3, t2, t3, undef, push_cast, ↓Int.toNat_natCast, ↓Int.cast_ofNat_Int, Int.cast_ofNat_Int, ↓reduceIte, reduceCtorEq, Nat.reduceEqDiff, Nat.reduceLT, Nat.reduceLeDiff, Nat.reduceAdd, Nat.reduceSub, Nat.reduceMul, Int.reduceNeg, Int.reduceLE, Int.reduceLT, Int.reduceToNat, Int.reduceAdd, Int.reduceSub, Int.reduceMul, Int.reduceEq]
      (repeat (refine And.intro (by first | omega | decide) ?_))
      have e4 : (need - 1).toNat = nn := by omega
      rw [e4] at n2
      obtain ⟨m, hme, hm64⟩ := isP_id hm hi
      have hme : me = (m : Int) := hme
      subst hme
      obtain ⟨g, rfl⟩ : ∃ g : Nat, gen = g := ⟨gen.toNat, by omega⟩
      generalize hfa : self :: of.take nn = fa at *
      generalize hfb : key :: an.take nn = fb at *
      have lfa : fa.length ≤ 1000000 := by rw [← hfa, List.length_cons]; omega
      have lfb : fb.length ≤ 1000000 := by rw [← hfb, List.length_cons]; omega
      refine loop_ghost 16 23 (.u64 []) rfl rfl trivial (by simp only [push_cast, ↓Int.toNat_natCast, ↓Int.cast_ofNat_Int, Int.cast_ofNat_Int, ↓reduceIte, reduceCtorEq, Nat.reduceEqDiff, Nat.reduceLT, Nat.reduceLeDiff, Nat.reduceAdd, Nat.reduceSub, Nat.reduceMul, Int.reduceNeg, Int.reduceLE, Int.reduceLT, Int.reduceToNat, Int.reduceAdd, Int.reduceSub, Int.reduceMul, Int.reduceEq]) ?_
      refine loop_rule (ι := Nat) (fun i => ⟨[(0, .x (.a (.v (.int .i64 m)))), (1, .x (.a (.v (.int .i64 g)))), (4, .x (.a (.v (.slice A l.length c)))), (7, .x (.a (.p 0 0))), (14, .x (.a (.o 1))), (15, .x (.a (.o 2))), (16, .x (.a (.o 3))), (17, .x (.a (.v (.int .i64 i))))],
        [.blk 64 (.c [.v (vU64 self), .v (vU64 key), .v (.slice A2 of.length c2), .v (.slice A3 an.length c3)]), .own 23 (.u64 fa), .own 23 (.u64 fb), .own 23 (.u64 (bxTo fa fb m g key l i))]⟩) (fun i => i ≤ l.length) (fun i => l.length - i) 0 [0, 2, 4, 5] (by omega) ?_ ?_
      · simp (config := { maxSteps := 1000000 }) only [bxTo, push_cast, ↓Int.toNat_natCast, ↓Int.cast_ofNat_Int, Int.cast_ofNat_Int, ↓reduceIte, reduceCtorEq, Nat.reduceEqDiff, Nat.reduceLT, Nat.reduceLeDiff, Nat.reduceAdd, Nat.reduceSub, Nat.reduceMul, Int.reduceNeg, Int.reduceLE, Int.reduceLT, Int.reduceToNat, Int.reduceAdd, Int.reduceSub, Int.reduceMul, Int.reduceEq]
      · intro i hil
        by_cases hlt : (i : Int) < l.length
        · have i0 : (0 : Int) ≤ i := by omega
          have c0 := F.c0 i (by omega)
          have c1 := F.c1 i (by omega)
          have o0 := F.ok0 i (by omega)
          have o1 := F.ok1 i (by omega)
          have hA := F.some_ (by omega)
          have hbl := bxTo_length fa fb m g key l i
          have q1 : (2 * i + 2) * 8 ≤ 140737488355328 := by omega
          have q2 : 2 * i + 2 ≤ 2 ^ 63 - 1 := by omega
          have hs := (bxTo_succ fa fb m g key l i).symm
          obtain ⟨d, hd, hd64⟩ := may_id hm (i := i) (by omega)
          have hat : UInt64.ofInt (d : Int) + 1 = atU d := by unfold atU; rfl
          have hv0 : addU (polyU fa (atU d)) (hidU (powU (ix l i).2 key) m d g 0) = bxV fa m g key (ix l i) 0 := by unfold bxV; rw [hd]; simp only [Int.toNat_natCast]
          have hv1 : addU (polyU fb (atU d)) (hidU (powU (ix l i).2 key) m d g 1) = bxV fb m g key (ix l i) 1 := by unfold bxV; rw [hd]; simp only [Int.toNat_natCast]
          simp (config := { maxSteps := 1000000 }) only [hlt, undef, push_cast, ↓Int.toNat_natCast, ↓Int.cast_ofNat_Int, Int.cast_ofNat_Int, ↓reduceIte, reduceCtorEq, Nat.reduceEqDiff, Nat.reduceLT, Nat.reduceLeDiff, Nat.reduceAdd, Nat.reduceSub, Nat.reduceMul, Int.reduceNeg, Int.reduceLE, Int.reduceLT, Int.reduceToNat, Int.reduceAdd, Int.reduceSub, Int.reduceMul, Int.reduceEq]
          (repeat (refine And.intro (by first | omega | decide) ?_))
          refine draw_rule [(0, true), (1, true), (2, true), (3, true), (4, true), (5, true), (6, true), (7, false), (8, true)] (by kernel_rfl) (by kernel_rfl) rfl (by kernel_rfl) ?_
          simp (config := { maxSteps := 1000000 }) only [hlt, i0, c0, c1, o0, o1, hA, hd, pAdd_zero, pAdd_add, pAdd_isSome, undef, push_cast, ↓Int.toNat_natCast, ↓Int.cast_ofNat_Int, Int.cast_ofNat_Int, ↓reduceIte, reduceCtorEq, Nat.reduceEqDiff, Nat.reduceLT, Nat.reduceLeDiff, Nat.reduceAdd, Nat.reduceSub, Nat.reduceMul, Int.reduceNeg, Int.reduceLE, Int.reduceLT, Int.reduceToNat, Int.reduceAdd, Int.reduceSub, Int.reduceMul, Int.reduceEq]
          (repeat (refine And.intro (by first | omega | decide) ?_))
          refine callM_v rfl cb74 rfl (refPowK _ _) (dOk_lt rfl) ?_
          simp (config := { maxSteps := 1000000 }) only [hlt, i0, c0, c1, o0, o1, hA, hd, hat, pAdd_zero, pAdd_add, pAdd_isSome, undef, push_cast, ↓Int.toNat_natCast, ↓Int.cast_ofNat_Int, Int.cast_ofNat_Int, ↓reduceIte, reduceCtorEq, Nat.reduceEqDiff, Nat.reduceLT, Nat.reduceLeDiff, Nat.reduceAdd, Nat.reduceSub, Nat.reduceMul, Int.reduceNeg, Int.reduceLE, Int.reduceLT, Int.reduceToNat, Int.reduceAdd, Int.reduceSub, Int.reduceMul, Int.reduceEq]
          (repeat (refine And.intro (by first | omega | decide) ?_))
          refine drawK_rule [3, 4] [(0, true), (1, true), (2, true), (4, true), (5, true), (6, true), (7, true), (8, true), (9, true), (10, true), (11, true), (14, true), (15, true), (17, true), (18, true), (19, true), (20, true), (21, true), (22, true), (23, true), (24, true), (3, false), (12, false), (13, false), (16, false), (25, false), (26, false), (27, false), (28, false), (29, true)] (by kernel_rfl) (by kernel_rfl) rfl (by kernel_rfl) ?_
          simp (config := { maxSteps := 1000000 }) only [hlt, i0, c0, c1, o0, o1, hA, hd, hat, pAdd_zero, pAdd_add, pAdd_isSome, undef, push_cast, ↓Int.toNat_natCast, ↓Int.cast_ofNat_Int, Int.cast_ofNat_Int, ↓reduceIte, reduceCtorEq, Nat.reduceEqDiff, Nat.reduceLT, Nat.reduceLeDiff, Nat.reduceAdd, Nat.reduceSub, Nat.reduceMul, Int.reduceNeg, Int.reduceLE, Int.reduceLT, Int.reduceToNat, Int.reduceAdd, Int.reduceSub, Int.reduceMul, Int.reduceEq]
          (repeat (refine And.intro (by first | omega | decide) ?_))
          refine callK_v rfl cb75 rfl (refEvalOK (c := fa) (atU d) lfa (shows_own rfl fun _ => rfl)) (dOk_lt rfl) ?_
          simp (config := { maxSteps := 1000000 }) only [undef, push_cast, ↓Int.toNat_natCast, ↓Int.cast_ofNat_Int, Int.cast_ofNat_Int, ↓reduceIte, reduceCtorEq, Nat.reduceEqDiff, Nat.reduceLT, Nat.reduceLeDiff, Nat.reduceAdd, Nat.reduceSub, Nat.reduceMul, Int.reduceNeg, Int.reduceLE, Int.reduceLT, Int.reduceToNat, Int.reduceAdd, Int.reduceSub, Int.reduceMul, Int.reduceEq]
          (repeat (refine And.intro (by first | omega | decide) ?_))
          refine callK_v rfl cb76 rfl (padOK (powU (ix l i).2 key) m d g 0 hm64 hd64 (by omega)) (dOk_lt rfl) ?_
          simp (config := { maxSteps := 1000000 }) only [undef, push_cast, ↓Int.toNat_natCast, ↓Int.cast_ofNat_Int, Int.cast_ofNat_Int, ↓reduceIte, reduceCtorEq, Nat.reduceEqDiff, Nat.reduceLT, Nat.reduceLeDiff, Nat.reduceAdd, Nat.reduceSub, Nat.reduceMul, Int.reduceNeg, Int.reduceLE, Int.reduceLT, Int.reduceToNat, Int.reduceAdd, Int.reduceSub, Int.reduceMul, Int.reduceEq]
          (repeat (refine And.intro (by first | omega | decide) ?_))
          refine callK_v rfl cb47 rfl (rAddK _ _) (dOk_lt rfl) ?_
          simp (config := { maxSteps := 1000000 }) only [hv0, undef, push_cast, ↓Int.toNat_natCast, ↓Int.cast_ofNat_Int, Int.cast_ofNat_Int, ↓reduceIte, reduceCtorEq, Nat.reduceEqDiff, Nat.reduceLT, Nat.reduceLeDiff, Nat.reduceAdd, Nat.reduceSub, Nat.reduceMul, Int.reduceNeg, Int.reduceLE, Int.reduceLT, Int.reduceToNat, Int.reduceAdd, Int.reduceSub, Int.reduceMul, Int.reduceEq]
          (repeat (refine And.intro (by first | omega | decide) ?_))
          refine callK_v rfl cb75 rfl (refEvalOK (c := fb) (atU d) lfb (shows_own rfl fun _ => rfl)) (dOk_lt rfl) ?_
          simp (config := { maxSteps := 1000000 }) only [undef, push_cast, ↓Int.toNat_natCast, ↓Int.cast_ofNat_Int, Int.cast_ofNat_Int, ↓reduceIte, reduceCtorEq, Nat.reduceEqDiff, Nat.reduceLT, Nat.reduceLeDiff, Nat.reduceAdd, Nat.reduceSub, Nat.reduceMul, Int.reduceNeg, Int.reduceLE, Int.reduceLT, Int.reduceToNat, Int.reduceAdd, Int.reduceSub, Int.reduceMul, Int.reduceEq]
          (repeat (refine And.intro (by first | omega | decide) ?_))
          refine callK_v rfl cb76 rfl (padOK (powU (ix l i).2 key) m d g 1 hm64 hd64 (by omega)) (dOk_lt rfl) ?_
          simp (config := { maxSteps := 1000000 }) only [undef, push_cast, ↓Int.toNat_natCast, ↓Int.cast_ofNat_Int, Int.cast_ofNat_Int, ↓reduceIte, reduceCtorEq, Nat.reduceEqDiff, Nat.reduceLT, Nat.reduceLeDiff, Nat.reduceAdd, Nat.reduceSub, Nat.reduceMul, Int.reduceNeg, Int.reduceLE, Int.reduceLT, Int.reduceToNat, Int.reduceAdd, Int.reduceSub, Int.reduceMul, Int.reduceEq]
          (repeat (refine And.intro (by first | omega | decide) ?_))
          refine callK_v rfl cb47 rfl (rAddK _ _) (dOk_lt rfl) ?_
          simp (config := { maxSteps := 1000000 }) only [hv1, hbl, hs, q1, q2, undef, push_cast, ↓Int.toNat_natCast, ↓Int.cast_ofNat_Int, Int.cast_ofNat_Int, ↓reduceIte, reduceCtorEq, Nat.reduceEqDiff, Nat.reduceLT, Nat.reduceLeDiff, Nat.reduceAdd, Nat.reduceSub, Nat.reduceMul, Int.reduceNeg, Int.reduceLE, Int.reduceLT, Int.reduceToNat, Int.reduceAdd, Int.reduceSub, Int.reduceMul, Int.reduceEq]
          (repeat (refine And.intro (by first | omega | decide) ?_))
          refine loopK_normal (i + 1) [0, 1, 2, 5] (by omega) (by omega) ?_
          simp (config := { maxSteps := 1000000 }) only [push_cast, ↓Int.toNat_natCast, ↓Int.cast_ofNat_Int, Int.cast_ofNat_Int, ↓reduceIte, reduceCtorEq, Nat.reduceEqDiff, Nat.reduceLT, Nat.reduceLeDiff, Nat.reduceAdd, Nat.reduceSub, Nat.reduceMul, Int.reduceNeg, Int.reduceLE, Int.reduceLT, Int.reduceToNat, Int.reduceAdd, Int.reduceSub, Int.reduceMul, Int.reduceEq]
        · have e : i = l.length := by omega
          subst e
          simp (config := { maxSteps := 1000000 }) only [hlt, n1, n2, undef, ownT2, ownT, push_cast, ↓Int.toNat_natCast, ↓Int.cast_ofNat_Int, Int.cast_ofNat_Int, ↓reduceIte, reduceCtorEq, Nat.reduceEqDiff, Nat.reduceLT, Nat.reduceLeDiff, Nat.reduceAdd, Nat.reduceSub, Nat.reduceMul, Int.reduceNeg, Int.reduceLE, Int.reduceLT, Int.reduceToNat, Int.reduceAdd, Int.reduceSub, Int.reduceMul, Int.reduceEq]
end Go.Proofs.YteiifdpikcnbgaaDoor
