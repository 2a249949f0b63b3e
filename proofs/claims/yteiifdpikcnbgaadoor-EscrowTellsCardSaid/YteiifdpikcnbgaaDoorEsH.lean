/- Law 25's sure: what must come whatever the input is. -/
import Derived.Test.YteiifdpikcnbgaaDoorEsG
import Derived.Test.YteiifdpikcnbgaaDoorNm25
namespace Go.Proofs.YteiifdpikcnbgaaDoor
open Go.RowKit
set_option linter.unusedSimpArgs false
theorem p37 : powU 3 7 = 2187 := by decide
theorem sb25 : bxOut 4 1 1 9 7 [] [] [(4, 2187)] = [930042429472713999, 389352455896158587] := by decide +kernel
theorem sk25 : bxOk 4 1 1 7 0 0 [(4, 2187)] = true := by decide +kernel
theorem sn25 : bxOk 5 1 1 7 0 0 [(4, 2187)] = false := by decide +kernel
theorem so25 : eopOk 4 1 (4, 2187) 930042429472713999 389352455896158587 = true := by decide +kernel
theorem sx25 : eopX 4 1 (4, 2187) 930042429472713999 389352455896158587 = 5 := by decide +kernel
theorem sy25 : eopY 4 1 7 (4, 2187) 930042429472713999 389352455896158587 930042429472713999 0 = 9 := by decide +kernel
theorem sy25b : eopY 4 1 7 (4, 2187) 930042429472713999 389352455896158587 389352455896158587 1 = 7 := by decide +kernel
theorem sq25 : eopOk 64 1 (4, 2187) 0 0 = false := by decide +kernel
attribute [local irreducible] Callable CallOK CallG CallM DrawG LoopG symR symM
attribute [local irreducible] may isP bxErr bxOut bxOk bxTo bxV addU subU polyU powU hidU atU eopErr eopX eopY eopOk
set_option maxRecDepth 100000 in
set_option maxHeartbeats 8000000 in
theorem sure25_any (w : World) (hk : LaidK 2 w) (hg : Handle w) (hw : TabW w) : Calls Tryd.prog 25 #[] w fun e w' => e = .returned (.bool true) ∧ Below w.heap.size w w' := by
  have sb := sb25
  have se : bxErr 4 1 1 7 0 0 [(4, 2187)] = .nilIface := (bx_yes (of := []) (an := []) sk25 0).1
  obtain ⟨sne, sn⟩ := bx_no (me := 5) (gen := 1) (need := 1) (key := 7) (of := []) (an := []) (l := [(4, 2187)]) (by rw [show ([] : List UInt64).length = 0 from rfl, sn25]; decide) 9
  have sne : bxErr 5 1 1 7 0 0 [(4, 2187)] = .iface 121 (.int .i64 1) := sne
  have so := so25
  have soe := (eop_yes so25 7).1
  have sx := sx25
  have sy0 := sy25
  have sy1 := sy25b
  obtain ⟨so2e, so2x, so2y⟩ := eop_no (me := 64) (gen := 1) (p := (4, 2187)) (t0 := 0) (t1 := 0) (by rw [sq25]; decide) 7
  have so2 := sq25
  have n5 : n64 5 = 5 := rfl
  have n7 : n64 7 = 7 := rfl
  have n9 : n64 9 = 9 := rfl
  have hi0 : ix ([930042429472713999, 389352455896158587] : List UInt64) 0 = 930042429472713999 := rfl
  have hi1 : ix ([930042429472713999, 389352455896158587] : List UInt64) 1 = 389352455896158587 := rfl
  have hat : atU 4 = 5 := by unfold atU; decide
  have hne : ((930042429472713999 : Int) = 9) = False := by decide
  have hne2 : ((930042429472713999 : UInt64) = 9) = False := by decide
  have hbn : n64 930042429472713999 = 930042429472713999 := rfl
  refine calls_v (n := 88) Tryd.func25 rfl Tryd.ntmps25 [] (by simp) (.x (.a (.v (.bool true)))) (fun _ => rfl) ?_
  simp only [push_cast, ↓Int.toNat_natCast, ↓Int.cast_ofNat_Int, Int.cast_ofNat_Int, ↓reduceIte, reduceCtorEq, Nat.reduceEqDiff, Nat.reduceLT, Nat.reduceLeDiff, Nat.reduceAdd, Nat.reduceSub, Nat.reduceMul, Int.reduceNeg, Int.reduceLE, Int.reduceLT, Int.reduceToNat, Int.reduceAdd, Int.reduceSub, Int.reduceMul, Int.reduceEq]
  (repeat (refine And.intro (by first | omega | decide) ?_))
  refine callG_v rfl cb20 rfl (publicK 7) (dOk_lt rfl) ?_
  simp (config := { maxSteps := 1000000 }) only [p37, sb, se, sn, sne, so, soe, sx, sy0, sy1, so2, so2e, so2x, so2y, n5, n7, n9, vz0, hi0, hi1, hat, hbn, hne, hne2, not_false_eq_true, decide_true, erV_zero, undef, beq_self_eq_true, push_cast, ↓Int.toNat_natCast, ↓Int.cast_ofNat_Int, Int.cast_ofNat_Int, ↓reduceIte, reduceCtorEq, Nat.reduceEqDiff, Nat.reduceLT, Nat.reduceLeDiff, Nat.reduceAdd, Nat.reduceSub, Nat.reduceMul, Int.reduceNeg, Int.reduceLE, Int.reduceLT, Int.reduceToNat, Int.reduceAdd, Int.reduceSub, Int.reduceMul, Int.reduceEq]
  (repeat (refine And.intro (by first | omega | decide) ?_))
  refine callG_x rfl cb26 rfl (boxOK25 (of := []) (an := []) (l := [(4, 2187)]) 4 1 1 9 7 (by decide) (by decide) (by decide) shows_nil shows_nil (showsR_onn rfl (fun _ => rfl) rfl) hk hw (by simp only [push_cast, ↓Int.toNat_natCast, ↓Int.cast_ofNat_Int, Int.cast_ofNat_Int, ↓reduceIte, reduceCtorEq, Nat.reduceEqDiff, Nat.reduceLT, Nat.reduceLeDiff, Nat.reduceAdd, Nat.reduceSub, Nat.reduceMul, Int.reduceNeg, Int.reduceLE, Int.reduceLT, Int.reduceToNat, Int.reduceAdd, Int.reduceSub, Int.reduceMul, Int.reduceEq])) (dOk_lt rfl) (by simp only [push_cast, ↓Int.toNat_natCast, ↓Int.cast_ofNat_Int, Int.cast_ofNat_Int, ↓reduceIte, reduceCtorEq, Nat.reduceEqDiff, Nat.reduceLT, Nat.reduceLeDiff, Nat.reduceAdd, Nat.reduceSub, Nat.reduceMul, Int.reduceNeg, Int.reduceLE, Int.reduceLT, Int.reduceToNat, Int.reduceAdd, Int.reduceSub, Int.reduceMul, Int.reduceEq]) ?_
  simp (config := { maxSteps := 1000000 }) only [p37, sb, se, sn, sne, so, soe, sx, sy0, sy1, so2, so2e, so2x, so2y, n5, n7, n9, vz0, hi0, hi1, hat, hbn, hne, hne2, not_false_eq_true, decide_true, erV_zero, undef, beq_self_eq_true, push_cast, ↓Int.toNat_natCast, ↓Int.cast_ofNat_Int, Int.cast_ofNat_Int, ↓reduceIte, reduceCtorEq, Nat.reduceEqDiff, Nat.reduceLT, Nat.reduceLeDiff, Nat.reduceAdd, Nat.reduceSub, Nat.reduceMul, Int.reduceNeg, Int.reduceLE, Int.reduceLT, Int.reduceToNat, Int.reduceAdd, Int.reduceSub, Int.reduceMul, Int.reduceEq]
  (repeat (refine And.intro (by first | omega | decide) ?_))
  refine drawV_rule 2 [] (.rd 0 (.rd 1 (.rd 2 (.rd 3 (.rd 4 (.rd 5 (.rd 6 (.rd 7 (.rd 8 (.rd 9 (.fk 10 (.rd 11 (.rd 12 (.rd 13 (.wr 14 (.wr 15 (.rd 16 .nil)))))) 14 (.wr 10 (.rd 11 (.rd 12 (.rd 13 (.wr 15 (.rd 16 .nil))))))))))))))))) ⟨[(1, .x (.a (.o 0))), (2, .x (.a (.o 1))), (4, .x (.a (.p 2 0))), (5, .x (.a (.v .nilIface)))],
    [.onn 55 2 (.c [.v (.int .i64 4), .v (vU64 2187)]), .own 23 (.u64 [930042429472713999, 389352455896158587]), .blk 77 (.c [.v (vU64 5), .v (vU64 9), .v (vU64 5), .v (vU64 7)])]⟩ (by kernel_rfl) (by kernel_rfl) (by kernel_rfl) (Nat.le_refl 2) ?_ ?_
  · simp (config := { maxSteps := 1000000 }) only [p37, sb, se, sn, sne, so, soe, sx, sy0, sy1, so2, so2e, so2x, so2y, n5, n7, n9, vz0, hi0, hi1, hat, hbn, hne, hne2, not_false_eq_true, decide_true, erV_zero, undef, beq_self_eq_true, push_cast, ↓Int.toNat_natCast, ↓Int.cast_ofNat_Int, Int.cast_ofNat_Int, ↓reduceIte, reduceCtorEq, Nat.reduceEqDiff, Nat.reduceLT, Nat.reduceLeDiff, Nat.reduceAdd, Nat.reduceSub, Nat.reduceMul, Int.reduceNeg, Int.reduceLE, Int.reduceLT, Int.reduceToNat, Int.reduceAdd, Int.reduceSub, Int.reduceMul, Int.reduceEq]
    (repeat (refine And.intro (by first | omega | decide) ?_))
    refine ⟨?_, ?_⟩
    · refine callQ_v rfl cb30 rfl (openOK25 4 1 7 (4, 2187) 930042429472713999 389352455896158587 hk hw) (dOk_lt rfl) ?_
      simp (config := { maxSteps := 1000000 }) only [p37, sb, se, sn, sne, so, soe, sx, sy0, sy1, so2, so2e, so2x, so2y, n5, n7, n9, vz0, hi0, hi1, hat, hbn, hne, hne2, not_false_eq_true, decide_true, erV_zero, undef, beq_self_eq_true, push_cast, ↓Int.toNat_natCast, ↓Int.cast_ofNat_Int, Int.cast_ofNat_Int, ↓reduceIte, reduceCtorEq, Nat.reduceEqDiff, Nat.reduceLT, Nat.reduceLeDiff, Nat.reduceAdd, Nat.reduceSub, Nat.reduceMul, Int.reduceNeg, Int.reduceLE, Int.reduceLT, Int.reduceToNat, Int.reduceAdd, Int.reduceSub, Int.reduceMul, Int.reduceEq]
      (repeat (refine And.intro (by first | omega | decide) ?_))
      refine leads_le [0, 1, 2] ?_
      simp (config := { maxSteps := 1000000 }) only [p37, sb, se, sn, sne, so, soe, sx, sy0, sy1, so2, so2e, so2x, so2y, n5, n7, n9, vz0, hi0, hi1, hat, hbn, hne, hne2, not_false_eq_true, decide_true, erV_zero, undef, beq_self_eq_true, push_cast, ↓Int.toNat_natCast, ↓Int.cast_ofNat_Int, Int.cast_ofNat_Int, ↓reduceIte, reduceCtorEq, Nat.reduceEqDiff, Nat.reduceLT, Nat.reduceLeDiff, Nat.reduceAdd, Nat.reduceSub, Nat.reduceMul, Int.reduceNeg, Int.reduceLE, Int.reduceLT, Int.reduceToNat, Int.reduceAdd, Int.reduceSub, Int.reduceMul, Int.reduceEq]
    · refine callQ_v rfl cb30 rfl (openOK25 4 1 7 (4, 2187) 930042429472713999 389352455896158587 hk hw) (dOk_lt rfl) ?_
      simp (config := { maxSteps := 1000000 }) only [p37, sb, se, sn, sne, so, soe, sx, sy0, sy1, so2, so2e, so2x, so2y, n5, n7, n9, vz0, hi0, hi1, hat, hbn, hne, hne2, not_false_eq_true, decide_true, erV_zero, undef, beq_self_eq_true, push_cast, ↓Int.toNat_natCast, ↓Int.cast_ofNat_Int, Int.cast_ofNat_Int, ↓reduceIte, reduceCtorEq, Nat.reduceEqDiff, Nat.reduceLT, Nat.reduceLeDiff, Nat.reduceAdd, Nat.reduceSub, Nat.reduceMul, Int.reduceNeg, Int.reduceLE, Int.reduceLT, Int.reduceToNat, Int.reduceAdd, Int.reduceSub, Int.reduceMul, Int.reduceEq]
      (repeat (refine And.intro (by first | omega | decide) ?_))
      refine leads_le [0, 1, 2] ?_
      simp (config := { maxSteps := 1000000 }) only [p37, sb, se, sn, sne, so, soe, sx, sy0, sy1, so2, so2e, so2x, so2y, n5, n7, n9, vz0, hi0, hi1, hat, hbn, hne, hne2, not_false_eq_true, decide_true, erV_zero, undef, beq_self_eq_true, push_cast, ↓Int.toNat_natCast, ↓Int.cast_ofNat_Int, Int.cast_ofNat_Int, ↓reduceIte, reduceCtorEq, Nat.reduceEqDiff, Nat.reduceLT, Nat.reduceLeDiff, Nat.reduceAdd, Nat.reduceSub, Nat.reduceMul, Int.reduceNeg, Int.reduceLE, Int.reduceLT, Int.reduceToNat, Int.reduceAdd, Int.reduceSub, Int.reduceMul, Int.reduceEq]
  · simp (config := { maxSteps := 1000000 }) only [p37, sb, se, sn, sne, so, soe, sx, sy0, sy1, so2, so2e, so2x, so2y, n5, n7, n9, vz0, hi0, hi1, hat, hbn, hne, hne2, not_false_eq_true, decide_true, erV_zero, undef, beq_self_eq_true, push_cast, ↓Int.toNat_natCast, ↓Int.cast_ofNat_Int, Int.cast_ofNat_Int, ↓reduceIte, reduceCtorEq, Nat.reduceEqDiff, Nat.reduceLT, Nat.reduceLeDiff, Nat.reduceAdd, Nat.reduceSub, Nat.reduceMul, Int.reduceNeg, Int.reduceLE, Int.reduceLT, Int.reduceToNat, Int.reduceAdd, Int.reduceSub, Int.reduceMul, Int.reduceEq]
    (repeat (refine And.intro (by first | omega | decide) ?_))
    refine callG_x rfl cb26 rfl (boxOK25 (of := []) (an := []) (l := [(4, 2187)]) 5 1 1 9 7 (by decide) (by decide) (by decide) shows_nil shows_nil (showsR_onn rfl (fun _ => rfl) rfl) hk hw (by simp only [push_cast, ↓Int.toNat_natCast, ↓Int.cast_ofNat_Int, Int.cast_ofNat_Int, ↓reduceIte, reduceCtorEq, Nat.reduceEqDiff, Nat.reduceLT, Nat.reduceLeDiff, Nat.reduceAdd, Nat.reduceSub, Nat.reduceMul, Int.reduceNeg, Int.reduceLE, Int.reduceLT, Int.reduceToNat, Int.reduceAdd, Int.reduceSub, Int.reduceMul, Int.reduceEq])) (dOk_lt rfl) (by simp only [push_cast, ↓Int.toNat_natCast, ↓Int.cast_ofNat_Int, Int.cast_ofNat_Int, ↓reduceIte, reduceCtorEq, Nat.reduceEqDiff, Nat.reduceLT, Nat.reduceLeDiff, Nat.reduceAdd, Nat.reduceSub, Nat.reduceMul, Int.reduceNeg, Int.reduceLE, Int.reduceLT, Int.reduceToNat, Int.reduceAdd, Int.reduceSub, Int.reduceMul, Int.reduceEq]) ?_
    simp (config := { maxSteps := 1000000 }) only [p37, sb, se, sn, sne, so, soe, sx, sy0, sy1, so2, so2e, so2x, so2y, n5, n7, n9, vz0, hi0, hi1, hat, hbn, hne, hne2, not_false_eq_true, decide_true, erV_zero, undef, beq_self_eq_true, push_cast, ↓Int.toNat_natCast, ↓Int.cast_ofNat_Int, Int.cast_ofNat_Int, ↓reduceIte, reduceCtorEq, Nat.reduceEqDiff, Nat.reduceLT, Nat.reduceLeDiff, Nat.reduceAdd, Nat.reduceSub, Nat.reduceMul, Int.reduceNeg, Int.reduceLE, Int.reduceLT, Int.reduceToNat, Int.reduceAdd, Int.reduceSub, Int.reduceMul, Int.reduceEq]
    (repeat (refine And.intro (by first | omega | decide) ?_))
    refine callG_v rfl cb30 rfl (openOK25 64 1 7 (4, 2187) 0 0 hk hw) (dOk_lt rfl) ?_
    simp (config := { maxSteps := 1000000 }) only [p37, sb, se, sn, sne, so, soe, sx, sy0, sy1, so2, so2e, so2x, so2y, n5, n7, n9, vz0, hi0, hi1, hat, hbn, hne, hne2, not_false_eq_true, decide_true, erV_zero, undef, beq_self_eq_true, push_cast, ↓Int.toNat_natCast, ↓Int.cast_ofNat_Int, Int.cast_ofNat_Int, ↓reduceIte, reduceCtorEq, Nat.reduceEqDiff, Nat.reduceLT, Nat.reduceLeDiff, Nat.reduceAdd, Nat.reduceSub, Nat.reduceMul, Int.reduceNeg, Int.reduceLE, Int.reduceLT, Int.reduceToNat, Int.reduceAdd, Int.reduceSub, Int.reduceMul, Int.reduceEq]
    (repeat (refine And.intro (by first | omega | decide) ?_))
    refine callG_v rfl cb33 rfl (nmOK25 1 hg) (dOk_lt rfl) ?_
    simp (config := { maxSteps := 1000000 }) only [p37, sb, se, sn, sne, so, soe, sx, sy0, sy1, so2, so2e, so2x, so2y, n5, n7, n9, vz0, hi0, hi1, hat, hbn, hne, hne2, not_false_eq_true, decide_true, erV_zero, undef, beq_self_eq_true, push_cast, ↓Int.toNat_natCast, ↓Int.cast_ofNat_Int, Int.cast_ofNat_Int, ↓reduceIte, reduceCtorEq, Nat.reduceEqDiff, Nat.reduceLT, Nat.reduceLeDiff, Nat.reduceAdd, Nat.reduceSub, Nat.reduceMul, Int.reduceNeg, Int.reduceLE, Int.reduceLT, Int.reduceToNat, Int.reduceAdd, Int.reduceSub, Int.reduceMul, Int.reduceEq]
    (repeat (refine And.intro (by first | omega | decide) ?_))
    refine callG_v rfl cb33 rfl (nmOK25 1 hg) (dOk_lt rfl) ?_
    simp (config := { maxSteps := 1000000 }) only [p37, sb, se, sn, sne, so, soe, sx, sy0, sy1, so2, so2e, so2x, so2y, n5, n7, n9, vz0, hi0, hi1, hat, hbn, hne, hne2, not_false_eq_true, decide_true, erV_zero, undef, beq_self_eq_true, push_cast, ↓Int.toNat_natCast, ↓Int.cast_ofNat_Int, Int.cast_ofNat_Int, ↓reduceIte, reduceCtorEq, Nat.reduceEqDiff, Nat.reduceLT, Nat.reduceLeDiff, Nat.reduceAdd, Nat.reduceSub, Nat.reduceMul, Int.reduceNeg, Int.reduceLE, Int.reduceLT, Int.reduceToNat, Int.reduceAdd, Int.reduceSub, Int.reduceMul, Int.reduceEq]
    (repeat (refine And.intro (by first | omega | decide) ?_))
    refine callG_v rfl cb34 rfl (atOK 4) (dOk_lt rfl) ?_
    simp (config := { maxSteps := 1000000 }) only [p37, sb, se, sn, sne, so, soe, sx, sy0, sy1, so2, so2e, so2x, so2y, n5, n7, n9, vz0, hi0, hi1, hat, hbn, hne, hne2, not_false_eq_true, decide_true, erV_zero, undef, beq_self_eq_true, push_cast, ↓Int.toNat_natCast, ↓Int.cast_ofNat_Int, Int.cast_ofNat_Int, ↓reduceIte, reduceCtorEq, Nat.reduceEqDiff, Nat.reduceLT, Nat.reduceLeDiff, Nat.reduceAdd, Nat.reduceSub, Nat.reduceMul, Int.reduceNeg, Int.reduceLE, Int.reduceLT, Int.reduceToNat, Int.reduceAdd, Int.reduceSub, Int.reduceMul, Int.reduceEq]
theorem sure25OK {w0 : World} {hp : List Res} (hk : LaidK 2 w0) (hg : Handle w0) (hw : TabW w0) : CallOK Tryd.prog w0 No 25 [] hp (.x (.a (.v (.bool true)))) hp := callOK_v fun _ w hS => sure25_any w (laid_later hk hS) (handle_sat hg hS) (hw.later hS)
end Go.Proofs.YteiifdpikcnbgaaDoor
