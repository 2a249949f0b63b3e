/- What law 9 looks at first: sure. -/
import Derived.Test.YtkchdhkpjnnliaaDoorPr4
import Derived.Test.YtkchdhkpjnnliaaDoorNm09
import Derived.Test.YtkchdhkpjnnliaaDoorVs
namespace Go.Proofs.YtkchdhkpjnnliaaDoor
open Go.RowKit
set_option linter.unusedSimpArgs false
theorem prErr_if (me : Int) (l : List Pr) (dim : Int) : prErr me l dim = if prOk me l dim = true then .nilIface else .iface 95 (.int .i64 1) := rfl
theorem mayErr_if (l : List Pr) : mayErr l = if may l = true then .nilIface else .iface 95 (.int .i64 1) := rfl
theorem p35 : powU 3 5 = 243 := by decide
theorem p37 : powU 3 7 = 2187 := by decide
theorem s57 : powU 2187 5 = 50031545098999707 := by decide
theorem s75 : powU 243 7 = 50031545098999707 := by decide
theorem ok1 : prOk 1 [(1, 243), (4, 2187)] 3 = true := by decide
theorem ok4 : prOk 4 [(1, 243), (4, 2187)] 3 = true := by decide
theorem ok2 : prOk 2 [(1, 243), (4, 2187)] 3 = false := by decide
theorem may64 : may [(64, 1)] = false := by decide
theorem w09 : pairW 2187 5 3 = [2139379579, 3839682632, 965652880] := by decide +kernel
theorem w09' : pairW 243 7 3 = [2139379579, 3839682632, 965652880] := by rw [← w09]; unfold pairW; rw [s57, s75]
theorem x09 : prOut 1 5 [(1, 243), (4, 2187)] 3 = [2139379579, 3839682632, 965652880] := by
  rw [prOut_yes ok1]
  show opTo (· + ·) (List.replicate 3 0) (pairW 2187 5 3) 3 = _
  rw [w09]
  decide
theorem y09 : prOut 4 7 [(1, 243), (4, 2187)] 3 = [2155587717, 455284664, 3329314416] := by
  rw [prOut_yes ok4]
  show opTo (· - ·) (List.replicate 3 0) (pairW 243 7 3) 3 = _
  rw [w09']
  decide
theorem z09 : opOut (· + ·) ([2139379579, 3839682632, 965652880] : List UInt32) [2155587717, 455284664, 3329314416] = [0, 0, 0] := by decide
theorem okXY : opErr [2139379579, 3839682632, 965652880] [2155587717, 455284664, 3329314416] = .nilIface := opErr_yes (by decide)
theorem neX : decide (([2139379579, 3839682632, 965652880] : List UInt32) = [0, 0, 0]) = false := by decide
theorem n09 : prOut 2 5 [(1, 243), (4, 2187)] 3 = [] := prOut_no ok2
attribute [local irreducible] prOut prOk may powU opOut opErr
attribute [local irreducible] Callable CallOK CallG CallM DrawG LoopG symR symM
set_option maxRecDepth 100000 in
set_option maxHeartbeats 4000000 in
theorem sure09_any (w : World) (hk : LaidK 0 w) (hg : Handle w) : Calls Tryd.prog 45 #[] w fun e w' => e = .returned (.bool true) ∧ Below w.heap.size w w' := by
  refine calls_v (n := 84) Tryd.func45 rfl Tryd.ntmps45 [] (by simp) (.x (.a (.v (.bool true)))) (fun _ => rfl) ?_
  simp only [push_cast, ↓Int.toNat_natCast, ↓Int.cast_ofNat_Int, Int.cast_ofNat_Int, ↓reduceIte, reduceCtorEq, Nat.reduceEqDiff, Nat.reduceLT, Nat.reduceLeDiff, Nat.reduceAdd, Nat.reduceSub, Nat.reduceMul, Int.reduceNeg, Int.reduceLE, Int.reduceLT, Int.reduceToNat, Int.reduceAdd, Int.reduceSub, Int.reduceMul, Int.reduceEq]
  (repeat (refine And.intro (by first | omega | decide) ?_))
  refine callG_v rfl cb50 rfl (publicK 5) (dOk_lt rfl) ?_
  simp (config := { maxSteps := 300000 }) only [p35, p37, s57, s75, prErr_if, mayErr_if, ok1, ok4, ok2, may64, x09, y09, z09, n09, okXY, undef, neX, beq_self_eq_true, push_cast, ↓Int.toNat_natCast, ↓Int.cast_ofNat_Int, Int.cast_ofNat_Int, ↓reduceIte, reduceCtorEq, Nat.reduceEqDiff, Nat.reduceLT, Nat.reduceLeDiff, Nat.reduceAdd, Nat.reduceSub, Nat.reduceMul, Int.reduceNeg, Int.reduceLE, Int.reduceLT, Int.reduceToNat, Int.reduceAdd, Int.reduceSub, Int.reduceMul, Int.reduceEq]
  (repeat (refine And.intro (by first | omega | decide) ?_))
  refine callG_v rfl cb50 rfl (publicK 7) (dOk_lt rfl) ?_
  simp (config := { maxSteps := 300000 }) only [p35, p37, s57, s75, prErr_if, mayErr_if, ok1, ok4, ok2, may64, x09, y09, z09, n09, okXY, undef, neX, beq_self_eq_true, push_cast, ↓Int.toNat_natCast, ↓Int.cast_ofNat_Int, Int.cast_ofNat_Int, ↓reduceIte, reduceCtorEq, Nat.reduceEqDiff, Nat.reduceLT, Nat.reduceLeDiff, Nat.reduceAdd, Nat.reduceSub, Nat.reduceMul, Int.reduceNeg, Int.reduceLE, Int.reduceLT, Int.reduceToNat, Int.reduceAdd, Int.reduceSub, Int.reduceMul, Int.reduceEq]
  (repeat (refine And.intro (by first | omega | decide) ?_))
  refine callG_x rfl cb46 rfl (pairRowOK (l := [(1, 243), (4, 2187)]) 1 5 3 (showsR_onn rfl (fun _ => rfl) rfl) hk (by simp only [push_cast, ↓Int.toNat_natCast, ↓Int.cast_ofNat_Int, Int.cast_ofNat_Int, ↓reduceIte, reduceCtorEq, Nat.reduceEqDiff, Nat.reduceLT, Nat.reduceLeDiff, Nat.reduceAdd, Nat.reduceSub, Nat.reduceMul, Int.reduceNeg, Int.reduceLE, Int.reduceLT, Int.reduceToNat, Int.reduceAdd, Int.reduceSub, Int.reduceMul, Int.reduceEq])) (dOk_lt rfl) (by simp only [push_cast, ↓Int.toNat_natCast, ↓Int.cast_ofNat_Int, Int.cast_ofNat_Int, ↓reduceIte, reduceCtorEq, Nat.reduceEqDiff, Nat.reduceLT, Nat.reduceLeDiff, Nat.reduceAdd, Nat.reduceSub, Nat.reduceMul, Int.reduceNeg, Int.reduceLE, Int.reduceLT, Int.reduceToNat, Int.reduceAdd, Int.reduceSub, Int.reduceMul, Int.reduceEq]) ?_
  simp (config := { maxSteps := 300000 }) only [p35, p37, s57, s75, prErr_if, mayErr_if, ok1, ok4, ok2, may64, x09, y09, z09, n09, okXY, undef, neX, beq_self_eq_true, push_cast, ↓Int.toNat_natCast, ↓Int.cast_ofNat_Int, Int.cast_ofNat_Int, ↓reduceIte, reduceCtorEq, Nat.reduceEqDiff, Nat.reduceLT, Nat.reduceLeDiff, Nat.reduceAdd, Nat.reduceSub, Nat.reduceMul, Int.reduceNeg, Int.reduceLE, Int.reduceLT, Int.reduceToNat, Int.reduceAdd, Int.reduceSub, Int.reduceMul, Int.reduceEq]
  (repeat (refine And.intro (by first | omega | decide) ?_))
  refine callG_x rfl cb46 rfl (pairRowOK (l := [(1, 243), (4, 2187)]) 4 7 3 (showsR_onn rfl (fun _ => rfl) rfl) hk (by simp only [push_cast, ↓Int.toNat_natCast, ↓Int.cast_ofNat_Int, Int.cast_ofNat_Int, ↓reduceIte, reduceCtorEq, Nat.reduceEqDiff, Nat.reduceLT, Nat.reduceLeDiff, Nat.reduceAdd, Nat.reduceSub, Nat.reduceMul, Int.reduceNeg, Int.reduceLE, Int.reduceLT, Int.reduceToNat, Int.reduceAdd, Int.reduceSub, Int.reduceMul, Int.reduceEq])) (dOk_lt rfl) (by simp only [push_cast, ↓Int.toNat_natCast, ↓Int.cast_ofNat_Int, Int.cast_ofNat_Int, ↓reduceIte, reduceCtorEq, Nat.reduceEqDiff, Nat.reduceLT, Nat.reduceLeDiff, Nat.reduceAdd, Nat.reduceSub, Nat.reduceMul, Int.reduceNeg, Int.reduceLE, Int.reduceLT, Int.reduceToNat, Int.reduceAdd, Int.reduceSub, Int.reduceMul, Int.reduceEq]) ?_
  simp (config := { maxSteps := 300000 }) only [p35, p37, s57, s75, prErr_if, mayErr_if, ok1, ok4, ok2, may64, x09, y09, z09, n09, okXY, undef, neX, beq_self_eq_true, push_cast, ↓Int.toNat_natCast, ↓Int.cast_ofNat_Int, Int.cast_ofNat_Int, ↓reduceIte, reduceCtorEq, Nat.reduceEqDiff, Nat.reduceLT, Nat.reduceLeDiff, Nat.reduceAdd, Nat.reduceSub, Nat.reduceMul, Int.reduceNeg, Int.reduceLE, Int.reduceLT, Int.reduceToNat, Int.reduceAdd, Int.reduceSub, Int.reduceMul, Int.reduceEq]
  (repeat (refine And.intro (by first | omega | decide) ?_))
  refine callG_x rfl cb55 rfl (vecAddOK (shows_own rfl fun _ => rfl) (shows_own rfl fun _ => rfl) (by simp only [push_cast, ↓Int.toNat_natCast, ↓Int.cast_ofNat_Int, Int.cast_ofNat_Int, ↓reduceIte, reduceCtorEq, Nat.reduceEqDiff, Nat.reduceLT, Nat.reduceLeDiff, Nat.reduceAdd, Nat.reduceSub, Nat.reduceMul, Int.reduceNeg, Int.reduceLE, Int.reduceLT, Int.reduceToNat, Int.reduceAdd, Int.reduceSub, Int.reduceMul, Int.reduceEq])) (dOk_lt rfl) (by simp only [push_cast, ↓Int.toNat_natCast, ↓Int.cast_ofNat_Int, Int.cast_ofNat_Int, ↓reduceIte, reduceCtorEq, Nat.reduceEqDiff, Nat.reduceLT, Nat.reduceLeDiff, Nat.reduceAdd, Nat.reduceSub, Nat.reduceMul, Int.reduceNeg, Int.reduceLE, Int.reduceLT, Int.reduceToNat, Int.reduceAdd, Int.reduceSub, Int.reduceMul, Int.reduceEq]) ?_
  simp (config := { maxSteps := 300000 }) only [p35, p37, s57, s75, prErr_if, mayErr_if, ok1, ok4, ok2, may64, x09, y09, z09, n09, okXY, undef, neX, beq_self_eq_true, push_cast, ↓Int.toNat_natCast, ↓Int.cast_ofNat_Int, Int.cast_ofNat_Int, ↓reduceIte, reduceCtorEq, Nat.reduceEqDiff, Nat.reduceLT, Nat.reduceLeDiff, Nat.reduceAdd, Nat.reduceSub, Nat.reduceMul, Int.reduceNeg, Int.reduceLE, Int.reduceLT, Int.reduceToNat, Int.reduceAdd, Int.reduceSub, Int.reduceMul, Int.reduceEq]
  (repeat (refine And.intro (by first | omega | decide) ?_))
  refine callG_x rfl cb46 rfl (pairRowOK (l := [(1, 243), (4, 2187)]) 2 5 3 (showsR_onn rfl (fun _ => rfl) rfl) hk (by simp only [push_cast, ↓Int.toNat_natCast, ↓Int.cast_ofNat_Int, Int.cast_ofNat_Int, ↓reduceIte, reduceCtorEq, Nat.reduceEqDiff, Nat.reduceLT, Nat.reduceLeDiff, Nat.reduceAdd, Nat.reduceSub, Nat.reduceMul, Int.reduceNeg, Int.reduceLE, Int.reduceLT, Int.reduceToNat, Int.reduceAdd, Int.reduceSub, Int.reduceMul, Int.reduceEq])) (dOk_lt rfl) (by simp only [push_cast, ↓Int.toNat_natCast, ↓Int.cast_ofNat_Int, Int.cast_ofNat_Int, ↓reduceIte, reduceCtorEq, Nat.reduceEqDiff, Nat.reduceLT, Nat.reduceLeDiff, Nat.reduceAdd, Nat.reduceSub, Nat.reduceMul, Int.reduceNeg, Int.reduceLE, Int.reduceLT, Int.reduceToNat, Int.reduceAdd, Int.reduceSub, Int.reduceMul, Int.reduceEq]) ?_
  simp (config := { maxSteps := 300000 }) only [p35, p37, s57, s75, prErr_if, mayErr_if, ok1, ok4, ok2, may64, x09, y09, z09, n09, okXY, undef, neX, beq_self_eq_true, push_cast, ↓Int.toNat_natCast, ↓Int.cast_ofNat_Int, Int.cast_ofNat_Int, ↓reduceIte, reduceCtorEq, Nat.reduceEqDiff, Nat.reduceLT, Nat.reduceLeDiff, Nat.reduceAdd, Nat.reduceSub, Nat.reduceMul, Int.reduceNeg, Int.reduceLE, Int.reduceLT, Int.reduceToNat, Int.reduceAdd, Int.reduceSub, Int.reduceMul, Int.reduceEq]
  (repeat (refine And.intro (by first | omega | decide) ?_))
  refine callG_v rfl cb52 rfl (sharedK 5 2187) (dOk_lt rfl) ?_
  simp (config := { maxSteps := 300000 }) only [p35, p37, s57, s75, prErr_if, mayErr_if, ok1, ok4, ok2, may64, x09, y09, z09, n09, okXY, undef, neX, beq_self_eq_true, push_cast, ↓Int.toNat_natCast, ↓Int.cast_ofNat_Int, Int.cast_ofNat_Int, ↓reduceIte, reduceCtorEq, Nat.reduceEqDiff, Nat.reduceLT, Nat.reduceLeDiff, Nat.reduceAdd, Nat.reduceSub, Nat.reduceMul, Int.reduceNeg, Int.reduceLE, Int.reduceLT, Int.reduceToNat, Int.reduceAdd, Int.reduceSub, Int.reduceMul, Int.reduceEq]
  (repeat (refine And.intro (by first | omega | decide) ?_))
  refine callG_v rfl cb52 rfl (sharedK 7 243) (dOk_lt rfl) ?_
  simp (config := { maxSteps := 300000 }) only [p35, p37, s57, s75, prErr_if, mayErr_if, ok1, ok4, ok2, may64, x09, y09, z09, n09, okXY, undef, neX, beq_self_eq_true, push_cast, ↓Int.toNat_natCast, ↓Int.cast_ofNat_Int, Int.cast_ofNat_Int, ↓reduceIte, reduceCtorEq, Nat.reduceEqDiff, Nat.reduceLT, Nat.reduceLeDiff, Nat.reduceAdd, Nat.reduceSub, Nat.reduceMul, Int.reduceNeg, Int.reduceLE, Int.reduceLT, Int.reduceToNat, Int.reduceAdd, Int.reduceSub, Int.reduceMul, Int.reduceEq]
  (repeat (refine And.intro (by first | omega | decide) ?_))
  refine callG_v rfl cb44 rfl (same32OK (a := [0, 0, 0]) (b := [0, 0, 0]) (by decide) (shows_own rfl fun _ => rfl) (shows_blk_all rfl (fun _ => rfl) 3 3 rfl (by decide))) (dOk_lt rfl) ?_
  simp (config := { maxSteps := 300000 }) only [p35, p37, s57, s75, prErr_if, mayErr_if, ok1, ok4, ok2, may64, x09, y09, z09, n09, okXY, undef, neX, beq_self_eq_true, push_cast, ↓Int.toNat_natCast, ↓Int.cast_ofNat_Int, Int.cast_ofNat_Int, ↓reduceIte, reduceCtorEq, Nat.reduceEqDiff, Nat.reduceLT, Nat.reduceLeDiff, Nat.reduceAdd, Nat.reduceSub, Nat.reduceMul, Int.reduceNeg, Int.reduceLE, Int.reduceLT, Int.reduceToNat, Int.reduceAdd, Int.reduceSub, Int.reduceMul, Int.reduceEq]
  (repeat (refine And.intro (by first | omega | decide) ?_))
  refine callG_v rfl cb44 rfl (same32OK (a := [2139379579, 3839682632, 965652880]) (b := [0, 0, 0]) (by decide) (shows_own rfl fun _ => rfl) (shows_own rfl fun _ => rfl)) (dOk_lt rfl) ?_
  simp (config := { maxSteps := 300000 }) only [p35, p37, s57, s75, prErr_if, mayErr_if, ok1, ok4, ok2, may64, x09, y09, z09, n09, okXY, undef, neX, beq_self_eq_true, push_cast, ↓Int.toNat_natCast, ↓Int.cast_ofNat_Int, Int.cast_ofNat_Int, ↓reduceIte, reduceCtorEq, Nat.reduceEqDiff, Nat.reduceLT, Nat.reduceLeDiff, Nat.reduceAdd, Nat.reduceSub, Nat.reduceMul, Int.reduceNeg, Int.reduceLE, Int.reduceLT, Int.reduceToNat, Int.reduceAdd, Int.reduceSub, Int.reduceMul, Int.reduceEq]
  (repeat (refine And.intro (by first | omega | decide) ?_))
  refine callG_v rfl cb54 rfl (nmOK09 1 hg) (dOk_lt rfl) ?_
  simp (config := { maxSteps := 300000 }) only [p35, p37, s57, s75, prErr_if, mayErr_if, ok1, ok4, ok2, may64, x09, y09, z09, n09, okXY, undef, neX, beq_self_eq_true, push_cast, ↓Int.toNat_natCast, ↓Int.cast_ofNat_Int, Int.cast_ofNat_Int, ↓reduceIte, reduceCtorEq, Nat.reduceEqDiff, Nat.reduceLT, Nat.reduceLeDiff, Nat.reduceAdd, Nat.reduceSub, Nat.reduceMul, Int.reduceNeg, Int.reduceLE, Int.reduceLT, Int.reduceToNat, Int.reduceAdd, Int.reduceSub, Int.reduceMul, Int.reduceEq]
  (repeat (refine And.intro (by first | omega | decide) ?_))
  refine callG_v rfl cb49 rfl (check09OK (l := [(64, 1)]) (showsR_onn rfl (fun _ => rfl) rfl)) (dOk_lt rfl) ?_
  simp (config := { maxSteps := 300000 }) only [p35, p37, s57, s75, prErr_if, mayErr_if, ok1, ok4, ok2, may64, x09, y09, z09, n09, okXY, undef, neX, beq_self_eq_true, push_cast, ↓Int.toNat_natCast, ↓Int.cast_ofNat_Int, Int.cast_ofNat_Int, ↓reduceIte, reduceCtorEq, Nat.reduceEqDiff, Nat.reduceLT, Nat.reduceLeDiff, Nat.reduceAdd, Nat.reduceSub, Nat.reduceMul, Int.reduceNeg, Int.reduceLE, Int.reduceLT, Int.reduceToNat, Int.reduceAdd, Int.reduceSub, Int.reduceMul, Int.reduceEq]
  (repeat (refine And.intro (by first | omega | decide) ?_))
  refine callG_v rfl cb54 rfl (nmOK09 1 hg) (dOk_lt rfl) ?_
  simp (config := { maxSteps := 300000 }) only [p35, p37, s57, s75, prErr_if, mayErr_if, ok1, ok4, ok2, may64, x09, y09, z09, n09, okXY, undef, neX, beq_self_eq_true, push_cast, ↓Int.toNat_natCast, ↓Int.cast_ofNat_Int, Int.cast_ofNat_Int, ↓reduceIte, reduceCtorEq, Nat.reduceEqDiff, Nat.reduceLT, Nat.reduceLeDiff, Nat.reduceAdd, Nat.reduceSub, Nat.reduceMul, Int.reduceNeg, Int.reduceLE, Int.reduceLT, Int.reduceToNat, Int.reduceAdd, Int.reduceSub, Int.reduceMul, Int.reduceEq]
theorem sure09OK {w0 : World} {hp : List Res} (hk : LaidK 0 w0) (hg : Handle w0) : CallOK Tryd.prog w0 No 45 [] hp (.x (.a (.v (.bool true)))) hp := callOK_v fun _ w hS => sure09_any w (laid_later hk hS) (handle_sat hg hS)
end Go.Proofs.YtkchdhkpjnnliaaDoor
