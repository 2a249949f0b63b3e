/- fate's methods at nil: nothing is done, nothing is told. -/
import Derived.Test.YtohnlajccfnecaaDoorFt9
namespace Go.Proofs.YtohnlajccfnecaaDoor
open Go.RowKit
set_option linter.unusedSimpArgs false
attribute [local irreducible] Callable CallOK CallG CallM DrawG LoopG symR symM
section
variable {w0 : World} {ow : Nat → Prop} {hp : List Res}
set_option maxRecDepth 100000 in
theorem nilSum (w : World) : Calls Tryd.prog 7 #[.pointer none] w fun e w' => e = .returned (.tuple #[.slice none 0 0, .slice none 0 0, .bool false]) ∧ Below w.heap.size w w' := by
  refine calls_v (n := 24) Tryd.func7 rfl Tryd.ntmps7 [.x (.a (.v (.pointer none)))] (by simp) (.t [.a (.v (.slice none 0 0)), .a (.v (.slice none 0 0)), .a (.v (.bool false))]) (fun _ => rfl) ?_
  simp (config := { maxSteps := 1000000 }) only [undef, push_cast, ↓Int.toNat_natCast, ↓Int.cast_ofNat_Int, Int.cast_ofNat_Int, ↓reduceIte, reduceCtorEq, Nat.reduceEqDiff, Nat.reduceLT, Nat.reduceLeDiff, Nat.reduceAdd, Nat.reduceSub, Nat.reduceMul, Int.reduceNeg, Int.reduceLE, Int.reduceLT, Int.reduceToNat, Int.reduceAdd, Int.reduceSub, Int.reduceMul, Int.reduceEq]
set_option maxRecDepth 100000 in
theorem nilKind (w : World) : Calls Tryd.prog 10 #[.pointer none] w fun e w' => e = .returned (.int .i64 0) ∧ Below w.heap.size w w' := by
  refine calls_v (n := 9) Tryd.func10 rfl Tryd.ntmps10 [.x (.a (.v (.pointer none)))] (by simp) (.x (.a (.v (.int .i64 0)))) (fun _ => rfl) ?_
  simp (config := { maxSteps := 1000000 }) only [undef, push_cast, ↓Int.toNat_natCast, ↓Int.cast_ofNat_Int, Int.cast_ofNat_Int, ↓reduceIte, reduceCtorEq, Nat.reduceEqDiff, Nat.reduceLT, Nat.reduceLeDiff, Nat.reduceAdd, Nat.reduceSub, Nat.reduceMul, Int.reduceNeg, Int.reduceLE, Int.reduceLT, Int.reduceToNat, Int.reduceAdd, Int.reduceSub, Int.reduceMul, Int.reduceEq]
set_option maxRecDepth 100000 in
theorem nilReason (w : World) : Calls Tryd.prog 11 #[.pointer none] w fun e w' => e = .returned (.int .i64 0) ∧ Below w.heap.size w w' := by
  refine calls_v (n := 9) Tryd.func11 rfl Tryd.ntmps11 [.x (.a (.v (.pointer none)))] (by simp) (.x (.a (.v (.int .i64 0)))) (fun _ => rfl) ?_
  simp (config := { maxSteps := 1000000 }) only [undef, push_cast, ↓Int.toNat_natCast, ↓Int.cast_ofNat_Int, Int.cast_ofNat_Int, ↓reduceIte, reduceCtorEq, Nat.reduceEqDiff, Nat.reduceLT, Nat.reduceLeDiff, Nat.reduceAdd, Nat.reduceSub, Nat.reduceMul, Int.reduceNeg, Int.reduceLE, Int.reduceLT, Int.reduceToNat, Int.reduceAdd, Int.reduceSub, Int.reduceMul, Int.reduceEq]
set_option maxRecDepth 100000 in
theorem nilAbort (n : Int) (w : World) : Calls Tryd.prog 9 #[.pointer none, .int .i64 n] w fun e w' => e = .returned (.bool false) ∧ Below w.heap.size w w' := by
  refine calls_v (n := 29) Tryd.func9 rfl Tryd.ntmps9 [.x (.a (.v (.pointer none))), .x (.a (.v (.int .i64 n)))] (by simp) (.x (.a (.v (.bool false)))) (fun _ => rfl) ?_
  simp (config := { maxSteps := 1000000 }) only [undef, push_cast, ↓Int.toNat_natCast, ↓Int.cast_ofNat_Int, Int.cast_ofNat_Int, ↓reduceIte, reduceCtorEq, Nat.reduceEqDiff, Nat.reduceLT, Nat.reduceLeDiff, Nat.reduceAdd, Nat.reduceSub, Nat.reduceMul, Int.reduceNeg, Int.reduceLE, Int.reduceLT, Int.reduceToNat, Int.reduceAdd, Int.reduceSub, Int.reduceMul, Int.reduceEq]
theorem nilSumK : CallOK Tryd.prog w0 ow 7 [.x (.a (.v (.pointer none)))] hp (.t [.a (.v (.slice none 0 0)), .a (.v (.slice none 0 0)), .a (.v (.bool false))]) hp := callOK_v fun _ w _ => nilSum w
theorem nilKindK : CallOK Tryd.prog w0 ow 10 [.x (.a (.v (.pointer none)))] hp (.x (.a (.v (.int .i64 0)))) hp := callOK_v fun _ w _ => nilKind w
theorem nilReasonK : CallOK Tryd.prog w0 ow 11 [.x (.a (.v (.pointer none)))] hp (.x (.a (.v (.int .i64 0)))) hp := callOK_v fun _ w _ => nilReason w
theorem nilAbortK (n : Int) : CallOK Tryd.prog w0 ow 9 [.x (.a (.v (.pointer none))), .x (.a (.v (.int .i64 n)))] hp (.x (.a (.v (.bool false)))) hp := callOK_v fun _ w _ => nilAbort n w
set_option maxRecDepth 100000 in
theorem nilText (w : World) : Calls Tryd.prog 12 #[.pointer none] w fun e w' => e = .returned (.string (bstr [111, 112, 101, 110, 10])) ∧ Below w.heap.size w w' := by
  refine calls_v (n := 59) Tryd.func12 rfl Tryd.ntmps12 [.x (.a (.v (.pointer none)))] (by simp) (.x (.a (.v (.string (bstr [111, 112, 101, 110, 10]))))) (fun _ => rfl) ?_
  simp (config := { maxSteps := 1000000 }) only [undef, push_cast, ↓Int.toNat_natCast, ↓Int.cast_ofNat_Int, Int.cast_ofNat_Int, ↓reduceIte, reduceCtorEq, Nat.reduceEqDiff, Nat.reduceLT, Nat.reduceLeDiff, Nat.reduceAdd, Nat.reduceSub, Nat.reduceMul, Int.reduceNeg, Int.reduceLE, Int.reduceLT, Int.reduceToNat, Int.reduceAdd, Int.reduceSub, Int.reduceMul, Int.reduceEq]
  (repeat (refine And.intro (by first | omega | decide) ?_))
  refine callG_v rfl cb10 rfl nilKindK (dOk_lt rfl) ?_
  simp (config := { maxSteps := 1000000 }) only [open_lit, undef, push_cast, ↓Int.toNat_natCast, ↓Int.cast_ofNat_Int, Int.cast_ofNat_Int, ↓reduceIte, reduceCtorEq, Nat.reduceEqDiff, Nat.reduceLT, Nat.reduceLeDiff, Nat.reduceAdd, Nat.reduceSub, Nat.reduceMul, Int.reduceNeg, Int.reduceLE, Int.reduceLT, Int.reduceToNat, Int.reduceAdd, Int.reduceSub, Int.reduceMul, Int.reduceEq]
theorem nilTextK : CallOK Tryd.prog w0 ow 12 [.x (.a (.v (.pointer none)))] hp (.x (.a (.v (.string (bstr [111, 112, 101, 110, 10]))))) hp := callOK_v fun _ w _ => nilText w
set_option maxRecDepth 100000 in
theorem nilDone (s1 s2 : Value) (w : World) : Calls Tryd.prog 8 #[.pointer none, s1, s2] w fun e w' => e = .returned (.bool false) ∧ Below w.heap.size w w' := by
  refine calls_v (n := 44) Tryd.func8 rfl Tryd.ntmps8 [.x (.a (.v (.pointer none))), .x (.a (.v s1)), .x (.a (.v s2))] (by simp) (.x (.a (.v (.bool false)))) (fun _ => rfl) ?_
  simp (config := { maxSteps := 1000000 }) only [undef, push_cast, ↓Int.toNat_natCast, ↓Int.cast_ofNat_Int, Int.cast_ofNat_Int, ↓reduceIte, reduceCtorEq, Nat.reduceEqDiff, Nat.reduceLT, Nat.reduceLeDiff, Nat.reduceAdd, Nat.reduceSub, Nat.reduceMul, Int.reduceNeg, Int.reduceLE, Int.reduceLT, Int.reduceToNat, Int.reduceAdd, Int.reduceSub, Int.reduceMul, Int.reduceEq]
theorem nilDoneK (s1 s2 : Sv) : CallOK Tryd.prog w0 ow 8 [.x (.a (.v (.pointer none))), s1, s2] hp (.x (.a (.v (.bool false)))) hp := callOK_v fun γ w _ => nilDone (s1.val γ) (s2.val γ) w
end
end Go.Proofs.YtohnlajccfnecaaDoor
