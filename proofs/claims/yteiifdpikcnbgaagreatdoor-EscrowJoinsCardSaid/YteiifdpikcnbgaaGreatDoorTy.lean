/- Facts on the types of the program, for the engine. Made by program. -/
import Derived.Test.YteiifdpikcnbgaaGreatDoorEn3
import Derived.Test.YteiifdpikcnbgaaGreatDoorProg
namespace Go.Proofs.YteiifdpikcnbgaaGreatDoor
open Go.RowKit
set_option linter.unusedSimpArgs false
theorem sz2 : sz Tryz.prog 2 = 1 := by kernel_rfl
theorem bz2 : bz Tryz.prog 2 = 8 := by kernel_rfl
theorem zok2 : ZOk Tryz.prog 2 (.c [.v (.int .i64 0)]) = True := eq_true ⟨.int .i64 0, by kernel_rfl, fun _ => by first | rfl | simp [Value.cells, Cont.vals, arr8, arr32, arr64]⟩
theorem zv2 : ZVal Tryz.prog 2 (.a (.v (.int .i64 0))) = True := eq_true ⟨.int .i64 0, by kernel_rfl, fun _ => by first | rfl | simp [Sc.val, At.val, arr8, arr32, arr64]⟩
theorem sz3 : sz Tryz.prog 3 = 1 := by kernel_rfl
theorem bz3 : bz Tryz.prog 3 = 8 := by kernel_rfl
theorem zok3 : ZOk Tryz.prog 3 (.c [.v (.int .i64 0)]) = True := eq_true ⟨.int .i64 0, by kernel_rfl, fun _ => by first | rfl | simp [Value.cells, Cont.vals, arr8, arr32, arr64]⟩
theorem zv3 : ZVal Tryz.prog 3 (.a (.v (.int .i64 0))) = True := eq_true ⟨.int .i64 0, by kernel_rfl, fun _ => by first | rfl | simp [Sc.val, At.val, arr8, arr32, arr64]⟩
theorem sz4 : sz Tryz.prog 4 = 1 := by kernel_rfl
theorem bz4 : bz Tryz.prog 4 = 1 := by kernel_rfl
theorem zok4 : ZOk Tryz.prog 4 (.c [.v (.bool false)]) = True := eq_true ⟨.bool false, by kernel_rfl, fun _ => by first | rfl | simp [Value.cells, Cont.vals, arr8, arr32, arr64]⟩
theorem zv4 : ZVal Tryz.prog 4 (.a (.v (.bool false))) = True := eq_true ⟨.bool false, by kernel_rfl, fun _ => by first | rfl | simp [Sc.val, At.val, arr8, arr32, arr64]⟩
theorem sz5 : sz Tryz.prog 5 = 1 := by kernel_rfl
theorem bz5 : bz Tryz.prog 5 = 1 := by kernel_rfl
theorem zok5 : ZOk Tryz.prog 5 (.c [.v (.int .u8 0)]) = True := eq_true ⟨.int .u8 0, by kernel_rfl, fun _ => by first | rfl | simp [Value.cells, Cont.vals, arr8, arr32, arr64]⟩
theorem zv5 : ZVal Tryz.prog 5 (.a (.v (.int .u8 0))) = True := eq_true ⟨.int .u8 0, by kernel_rfl, fun _ => by first | rfl | simp [Sc.val, At.val, arr8, arr32, arr64]⟩
theorem sz9 : sz Tryz.prog 9 = 1 := by kernel_rfl
theorem bz9 : bz Tryz.prog 9 = 16 := by kernel_rfl
theorem zok9 : ZOk Tryz.prog 9 (.c [.v (.string .empty)]) = True := eq_true ⟨.string .empty, by kernel_rfl, fun _ => by first | rfl | simp [Value.cells, Cont.vals, arr8, arr32, arr64]⟩
theorem zv9 : ZVal Tryz.prog 9 (.a (.v (.string .empty))) = True := eq_true ⟨.string .empty, by kernel_rfl, fun _ => by first | rfl | simp [Sc.val, At.val, arr8, arr32, arr64]⟩
theorem sz12 : sz Tryz.prog 12 = 1 := by kernel_rfl
theorem bz12 : bz Tryz.prog 12 = 8 := by kernel_rfl
theorem zok12 : ZOk Tryz.prog 12 (.c [.v (.int .u64 0)]) = True := eq_true ⟨.int .u64 0, by kernel_rfl, fun _ => by first | rfl | simp [Value.cells, Cont.vals, arr8, arr32, arr64]⟩
theorem zv12 : ZVal Tryz.prog 12 (.a (.v (.int .u64 0))) = True := eq_true ⟨.int .u64 0, by kernel_rfl, fun _ => by first | rfl | simp [Sc.val, At.val, arr8, arr32, arr64]⟩
theorem sz13 : sz Tryz.prog 13 = 2 := by kernel_rfl
theorem bz13 : bz Tryz.prog 13 = 24 := by kernel_rfl
theorem fo13_0 : fieldOff Tryz.prog 13 0 = some (0, 9) := by kernel_rfl
theorem fo13_1 : fieldOff Tryz.prog 13 1 = some (1, 12) := by kernel_rfl
theorem zok13 : ZOk Tryz.prog 13 (.c [.v (.string .empty), .v (.int .u64 0)]) = True := eq_true ⟨.agg #[.string .empty, .int .u64 0], by kernel_rfl, fun _ => by first | rfl | simp [Value.cells, Cont.vals, arr8, arr32, arr64]⟩
theorem zv13 : ZVal Tryz.prog 13 (.g [.v (.string .empty), .v (.int .u64 0)]) = True := eq_true ⟨.agg #[.string .empty, .int .u64 0], by kernel_rfl, fun _ => by first | rfl | simp [Sc.val, At.val, arr8, arr32, arr64]⟩
theorem sz15 : sz Tryz.prog 15 = 1 := by kernel_rfl
theorem bz15 : bz Tryz.prog 15 = 8 := by kernel_rfl
theorem zok15 : ZOk Tryz.prog 15 (.c [.v (.pointer none)]) = True := eq_true ⟨.pointer none, by kernel_rfl, fun _ => by first | rfl | simp [Value.cells, Cont.vals, arr8, arr32, arr64]⟩
theorem zv15 : ZVal Tryz.prog 15 (.a (.v (.pointer none))) = True := eq_true ⟨.pointer none, by kernel_rfl, fun _ => by first | rfl | simp [Sc.val, At.val, arr8, arr32, arr64]⟩
theorem sz16 : sz Tryz.prog 16 = 1 := by kernel_rfl
theorem bz16 : bz Tryz.prog 16 = 8 := by kernel_rfl
theorem zok16 : ZOk Tryz.prog 16 (.c [.v (.pointer none)]) = True := eq_true ⟨.pointer none, by kernel_rfl, fun _ => by first | rfl | simp [Value.cells, Cont.vals, arr8, arr32, arr64]⟩
theorem zv16 : ZVal Tryz.prog 16 (.a (.v (.pointer none))) = True := eq_true ⟨.pointer none, by kernel_rfl, fun _ => by first | rfl | simp [Sc.val, At.val, arr8, arr32, arr64]⟩
theorem sz17 : sz Tryz.prog 17 = 1 := by kernel_rfl
theorem bz17 : bz Tryz.prog 17 = 8 := by kernel_rfl
theorem zok17 : ZOk Tryz.prog 17 (.c [.v (.pointer none)]) = True := eq_true ⟨.pointer none, by kernel_rfl, fun _ => by first | rfl | simp [Value.cells, Cont.vals, arr8, arr32, arr64]⟩
theorem zv17 : ZVal Tryz.prog 17 (.a (.v (.pointer none))) = True := eq_true ⟨.pointer none, by kernel_rfl, fun _ => by first | rfl | simp [Sc.val, At.val, arr8, arr32, arr64]⟩
theorem sz20 : sz Tryz.prog 20 = 1 := by kernel_rfl
theorem bz20 : bz Tryz.prog 20 = 16 := by kernel_rfl
theorem zok20 : ZOk Tryz.prog 20 (.c [.v .nilIface]) = True := eq_true ⟨.nilIface, by kernel_rfl, fun _ => by first | rfl | simp [Value.cells, Cont.vals, arr8, arr32, arr64]⟩
theorem zv20 : ZVal Tryz.prog 20 (.a (.v (.nilIface))) = True := eq_true ⟨.nilIface, by kernel_rfl, fun _ => by first | rfl | simp [Sc.val, At.val, arr8, arr32, arr64]⟩
theorem sz21 : sz Tryz.prog 21 = 1 := by kernel_rfl
theorem bz21 : bz Tryz.prog 21 = 4 := by kernel_rfl
theorem zok21 : ZOk Tryz.prog 21 (.c [.v (.int .i32 0)]) = True := eq_true ⟨.int .i32 0, by kernel_rfl, fun _ => by first | rfl | simp [Value.cells, Cont.vals, arr8, arr32, arr64]⟩
theorem zv21 : ZVal Tryz.prog 21 (.a (.v (.int .i32 0))) = True := eq_true ⟨.int .i32 0, by kernel_rfl, fun _ => by first | rfl | simp [Sc.val, At.val, arr8, arr32, arr64]⟩
theorem sz22 : sz Tryz.prog 22 = 1 := by kernel_rfl
theorem bz22 : bz Tryz.prog 22 = 24 := by kernel_rfl
theorem zok22 : ZOk Tryz.prog 22 (.c [.v (.slice none 0 0)]) = True := eq_true ⟨.slice none 0 0, by kernel_rfl, fun _ => by first | rfl | simp [Value.cells, Cont.vals, arr8, arr32, arr64]⟩
theorem zv22 : ZVal Tryz.prog 22 (.a (.v (.slice none 0 0))) = True := eq_true ⟨.slice none 0 0, by kernel_rfl, fun _ => by first | rfl | simp [Sc.val, At.val, arr8, arr32, arr64]⟩
theorem sz23 : sz Tryz.prog 23 = 1 := by kernel_rfl
theorem bz23 : bz Tryz.prog 23 = 8 := by kernel_rfl
theorem zok23 : ZOk Tryz.prog 23 (.c [.v (.int .u64 0)]) = True := eq_true ⟨.int .u64 0, by kernel_rfl, fun _ => by first | rfl | simp [Value.cells, Cont.vals, arr8, arr32, arr64]⟩
theorem zv23 : ZVal Tryz.prog 23 (.a (.v (.int .u64 0))) = True := eq_true ⟨.int .u64 0, by kernel_rfl, fun _ => by first | rfl | simp [Sc.val, At.val, arr8, arr32, arr64]⟩
theorem sz24 : sz Tryz.prog 24 = 3 := by kernel_rfl
theorem bz24 : bz Tryz.prog 24 = 3 := by kernel_rfl
theorem aeq24 : arrEq Tryz.prog 24 3 .u8 = True := eq_true ⟨5, Tryz.underlying24, Tryz.underlying5, by kernel_rfl, by kernel_rfl, by kernel_rfl⟩
theorem zok24 : ZOk Tryz.prog 24 (.u8 (List.replicate 3 0)) = True := eq_true ⟨.agg (arr8 (List.replicate 3 0)), by kernel_rfl, fun _ => by first | rfl | simp [Value.cells, Cont.vals, arr8, arr32, arr64]⟩
theorem zv24 : ZVal Tryz.prog 24 (.a8 (List.replicate 3 0)) = True := eq_true ⟨.agg (arr8 (List.replicate 3 0)), by kernel_rfl, fun _ => by first | rfl | simp [Sc.val, At.val, arr8, arr32, arr64]⟩
theorem sz26 : sz Tryz.prog 26 = 1 := by kernel_rfl
theorem bz26 : bz Tryz.prog 26 = 24 := by kernel_rfl
theorem zok26 : ZOk Tryz.prog 26 (.c [.v (.slice none 0 0)]) = True := eq_true ⟨.slice none 0 0, by kernel_rfl, fun _ => by first | rfl | simp [Value.cells, Cont.vals, arr8, arr32, arr64]⟩
theorem zv26 : ZVal Tryz.prog 26 (.a (.v (.slice none 0 0))) = True := eq_true ⟨.slice none 0 0, by kernel_rfl, fun _ => by first | rfl | simp [Sc.val, At.val, arr8, arr32, arr64]⟩
theorem sz27 : sz Tryz.prog 27 = 1 := by kernel_rfl
theorem bz27 : bz Tryz.prog 27 = 24 := by kernel_rfl
theorem zok27 : ZOk Tryz.prog 27 (.c [.v (.slice none 0 0)]) = True := eq_true ⟨.slice none 0 0, by kernel_rfl, fun _ => by first | rfl | simp [Value.cells, Cont.vals, arr8, arr32, arr64]⟩
theorem zv27 : ZVal Tryz.prog 27 (.a (.v (.slice none 0 0))) = True := eq_true ⟨.slice none 0 0, by kernel_rfl, fun _ => by first | rfl | simp [Sc.val, At.val, arr8, arr32, arr64]⟩
theorem sz28 : sz Tryz.prog 28 = 2 := by kernel_rfl
theorem bz28 : bz Tryz.prog 28 = 16 := by kernel_rfl
theorem aeq28 : arrEq Tryz.prog 28 2 .u64 = True := eq_true ⟨23, Tryz.underlying28, Tryz.underlying23, by kernel_rfl, by kernel_rfl, by kernel_rfl⟩
theorem zok28 : ZOk Tryz.prog 28 (.u64 (List.replicate 2 0)) = True := eq_true ⟨.agg (arr64 (List.replicate 2 0)), by kernel_rfl, fun _ => by first | rfl | simp [Value.cells, Cont.vals, arr8, arr32, arr64]⟩
theorem zv28 : ZVal Tryz.prog 28 (.a64 (List.replicate 2 0)) = True := eq_true ⟨.agg (arr64 (List.replicate 2 0)), by kernel_rfl, fun _ => by first | rfl | simp [Sc.val, At.val, arr8, arr32, arr64]⟩
theorem sz29 : sz Tryz.prog 29 = 1 := by kernel_rfl
theorem bz29 : bz Tryz.prog 29 = 24 := by kernel_rfl
theorem zok29 : ZOk Tryz.prog 29 (.c [.v (.slice none 0 0)]) = True := eq_true ⟨.slice none 0 0, by kernel_rfl, fun _ => by first | rfl | simp [Value.cells, Cont.vals, arr8, arr32, arr64]⟩
theorem zv29 : ZVal Tryz.prog 29 (.a (.v (.slice none 0 0))) = True := eq_true ⟨.slice none 0 0, by kernel_rfl, fun _ => by first | rfl | simp [Sc.val, At.val, arr8, arr32, arr64]⟩
theorem sz30 : sz Tryz.prog 30 = 4 := by kernel_rfl
theorem bz30 : bz Tryz.prog 30 = 64 := by kernel_rfl
theorem fo30_0 : fieldOff Tryz.prog 30 0 = some (0, 23) := by kernel_rfl
theorem fo30_1 : fieldOff Tryz.prog 30 1 = some (1, 23) := by kernel_rfl
theorem fo30_2 : fieldOff Tryz.prog 30 2 = some (2, 29) := by kernel_rfl
theorem fo30_3 : fieldOff Tryz.prog 30 3 = some (3, 29) := by kernel_rfl
theorem zok30 : ZOk Tryz.prog 30 (.c [.v (.int .u64 0), .v (.int .u64 0), .v (.slice none 0 0), .v (.slice none 0 0)]) = True := eq_true ⟨.agg #[.int .u64 0, .int .u64 0, .slice none 0 0, .slice none 0 0], by kernel_rfl, fun _ => by first | rfl | simp [Value.cells, Cont.vals, arr8, arr32, arr64]⟩
theorem zv30 : ZVal Tryz.prog 30 (.g [.v (.int .u64 0), .v (.int .u64 0), .v (.slice none 0 0), .v (.slice none 0 0)]) = True := eq_true ⟨.agg #[.int .u64 0, .int .u64 0, .slice none 0 0, .slice none 0 0], by kernel_rfl, fun _ => by first | rfl | simp [Sc.val, At.val, arr8, arr32, arr64]⟩
theorem sz31 : sz Tryz.prog 31 = 4 := by kernel_rfl
theorem bz31 : bz Tryz.prog 31 = 64 := by kernel_rfl
theorem fo31_0 : fieldOff Tryz.prog 31 0 = some (0, 23) := by kernel_rfl
theorem fo31_1 : fieldOff Tryz.prog 31 1 = some (1, 23) := by kernel_rfl
theorem fo31_2 : fieldOff Tryz.prog 31 2 = some (2, 29) := by kernel_rfl
theorem fo31_3 : fieldOff Tryz.prog 31 3 = some (3, 29) := by kernel_rfl
theorem zok31 : ZOk Tryz.prog 31 (.c [.v (.int .u64 0), .v (.int .u64 0), .v (.slice none 0 0), .v (.slice none 0 0)]) = True := eq_true ⟨.agg #[.int .u64 0, .int .u64 0, .slice none 0 0, .slice none 0 0], by kernel_rfl, fun _ => by first | rfl | simp [Value.cells, Cont.vals, arr8, arr32, arr64]⟩
theorem zv31 : ZVal Tryz.prog 31 (.g [.v (.int .u64 0), .v (.int .u64 0), .v (.slice none 0 0), .v (.slice none 0 0)]) = True := eq_true ⟨.agg #[.int .u64 0, .int .u64 0, .slice none 0 0, .slice none 0 0], by kernel_rfl, fun _ => by first | rfl | simp [Sc.val, At.val, arr8, arr32, arr64]⟩
theorem sz33 : sz Tryz.prog 33 = 2 := by kernel_rfl
theorem bz33 : bz Tryz.prog 33 = 16 := by kernel_rfl
theorem fo33_0 : fieldOff Tryz.prog 33 0 = some (0, 3) := by kernel_rfl
theorem fo33_1 : fieldOff Tryz.prog 33 1 = some (1, 23) := by kernel_rfl
theorem zok33 : ZOk Tryz.prog 33 (.c [.v (.int .i64 0), .v (.int .u64 0)]) = True := eq_true ⟨.agg #[.int .i64 0, .int .u64 0], by kernel_rfl, fun _ => by first | rfl | simp [Value.cells, Cont.vals, arr8, arr32, arr64]⟩
theorem zv33 : ZVal Tryz.prog 33 (.g [.v (.int .i64 0), .v (.int .u64 0)]) = True := eq_true ⟨.agg #[.int .i64 0, .int .u64 0], by kernel_rfl, fun _ => by first | rfl | simp [Sc.val, At.val, arr8, arr32, arr64]⟩
theorem sz34 : sz Tryz.prog 34 = 2 := by kernel_rfl
theorem bz34 : bz Tryz.prog 34 = 16 := by kernel_rfl
theorem fo34_0 : fieldOff Tryz.prog 34 0 = some (0, 3) := by kernel_rfl
theorem fo34_1 : fieldOff Tryz.prog 34 1 = some (1, 23) := by kernel_rfl
theorem zok34 : ZOk Tryz.prog 34 (.c [.v (.int .i64 0), .v (.int .u64 0)]) = True := eq_true ⟨.agg #[.int .i64 0, .int .u64 0], by kernel_rfl, fun _ => by first | rfl | simp [Value.cells, Cont.vals, arr8, arr32, arr64]⟩
theorem zv34 : ZVal Tryz.prog 34 (.g [.v (.int .i64 0), .v (.int .u64 0)]) = True := eq_true ⟨.agg #[.int .i64 0, .int .u64 0], by kernel_rfl, fun _ => by first | rfl | simp [Sc.val, At.val, arr8, arr32, arr64]⟩
theorem seq34 : StEq Tryz.prog 34 [.i64, .u64] = True := eq_true ⟨by kernel_rfl, by kernel_rfl, by kernel_rfl, by kernel_rfl⟩
theorem sz35 : sz Tryz.prog 35 = 1 := by kernel_rfl
theorem bz35 : bz Tryz.prog 35 = 16 := by kernel_rfl
theorem zok35 : ZOk Tryz.prog 35 (.c [.v .nilIface]) = True := eq_true ⟨.nilIface, by kernel_rfl, fun _ => by first | rfl | simp [Value.cells, Cont.vals, arr8, arr32, arr64]⟩
theorem zv35 : ZVal Tryz.prog 35 (.a (.v (.nilIface))) = True := eq_true ⟨.nilIface, by kernel_rfl, fun _ => by first | rfl | simp [Sc.val, At.val, arr8, arr32, arr64]⟩
theorem sz36 : sz Tryz.prog 36 = 1 := by kernel_rfl
theorem bz36 : bz Tryz.prog 36 = 16 := by kernel_rfl
theorem zok36 : ZOk Tryz.prog 36 (.c [.v .nilIface]) = True := eq_true ⟨.nilIface, by kernel_rfl, fun _ => by first | rfl | simp [Value.cells, Cont.vals, arr8, arr32, arr64]⟩
theorem zv36 : ZVal Tryz.prog 36 (.a (.v (.nilIface))) = True := eq_true ⟨.nilIface, by kernel_rfl, fun _ => by first | rfl | simp [Sc.val, At.val, arr8, arr32, arr64]⟩
theorem sz39 : sz Tryz.prog 39 = 1 := by kernel_rfl
theorem bz39 : bz Tryz.prog 39 = 24 := by kernel_rfl
theorem zok39 : ZOk Tryz.prog 39 (.c [.v (.slice none 0 0)]) = True := eq_true ⟨.slice none 0 0, by kernel_rfl, fun _ => by first | rfl | simp [Value.cells, Cont.vals, arr8, arr32, arr64]⟩
theorem zv39 : ZVal Tryz.prog 39 (.a (.v (.slice none 0 0))) = True := eq_true ⟨.slice none 0 0, by kernel_rfl, fun _ => by first | rfl | simp [Sc.val, At.val, arr8, arr32, arr64]⟩
theorem sz40 : sz Tryz.prog 40 = 2 := by kernel_rfl
theorem bz40 : bz Tryz.prog 40 = 16 := by kernel_rfl
theorem fo40_0 : fieldOff Tryz.prog 40 0 = some (0, 23) := by kernel_rfl
theorem fo40_1 : fieldOff Tryz.prog 40 1 = some (1, 23) := by kernel_rfl
theorem zok40 : ZOk Tryz.prog 40 (.c [.v (.int .u64 0), .v (.int .u64 0)]) = True := eq_true ⟨.agg #[.int .u64 0, .int .u64 0], by kernel_rfl, fun _ => by first | rfl | simp [Value.cells, Cont.vals, arr8, arr32, arr64]⟩
theorem zv40 : ZVal Tryz.prog 40 (.g [.v (.int .u64 0), .v (.int .u64 0)]) = True := eq_true ⟨.agg #[.int .u64 0, .int .u64 0], by kernel_rfl, fun _ => by first | rfl | simp [Sc.val, At.val, arr8, arr32, arr64]⟩
theorem sz41 : sz Tryz.prog 41 = 2 := by kernel_rfl
theorem bz41 : bz Tryz.prog 41 = 16 := by kernel_rfl
theorem fo41_0 : fieldOff Tryz.prog 41 0 = some (0, 23) := by kernel_rfl
theorem fo41_1 : fieldOff Tryz.prog 41 1 = some (1, 23) := by kernel_rfl
theorem zok41 : ZOk Tryz.prog 41 (.c [.v (.int .u64 0), .v (.int .u64 0)]) = True := eq_true ⟨.agg #[.int .u64 0, .int .u64 0], by kernel_rfl, fun _ => by first | rfl | simp [Value.cells, Cont.vals, arr8, arr32, arr64]⟩
theorem zv41 : ZVal Tryz.prog 41 (.g [.v (.int .u64 0), .v (.int .u64 0)]) = True := eq_true ⟨.agg #[.int .u64 0, .int .u64 0], by kernel_rfl, fun _ => by first | rfl | simp [Sc.val, At.val, arr8, arr32, arr64]⟩
theorem seq41 : StEq Tryz.prog 41 [.u64, .u64] = True := eq_true ⟨by kernel_rfl, by kernel_rfl, by kernel_rfl, by kernel_rfl⟩
theorem sz42 : sz Tryz.prog 42 = 4 := by kernel_rfl
theorem bz42 : bz Tryz.prog 42 = 32 := by kernel_rfl
theorem zok42 : ZOk Tryz.prog 42 (.c [.v (.int .u64 0), .v (.int .u64 0), .v (.int .u64 0), .v (.int .u64 0)]) = True := eq_true ⟨.agg #[.int .u64 0, .int .u64 0, .int .u64 0, .int .u64 0], by kernel_rfl, fun _ => by first | rfl | simp [Value.cells, Cont.vals, arr8, arr32, arr64]⟩
theorem zv42 : ZVal Tryz.prog 42 (.g [.v (.int .u64 0), .v (.int .u64 0), .v (.int .u64 0), .v (.int .u64 0)]) = True := eq_true ⟨.agg #[.int .u64 0, .int .u64 0, .int .u64 0, .int .u64 0], by kernel_rfl, fun _ => by first | rfl | simp [Sc.val, At.val, arr8, arr32, arr64]⟩
theorem sz48 : sz Tryz.prog 48 = 1 := by kernel_rfl
theorem bz48 : bz Tryz.prog 48 = 24 := by kernel_rfl
theorem zok48 : ZOk Tryz.prog 48 (.c [.v (.slice none 0 0)]) = True := eq_true ⟨.slice none 0 0, by kernel_rfl, fun _ => by first | rfl | simp [Value.cells, Cont.vals, arr8, arr32, arr64]⟩
theorem zv48 : ZVal Tryz.prog 48 (.a (.v (.slice none 0 0))) = True := eq_true ⟨.slice none 0 0, by kernel_rfl, fun _ => by first | rfl | simp [Sc.val, At.val, arr8, arr32, arr64]⟩
theorem sz49 : sz Tryz.prog 49 = 1 := by kernel_rfl
theorem bz49 : bz Tryz.prog 49 = 4 := by kernel_rfl
theorem zok49 : ZOk Tryz.prog 49 (.c [.v (.int .u32 0)]) = True := eq_true ⟨.int .u32 0, by kernel_rfl, fun _ => by first | rfl | simp [Value.cells, Cont.vals, arr8, arr32, arr64]⟩
theorem zv49 : ZVal Tryz.prog 49 (.a (.v (.int .u32 0))) = True := eq_true ⟨.int .u32 0, by kernel_rfl, fun _ => by first | rfl | simp [Sc.val, At.val, arr8, arr32, arr64]⟩
theorem sz50 : sz Tryz.prog 50 = 2 := by kernel_rfl
theorem bz50 : bz Tryz.prog 50 = 8 := by kernel_rfl
theorem aeq50 : arrEq Tryz.prog 50 2 .u32 = True := eq_true ⟨49, Tryz.underlying50, Tryz.underlying49, by kernel_rfl, by kernel_rfl, by kernel_rfl⟩
theorem zok50 : ZOk Tryz.prog 50 (.u32 (List.replicate 2 0)) = True := eq_true ⟨.agg (arr32 (List.replicate 2 0)), by kernel_rfl, fun _ => by first | rfl | simp [Value.cells, Cont.vals, arr8, arr32, arr64]⟩
theorem zv50 : ZVal Tryz.prog 50 (.a32 (List.replicate 2 0)) = True := eq_true ⟨.agg (arr32 (List.replicate 2 0)), by kernel_rfl, fun _ => by first | rfl | simp [Sc.val, At.val, arr8, arr32, arr64]⟩
theorem sz52 : sz Tryz.prog 52 = 1 := by kernel_rfl
theorem bz52 : bz Tryz.prog 52 = 24 := by kernel_rfl
theorem zok52 : ZOk Tryz.prog 52 (.c [.v (.slice none 0 0)]) = True := eq_true ⟨.slice none 0 0, by kernel_rfl, fun _ => by first | rfl | simp [Value.cells, Cont.vals, arr8, arr32, arr64]⟩
theorem zv52 : ZVal Tryz.prog 52 (.a (.v (.slice none 0 0))) = True := eq_true ⟨.slice none 0 0, by kernel_rfl, fun _ => by first | rfl | simp [Sc.val, At.val, arr8, arr32, arr64]⟩
theorem sz53 : sz Tryz.prog 53 = 1 := by kernel_rfl
theorem bz53 : bz Tryz.prog 53 = 8 := by kernel_rfl
theorem zok53 : ZOk Tryz.prog 53 (.c [.v (.map none)]) = True := eq_true ⟨.map none, by kernel_rfl, fun _ => by first | rfl | simp [Value.cells, Cont.vals, arr8, arr32, arr64]⟩
theorem zv53 : ZVal Tryz.prog 53 (.a (.v (.map none))) = True := eq_true ⟨.map none, by kernel_rfl, fun _ => by first | rfl | simp [Sc.val, At.val, arr8, arr32, arr64]⟩
theorem sz54 : sz Tryz.prog 54 = 4 := by kernel_rfl
theorem bz54 : bz Tryz.prog 54 = 64 := by kernel_rfl
theorem fo54_0 : fieldOff Tryz.prog 54 0 = some (0, 26) := by kernel_rfl
theorem fo54_1 : fieldOff Tryz.prog 54 1 = some (1, 52) := by kernel_rfl
theorem fo54_2 : fieldOff Tryz.prog 54 2 = some (2, 3) := by kernel_rfl
theorem fo54_3 : fieldOff Tryz.prog 54 3 = some (3, 53) := by kernel_rfl
theorem zok54 : ZOk Tryz.prog 54 (.c [.v (.slice none 0 0), .v (.slice none 0 0), .v (.int .i64 0), .v (.map none)]) = True := eq_true ⟨.agg #[.slice none 0 0, .slice none 0 0, .int .i64 0, .map none], by kernel_rfl, fun _ => by first | rfl | simp [Value.cells, Cont.vals, arr8, arr32, arr64]⟩
theorem zv54 : ZVal Tryz.prog 54 (.g [.v (.slice none 0 0), .v (.slice none 0 0), .v (.int .i64 0), .v (.map none)]) = True := eq_true ⟨.agg #[.slice none 0 0, .slice none 0 0, .int .i64 0, .map none], by kernel_rfl, fun _ => by first | rfl | simp [Sc.val, At.val, arr8, arr32, arr64]⟩
theorem sz55 : sz Tryz.prog 55 = 4 := by kernel_rfl
theorem bz55 : bz Tryz.prog 55 = 64 := by kernel_rfl
theorem fo55_0 : fieldOff Tryz.prog 55 0 = some (0, 26) := by kernel_rfl
theorem fo55_1 : fieldOff Tryz.prog 55 1 = some (1, 52) := by kernel_rfl
theorem fo55_2 : fieldOff Tryz.prog 55 2 = some (2, 3) := by kernel_rfl
theorem fo55_3 : fieldOff Tryz.prog 55 3 = some (3, 53) := by kernel_rfl
theorem zok55 : ZOk Tryz.prog 55 (.c [.v (.slice none 0 0), .v (.slice none 0 0), .v (.int .i64 0), .v (.map none)]) = True := eq_true ⟨.agg #[.slice none 0 0, .slice none 0 0, .int .i64 0, .map none], by kernel_rfl, fun _ => by first | rfl | simp [Value.cells, Cont.vals, arr8, arr32, arr64]⟩
theorem zv55 : ZVal Tryz.prog 55 (.g [.v (.slice none 0 0), .v (.slice none 0 0), .v (.int .i64 0), .v (.map none)]) = True := eq_true ⟨.agg #[.slice none 0 0, .slice none 0 0, .int .i64 0, .map none], by kernel_rfl, fun _ => by first | rfl | simp [Sc.val, At.val, arr8, arr32, arr64]⟩
theorem sz57 : sz Tryz.prog 57 = 1 := by kernel_rfl
theorem bz57 : bz Tryz.prog 57 = 24 := by kernel_rfl
theorem zok57 : ZOk Tryz.prog 57 (.c [.v (.slice none 0 0)]) = True := eq_true ⟨.slice none 0 0, by kernel_rfl, fun _ => by first | rfl | simp [Value.cells, Cont.vals, arr8, arr32, arr64]⟩
theorem zv57 : ZVal Tryz.prog 57 (.a (.v (.slice none 0 0))) = True := eq_true ⟨.slice none 0 0, by kernel_rfl, fun _ => by first | rfl | simp [Sc.val, At.val, arr8, arr32, arr64]⟩
theorem sz58 : sz Tryz.prog 58 = 1 := by kernel_rfl
theorem bz58 : bz Tryz.prog 58 = 24 := by kernel_rfl
theorem zok58 : ZOk Tryz.prog 58 (.c [.v (.slice none 0 0)]) = True := eq_true ⟨.slice none 0 0, by kernel_rfl, fun _ => by first | rfl | simp [Value.cells, Cont.vals, arr8, arr32, arr64]⟩
theorem zv58 : ZVal Tryz.prog 58 (.a (.v (.slice none 0 0))) = True := eq_true ⟨.slice none 0 0, by kernel_rfl, fun _ => by first | rfl | simp [Sc.val, At.val, arr8, arr32, arr64]⟩
theorem sz59 : sz Tryz.prog 59 = 4 := by kernel_rfl
theorem bz59 : bz Tryz.prog 59 = 80 := by kernel_rfl
theorem fo59_0 : fieldOff Tryz.prog 59 0 = some (0, 57) := by kernel_rfl
theorem fo59_1 : fieldOff Tryz.prog 59 1 = some (1, 52) := by kernel_rfl
theorem fo59_2 : fieldOff Tryz.prog 59 2 = some (2, 3) := by kernel_rfl
theorem fo59_3 : fieldOff Tryz.prog 59 3 = some (3, 58) := by kernel_rfl
theorem zok59 : ZOk Tryz.prog 59 (.c [.v (.slice none 0 0), .v (.slice none 0 0), .v (.int .i64 0), .v (.slice none 0 0)]) = True := eq_true ⟨.agg #[.slice none 0 0, .slice none 0 0, .int .i64 0, .slice none 0 0], by kernel_rfl, fun _ => by first | rfl | simp [Value.cells, Cont.vals, arr8, arr32, arr64]⟩
theorem zv59 : ZVal Tryz.prog 59 (.g [.v (.slice none 0 0), .v (.slice none 0 0), .v (.int .i64 0), .v (.slice none 0 0)]) = True := eq_true ⟨.agg #[.slice none 0 0, .slice none 0 0, .int .i64 0, .slice none 0 0], by kernel_rfl, fun _ => by first | rfl | simp [Sc.val, At.val, arr8, arr32, arr64]⟩
theorem sz60 : sz Tryz.prog 60 = 4 := by kernel_rfl
theorem bz60 : bz Tryz.prog 60 = 80 := by kernel_rfl
theorem fo60_0 : fieldOff Tryz.prog 60 0 = some (0, 57) := by kernel_rfl
theorem fo60_1 : fieldOff Tryz.prog 60 1 = some (1, 52) := by kernel_rfl
theorem fo60_2 : fieldOff Tryz.prog 60 2 = some (2, 3) := by kernel_rfl
theorem fo60_3 : fieldOff Tryz.prog 60 3 = some (3, 58) := by kernel_rfl
theorem zok60 : ZOk Tryz.prog 60 (.c [.v (.slice none 0 0), .v (.slice none 0 0), .v (.int .i64 0), .v (.slice none 0 0)]) = True := eq_true ⟨.agg #[.slice none 0 0, .slice none 0 0, .int .i64 0, .slice none 0 0], by kernel_rfl, fun _ => by first | rfl | simp [Value.cells, Cont.vals, arr8, arr32, arr64]⟩
theorem zv60 : ZVal Tryz.prog 60 (.g [.v (.slice none 0 0), .v (.slice none 0 0), .v (.int .i64 0), .v (.slice none 0 0)]) = True := eq_true ⟨.agg #[.slice none 0 0, .slice none 0 0, .int .i64 0, .slice none 0 0], by kernel_rfl, fun _ => by first | rfl | simp [Sc.val, At.val, arr8, arr32, arr64]⟩
theorem sz61 : sz Tryz.prog 61 = 1 := by kernel_rfl
theorem bz61 : bz Tryz.prog 61 = 24 := by kernel_rfl
theorem zok61 : ZOk Tryz.prog 61 (.c [.v (.slice none 0 0)]) = True := eq_true ⟨.slice none 0 0, by kernel_rfl, fun _ => by first | rfl | simp [Value.cells, Cont.vals, arr8, arr32, arr64]⟩
theorem zv61 : ZVal Tryz.prog 61 (.a (.v (.slice none 0 0))) = True := eq_true ⟨.slice none 0 0, by kernel_rfl, fun _ => by first | rfl | simp [Sc.val, At.val, arr8, arr32, arr64]⟩
theorem sz64 : sz Tryz.prog 64 = 1 := by kernel_rfl
theorem bz64 : bz Tryz.prog 64 = 24 := by kernel_rfl
theorem zok64 : ZOk Tryz.prog 64 (.c [.v (.slice none 0 0)]) = True := eq_true ⟨.slice none 0 0, by kernel_rfl, fun _ => by first | rfl | simp [Value.cells, Cont.vals, arr8, arr32, arr64]⟩
theorem zv64 : ZVal Tryz.prog 64 (.a (.v (.slice none 0 0))) = True := eq_true ⟨.slice none 0 0, by kernel_rfl, fun _ => by first | rfl | simp [Sc.val, At.val, arr8, arr32, arr64]⟩
theorem sz65 : sz Tryz.prog 65 = 1 := by kernel_rfl
theorem bz65 : bz Tryz.prog 65 = 8 := by kernel_rfl
theorem zok65 : ZOk Tryz.prog 65 (.c [.v (.map none)]) = True := eq_true ⟨.map none, by kernel_rfl, fun _ => by first | rfl | simp [Value.cells, Cont.vals, arr8, arr32, arr64]⟩
theorem zv65 : ZVal Tryz.prog 65 (.a (.v (.map none))) = True := eq_true ⟨.map none, by kernel_rfl, fun _ => by first | rfl | simp [Sc.val, At.val, arr8, arr32, arr64]⟩
theorem sz75 : sz Tryz.prog 75 = 1 := by kernel_rfl
theorem bz75 : bz Tryz.prog 75 = 8 := by kernel_rfl
theorem zok75 : ZOk Tryz.prog 75 (.c [.v (.int .i64 0)]) = True := eq_true ⟨.int .i64 0, by kernel_rfl, fun _ => by first | rfl | simp [Value.cells, Cont.vals, arr8, arr32, arr64]⟩
theorem zv75 : ZVal Tryz.prog 75 (.a (.v (.int .i64 0))) = True := eq_true ⟨.int .i64 0, by kernel_rfl, fun _ => by first | rfl | simp [Sc.val, At.val, arr8, arr32, arr64]⟩
theorem sz84 : sz Tryz.prog 84 = 2 := by kernel_rfl
theorem bz84 : bz Tryz.prog 84 = 32 := by kernel_rfl
theorem fo84_0 : fieldOff Tryz.prog 84 0 = some (0, 3) := by kernel_rfl
theorem fo84_1 : fieldOff Tryz.prog 84 1 = some (1, 29) := by kernel_rfl
theorem zok84 : ZOk Tryz.prog 84 (.c [.v (.int .i64 0), .v (.slice none 0 0)]) = True := eq_true ⟨.agg #[.int .i64 0, .slice none 0 0], by kernel_rfl, fun _ => by first | rfl | simp [Value.cells, Cont.vals, arr8, arr32, arr64]⟩
theorem zv84 : ZVal Tryz.prog 84 (.g [.v (.int .i64 0), .v (.slice none 0 0)]) = True := eq_true ⟨.agg #[.int .i64 0, .slice none 0 0], by kernel_rfl, fun _ => by first | rfl | simp [Sc.val, At.val, arr8, arr32, arr64]⟩
theorem sz85 : sz Tryz.prog 85 = 2 := by kernel_rfl
theorem bz85 : bz Tryz.prog 85 = 32 := by kernel_rfl
theorem fo85_0 : fieldOff Tryz.prog 85 0 = some (0, 3) := by kernel_rfl
theorem fo85_1 : fieldOff Tryz.prog 85 1 = some (1, 29) := by kernel_rfl
theorem zok85 : ZOk Tryz.prog 85 (.c [.v (.int .i64 0), .v (.slice none 0 0)]) = True := eq_true ⟨.agg #[.int .i64 0, .slice none 0 0], by kernel_rfl, fun _ => by first | rfl | simp [Value.cells, Cont.vals, arr8, arr32, arr64]⟩
theorem zv85 : ZVal Tryz.prog 85 (.g [.v (.int .i64 0), .v (.slice none 0 0)]) = True := eq_true ⟨.agg #[.int .i64 0, .slice none 0 0], by kernel_rfl, fun _ => by first | rfl | simp [Sc.val, At.val, arr8, arr32, arr64]⟩
theorem sz88 : sz Tryz.prog 88 = 2 := by kernel_rfl
theorem bz88 : bz Tryz.prog 88 = 16 := by kernel_rfl
theorem fo88_0 : fieldOff Tryz.prog 88 0 = some (0, 3) := by kernel_rfl
theorem fo88_1 : fieldOff Tryz.prog 88 1 = some (1, 23) := by kernel_rfl
theorem zok88 : ZOk Tryz.prog 88 (.c [.v (.int .i64 0), .v (.int .u64 0)]) = True := eq_true ⟨.agg #[.int .i64 0, .int .u64 0], by kernel_rfl, fun _ => by first | rfl | simp [Value.cells, Cont.vals, arr8, arr32, arr64]⟩
theorem zv88 : ZVal Tryz.prog 88 (.g [.v (.int .i64 0), .v (.int .u64 0)]) = True := eq_true ⟨.agg #[.int .i64 0, .int .u64 0], by kernel_rfl, fun _ => by first | rfl | simp [Sc.val, At.val, arr8, arr32, arr64]⟩
theorem sz89 : sz Tryz.prog 89 = 2 := by kernel_rfl
theorem bz89 : bz Tryz.prog 89 = 16 := by kernel_rfl
theorem fo89_0 : fieldOff Tryz.prog 89 0 = some (0, 3) := by kernel_rfl
theorem fo89_1 : fieldOff Tryz.prog 89 1 = some (1, 23) := by kernel_rfl
theorem zok89 : ZOk Tryz.prog 89 (.c [.v (.int .i64 0), .v (.int .u64 0)]) = True := eq_true ⟨.agg #[.int .i64 0, .int .u64 0], by kernel_rfl, fun _ => by first | rfl | simp [Value.cells, Cont.vals, arr8, arr32, arr64]⟩
theorem zv89 : ZVal Tryz.prog 89 (.g [.v (.int .i64 0), .v (.int .u64 0)]) = True := eq_true ⟨.agg #[.int .i64 0, .int .u64 0], by kernel_rfl, fun _ => by first | rfl | simp [Sc.val, At.val, arr8, arr32, arr64]⟩
theorem seq89 : StEq Tryz.prog 89 [.i64, .u64] = True := eq_true ⟨by kernel_rfl, by kernel_rfl, by kernel_rfl, by kernel_rfl⟩
theorem sz90 : sz Tryz.prog 90 = 1 := by kernel_rfl
theorem bz90 : bz Tryz.prog 90 = 24 := by kernel_rfl
theorem zok90 : ZOk Tryz.prog 90 (.c [.v (.slice none 0 0)]) = True := eq_true ⟨.slice none 0 0, by kernel_rfl, fun _ => by first | rfl | simp [Value.cells, Cont.vals, arr8, arr32, arr64]⟩
theorem zv90 : ZVal Tryz.prog 90 (.a (.v (.slice none 0 0))) = True := eq_true ⟨.slice none 0 0, by kernel_rfl, fun _ => by first | rfl | simp [Sc.val, At.val, arr8, arr32, arr64]⟩
theorem sz99 : sz Tryz.prog 99 = 1 := by kernel_rfl
theorem bz99 : bz Tryz.prog 99 = 8 := by kernel_rfl
theorem zok99 : ZOk Tryz.prog 99 (.c [.v (.pointer none)]) = True := eq_true ⟨.pointer none, by kernel_rfl, fun _ => by first | rfl | simp [Value.cells, Cont.vals, arr8, arr32, arr64]⟩
theorem zv99 : ZVal Tryz.prog 99 (.a (.v (.pointer none))) = True := eq_true ⟨.pointer none, by kernel_rfl, fun _ => by first | rfl | simp [Sc.val, At.val, arr8, arr32, arr64]⟩
theorem sz100 : sz Tryz.prog 100 = 1 := by kernel_rfl
theorem bz100 : bz Tryz.prog 100 = 8 := by kernel_rfl
theorem zok100 : ZOk Tryz.prog 100 (.c [.v (.int .u64 0)]) = True := eq_true ⟨.int .u64 0, by kernel_rfl, fun _ => by first | rfl | simp [Value.cells, Cont.vals, arr8, arr32, arr64]⟩
theorem zv100 : ZVal Tryz.prog 100 (.a (.v (.int .u64 0))) = True := eq_true ⟨.int .u64 0, by kernel_rfl, fun _ => by first | rfl | simp [Sc.val, At.val, arr8, arr32, arr64]⟩
theorem sz113 : sz Tryz.prog 113 = 2 := by kernel_rfl
theorem bz113 : bz Tryz.prog 113 = 16 := by kernel_rfl
theorem fo113_0 : fieldOff Tryz.prog 113 0 = some (0, 3) := by kernel_rfl
theorem fo113_1 : fieldOff Tryz.prog 113 1 = some (1, 23) := by kernel_rfl
theorem zok113 : ZOk Tryz.prog 113 (.c [.v (.int .i64 0), .v (.int .u64 0)]) = True := eq_true ⟨.agg #[.int .i64 0, .int .u64 0], by kernel_rfl, fun _ => by first | rfl | simp [Value.cells, Cont.vals, arr8, arr32, arr64]⟩
theorem zv113 : ZVal Tryz.prog 113 (.g [.v (.int .i64 0), .v (.int .u64 0)]) = True := eq_true ⟨.agg #[.int .i64 0, .int .u64 0], by kernel_rfl, fun _ => by first | rfl | simp [Sc.val, At.val, arr8, arr32, arr64]⟩
theorem seq113 : StEq Tryz.prog 113 [.i64, .u64] = True := eq_true ⟨by kernel_rfl, by kernel_rfl, by kernel_rfl, by kernel_rfl⟩
theorem sz114 : sz Tryz.prog 114 = 1 := by kernel_rfl
theorem bz114 : bz Tryz.prog 114 = 8 := by kernel_rfl
theorem zok114 : ZOk Tryz.prog 114 (.c [.v (.map none)]) = True := eq_true ⟨.map none, by kernel_rfl, fun _ => by first | rfl | simp [Value.cells, Cont.vals, arr8, arr32, arr64]⟩
theorem zv114 : ZVal Tryz.prog 114 (.a (.v (.map none))) = True := eq_true ⟨.map none, by kernel_rfl, fun _ => by first | rfl | simp [Sc.val, At.val, arr8, arr32, arr64]⟩
theorem sz142 : sz Tryz.prog 142 = 32 := by kernel_rfl
theorem bz142 : bz Tryz.prog 142 = 32 := by kernel_rfl
theorem aeq142 : arrEq Tryz.prog 142 32 .u8 = True := eq_true ⟨5, Tryz.underlying142, Tryz.underlying5, by kernel_rfl, by kernel_rfl, by kernel_rfl⟩
theorem zok142 : ZOk Tryz.prog 142 (.u8 (List.replicate 32 0)) = True := eq_true ⟨.agg (arr8 (List.replicate 32 0)), by kernel_rfl, fun _ => by first | rfl | simp [Value.cells, Cont.vals, arr8, arr32, arr64]⟩
theorem zv142 : ZVal Tryz.prog 142 (.a8 (List.replicate 32 0)) = True := eq_true ⟨.agg (arr8 (List.replicate 32 0)), by kernel_rfl, fun _ => by first | rfl | simp [Sc.val, At.val, arr8, arr32, arr64]⟩
theorem sz144 : sz Tryz.prog 144 = 1 := by kernel_rfl
theorem bz144 : bz Tryz.prog 144 = 24 := by kernel_rfl
theorem zok144 : ZOk Tryz.prog 144 (.c [.v (.slice none 0 0)]) = True := eq_true ⟨.slice none 0 0, by kernel_rfl, fun _ => by first | rfl | simp [Value.cells, Cont.vals, arr8, arr32, arr64]⟩
theorem zv144 : ZVal Tryz.prog 144 (.a (.v (.slice none 0 0))) = True := eq_true ⟨.slice none 0 0, by kernel_rfl, fun _ => by first | rfl | simp [Sc.val, At.val, arr8, arr32, arr64]⟩
theorem sz148 : sz Tryz.prog 148 = 1 := by kernel_rfl
theorem bz148 : bz Tryz.prog 148 = 8 := by kernel_rfl
theorem zok148 : ZOk Tryz.prog 148 (.c [.v (.map none)]) = True := eq_true ⟨.map none, by kernel_rfl, fun _ => by first | rfl | simp [Value.cells, Cont.vals, arr8, arr32, arr64]⟩
theorem zv148 : ZVal Tryz.prog 148 (.a (.v (.map none))) = True := eq_true ⟨.map none, by kernel_rfl, fun _ => by first | rfl | simp [Sc.val, At.val, arr8, arr32, arr64]⟩
theorem sz155 : sz Tryz.prog 155 = 1 := by kernel_rfl
theorem bz155 : bz Tryz.prog 155 = 8 := by kernel_rfl
theorem fo155_0 : fieldOff Tryz.prog 155 0 = some (0, 17) := by kernel_rfl
theorem zok155 : ZOk Tryz.prog 155 (.c [.v (.pointer none)]) = True := eq_true ⟨.agg #[.pointer none], by kernel_rfl, fun _ => by first | rfl | simp [Value.cells, Cont.vals, arr8, arr32, arr64]⟩
theorem zv155 : ZVal Tryz.prog 155 (.g [.v (.pointer none)]) = True := eq_true ⟨.agg #[.pointer none], by kernel_rfl, fun _ => by first | rfl | simp [Sc.val, At.val, arr8, arr32, arr64]⟩
theorem sz156 : sz Tryz.prog 156 = 1 := by kernel_rfl
theorem bz156 : bz Tryz.prog 156 = 8 := by kernel_rfl
theorem zok156 : ZOk Tryz.prog 156 (.c [.v (.pointer none)]) = True := eq_true ⟨.pointer none, by kernel_rfl, fun _ => by first | rfl | simp [Value.cells, Cont.vals, arr8, arr32, arr64]⟩
theorem zv156 : ZVal Tryz.prog 156 (.a (.v (.pointer none))) = True := eq_true ⟨.pointer none, by kernel_rfl, fun _ => by first | rfl | simp [Sc.val, At.val, arr8, arr32, arr64]⟩
theorem sz160 : sz Tryz.prog 160 = 1 := by kernel_rfl
theorem bz160 : bz Tryz.prog 160 = 16 := by kernel_rfl
theorem zok160 : ZOk Tryz.prog 160 (.c [.v .nilIface]) = True := eq_true ⟨.nilIface, by kernel_rfl, fun _ => by first | rfl | simp [Value.cells, Cont.vals, arr8, arr32, arr64]⟩
theorem zv160 : ZVal Tryz.prog 160 (.a (.v (.nilIface))) = True := eq_true ⟨.nilIface, by kernel_rfl, fun _ => by first | rfl | simp [Sc.val, At.val, arr8, arr32, arr64]⟩
theorem sz163 : sz Tryz.prog 163 = 1 := by kernel_rfl
theorem bz163 : bz Tryz.prog 163 = 16 := by kernel_rfl
theorem zok163 : ZOk Tryz.prog 163 (.c [.v .nilIface]) = True := eq_true ⟨.nilIface, by kernel_rfl, fun _ => by first | rfl | simp [Value.cells, Cont.vals, arr8, arr32, arr64]⟩
theorem zv163 : ZVal Tryz.prog 163 (.a (.v (.nilIface))) = True := eq_true ⟨.nilIface, by kernel_rfl, fun _ => by first | rfl | simp [Sc.val, At.val, arr8, arr32, arr64]⟩
theorem sz165 : sz Tryz.prog 165 = 1 := by kernel_rfl
theorem bz165 : bz Tryz.prog 165 = 16 := by kernel_rfl
theorem zok165 : ZOk Tryz.prog 165 (.c [.v .nilIface]) = True := eq_true ⟨.nilIface, by kernel_rfl, fun _ => by first | rfl | simp [Value.cells, Cont.vals, arr8, arr32, arr64]⟩
theorem zv165 : ZVal Tryz.prog 165 (.a (.v (.nilIface))) = True := eq_true ⟨.nilIface, by kernel_rfl, fun _ => by first | rfl | simp [Sc.val, At.val, arr8, arr32, arr64]⟩
theorem sz166 : sz Tryz.prog 166 = 1 := by kernel_rfl
theorem bz166 : bz Tryz.prog 166 = 24 := by kernel_rfl
theorem zok166 : ZOk Tryz.prog 166 (.c [.v (.slice none 0 0)]) = True := eq_true ⟨.slice none 0 0, by kernel_rfl, fun _ => by first | rfl | simp [Value.cells, Cont.vals, arr8, arr32, arr64]⟩
theorem zv166 : ZVal Tryz.prog 166 (.a (.v (.slice none 0 0))) = True := eq_true ⟨.slice none 0 0, by kernel_rfl, fun _ => by first | rfl | simp [Sc.val, At.val, arr8, arr32, arr64]⟩
theorem sz169 : sz Tryz.prog 169 = 8 := by kernel_rfl
theorem bz169 : bz Tryz.prog 169 = 8 := by kernel_rfl
theorem aeq169 : arrEq Tryz.prog 169 8 .u8 = True := eq_true ⟨5, Tryz.underlying169, Tryz.underlying5, by kernel_rfl, by kernel_rfl, by kernel_rfl⟩
theorem zok169 : ZOk Tryz.prog 169 (.u8 (List.replicate 8 0)) = True := eq_true ⟨.agg (arr8 (List.replicate 8 0)), by kernel_rfl, fun _ => by first | rfl | simp [Value.cells, Cont.vals, arr8, arr32, arr64]⟩
theorem zv169 : ZVal Tryz.prog 169 (.a8 (List.replicate 8 0)) = True := eq_true ⟨.agg (arr8 (List.replicate 8 0)), by kernel_rfl, fun _ => by first | rfl | simp [Sc.val, At.val, arr8, arr32, arr64]⟩
theorem sz172 : sz Tryz.prog 172 = 1 := by kernel_rfl
theorem bz172 : bz Tryz.prog 172 = 8 := by kernel_rfl
theorem zok172 : ZOk Tryz.prog 172 (.c [.v (.int .i64 0)]) = True := eq_true ⟨.int .i64 0, by kernel_rfl, fun _ => by first | rfl | simp [Value.cells, Cont.vals, arr8, arr32, arr64]⟩
theorem zv172 : ZVal Tryz.prog 172 (.a (.v (.int .i64 0))) = True := eq_true ⟨.int .i64 0, by kernel_rfl, fun _ => by first | rfl | simp [Sc.val, At.val, arr8, arr32, arr64]⟩
theorem sz182 : sz Tryz.prog 182 = 24 := by kernel_rfl
theorem bz182 : bz Tryz.prog 182 = 24 := by kernel_rfl
theorem aeq182 : arrEq Tryz.prog 182 24 .u8 = True := eq_true ⟨5, Tryz.underlying182, Tryz.underlying5, by kernel_rfl, by kernel_rfl, by kernel_rfl⟩
theorem zok182 : ZOk Tryz.prog 182 (.u8 (List.replicate 24 0)) = True := eq_true ⟨.agg (arr8 (List.replicate 24 0)), by kernel_rfl, fun _ => by first | rfl | simp [Value.cells, Cont.vals, arr8, arr32, arr64]⟩
theorem zv182 : ZVal Tryz.prog 182 (.a8 (List.replicate 24 0)) = True := eq_true ⟨.agg (arr8 (List.replicate 24 0)), by kernel_rfl, fun _ => by first | rfl | simp [Sc.val, At.val, arr8, arr32, arr64]⟩
theorem sz186 : sz Tryz.prog 186 = 64 := by kernel_rfl
theorem bz186 : bz Tryz.prog 186 = 64 := by kernel_rfl
theorem aeq186 : arrEq Tryz.prog 186 64 .u8 = True := eq_true ⟨5, Tryz.underlying186, Tryz.underlying5, by kernel_rfl, by kernel_rfl, by kernel_rfl⟩
theorem zok186 : ZOk Tryz.prog 186 (.u8 (List.replicate 64 0)) = True := eq_true ⟨.agg (arr8 (List.replicate 64 0)), by kernel_rfl, fun _ => by first | rfl | simp [Value.cells, Cont.vals, arr8, arr32, arr64]⟩
theorem zv186 : ZVal Tryz.prog 186 (.a8 (List.replicate 64 0)) = True := eq_true ⟨.agg (arr8 (List.replicate 64 0)), by kernel_rfl, fun _ => by first | rfl | simp [Sc.val, At.val, arr8, arr32, arr64]⟩
theorem sz189 : sz Tryz.prog 189 = 1 := by kernel_rfl
theorem bz189 : bz Tryz.prog 189 = 8 := by kernel_rfl
theorem zok189 : ZOk Tryz.prog 189 (.c [.v (.int .u64 0)]) = True := eq_true ⟨.int .u64 0, by kernel_rfl, fun _ => by first | rfl | simp [Value.cells, Cont.vals, arr8, arr32, arr64]⟩
theorem zv189 : ZVal Tryz.prog 189 (.a (.v (.int .u64 0))) = True := eq_true ⟨.int .u64 0, by kernel_rfl, fun _ => by first | rfl | simp [Sc.val, At.val, arr8, arr32, arr64]⟩
theorem sz193 : sz Tryz.prog 193 = 1 := by kernel_rfl
theorem bz193 : bz Tryz.prog 193 = 8 := by kernel_rfl
theorem zok193 : ZOk Tryz.prog 193 (.c [.v (.pointer none)]) = True := eq_true ⟨.pointer none, by kernel_rfl, fun _ => by first | rfl | simp [Value.cells, Cont.vals, arr8, arr32, arr64]⟩
theorem zv193 : ZVal Tryz.prog 193 (.a (.v (.pointer none))) = True := eq_true ⟨.pointer none, by kernel_rfl, fun _ => by first | rfl | simp [Sc.val, At.val, arr8, arr32, arr64]⟩
theorem sz197 : sz Tryz.prog 197 = 20 := by kernel_rfl
theorem bz197 : bz Tryz.prog 197 = 160 := by kernel_rfl
theorem aeq197 : arrEq Tryz.prog 197 20 .u64 = True := eq_true ⟨23, Tryz.underlying197, Tryz.underlying23, by kernel_rfl, by kernel_rfl, by kernel_rfl⟩
theorem zok197 : ZOk Tryz.prog 197 (.u64 (List.replicate 20 0)) = True := eq_true ⟨.agg (arr64 (List.replicate 20 0)), by kernel_rfl, fun _ => by first | rfl | simp [Value.cells, Cont.vals, arr8, arr32, arr64]⟩
theorem zv197 : ZVal Tryz.prog 197 (.a64 (List.replicate 20 0)) = True := eq_true ⟨.agg (arr64 (List.replicate 20 0)), by kernel_rfl, fun _ => by first | rfl | simp [Sc.val, At.val, arr8, arr32, arr64]⟩
theorem sz198 : sz Tryz.prog 198 = 65 := by kernel_rfl
theorem bz198 : bz Tryz.prog 198 = 65 := by kernel_rfl
theorem aeq198 : arrEq Tryz.prog 198 65 .u8 = True := eq_true ⟨5, Tryz.underlying198, Tryz.underlying5, by kernel_rfl, by kernel_rfl, by kernel_rfl⟩
theorem zok198 : ZOk Tryz.prog 198 (.u8 (List.replicate 65 0)) = True := eq_true ⟨.agg (arr8 (List.replicate 65 0)), by kernel_rfl, fun _ => by first | rfl | simp [Value.cells, Cont.vals, arr8, arr32, arr64]⟩
theorem zv198 : ZVal Tryz.prog 198 (.a8 (List.replicate 65 0)) = True := eq_true ⟨.agg (arr8 (List.replicate 65 0)), by kernel_rfl, fun _ => by first | rfl | simp [Sc.val, At.val, arr8, arr32, arr64]⟩
theorem sz200 : sz Tryz.prog 200 = 1 := by kernel_rfl
theorem bz200 : bz Tryz.prog 200 = 8 := by kernel_rfl
theorem zok200 : ZOk Tryz.prog 200 (.c [.v (.pointer none)]) = True := eq_true ⟨.pointer none, by kernel_rfl, fun _ => by first | rfl | simp [Value.cells, Cont.vals, arr8, arr32, arr64]⟩
theorem zv200 : ZVal Tryz.prog 200 (.a (.v (.pointer none))) = True := eq_true ⟨.pointer none, by kernel_rfl, fun _ => by first | rfl | simp [Sc.val, At.val, arr8, arr32, arr64]⟩
theorem sz203 : sz Tryz.prog 203 = 8 := by kernel_rfl
theorem bz203 : bz Tryz.prog 203 = 32 := by kernel_rfl
theorem aeq203 : arrEq Tryz.prog 203 8 .u32 = True := eq_true ⟨49, Tryz.underlying203, Tryz.underlying49, by kernel_rfl, by kernel_rfl, by kernel_rfl⟩
theorem zok203 : ZOk Tryz.prog 203 (.u32 (List.replicate 8 0)) = True := eq_true ⟨.agg (arr32 (List.replicate 8 0)), by kernel_rfl, fun _ => by first | rfl | simp [Value.cells, Cont.vals, arr8, arr32, arr64]⟩
theorem zv203 : ZVal Tryz.prog 203 (.a32 (List.replicate 8 0)) = True := eq_true ⟨.agg (arr32 (List.replicate 8 0)), by kernel_rfl, fun _ => by first | rfl | simp [Sc.val, At.val, arr8, arr32, arr64]⟩
theorem sz209 : sz Tryz.prog 209 = 64 := by kernel_rfl
theorem bz209 : bz Tryz.prog 209 = 256 := by kernel_rfl
theorem aeq209 : arrEq Tryz.prog 209 64 .u32 = True := eq_true ⟨49, Tryz.underlying209, Tryz.underlying49, by kernel_rfl, by kernel_rfl, by kernel_rfl⟩
theorem zok209 : ZOk Tryz.prog 209 (.u32 (List.replicate 64 0)) = True := eq_true ⟨.agg (arr32 (List.replicate 64 0)), by kernel_rfl, fun _ => by first | rfl | simp [Value.cells, Cont.vals, arr8, arr32, arr64]⟩
theorem zv209 : ZVal Tryz.prog 209 (.a32 (List.replicate 64 0)) = True := eq_true ⟨.agg (arr32 (List.replicate 64 0)), by kernel_rfl, fun _ => by first | rfl | simp [Sc.val, At.val, arr8, arr32, arr64]⟩
theorem sz222 : sz Tryz.prog 222 = 1 := by kernel_rfl
theorem bz222 : bz Tryz.prog 222 = 8 := by kernel_rfl
theorem zok222 : ZOk Tryz.prog 222 (.c [.v (.pointer none)]) = True := eq_true ⟨.pointer none, by kernel_rfl, fun _ => by first | rfl | simp [Value.cells, Cont.vals, arr8, arr32, arr64]⟩
theorem zv222 : ZVal Tryz.prog 222 (.a (.v (.pointer none))) = True := eq_true ⟨.pointer none, by kernel_rfl, fun _ => by first | rfl | simp [Sc.val, At.val, arr8, arr32, arr64]⟩
theorem sz231 : sz Tryz.prog 231 = 1 := by kernel_rfl
theorem bz231 : bz Tryz.prog 231 = 8 := by kernel_rfl
theorem zok231 : ZOk Tryz.prog 231 (.c [.v (.pointer none)]) = True := eq_true ⟨.pointer none, by kernel_rfl, fun _ => by first | rfl | simp [Value.cells, Cont.vals, arr8, arr32, arr64]⟩
theorem zv231 : ZVal Tryz.prog 231 (.a (.v (.pointer none))) = True := eq_true ⟨.pointer none, by kernel_rfl, fun _ => by first | rfl | simp [Sc.val, At.val, arr8, arr32, arr64]⟩
theorem sz233 : sz Tryz.prog 233 = 1 := by kernel_rfl
theorem bz233 : bz Tryz.prog 233 = 2 := by kernel_rfl
theorem zok233 : ZOk Tryz.prog 233 (.c [.v (.int .u16 0)]) = True := eq_true ⟨.int .u16 0, by kernel_rfl, fun _ => by first | rfl | simp [Value.cells, Cont.vals, arr8, arr32, arr64]⟩
theorem zv233 : ZVal Tryz.prog 233 (.a (.v (.int .u16 0))) = True := eq_true ⟨.int .u16 0, by kernel_rfl, fun _ => by first | rfl | simp [Sc.val, At.val, arr8, arr32, arr64]⟩
theorem sz240 : sz Tryz.prog 240 = 1 := by kernel_rfl
theorem bz240 : bz Tryz.prog 240 = 8 := by kernel_rfl
theorem zok240 : ZOk Tryz.prog 240 (.c [.v (.pointer none)]) = True := eq_true ⟨.pointer none, by kernel_rfl, fun _ => by first | rfl | simp [Value.cells, Cont.vals, arr8, arr32, arr64]⟩
theorem zv240 : ZVal Tryz.prog 240 (.a (.v (.pointer none))) = True := eq_true ⟨.pointer none, by kernel_rfl, fun _ => by first | rfl | simp [Sc.val, At.val, arr8, arr32, arr64]⟩
theorem cb3 : Callable Tryz.prog 3 := callable_of Tryz.func3 (by kernel_rfl) rfl
theorem cb4 : Callable Tryz.prog 4 := callable_of Tryz.func4 (by kernel_rfl) rfl
theorem cb5 : Callable Tryz.prog 5 := callable_of Tryz.func5 (by kernel_rfl) rfl
theorem cb6 : Callable Tryz.prog 6 := callable_of Tryz.func6 (by kernel_rfl) rfl
theorem cb7 : Callable Tryz.prog 7 := callable_of Tryz.func7 (by kernel_rfl) rfl
theorem cb8 : Callable Tryz.prog 8 := callable_of Tryz.func8 (by kernel_rfl) rfl
theorem cb9 : Callable Tryz.prog 9 := callable_of Tryz.func9 (by kernel_rfl) rfl
theorem cb10 : Callable Tryz.prog 10 := callable_of Tryz.func10 (by kernel_rfl) rfl
theorem cb11 : Callable Tryz.prog 11 := callable_of Tryz.func11 (by kernel_rfl) rfl
theorem cb12 : Callable Tryz.prog 12 := callable_of Tryz.func12 (by kernel_rfl) rfl
theorem cb13 : Callable Tryz.prog 13 := callable_of Tryz.func13 (by kernel_rfl) rfl
theorem cb14 : Callable Tryz.prog 14 := callable_of Tryz.func14 (by kernel_rfl) rfl
theorem cb15 : Callable Tryz.prog 15 := callable_of Tryz.func15 (by kernel_rfl) rfl
theorem cb16 : Callable Tryz.prog 16 := callable_of Tryz.func16 (by kernel_rfl) rfl
theorem cb17 : Callable Tryz.prog 17 := callable_of Tryz.func17 (by kernel_rfl) rfl
theorem cb18 : Callable Tryz.prog 18 := callable_of Tryz.func18 (by kernel_rfl) rfl
theorem cb19 : Callable Tryz.prog 19 := callable_of Tryz.func19 (by kernel_rfl) rfl
theorem cb20 : Callable Tryz.prog 20 := callable_of Tryz.func20 (by kernel_rfl) rfl
theorem cb21 : Callable Tryz.prog 21 := callable_of Tryz.func21 (by kernel_rfl) rfl
theorem cb22 : Callable Tryz.prog 22 := callable_of Tryz.func22 (by kernel_rfl) rfl
theorem cb23 : Callable Tryz.prog 23 := callable_of Tryz.func23 (by kernel_rfl) rfl
theorem cb24 : Callable Tryz.prog 24 := callable_of Tryz.func24 (by kernel_rfl) rfl
theorem cb25 : Callable Tryz.prog 25 := callable_of Tryz.func25 (by kernel_rfl) rfl
theorem cb26 : Callable Tryz.prog 26 := callable_of Tryz.func26 (by kernel_rfl) rfl
theorem cb27 : Callable Tryz.prog 27 := callable_of Tryz.func27 (by kernel_rfl) rfl
theorem cb28 : Callable Tryz.prog 28 := callable_of Tryz.func28 (by kernel_rfl) rfl
theorem cb29 : Callable Tryz.prog 29 := callable_of Tryz.func29 (by kernel_rfl) rfl
theorem cb30 : Callable Tryz.prog 30 := callable_of Tryz.func30 (by kernel_rfl) rfl
theorem cb31 : Callable Tryz.prog 31 := callable_of Tryz.func31 (by kernel_rfl) rfl
theorem cb32 : Callable Tryz.prog 32 := callable_of Tryz.func32 (by kernel_rfl) rfl
theorem cb33 : Callable Tryz.prog 33 := callable_of Tryz.func33 (by kernel_rfl) rfl
theorem cb34 : Callable Tryz.prog 34 := callable_of Tryz.func34 (by kernel_rfl) rfl
theorem cb35 : Callable Tryz.prog 35 := callable_of Tryz.func35 (by kernel_rfl) rfl
theorem cb36 : Callable Tryz.prog 36 := callable_of Tryz.func36 (by kernel_rfl) rfl
theorem cb37 : Callable Tryz.prog 37 := callable_of Tryz.func37 (by kernel_rfl) rfl
theorem cb38 : Callable Tryz.prog 38 := callable_of Tryz.func38 (by kernel_rfl) rfl
theorem cb39 : Callable Tryz.prog 39 := callable_of Tryz.func39 (by kernel_rfl) rfl
theorem cb40 : Callable Tryz.prog 40 := callable_of Tryz.func40 (by kernel_rfl) rfl
theorem cb41 : Callable Tryz.prog 41 := callable_of Tryz.func41 (by kernel_rfl) rfl
theorem cb42 : Callable Tryz.prog 42 := callable_of Tryz.func42 (by kernel_rfl) rfl
theorem cb43 : Callable Tryz.prog 43 := callable_of Tryz.func43 (by kernel_rfl) rfl
theorem cb44 : Callable Tryz.prog 44 := callable_of Tryz.func44 (by kernel_rfl) rfl
theorem cb45 : Callable Tryz.prog 45 := callable_of Tryz.func45 (by kernel_rfl) rfl
theorem cb46 : Callable Tryz.prog 46 := callable_of Tryz.func46 (by kernel_rfl) rfl
theorem cb47 : Callable Tryz.prog 47 := callable_of Tryz.func47 (by kernel_rfl) rfl
theorem cb48 : Callable Tryz.prog 48 := callable_of Tryz.func48 (by kernel_rfl) rfl
theorem cb50 : Callable Tryz.prog 50 := callable_of Tryz.func50 (by kernel_rfl) rfl
theorem cb51 : Callable Tryz.prog 51 := callable_of Tryz.func51 (by kernel_rfl) rfl
theorem cb52 : Callable Tryz.prog 52 := callable_of Tryz.func52 (by kernel_rfl) rfl
theorem cb53 : Callable Tryz.prog 53 := callable_of Tryz.func53 (by kernel_rfl) rfl
theorem cb54 : Callable Tryz.prog 54 := callable_of Tryz.func54 (by kernel_rfl) rfl
theorem cb55 : Callable Tryz.prog 55 := callable_of Tryz.func55 (by kernel_rfl) rfl
theorem cb56 : Callable Tryz.prog 56 := callable_of Tryz.func56 (by kernel_rfl) rfl
theorem cb57 : Callable Tryz.prog 57 := callable_of Tryz.func57 (by kernel_rfl) rfl
theorem cb58 : Callable Tryz.prog 58 := callable_of Tryz.func58 (by kernel_rfl) rfl
theorem cb59 : Callable Tryz.prog 59 := callable_of Tryz.func59 (by kernel_rfl) rfl
theorem cb60 : Callable Tryz.prog 60 := callable_of Tryz.func60 (by kernel_rfl) rfl
theorem cb61 : Callable Tryz.prog 61 := callable_of Tryz.func61 (by kernel_rfl) rfl
theorem cb62 : Callable Tryz.prog 62 := callable_of Tryz.func62 (by kernel_rfl) rfl
theorem cb63 : Callable Tryz.prog 63 := callable_of Tryz.func63 (by kernel_rfl) rfl
theorem cb64 : Callable Tryz.prog 64 := callable_of Tryz.func64 (by kernel_rfl) rfl
theorem cb65 : Callable Tryz.prog 65 := callable_of Tryz.func65 (by kernel_rfl) rfl
theorem cb66 : Callable Tryz.prog 66 := callable_of Tryz.func66 (by kernel_rfl) rfl
theorem cb71 : Callable Tryz.prog 71 := callable_of Tryz.func71 (by kernel_rfl) rfl
theorem cb73 : Callable Tryz.prog 73 := callable_of Tryz.func73 (by kernel_rfl) rfl
theorem cb74 : Callable Tryz.prog 74 := callable_of Tryz.func74 (by kernel_rfl) rfl
theorem cb75 : Callable Tryz.prog 75 := callable_of Tryz.func75 (by kernel_rfl) rfl
theorem cb76 : Callable Tryz.prog 76 := callable_of Tryz.func76 (by kernel_rfl) rfl
theorem cb78 : Callable Tryz.prog 78 := callable_of Tryz.func78 (by kernel_rfl) rfl
theorem cb79 : Callable Tryz.prog 79 := callable_of Tryz.func79 (by kernel_rfl) rfl
theorem cb80 : Callable Tryz.prog 80 := callable_of Tryz.func80 (by kernel_rfl) rfl
theorem cb81 : Callable Tryz.prog 81 := callable_of Tryz.func81 (by kernel_rfl) rfl
theorem cb82 : Callable Tryz.prog 82 := callable_of Tryz.func82 (by kernel_rfl) rfl
theorem cb83 : Callable Tryz.prog 83 := callable_of Tryz.func83 (by kernel_rfl) rfl
theorem cb88 : Callable Tryz.prog 88 := callable_of Tryz.func88 (by kernel_rfl) rfl
theorem cb89 : Callable Tryz.prog 89 := callable_of Tryz.func89 (by kernel_rfl) rfl
theorem cb90 : Callable Tryz.prog 90 := callable_of Tryz.func90 (by kernel_rfl) rfl
theorem cb91 : Callable Tryz.prog 91 := callable_of Tryz.func91 (by kernel_rfl) rfl
theorem cb92 : Callable Tryz.prog 92 := callable_of Tryz.func92 (by kernel_rfl) rfl
theorem cb93 : Callable Tryz.prog 93 := callable_of Tryz.func93 (by kernel_rfl) rfl
theorem cb94 : Callable Tryz.prog 94 := callable_of Tryz.func94 (by kernel_rfl) rfl
theorem cb95 : Callable Tryz.prog 95 := callable_of Tryz.func95 (by kernel_rfl) rfl
theorem cb96 : Callable Tryz.prog 96 := callable_of Tryz.func96 (by kernel_rfl) rfl
theorem cb97 : Callable Tryz.prog 97 := callable_of Tryz.func97 (by kernel_rfl) rfl
theorem cb98 : Callable Tryz.prog 98 := callable_of Tryz.func98 (by kernel_rfl) rfl
theorem cb99 : Callable Tryz.prog 99 := callable_of Tryz.func99 (by kernel_rfl) rfl
theorem cb100 : Callable Tryz.prog 100 := callable_of Tryz.func100 (by kernel_rfl) rfl
theorem cb105 : Callable Tryz.prog 105 := callable_of Tryz.func105 (by kernel_rfl) rfl
theorem cb106 : Callable Tryz.prog 106 := callable_of Tryz.func106 (by kernel_rfl) rfl
theorem cb107 : Callable Tryz.prog 107 := callable_of Tryz.func107 (by kernel_rfl) rfl
theorem cb108 : Callable Tryz.prog 108 := callable_of Tryz.func108 (by kernel_rfl) rfl
theorem cb110 : Callable Tryz.prog 110 := callable_of Tryz.func110 (by kernel_rfl) rfl
theorem cb111 : Callable Tryz.prog 111 := callable_of Tryz.func111 (by kernel_rfl) rfl
theorem cb115 : Callable Tryz.prog 115 := callable_of Tryz.func115 (by kernel_rfl) rfl
theorem cb116 : Callable Tryz.prog 116 := callable_of Tryz.func116 (by kernel_rfl) rfl
theorem cb117 : Callable Tryz.prog 117 := callable_of Tryz.func117 (by kernel_rfl) rfl
theorem cb118 : Callable Tryz.prog 118 := callable_of Tryz.func118 (by kernel_rfl) rfl
theorem cb119 : Callable Tryz.prog 119 := callable_of Tryz.func119 (by kernel_rfl) rfl
theorem cb120 : Callable Tryz.prog 120 := callable_of Tryz.func120 (by kernel_rfl) rfl
theorem cb121 : Callable Tryz.prog 121 := callable_of Tryz.func121 (by kernel_rfl) rfl
theorem cb122 : Callable Tryz.prog 122 := callable_of Tryz.func122 (by kernel_rfl) rfl
theorem cb123 : Callable Tryz.prog 123 := callable_of Tryz.func123 (by kernel_rfl) rfl
theorem cb124 : Callable Tryz.prog 124 := callable_of Tryz.func124 (by kernel_rfl) rfl
theorem cb125 : Callable Tryz.prog 125 := callable_of Tryz.func125 (by kernel_rfl) rfl
attribute [push_cast] stepO_if needB repsL splice Cont.piece mpBnd_nil mpBnd_cons mpRen_nil mpRen_cons intsOf eqB mkmS lookS updS lookI putI lookV lookR rawM_nil lookX_nil zeroSc bsA bsN partsN List.flatten_cons List.flatten_nil baseN appN rawL rawOks capsS mkfS bview bput litS bytS strS mkS zerosN rngS nxtS mmS cmpI elemK cont8_map cont32_map cont64_map take_f8 drop_f8 take_f32 drop_f32 take_f64 drop_f64 getD_app getD_f8 forall_f8 take_app drop_app List.forall_mem_append buildS setPart zeroAt zerosOf zeroCont argFr allNe ndup symC_seq symC_region symC_block symC_loop symC_draw symC_cond symC_skip symC_exit symC_ret then_normal then_exit then_ret inB_normal inB_ret inB_exit symR_cons symR_nil symM_cons symM_nil symP_nil symP_rd symP_wr symP_fk symP_f3 stepP takes isRead isCall dOk yieldS op1 S.put Fr.put Fr.ev Fr.get ev1 ev2 ev3 S.bnd Sv.bnd Sc.bnd At.bnd Res.bnd Cont.bnd nil1 val1 ret1 neg1 boxS binS binN binI bin8 bin32 bin64 shS ban unS nilEq eqS litO cvtS cvtN pickS loadS storeS idxS indexS sliceS bnds fieldS fieldAddrS extrS nilS ifcS lenS bsS parts contOf cont8 cont32 cont64 contI callS appS appS.zero1 appS.zeroN baseS srcS joinC clen setGone flat aggr isOwn isOne At.scalar scalar At.one Value.oneCell' Sc.cont Cont.cut Cont.part Cont.app Cont.len Cont.plain Cont.get Cont.set Cont.over Cont.whole toU8_n8 toU32_n32 toU64_n64 inU8_n8 inU32_n32 inU64_n64 toU8_lit toU32_lit toU64_lit inU8_lit inU32_lit inU64_lit loopK_exit loopK_ret Le leFr leHp Sv.ren Sc.ren At.ren Res.ren Cont.ren rn Fin resS outS evs ownT ownT2 inI64 maxLen Int.toNat_natCast Int.toNat_zero Nat.zero_add Nat.add_zero Nat.mul_one List.length_cons List.length_nil List.length_append List.length_map List.length_set List.length_replicate List.cons_append List.nil_append List.append_nil List.map_append List.getElem?_cons_zero List.getElem?_cons_succ List.getElem?_nil List.set_cons_zero List.set_cons_succ List.getD_cons_zero List.getD_cons_succ List.take_succ_cons List.take_zero List.drop_zero List.drop_succ_cons List.map_cons List.map_nil List.forall_mem_cons List.not_mem_nil List.reverse_cons List.toList_toArray Option.isSome_some Option.isNone_some Option.isNone_none false_implies implies_true true_implies forall_const true_and and_true and_self not_false_eq_true not_true_eq_false ne_eq or_false false_or or_true true_or or_self Nat.lt_irrefl Nat.le_refl Bool.false_eq_true Bool.true_eq_false Bool.not_true Bool.not_false Bool.or_true Bool.or_false Bool.and_true Bool.and_false Bool.true_and Bool.false_and decide_true decide_false eq_self gt_iff_lt ge_iff_le if_true if_false Option.some.injEq Prod.mk.injEq Sv.x.injEq Sc.a.injEq At.v.injEq At.o.injEq At.p.injEq Res.blk.injEq Res.own.injEq Value.int.injEq Value.bool.injEq Cont.u8.injEq Cont.u32.injEq Cont.u64.injEq Cont.c.injEq Cont.i64.injEq List.cons.injEq symK_cons symK_nil wantS stepRd maskR_cons maskR_nil List.set_nil
attribute [push_cast] Tryz.underlying2 sz2 bz2 zok2 zv2 Tryz.underlying3 sz3 bz3 zok3 zv3 Tryz.underlying4 sz4 bz4 zok4 zv4 Tryz.underlying5 sz5 bz5 zok5 zv5 Tryz.underlying9 sz9 bz9 zok9 zv9 Tryz.underlying12 sz12 bz12 zok12 zv12 Tryz.underlying13 sz13 bz13 fo13_0 fo13_1 zok13 zv13 Tryz.underlying15 sz15 bz15 zok15 zv15 Tryz.underlying16 sz16 bz16 zok16 zv16 Tryz.underlying17 sz17 bz17 zok17 zv17 Tryz.underlying20 sz20 bz20 zok20 zv20 Tryz.underlying21 sz21 bz21 zok21 zv21 Tryz.underlying22 sz22 bz22 zok22 zv22 Tryz.underlying23 sz23 bz23 zok23 zv23 Tryz.underlying24 sz24 bz24 aeq24 zok24 zv24 Tryz.underlying26 sz26 bz26 zok26 zv26 Tryz.underlying27 sz27 bz27 zok27 zv27 Tryz.underlying28 sz28 bz28 aeq28 zok28 zv28 Tryz.underlying29 sz29 bz29 zok29 zv29 Tryz.underlying30 sz30 bz30 fo30_0 fo30_1 fo30_2 fo30_3 zok30 zv30 Tryz.underlying31 sz31 bz31 fo31_0 fo31_1 fo31_2 fo31_3 zok31 zv31 Tryz.underlying33 sz33 bz33 fo33_0 fo33_1 zok33 zv33 Tryz.underlying34 sz34 bz34 fo34_0 fo34_1 zok34 zv34 seq34 Tryz.underlying35 sz35 bz35 zok35 zv35 Tryz.underlying36 sz36 bz36 zok36 zv36 Tryz.underlying39 sz39 bz39 zok39 zv39 Tryz.underlying40 sz40 bz40 fo40_0 fo40_1 zok40 zv40 Tryz.underlying41 sz41 bz41 fo41_0 fo41_1 zok41 zv41 seq41 Tryz.underlying42 sz42 bz42 zok42 zv42 Tryz.underlying48 sz48 bz48 zok48 zv48 Tryz.underlying49 sz49 bz49 zok49 zv49 Tryz.underlying50 sz50 bz50 aeq50 zok50 zv50 Tryz.underlying52 sz52 bz52 zok52 zv52 Tryz.underlying53 sz53 bz53 zok53 zv53 Tryz.underlying54 sz54 bz54 fo54_0 fo54_1 fo54_2 fo54_3 zok54 zv54 Tryz.underlying55 sz55 bz55 fo55_0 fo55_1 fo55_2 fo55_3 zok55 zv55 Tryz.underlying57 sz57 bz57 zok57 zv57 Tryz.underlying58 sz58 bz58 zok58 zv58 Tryz.underlying59 sz59 bz59 fo59_0 fo59_1 fo59_2 fo59_3 zok59 zv59 Tryz.underlying60 sz60 bz60 fo60_0 fo60_1 fo60_2 fo60_3 zok60 zv60 Tryz.underlying61 sz61 bz61 zok61 zv61 Tryz.underlying64 sz64 bz64 zok64 zv64 Tryz.underlying65 sz65 bz65 zok65 zv65 Tryz.underlying75 sz75 bz75 zok75 zv75 Tryz.underlying84 sz84 bz84 fo84_0 fo84_1 zok84 zv84 Tryz.underlying85 sz85 bz85 fo85_0 fo85_1 zok85 zv85 Tryz.underlying88 sz88 bz88 fo88_0 fo88_1 zok88 zv88 Tryz.underlying89 sz89 bz89 fo89_0 fo89_1 zok89 zv89 seq89 Tryz.underlying90 sz90 bz90 zok90 zv90 Tryz.underlying99 sz99 bz99 zok99 zv99 Tryz.underlying100 sz100 bz100 zok100 zv100 Tryz.underlying113 sz113 bz113 fo113_0 fo113_1 zok113 zv113 seq113 Tryz.underlying114 sz114 bz114 zok114 zv114 Tryz.underlying142 sz142 bz142 aeq142 zok142 zv142 Tryz.underlying144 sz144 bz144 zok144 zv144 Tryz.underlying148 sz148 bz148 zok148 zv148 Tryz.underlying155 sz155 bz155 fo155_0 zok155 zv155 Tryz.underlying156 sz156 bz156 zok156 zv156 Tryz.underlying160 sz160 bz160 zok160 zv160 Tryz.underlying163 sz163 bz163 zok163 zv163 Tryz.underlying165 sz165 bz165 zok165 zv165 Tryz.underlying166 sz166 bz166 zok166 zv166 Tryz.underlying169 sz169 bz169 aeq169 zok169 zv169 Tryz.underlying172 sz172 bz172 zok172 zv172 Tryz.underlying182 sz182 bz182 aeq182 zok182 zv182 Tryz.underlying186 sz186 bz186 aeq186 zok186 zv186 Tryz.underlying189 sz189 bz189 zok189 zv189 Tryz.underlying193 sz193 bz193 zok193 zv193 Tryz.underlying197 sz197 bz197 aeq197 zok197 zv197 Tryz.underlying198 sz198 bz198 aeq198 zok198 zv198 Tryz.underlying200 sz200 bz200 zok200 zv200 Tryz.underlying203 sz203 bz203 aeq203 zok203 zv203 Tryz.underlying209 sz209 bz209 aeq209 zok209 zv209 Tryz.underlying222 sz222 bz222 zok222 zv222 Tryz.underlying231 sz231 bz231 zok231 zv231 Tryz.underlying233 sz233 bz233 zok233 zv233 Tryz.underlying240 sz240 bz240 zok240 zv240
attribute [push_cast] Tryz.results3 Tryz.results4 Tryz.results5 Tryz.results6 Tryz.results7 Tryz.results8 Tryz.results9 Tryz.results10 Tryz.results11 Tryz.results12 Tryz.results13 Tryz.results14 Tryz.results15 Tryz.results16 Tryz.results17 Tryz.results18 Tryz.results19 Tryz.results20 Tryz.results21 Tryz.results22 Tryz.results23 Tryz.results24 Tryz.results25 Tryz.results26 Tryz.results27 Tryz.results28 Tryz.results29 Tryz.results30 Tryz.results31 Tryz.results32 Tryz.results33 Tryz.results34 Tryz.results35 Tryz.results36 Tryz.results37 Tryz.results38 Tryz.results39 Tryz.results41 Tryz.results42 Tryz.results43 Tryz.results44 Tryz.results45 Tryz.results46 Tryz.results47 Tryz.results48 Tryz.results50 Tryz.results51 Tryz.results52 Tryz.results53 Tryz.results54 Tryz.results55 Tryz.results56 Tryz.results57 Tryz.results58 Tryz.results59 Tryz.results60 Tryz.results61 Tryz.results62 Tryz.results63 Tryz.results64 Tryz.results65 Tryz.results66 Tryz.results71 Tryz.results73 Tryz.results74 Tryz.results75 Tryz.results76 Tryz.results78 Tryz.results79 Tryz.results80 Tryz.results81 Tryz.results82 Tryz.results83 Tryz.results88 Tryz.results89 Tryz.results90 Tryz.results91 Tryz.results92 Tryz.results93 Tryz.results94 Tryz.results95 Tryz.results96 Tryz.results97 Tryz.results98 Tryz.results99 Tryz.results100 Tryz.results105 Tryz.results106 Tryz.results107 Tryz.results108 Tryz.results110 Tryz.results111 Tryz.results115 Tryz.results116 Tryz.results117 Tryz.results118 Tryz.results119 Tryz.results120 Tryz.results121 Tryz.results122 Tryz.results123 Tryz.results124 Tryz.results125
end Go.Proofs.YteiifdpikcnbgaaGreatDoor
