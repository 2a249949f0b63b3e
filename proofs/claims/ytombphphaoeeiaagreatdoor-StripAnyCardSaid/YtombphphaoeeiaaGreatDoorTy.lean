import Derived.Test.YtombphphaoeeiaaGreatDoorEn3
import Derived.Test.YtombphphaoeeiaaGreatDoorProg
/- Facts on the types of the program, for the engine. Made by program. -/
namespace Go.Proofs.YtombphphaoeeiaaGreatDoor
open Go.RowKit
set_option linter.unusedSimpArgs false
theorem sz2 : sz Tryz.prog 2 = 1 := by kernel_rfl
theorem bz2 : bz Tryz.prog 2 = 8 := by kernel_rfl
theorem zok2 : ZOk Tryz.prog 2 (.c [.v (.int .i64 0)]) = True := eq_true ⟨.int .i64 0, by kernel_rfl, fun _ => by first | rfl | simp [Value.cells, Cont.vals, arr8, arr32, arr64]⟩
theorem zv2 : ZVal Tryz.prog 2 (.a (.v (.int .i64 0))) = True := eq_true ⟨.int .i64 0, by kernel_rfl, fun _ => by first | rfl | simp [Sc.val, At.val, arr8, arr32, arr64]⟩
theorem sz3 : sz Tryz.prog 3 = 1 := by kernel_rfl
theorem bz3 : bz Tryz.prog 3 = 8 := by kernel_rfl
theorem zok3 : ZOk Tryz.prog 3 (.c [.v (.int .i64 0)]) = True := eq_true ⟨.int .i64 0, by kernel_rfl, fun _ => by first | rfl | simp [Value.cells, Cont.vals, arr8, arr32, arr64]⟩
theorem zv3 : ZVal Tryz.prog 3 (.a (.v (.int .i64 0))) = True := eq_true ⟨.int .i64 0, by kernel_rfl, fun _ => by first | rfl | simp [Sc.val, At.val, arr8, arr32, arr64]⟩
theorem sz4 : sz Tryz.prog 4 = 1 := by kernel_rfl
theorem bz4 : bz Tryz.prog 4 = 1 := by kernel_rfl
theorem zok4 : ZOk Tryz.prog 4 (.c [.v (.bool false)]) = True := eq_true ⟨.bool false, by kernel_rfl, fun _ => by first | rfl | simp [Value.cells, Cont.vals, arr8, arr32, arr64]⟩
theorem zv4 : ZVal Tryz.prog 4 (.a (.v (.bool false))) = True := eq_true ⟨.bool false, by kernel_rfl, fun _ => by first | rfl | simp [Sc.val, At.val, arr8, arr32, arr64]⟩
theorem sz5 : sz Tryz.prog 5 = 1 := by kernel_rfl
theorem bz5 : bz Tryz.prog 5 = 1 := by kernel_rfl
theorem zok5 : ZOk Tryz.prog 5 (.c [.v (.int .u8 0)]) = True := eq_true ⟨.int .u8 0, by kernel_rfl, fun _ => by first | rfl | simp [Value.cells, Cont.vals, arr8, arr32, arr64]⟩
theorem zv5 : ZVal Tryz.prog 5 (.a (.v (.int .u8 0))) = True := eq_true ⟨.int .u8 0, by kernel_rfl, fun _ => by first | rfl | simp [Sc.val, At.val, arr8, arr32, arr64]⟩
theorem sz9 : sz Tryz.prog 9 = 1 := by kernel_rfl
theorem bz9 : bz Tryz.prog 9 = 16 := by kernel_rfl
theorem zok9 : ZOk Tryz.prog 9 (.c [.v (.string .empty)]) = True := eq_true ⟨.string .empty, by kernel_rfl, fun _ => by first | rfl | simp [Value.cells, Cont.vals, arr8, arr32, arr64]⟩
theorem zv9 : ZVal Tryz.prog 9 (.a (.v (.string .empty))) = True := eq_true ⟨.string .empty, by kernel_rfl, fun _ => by first | rfl | simp [Sc.val, At.val, arr8, arr32, arr64]⟩
theorem sz12 : sz Tryz.prog 12 = 1 := by kernel_rfl
theorem bz12 : bz Tryz.prog 12 = 8 := by kernel_rfl
theorem zok12 : ZOk Tryz.prog 12 (.c [.v (.int .u64 0)]) = True := eq_true ⟨.int .u64 0, by kernel_rfl, fun _ => by first | rfl | simp [Value.cells, Cont.vals, arr8, arr32, arr64]⟩
theorem zv12 : ZVal Tryz.prog 12 (.a (.v (.int .u64 0))) = True := eq_true ⟨.int .u64 0, by kernel_rfl, fun _ => by first | rfl | simp [Sc.val, At.val, arr8, arr32, arr64]⟩
theorem sz13 : sz Tryz.prog 13 = 2 := by kernel_rfl
theorem bz13 : bz Tryz.prog 13 = 24 := by kernel_rfl
theorem fo13_0 : fieldOff Tryz.prog 13 0 = some (0, 9) := by kernel_rfl
theorem fo13_1 : fieldOff Tryz.prog 13 1 = some (1, 12) := by kernel_rfl
theorem zok13 : ZOk Tryz.prog 13 (.c [.v (.string .empty), .v (.int .u64 0)]) = True := eq_true ⟨.agg #[.string .empty, .int .u64 0], by kernel_rfl, fun _ => by first | rfl | simp [Value.cells, Cont.vals, arr8, arr32, arr64]⟩
theorem zv13 : ZVal Tryz.prog 13 (.g [.v (.string .empty), .v (.int .u64 0)]) = True := eq_true ⟨.agg #[.string .empty, .int .u64 0], by kernel_rfl, fun _ => by first | rfl | simp [Sc.val, At.val, arr8, arr32, arr64]⟩
theorem sz15 : sz Tryz.prog 15 = 1 := by kernel_rfl
theorem bz15 : bz Tryz.prog 15 = 8 := by kernel_rfl
theorem zok15 : ZOk Tryz.prog 15 (.c [.v (.pointer none)]) = True := eq_true ⟨.pointer none, by kernel_rfl, fun _ => by first | rfl | simp [Value.cells, Cont.vals, arr8, arr32, arr64]⟩
theorem zv15 : ZVal Tryz.prog 15 (.a (.v (.pointer none))) = True := eq_true ⟨.pointer none, by kernel_rfl, fun _ => by first | rfl | simp [Sc.val, At.val, arr8, arr32, arr64]⟩
theorem sz16 : sz Tryz.prog 16 = 1 := by kernel_rfl
theorem bz16 : bz Tryz.prog 16 = 8 := by kernel_rfl
theorem zok16 : ZOk Tryz.prog 16 (.c [.v (.pointer none)]) = True := eq_true ⟨.pointer none, by kernel_rfl, fun _ => by first | rfl | simp [Value.cells, Cont.vals, arr8, arr32, arr64]⟩
theorem zv16 : ZVal Tryz.prog 16 (.a (.v (.pointer none))) = True := eq_true ⟨.pointer none, by kernel_rfl, fun _ => by first | rfl | simp [Sc.val, At.val, arr8, arr32, arr64]⟩
theorem sz17 : sz Tryz.prog 17 = 1 := by kernel_rfl
theorem bz17 : bz Tryz.prog 17 = 8 := by kernel_rfl
theorem zok17 : ZOk Tryz.prog 17 (.c [.v (.pointer none)]) = True := eq_true ⟨.pointer none, by kernel_rfl, fun _ => by first | rfl | simp [Value.cells, Cont.vals, arr8, arr32, arr64]⟩
theorem zv17 : ZVal Tryz.prog 17 (.a (.v (.pointer none))) = True := eq_true ⟨.pointer none, by kernel_rfl, fun _ => by first | rfl | simp [Sc.val, At.val, arr8, arr32, arr64]⟩
theorem sz20 : sz Tryz.prog 20 = 1 := by kernel_rfl
theorem bz20 : bz Tryz.prog 20 = 16 := by kernel_rfl
theorem zok20 : ZOk Tryz.prog 20 (.c [.v .nilIface]) = True := eq_true ⟨.nilIface, by kernel_rfl, fun _ => by first | rfl | simp [Value.cells, Cont.vals, arr8, arr32, arr64]⟩
theorem zv20 : ZVal Tryz.prog 20 (.a (.v (.nilIface))) = True := eq_true ⟨.nilIface, by kernel_rfl, fun _ => by first | rfl | simp [Sc.val, At.val, arr8, arr32, arr64]⟩
theorem sz21 : sz Tryz.prog 21 = 1 := by kernel_rfl
theorem bz21 : bz Tryz.prog 21 = 4 := by kernel_rfl
theorem zok21 : ZOk Tryz.prog 21 (.c [.v (.int .i32 0)]) = True := eq_true ⟨.int .i32 0, by kernel_rfl, fun _ => by first | rfl | simp [Value.cells, Cont.vals, arr8, arr32, arr64]⟩
theorem zv21 : ZVal Tryz.prog 21 (.a (.v (.int .i32 0))) = True := eq_true ⟨.int .i32 0, by kernel_rfl, fun _ => by first | rfl | simp [Sc.val, At.val, arr8, arr32, arr64]⟩
theorem sz22 : sz Tryz.prog 22 = 1 := by kernel_rfl
theorem bz22 : bz Tryz.prog 22 = 24 := by kernel_rfl
theorem zok22 : ZOk Tryz.prog 22 (.c [.v (.slice none 0 0)]) = True := eq_true ⟨.slice none 0 0, by kernel_rfl, fun _ => by first | rfl | simp [Value.cells, Cont.vals, arr8, arr32, arr64]⟩
theorem zv22 : ZVal Tryz.prog 22 (.a (.v (.slice none 0 0))) = True := eq_true ⟨.slice none 0 0, by kernel_rfl, fun _ => by first | rfl | simp [Sc.val, At.val, arr8, arr32, arr64]⟩
theorem sz23 : sz Tryz.prog 23 = 1 := by kernel_rfl
theorem bz23 : bz Tryz.prog 23 = 4 := by kernel_rfl
theorem zok23 : ZOk Tryz.prog 23 (.c [.v (.int .u32 0)]) = True := eq_true ⟨.int .u32 0, by kernel_rfl, fun _ => by first | rfl | simp [Value.cells, Cont.vals, arr8, arr32, arr64]⟩
theorem zv23 : ZVal Tryz.prog 23 (.a (.v (.int .u32 0))) = True := eq_true ⟨.int .u32 0, by kernel_rfl, fun _ => by first | rfl | simp [Sc.val, At.val, arr8, arr32, arr64]⟩
theorem sz24 : sz Tryz.prog 24 = 2 := by kernel_rfl
theorem bz24 : bz Tryz.prog 24 = 8 := by kernel_rfl
theorem aeq24 : arrEq Tryz.prog 24 2 .u32 = True := eq_true ⟨23, Tryz.underlying24, Tryz.underlying23, by kernel_rfl, by kernel_rfl, by kernel_rfl⟩
theorem zok24 : ZOk Tryz.prog 24 (.u32 (List.replicate 2 0)) = True := eq_true ⟨.agg (arr32 (List.replicate 2 0)), by kernel_rfl, fun _ => by first | rfl | simp [Value.cells, Cont.vals, arr8, arr32, arr64]⟩
theorem zv24 : ZVal Tryz.prog 24 (.a32 (List.replicate 2 0)) = True := eq_true ⟨.agg (arr32 (List.replicate 2 0)), by kernel_rfl, fun _ => by first | rfl | simp [Sc.val, At.val, arr8, arr32, arr64]⟩
theorem sz27 : sz Tryz.prog 27 = 1 := by kernel_rfl
theorem bz27 : bz Tryz.prog 27 = 24 := by kernel_rfl
theorem zok27 : ZOk Tryz.prog 27 (.c [.v (.slice none 0 0)]) = True := eq_true ⟨.slice none 0 0, by kernel_rfl, fun _ => by first | rfl | simp [Value.cells, Cont.vals, arr8, arr32, arr64]⟩
theorem zv27 : ZVal Tryz.prog 27 (.a (.v (.slice none 0 0))) = True := eq_true ⟨.slice none 0 0, by kernel_rfl, fun _ => by first | rfl | simp [Sc.val, At.val, arr8, arr32, arr64]⟩
theorem sz28 : sz Tryz.prog 28 = 1 := by kernel_rfl
theorem bz28 : bz Tryz.prog 28 = 24 := by kernel_rfl
theorem zok28 : ZOk Tryz.prog 28 (.c [.v (.slice none 0 0)]) = True := eq_true ⟨.slice none 0 0, by kernel_rfl, fun _ => by first | rfl | simp [Value.cells, Cont.vals, arr8, arr32, arr64]⟩
theorem zv28 : ZVal Tryz.prog 28 (.a (.v (.slice none 0 0))) = True := eq_true ⟨.slice none 0 0, by kernel_rfl, fun _ => by first | rfl | simp [Sc.val, At.val, arr8, arr32, arr64]⟩
theorem sz29 : sz Tryz.prog 29 = 1 := by kernel_rfl
theorem bz29 : bz Tryz.prog 29 = 8 := by kernel_rfl
theorem zok29 : ZOk Tryz.prog 29 (.c [.v (.map none)]) = True := eq_true ⟨.map none, by kernel_rfl, fun _ => by first | rfl | simp [Value.cells, Cont.vals, arr8, arr32, arr64]⟩
theorem zv29 : ZVal Tryz.prog 29 (.a (.v (.map none))) = True := eq_true ⟨.map none, by kernel_rfl, fun _ => by first | rfl | simp [Sc.val, At.val, arr8, arr32, arr64]⟩
theorem sz30 : sz Tryz.prog 30 = 4 := by kernel_rfl
theorem bz30 : bz Tryz.prog 30 = 64 := by kernel_rfl
theorem fo30_0 : fieldOff Tryz.prog 30 0 = some (0, 27) := by kernel_rfl
theorem fo30_1 : fieldOff Tryz.prog 30 1 = some (1, 28) := by kernel_rfl
theorem fo30_2 : fieldOff Tryz.prog 30 2 = some (2, 3) := by kernel_rfl
theorem fo30_3 : fieldOff Tryz.prog 30 3 = some (3, 29) := by kernel_rfl
theorem zok30 : ZOk Tryz.prog 30 (.c [.v (.slice none 0 0), .v (.slice none 0 0), .v (.int .i64 0), .v (.map none)]) = True := eq_true ⟨.agg #[.slice none 0 0, .slice none 0 0, .int .i64 0, .map none], by kernel_rfl, fun _ => by first | rfl | simp [Value.cells, Cont.vals, arr8, arr32, arr64]⟩
theorem zv30 : ZVal Tryz.prog 30 (.g [.v (.slice none 0 0), .v (.slice none 0 0), .v (.int .i64 0), .v (.map none)]) = True := eq_true ⟨.agg #[.slice none 0 0, .slice none 0 0, .int .i64 0, .map none], by kernel_rfl, fun _ => by first | rfl | simp [Sc.val, At.val, arr8, arr32, arr64]⟩
theorem sz31 : sz Tryz.prog 31 = 4 := by kernel_rfl
theorem bz31 : bz Tryz.prog 31 = 64 := by kernel_rfl
theorem fo31_0 : fieldOff Tryz.prog 31 0 = some (0, 27) := by kernel_rfl
theorem fo31_1 : fieldOff Tryz.prog 31 1 = some (1, 28) := by kernel_rfl
theorem fo31_2 : fieldOff Tryz.prog 31 2 = some (2, 3) := by kernel_rfl
theorem fo31_3 : fieldOff Tryz.prog 31 3 = some (3, 29) := by kernel_rfl
theorem zok31 : ZOk Tryz.prog 31 (.c [.v (.slice none 0 0), .v (.slice none 0 0), .v (.int .i64 0), .v (.map none)]) = True := eq_true ⟨.agg #[.slice none 0 0, .slice none 0 0, .int .i64 0, .map none], by kernel_rfl, fun _ => by first | rfl | simp [Value.cells, Cont.vals, arr8, arr32, arr64]⟩
theorem zv31 : ZVal Tryz.prog 31 (.g [.v (.slice none 0 0), .v (.slice none 0 0), .v (.int .i64 0), .v (.map none)]) = True := eq_true ⟨.agg #[.slice none 0 0, .slice none 0 0, .int .i64 0, .map none], by kernel_rfl, fun _ => by first | rfl | simp [Sc.val, At.val, arr8, arr32, arr64]⟩
theorem sz33 : sz Tryz.prog 33 = 1 := by kernel_rfl
theorem bz33 : bz Tryz.prog 33 = 24 := by kernel_rfl
theorem zok33 : ZOk Tryz.prog 33 (.c [.v (.slice none 0 0)]) = True := eq_true ⟨.slice none 0 0, by kernel_rfl, fun _ => by first | rfl | simp [Value.cells, Cont.vals, arr8, arr32, arr64]⟩
theorem zv33 : ZVal Tryz.prog 33 (.a (.v (.slice none 0 0))) = True := eq_true ⟨.slice none 0 0, by kernel_rfl, fun _ => by first | rfl | simp [Sc.val, At.val, arr8, arr32, arr64]⟩
theorem sz34 : sz Tryz.prog 34 = 1 := by kernel_rfl
theorem bz34 : bz Tryz.prog 34 = 24 := by kernel_rfl
theorem zok34 : ZOk Tryz.prog 34 (.c [.v (.slice none 0 0)]) = True := eq_true ⟨.slice none 0 0, by kernel_rfl, fun _ => by first | rfl | simp [Value.cells, Cont.vals, arr8, arr32, arr64]⟩
theorem zv34 : ZVal Tryz.prog 34 (.a (.v (.slice none 0 0))) = True := eq_true ⟨.slice none 0 0, by kernel_rfl, fun _ => by first | rfl | simp [Sc.val, At.val, arr8, arr32, arr64]⟩
theorem sz35 : sz Tryz.prog 35 = 4 := by kernel_rfl
theorem bz35 : bz Tryz.prog 35 = 80 := by kernel_rfl
theorem fo35_0 : fieldOff Tryz.prog 35 0 = some (0, 33) := by kernel_rfl
theorem fo35_1 : fieldOff Tryz.prog 35 1 = some (1, 28) := by kernel_rfl
theorem fo35_2 : fieldOff Tryz.prog 35 2 = some (2, 3) := by kernel_rfl
theorem fo35_3 : fieldOff Tryz.prog 35 3 = some (3, 34) := by kernel_rfl
theorem zok35 : ZOk Tryz.prog 35 (.c [.v (.slice none 0 0), .v (.slice none 0 0), .v (.int .i64 0), .v (.slice none 0 0)]) = True := eq_true ⟨.agg #[.slice none 0 0, .slice none 0 0, .int .i64 0, .slice none 0 0], by kernel_rfl, fun _ => by first | rfl | simp [Value.cells, Cont.vals, arr8, arr32, arr64]⟩
theorem zv35 : ZVal Tryz.prog 35 (.g [.v (.slice none 0 0), .v (.slice none 0 0), .v (.int .i64 0), .v (.slice none 0 0)]) = True := eq_true ⟨.agg #[.slice none 0 0, .slice none 0 0, .int .i64 0, .slice none 0 0], by kernel_rfl, fun _ => by first | rfl | simp [Sc.val, At.val, arr8, arr32, arr64]⟩
theorem sz36 : sz Tryz.prog 36 = 4 := by kernel_rfl
theorem bz36 : bz Tryz.prog 36 = 80 := by kernel_rfl
theorem fo36_0 : fieldOff Tryz.prog 36 0 = some (0, 33) := by kernel_rfl
theorem fo36_1 : fieldOff Tryz.prog 36 1 = some (1, 28) := by kernel_rfl
theorem fo36_2 : fieldOff Tryz.prog 36 2 = some (2, 3) := by kernel_rfl
theorem fo36_3 : fieldOff Tryz.prog 36 3 = some (3, 34) := by kernel_rfl
theorem zok36 : ZOk Tryz.prog 36 (.c [.v (.slice none 0 0), .v (.slice none 0 0), .v (.int .i64 0), .v (.slice none 0 0)]) = True := eq_true ⟨.agg #[.slice none 0 0, .slice none 0 0, .int .i64 0, .slice none 0 0], by kernel_rfl, fun _ => by first | rfl | simp [Value.cells, Cont.vals, arr8, arr32, arr64]⟩
theorem zv36 : ZVal Tryz.prog 36 (.g [.v (.slice none 0 0), .v (.slice none 0 0), .v (.int .i64 0), .v (.slice none 0 0)]) = True := eq_true ⟨.agg #[.slice none 0 0, .slice none 0 0, .int .i64 0, .slice none 0 0], by kernel_rfl, fun _ => by first | rfl | simp [Sc.val, At.val, arr8, arr32, arr64]⟩
theorem sz37 : sz Tryz.prog 37 = 1 := by kernel_rfl
theorem bz37 : bz Tryz.prog 37 = 24 := by kernel_rfl
theorem zok37 : ZOk Tryz.prog 37 (.c [.v (.slice none 0 0)]) = True := eq_true ⟨.slice none 0 0, by kernel_rfl, fun _ => by first | rfl | simp [Value.cells, Cont.vals, arr8, arr32, arr64]⟩
theorem zv37 : ZVal Tryz.prog 37 (.a (.v (.slice none 0 0))) = True := eq_true ⟨.slice none 0 0, by kernel_rfl, fun _ => by first | rfl | simp [Sc.val, At.val, arr8, arr32, arr64]⟩
theorem sz38 : sz Tryz.prog 38 = 1 := by kernel_rfl
theorem bz38 : bz Tryz.prog 38 = 16 := by kernel_rfl
theorem zok38 : ZOk Tryz.prog 38 (.c [.v .nilIface]) = True := eq_true ⟨.nilIface, by kernel_rfl, fun _ => by first | rfl | simp [Value.cells, Cont.vals, arr8, arr32, arr64]⟩
theorem zv38 : ZVal Tryz.prog 38 (.a (.v (.nilIface))) = True := eq_true ⟨.nilIface, by kernel_rfl, fun _ => by first | rfl | simp [Sc.val, At.val, arr8, arr32, arr64]⟩
theorem sz39 : sz Tryz.prog 39 = 1 := by kernel_rfl
theorem bz39 : bz Tryz.prog 39 = 16 := by kernel_rfl
theorem zok39 : ZOk Tryz.prog 39 (.c [.v .nilIface]) = True := eq_true ⟨.nilIface, by kernel_rfl, fun _ => by first | rfl | simp [Value.cells, Cont.vals, arr8, arr32, arr64]⟩
theorem zv39 : ZVal Tryz.prog 39 (.a (.v (.nilIface))) = True := eq_true ⟨.nilIface, by kernel_rfl, fun _ => by first | rfl | simp [Sc.val, At.val, arr8, arr32, arr64]⟩
theorem sz42 : sz Tryz.prog 42 = 1 := by kernel_rfl
theorem bz42 : bz Tryz.prog 42 = 24 := by kernel_rfl
theorem zok42 : ZOk Tryz.prog 42 (.c [.v (.slice none 0 0)]) = True := eq_true ⟨.slice none 0 0, by kernel_rfl, fun _ => by first | rfl | simp [Value.cells, Cont.vals, arr8, arr32, arr64]⟩
theorem zv42 : ZVal Tryz.prog 42 (.a (.v (.slice none 0 0))) = True := eq_true ⟨.slice none 0 0, by kernel_rfl, fun _ => by first | rfl | simp [Sc.val, At.val, arr8, arr32, arr64]⟩
theorem sz43 : sz Tryz.prog 43 = 1 := by kernel_rfl
theorem bz43 : bz Tryz.prog 43 = 8 := by kernel_rfl
theorem zok43 : ZOk Tryz.prog 43 (.c [.v (.map none)]) = True := eq_true ⟨.map none, by kernel_rfl, fun _ => by first | rfl | simp [Value.cells, Cont.vals, arr8, arr32, arr64]⟩
theorem zv43 : ZVal Tryz.prog 43 (.a (.v (.map none))) = True := eq_true ⟨.map none, by kernel_rfl, fun _ => by first | rfl | simp [Sc.val, At.val, arr8, arr32, arr64]⟩
theorem sz48 : sz Tryz.prog 48 = 1 := by kernel_rfl
theorem bz48 : bz Tryz.prog 48 = 24 := by kernel_rfl
theorem zok48 : ZOk Tryz.prog 48 (.c [.v (.slice none 0 0)]) = True := eq_true ⟨.slice none 0 0, by kernel_rfl, fun _ => by first | rfl | simp [Value.cells, Cont.vals, arr8, arr32, arr64]⟩
theorem zv48 : ZVal Tryz.prog 48 (.a (.v (.slice none 0 0))) = True := eq_true ⟨.slice none 0 0, by kernel_rfl, fun _ => by first | rfl | simp [Sc.val, At.val, arr8, arr32, arr64]⟩
theorem sz49 : sz Tryz.prog 49 = 2 := by kernel_rfl
theorem bz49 : bz Tryz.prog 49 = 32 := by kernel_rfl
theorem fo49_0 : fieldOff Tryz.prog 49 0 = some (0, 3) := by kernel_rfl
theorem fo49_1 : fieldOff Tryz.prog 49 1 = some (1, 48) := by kernel_rfl
theorem zok49 : ZOk Tryz.prog 49 (.c [.v (.int .i64 0), .v (.slice none 0 0)]) = True := eq_true ⟨.agg #[.int .i64 0, .slice none 0 0], by kernel_rfl, fun _ => by first | rfl | simp [Value.cells, Cont.vals, arr8, arr32, arr64]⟩
theorem zv49 : ZVal Tryz.prog 49 (.g [.v (.int .i64 0), .v (.slice none 0 0)]) = True := eq_true ⟨.agg #[.int .i64 0, .slice none 0 0], by kernel_rfl, fun _ => by first | rfl | simp [Sc.val, At.val, arr8, arr32, arr64]⟩
theorem sz50 : sz Tryz.prog 50 = 2 := by kernel_rfl
theorem bz50 : bz Tryz.prog 50 = 32 := by kernel_rfl
theorem fo50_0 : fieldOff Tryz.prog 50 0 = some (0, 3) := by kernel_rfl
theorem fo50_1 : fieldOff Tryz.prog 50 1 = some (1, 48) := by kernel_rfl
theorem zok50 : ZOk Tryz.prog 50 (.c [.v (.int .i64 0), .v (.slice none 0 0)]) = True := eq_true ⟨.agg #[.int .i64 0, .slice none 0 0], by kernel_rfl, fun _ => by first | rfl | simp [Value.cells, Cont.vals, arr8, arr32, arr64]⟩
theorem zv50 : ZVal Tryz.prog 50 (.g [.v (.int .i64 0), .v (.slice none 0 0)]) = True := eq_true ⟨.agg #[.int .i64 0, .slice none 0 0], by kernel_rfl, fun _ => by first | rfl | simp [Sc.val, At.val, arr8, arr32, arr64]⟩
theorem sz51 : sz Tryz.prog 51 = 1 := by kernel_rfl
theorem bz51 : bz Tryz.prog 51 = 8 := by kernel_rfl
theorem zok51 : ZOk Tryz.prog 51 (.c [.v (.int .u64 0)]) = True := eq_true ⟨.int .u64 0, by kernel_rfl, fun _ => by first | rfl | simp [Value.cells, Cont.vals, arr8, arr32, arr64]⟩
theorem zv51 : ZVal Tryz.prog 51 (.a (.v (.int .u64 0))) = True := eq_true ⟨.int .u64 0, by kernel_rfl, fun _ => by first | rfl | simp [Sc.val, At.val, arr8, arr32, arr64]⟩
theorem sz53 : sz Tryz.prog 53 = 2 := by kernel_rfl
theorem bz53 : bz Tryz.prog 53 = 16 := by kernel_rfl
theorem fo53_0 : fieldOff Tryz.prog 53 0 = some (0, 3) := by kernel_rfl
theorem fo53_1 : fieldOff Tryz.prog 53 1 = some (1, 51) := by kernel_rfl
theorem zok53 : ZOk Tryz.prog 53 (.c [.v (.int .i64 0), .v (.int .u64 0)]) = True := eq_true ⟨.agg #[.int .i64 0, .int .u64 0], by kernel_rfl, fun _ => by first | rfl | simp [Value.cells, Cont.vals, arr8, arr32, arr64]⟩
theorem zv53 : ZVal Tryz.prog 53 (.g [.v (.int .i64 0), .v (.int .u64 0)]) = True := eq_true ⟨.agg #[.int .i64 0, .int .u64 0], by kernel_rfl, fun _ => by first | rfl | simp [Sc.val, At.val, arr8, arr32, arr64]⟩
theorem sz54 : sz Tryz.prog 54 = 2 := by kernel_rfl
theorem bz54 : bz Tryz.prog 54 = 16 := by kernel_rfl
theorem fo54_0 : fieldOff Tryz.prog 54 0 = some (0, 3) := by kernel_rfl
theorem fo54_1 : fieldOff Tryz.prog 54 1 = some (1, 51) := by kernel_rfl
theorem zok54 : ZOk Tryz.prog 54 (.c [.v (.int .i64 0), .v (.int .u64 0)]) = True := eq_true ⟨.agg #[.int .i64 0, .int .u64 0], by kernel_rfl, fun _ => by first | rfl | simp [Value.cells, Cont.vals, arr8, arr32, arr64]⟩
theorem zv54 : ZVal Tryz.prog 54 (.g [.v (.int .i64 0), .v (.int .u64 0)]) = True := eq_true ⟨.agg #[.int .i64 0, .int .u64 0], by kernel_rfl, fun _ => by first | rfl | simp [Sc.val, At.val, arr8, arr32, arr64]⟩
theorem seq54 : StEq Tryz.prog 54 [.i64, .u64] = True := eq_true ⟨by kernel_rfl, by kernel_rfl, by kernel_rfl, by kernel_rfl⟩
theorem sz57 : sz Tryz.prog 57 = 2 := by kernel_rfl
theorem bz57 : bz Tryz.prog 57 = 16 := by kernel_rfl
theorem fo57_0 : fieldOff Tryz.prog 57 0 = some (0, 3) := by kernel_rfl
theorem fo57_1 : fieldOff Tryz.prog 57 1 = some (1, 51) := by kernel_rfl
theorem zok57 : ZOk Tryz.prog 57 (.c [.v (.int .i64 0), .v (.int .u64 0)]) = True := eq_true ⟨.agg #[.int .i64 0, .int .u64 0], by kernel_rfl, fun _ => by first | rfl | simp [Value.cells, Cont.vals, arr8, arr32, arr64]⟩
theorem zv57 : ZVal Tryz.prog 57 (.g [.v (.int .i64 0), .v (.int .u64 0)]) = True := eq_true ⟨.agg #[.int .i64 0, .int .u64 0], by kernel_rfl, fun _ => by first | rfl | simp [Sc.val, At.val, arr8, arr32, arr64]⟩
theorem sz58 : sz Tryz.prog 58 = 2 := by kernel_rfl
theorem bz58 : bz Tryz.prog 58 = 16 := by kernel_rfl
theorem fo58_0 : fieldOff Tryz.prog 58 0 = some (0, 3) := by kernel_rfl
theorem fo58_1 : fieldOff Tryz.prog 58 1 = some (1, 51) := by kernel_rfl
theorem zok58 : ZOk Tryz.prog 58 (.c [.v (.int .i64 0), .v (.int .u64 0)]) = True := eq_true ⟨.agg #[.int .i64 0, .int .u64 0], by kernel_rfl, fun _ => by first | rfl | simp [Value.cells, Cont.vals, arr8, arr32, arr64]⟩
theorem zv58 : ZVal Tryz.prog 58 (.g [.v (.int .i64 0), .v (.int .u64 0)]) = True := eq_true ⟨.agg #[.int .i64 0, .int .u64 0], by kernel_rfl, fun _ => by first | rfl | simp [Sc.val, At.val, arr8, arr32, arr64]⟩
theorem seq58 : StEq Tryz.prog 58 [.i64, .u64] = True := eq_true ⟨by kernel_rfl, by kernel_rfl, by kernel_rfl, by kernel_rfl⟩
theorem sz59 : sz Tryz.prog 59 = 1 := by kernel_rfl
theorem bz59 : bz Tryz.prog 59 = 24 := by kernel_rfl
theorem zok59 : ZOk Tryz.prog 59 (.c [.v (.slice none 0 0)]) = True := eq_true ⟨.slice none 0 0, by kernel_rfl, fun _ => by first | rfl | simp [Value.cells, Cont.vals, arr8, arr32, arr64]⟩
theorem zv59 : ZVal Tryz.prog 59 (.a (.v (.slice none 0 0))) = True := eq_true ⟨.slice none 0 0, by kernel_rfl, fun _ => by first | rfl | simp [Sc.val, At.val, arr8, arr32, arr64]⟩
theorem sz63 : sz Tryz.prog 63 = 1 := by kernel_rfl
theorem bz63 : bz Tryz.prog 63 = 8 := by kernel_rfl
theorem zok63 : ZOk Tryz.prog 63 (.c [.v (.int .i64 0)]) = True := eq_true ⟨.int .i64 0, by kernel_rfl, fun _ => by first | rfl | simp [Value.cells, Cont.vals, arr8, arr32, arr64]⟩
theorem zv63 : ZVal Tryz.prog 63 (.a (.v (.int .i64 0))) = True := eq_true ⟨.int .i64 0, by kernel_rfl, fun _ => by first | rfl | simp [Sc.val, At.val, arr8, arr32, arr64]⟩
theorem sz68 : sz Tryz.prog 68 = 1 := by kernel_rfl
theorem bz68 : bz Tryz.prog 68 = 24 := by kernel_rfl
theorem zok68 : ZOk Tryz.prog 68 (.c [.v (.slice none 0 0)]) = True := eq_true ⟨.slice none 0 0, by kernel_rfl, fun _ => by first | rfl | simp [Value.cells, Cont.vals, arr8, arr32, arr64]⟩
theorem zv68 : ZVal Tryz.prog 68 (.a (.v (.slice none 0 0))) = True := eq_true ⟨.slice none 0 0, by kernel_rfl, fun _ => by first | rfl | simp [Sc.val, At.val, arr8, arr32, arr64]⟩
theorem sz70 : sz Tryz.prog 70 = 2 := by kernel_rfl
theorem bz70 : bz Tryz.prog 70 = 16 := by kernel_rfl
theorem fo70_0 : fieldOff Tryz.prog 70 0 = some (0, 51) := by kernel_rfl
theorem fo70_1 : fieldOff Tryz.prog 70 1 = some (1, 51) := by kernel_rfl
theorem zok70 : ZOk Tryz.prog 70 (.c [.v (.int .u64 0), .v (.int .u64 0)]) = True := eq_true ⟨.agg #[.int .u64 0, .int .u64 0], by kernel_rfl, fun _ => by first | rfl | simp [Value.cells, Cont.vals, arr8, arr32, arr64]⟩
theorem zv70 : ZVal Tryz.prog 70 (.g [.v (.int .u64 0), .v (.int .u64 0)]) = True := eq_true ⟨.agg #[.int .u64 0, .int .u64 0], by kernel_rfl, fun _ => by first | rfl | simp [Sc.val, At.val, arr8, arr32, arr64]⟩
theorem sz71 : sz Tryz.prog 71 = 2 := by kernel_rfl
theorem bz71 : bz Tryz.prog 71 = 16 := by kernel_rfl
theorem fo71_0 : fieldOff Tryz.prog 71 0 = some (0, 51) := by kernel_rfl
theorem fo71_1 : fieldOff Tryz.prog 71 1 = some (1, 51) := by kernel_rfl
theorem zok71 : ZOk Tryz.prog 71 (.c [.v (.int .u64 0), .v (.int .u64 0)]) = True := eq_true ⟨.agg #[.int .u64 0, .int .u64 0], by kernel_rfl, fun _ => by first | rfl | simp [Value.cells, Cont.vals, arr8, arr32, arr64]⟩
theorem zv71 : ZVal Tryz.prog 71 (.g [.v (.int .u64 0), .v (.int .u64 0)]) = True := eq_true ⟨.agg #[.int .u64 0, .int .u64 0], by kernel_rfl, fun _ => by first | rfl | simp [Sc.val, At.val, arr8, arr32, arr64]⟩
theorem seq71 : StEq Tryz.prog 71 [.u64, .u64] = True := eq_true ⟨by kernel_rfl, by kernel_rfl, by kernel_rfl, by kernel_rfl⟩
theorem sz79 : sz Tryz.prog 79 = 1 := by kernel_rfl
theorem bz79 : bz Tryz.prog 79 = 8 := by kernel_rfl
theorem zok79 : ZOk Tryz.prog 79 (.c [.v (.pointer none)]) = True := eq_true ⟨.pointer none, by kernel_rfl, fun _ => by first | rfl | simp [Value.cells, Cont.vals, arr8, arr32, arr64]⟩
theorem zv79 : ZVal Tryz.prog 79 (.a (.v (.pointer none))) = True := eq_true ⟨.pointer none, by kernel_rfl, fun _ => by first | rfl | simp [Sc.val, At.val, arr8, arr32, arr64]⟩
theorem sz80 : sz Tryz.prog 80 = 2 := by kernel_rfl
theorem bz80 : bz Tryz.prog 80 = 16 := by kernel_rfl
theorem fo80_0 : fieldOff Tryz.prog 80 0 = some (0, 3) := by kernel_rfl
theorem fo80_1 : fieldOff Tryz.prog 80 1 = some (1, 51) := by kernel_rfl
theorem zok80 : ZOk Tryz.prog 80 (.c [.v (.int .i64 0), .v (.int .u64 0)]) = True := eq_true ⟨.agg #[.int .i64 0, .int .u64 0], by kernel_rfl, fun _ => by first | rfl | simp [Value.cells, Cont.vals, arr8, arr32, arr64]⟩
theorem zv80 : ZVal Tryz.prog 80 (.g [.v (.int .i64 0), .v (.int .u64 0)]) = True := eq_true ⟨.agg #[.int .i64 0, .int .u64 0], by kernel_rfl, fun _ => by first | rfl | simp [Sc.val, At.val, arr8, arr32, arr64]⟩
theorem seq80 : StEq Tryz.prog 80 [.i64, .u64] = True := eq_true ⟨by kernel_rfl, by kernel_rfl, by kernel_rfl, by kernel_rfl⟩
theorem sz81 : sz Tryz.prog 81 = 1 := by kernel_rfl
theorem bz81 : bz Tryz.prog 81 = 8 := by kernel_rfl
theorem zok81 : ZOk Tryz.prog 81 (.c [.v (.map none)]) = True := eq_true ⟨.map none, by kernel_rfl, fun _ => by first | rfl | simp [Value.cells, Cont.vals, arr8, arr32, arr64]⟩
theorem zv81 : ZVal Tryz.prog 81 (.a (.v (.map none))) = True := eq_true ⟨.map none, by kernel_rfl, fun _ => by first | rfl | simp [Sc.val, At.val, arr8, arr32, arr64]⟩
theorem sz100 : sz Tryz.prog 100 = 1 := by kernel_rfl
theorem bz100 : bz Tryz.prog 100 = 8 := by kernel_rfl
theorem zok100 : ZOk Tryz.prog 100 (.c [.v (.int .u64 0)]) = True := eq_true ⟨.int .u64 0, by kernel_rfl, fun _ => by first | rfl | simp [Value.cells, Cont.vals, arr8, arr32, arr64]⟩
theorem zv100 : ZVal Tryz.prog 100 (.a (.v (.int .u64 0))) = True := eq_true ⟨.int .u64 0, by kernel_rfl, fun _ => by first | rfl | simp [Sc.val, At.val, arr8, arr32, arr64]⟩
theorem sz102 : sz Tryz.prog 102 = 32 := by kernel_rfl
theorem bz102 : bz Tryz.prog 102 = 32 := by kernel_rfl
theorem aeq102 : arrEq Tryz.prog 102 32 .u8 = True := eq_true ⟨5, Tryz.underlying102, Tryz.underlying5, by kernel_rfl, by kernel_rfl, by kernel_rfl⟩
theorem zok102 : ZOk Tryz.prog 102 (.u8 (List.replicate 32 0)) = True := eq_true ⟨.agg (arr8 (List.replicate 32 0)), by kernel_rfl, fun _ => by first | rfl | simp [Value.cells, Cont.vals, arr8, arr32, arr64]⟩
theorem zv102 : ZVal Tryz.prog 102 (.a8 (List.replicate 32 0)) = True := eq_true ⟨.agg (arr8 (List.replicate 32 0)), by kernel_rfl, fun _ => by first | rfl | simp [Sc.val, At.val, arr8, arr32, arr64]⟩
theorem sz130 : sz Tryz.prog 130 = 8 := by kernel_rfl
theorem bz130 : bz Tryz.prog 130 = 8 := by kernel_rfl
theorem aeq130 : arrEq Tryz.prog 130 8 .u8 = True := eq_true ⟨5, Tryz.underlying130, Tryz.underlying5, by kernel_rfl, by kernel_rfl, by kernel_rfl⟩
theorem zok130 : ZOk Tryz.prog 130 (.u8 (List.replicate 8 0)) = True := eq_true ⟨.agg (arr8 (List.replicate 8 0)), by kernel_rfl, fun _ => by first | rfl | simp [Value.cells, Cont.vals, arr8, arr32, arr64]⟩
theorem zv130 : ZVal Tryz.prog 130 (.a8 (List.replicate 8 0)) = True := eq_true ⟨.agg (arr8 (List.replicate 8 0)), by kernel_rfl, fun _ => by first | rfl | simp [Sc.val, At.val, arr8, arr32, arr64]⟩
theorem sz131 : sz Tryz.prog 131 = 1 := by kernel_rfl
theorem bz131 : bz Tryz.prog 131 = 24 := by kernel_rfl
theorem zok131 : ZOk Tryz.prog 131 (.c [.v (.slice none 0 0)]) = True := eq_true ⟨.slice none 0 0, by kernel_rfl, fun _ => by first | rfl | simp [Value.cells, Cont.vals, arr8, arr32, arr64]⟩
theorem zv131 : ZVal Tryz.prog 131 (.a (.v (.slice none 0 0))) = True := eq_true ⟨.slice none 0 0, by kernel_rfl, fun _ => by first | rfl | simp [Sc.val, At.val, arr8, arr32, arr64]⟩
theorem sz134 : sz Tryz.prog 134 = 1 := by kernel_rfl
theorem bz134 : bz Tryz.prog 134 = 8 := by kernel_rfl
theorem fo134_0 : fieldOff Tryz.prog 134 0 = some (0, 17) := by kernel_rfl
theorem zok134 : ZOk Tryz.prog 134 (.c [.v (.pointer none)]) = True := eq_true ⟨.agg #[.pointer none], by kernel_rfl, fun _ => by first | rfl | simp [Value.cells, Cont.vals, arr8, arr32, arr64]⟩
theorem zv134 : ZVal Tryz.prog 134 (.g [.v (.pointer none)]) = True := eq_true ⟨.agg #[.pointer none], by kernel_rfl, fun _ => by first | rfl | simp [Sc.val, At.val, arr8, arr32, arr64]⟩
theorem sz135 : sz Tryz.prog 135 = 1 := by kernel_rfl
theorem bz135 : bz Tryz.prog 135 = 8 := by kernel_rfl
theorem zok135 : ZOk Tryz.prog 135 (.c [.v (.pointer none)]) = True := eq_true ⟨.pointer none, by kernel_rfl, fun _ => by first | rfl | simp [Value.cells, Cont.vals, arr8, arr32, arr64]⟩
theorem zv135 : ZVal Tryz.prog 135 (.a (.v (.pointer none))) = True := eq_true ⟨.pointer none, by kernel_rfl, fun _ => by first | rfl | simp [Sc.val, At.val, arr8, arr32, arr64]⟩
theorem sz139 : sz Tryz.prog 139 = 1 := by kernel_rfl
theorem bz139 : bz Tryz.prog 139 = 16 := by kernel_rfl
theorem zok139 : ZOk Tryz.prog 139 (.c [.v .nilIface]) = True := eq_true ⟨.nilIface, by kernel_rfl, fun _ => by first | rfl | simp [Value.cells, Cont.vals, arr8, arr32, arr64]⟩
theorem zv139 : ZVal Tryz.prog 139 (.a (.v (.nilIface))) = True := eq_true ⟨.nilIface, by kernel_rfl, fun _ => by first | rfl | simp [Sc.val, At.val, arr8, arr32, arr64]⟩
theorem sz142 : sz Tryz.prog 142 = 1 := by kernel_rfl
theorem bz142 : bz Tryz.prog 142 = 16 := by kernel_rfl
theorem zok142 : ZOk Tryz.prog 142 (.c [.v .nilIface]) = True := eq_true ⟨.nilIface, by kernel_rfl, fun _ => by first | rfl | simp [Value.cells, Cont.vals, arr8, arr32, arr64]⟩
theorem zv142 : ZVal Tryz.prog 142 (.a (.v (.nilIface))) = True := eq_true ⟨.nilIface, by kernel_rfl, fun _ => by first | rfl | simp [Sc.val, At.val, arr8, arr32, arr64]⟩
theorem sz144 : sz Tryz.prog 144 = 1 := by kernel_rfl
theorem bz144 : bz Tryz.prog 144 = 16 := by kernel_rfl
theorem zok144 : ZOk Tryz.prog 144 (.c [.v .nilIface]) = True := eq_true ⟨.nilIface, by kernel_rfl, fun _ => by first | rfl | simp [Value.cells, Cont.vals, arr8, arr32, arr64]⟩
theorem zv144 : ZVal Tryz.prog 144 (.a (.v (.nilIface))) = True := eq_true ⟨.nilIface, by kernel_rfl, fun _ => by first | rfl | simp [Sc.val, At.val, arr8, arr32, arr64]⟩
theorem sz145 : sz Tryz.prog 145 = 1 := by kernel_rfl
theorem bz145 : bz Tryz.prog 145 = 24 := by kernel_rfl
theorem zok145 : ZOk Tryz.prog 145 (.c [.v (.slice none 0 0)]) = True := eq_true ⟨.slice none 0 0, by kernel_rfl, fun _ => by first | rfl | simp [Value.cells, Cont.vals, arr8, arr32, arr64]⟩
theorem zv145 : ZVal Tryz.prog 145 (.a (.v (.slice none 0 0))) = True := eq_true ⟨.slice none 0 0, by kernel_rfl, fun _ => by first | rfl | simp [Sc.val, At.val, arr8, arr32, arr64]⟩
theorem sz151 : sz Tryz.prog 151 = 1 := by kernel_rfl
theorem bz151 : bz Tryz.prog 151 = 8 := by kernel_rfl
theorem zok151 : ZOk Tryz.prog 151 (.c [.v (.map none)]) = True := eq_true ⟨.map none, by kernel_rfl, fun _ => by first | rfl | simp [Value.cells, Cont.vals, arr8, arr32, arr64]⟩
theorem zv151 : ZVal Tryz.prog 151 (.a (.v (.map none))) = True := eq_true ⟨.map none, by kernel_rfl, fun _ => by first | rfl | simp [Sc.val, At.val, arr8, arr32, arr64]⟩
theorem sz153 : sz Tryz.prog 153 = 64 := by kernel_rfl
theorem bz153 : bz Tryz.prog 153 = 64 := by kernel_rfl
theorem aeq153 : arrEq Tryz.prog 153 64 .u8 = True := eq_true ⟨5, Tryz.underlying153, Tryz.underlying5, by kernel_rfl, by kernel_rfl, by kernel_rfl⟩
theorem zok153 : ZOk Tryz.prog 153 (.u8 (List.replicate 64 0)) = True := eq_true ⟨.agg (arr8 (List.replicate 64 0)), by kernel_rfl, fun _ => by first | rfl | simp [Value.cells, Cont.vals, arr8, arr32, arr64]⟩
theorem zv153 : ZVal Tryz.prog 153 (.a8 (List.replicate 64 0)) = True := eq_true ⟨.agg (arr8 (List.replicate 64 0)), by kernel_rfl, fun _ => by first | rfl | simp [Sc.val, At.val, arr8, arr32, arr64]⟩
theorem sz157 : sz Tryz.prog 157 = 1 := by kernel_rfl
theorem bz157 : bz Tryz.prog 157 = 8 := by kernel_rfl
theorem zok157 : ZOk Tryz.prog 157 (.c [.v (.int .i64 0)]) = True := eq_true ⟨.int .i64 0, by kernel_rfl, fun _ => by first | rfl | simp [Value.cells, Cont.vals, arr8, arr32, arr64]⟩
theorem zv157 : ZVal Tryz.prog 157 (.a (.v (.int .i64 0))) = True := eq_true ⟨.int .i64 0, by kernel_rfl, fun _ => by first | rfl | simp [Sc.val, At.val, arr8, arr32, arr64]⟩
theorem sz167 : sz Tryz.prog 167 = 1 := by kernel_rfl
theorem bz167 : bz Tryz.prog 167 = 8 := by kernel_rfl
theorem zok167 : ZOk Tryz.prog 167 (.c [.v (.int .u64 0)]) = True := eq_true ⟨.int .u64 0, by kernel_rfl, fun _ => by first | rfl | simp [Value.cells, Cont.vals, arr8, arr32, arr64]⟩
theorem zv167 : ZVal Tryz.prog 167 (.a (.v (.int .u64 0))) = True := eq_true ⟨.int .u64 0, by kernel_rfl, fun _ => by first | rfl | simp [Sc.val, At.val, arr8, arr32, arr64]⟩
theorem sz171 : sz Tryz.prog 171 = 1 := by kernel_rfl
theorem bz171 : bz Tryz.prog 171 = 8 := by kernel_rfl
theorem zok171 : ZOk Tryz.prog 171 (.c [.v (.pointer none)]) = True := eq_true ⟨.pointer none, by kernel_rfl, fun _ => by first | rfl | simp [Value.cells, Cont.vals, arr8, arr32, arr64]⟩
theorem zv171 : ZVal Tryz.prog 171 (.a (.v (.pointer none))) = True := eq_true ⟨.pointer none, by kernel_rfl, fun _ => by first | rfl | simp [Sc.val, At.val, arr8, arr32, arr64]⟩
theorem sz173 : sz Tryz.prog 173 = 8 := by kernel_rfl
theorem bz173 : bz Tryz.prog 173 = 32 := by kernel_rfl
theorem aeq173 : arrEq Tryz.prog 173 8 .u32 = True := eq_true ⟨23, Tryz.underlying173, Tryz.underlying23, by kernel_rfl, by kernel_rfl, by kernel_rfl⟩
theorem zok173 : ZOk Tryz.prog 173 (.u32 (List.replicate 8 0)) = True := eq_true ⟨.agg (arr32 (List.replicate 8 0)), by kernel_rfl, fun _ => by first | rfl | simp [Value.cells, Cont.vals, arr8, arr32, arr64]⟩
theorem zv173 : ZVal Tryz.prog 173 (.a32 (List.replicate 8 0)) = True := eq_true ⟨.agg (arr32 (List.replicate 8 0)), by kernel_rfl, fun _ => by first | rfl | simp [Sc.val, At.val, arr8, arr32, arr64]⟩
theorem sz178 : sz Tryz.prog 178 = 1 := by kernel_rfl
theorem bz178 : bz Tryz.prog 178 = 8 := by kernel_rfl
theorem zok178 : ZOk Tryz.prog 178 (.c [.v (.pointer none)]) = True := eq_true ⟨.pointer none, by kernel_rfl, fun _ => by first | rfl | simp [Value.cells, Cont.vals, arr8, arr32, arr64]⟩
theorem zv178 : ZVal Tryz.prog 178 (.a (.v (.pointer none))) = True := eq_true ⟨.pointer none, by kernel_rfl, fun _ => by first | rfl | simp [Sc.val, At.val, arr8, arr32, arr64]⟩
theorem sz182 : sz Tryz.prog 182 = 64 := by kernel_rfl
theorem bz182 : bz Tryz.prog 182 = 256 := by kernel_rfl
theorem aeq182 : arrEq Tryz.prog 182 64 .u32 = True := eq_true ⟨23, Tryz.underlying182, Tryz.underlying23, by kernel_rfl, by kernel_rfl, by kernel_rfl⟩
theorem zok182 : ZOk Tryz.prog 182 (.u32 (List.replicate 64 0)) = True := eq_true ⟨.agg (arr32 (List.replicate 64 0)), by kernel_rfl, fun _ => by first | rfl | simp [Value.cells, Cont.vals, arr8, arr32, arr64]⟩
theorem zv182 : ZVal Tryz.prog 182 (.a32 (List.replicate 64 0)) = True := eq_true ⟨.agg (arr32 (List.replicate 64 0)), by kernel_rfl, fun _ => by first | rfl | simp [Sc.val, At.val, arr8, arr32, arr64]⟩
theorem sz195 : sz Tryz.prog 195 = 1 := by kernel_rfl
theorem bz195 : bz Tryz.prog 195 = 8 := by kernel_rfl
theorem zok195 : ZOk Tryz.prog 195 (.c [.v (.pointer none)]) = True := eq_true ⟨.pointer none, by kernel_rfl, fun _ => by first | rfl | simp [Value.cells, Cont.vals, arr8, arr32, arr64]⟩
theorem zv195 : ZVal Tryz.prog 195 (.a (.v (.pointer none))) = True := eq_true ⟨.pointer none, by kernel_rfl, fun _ => by first | rfl | simp [Sc.val, At.val, arr8, arr32, arr64]⟩
theorem sz204 : sz Tryz.prog 204 = 1 := by kernel_rfl
theorem bz204 : bz Tryz.prog 204 = 8 := by kernel_rfl
theorem zok204 : ZOk Tryz.prog 204 (.c [.v (.pointer none)]) = True := eq_true ⟨.pointer none, by kernel_rfl, fun _ => by first | rfl | simp [Value.cells, Cont.vals, arr8, arr32, arr64]⟩
theorem zv204 : ZVal Tryz.prog 204 (.a (.v (.pointer none))) = True := eq_true ⟨.pointer none, by kernel_rfl, fun _ => by first | rfl | simp [Sc.val, At.val, arr8, arr32, arr64]⟩
theorem sz206 : sz Tryz.prog 206 = 1 := by kernel_rfl
theorem bz206 : bz Tryz.prog 206 = 2 := by kernel_rfl
theorem zok206 : ZOk Tryz.prog 206 (.c [.v (.int .u16 0)]) = True := eq_true ⟨.int .u16 0, by kernel_rfl, fun _ => by first | rfl | simp [Value.cells, Cont.vals, arr8, arr32, arr64]⟩
theorem zv206 : ZVal Tryz.prog 206 (.a (.v (.int .u16 0))) = True := eq_true ⟨.int .u16 0, by kernel_rfl, fun _ => by first | rfl | simp [Sc.val, At.val, arr8, arr32, arr64]⟩
theorem sz213 : sz Tryz.prog 213 = 1 := by kernel_rfl
theorem bz213 : bz Tryz.prog 213 = 8 := by kernel_rfl
theorem zok213 : ZOk Tryz.prog 213 (.c [.v (.pointer none)]) = True := eq_true ⟨.pointer none, by kernel_rfl, fun _ => by first | rfl | simp [Value.cells, Cont.vals, arr8, arr32, arr64]⟩
theorem zv213 : ZVal Tryz.prog 213 (.a (.v (.pointer none))) = True := eq_true ⟨.pointer none, by kernel_rfl, fun _ => by first | rfl | simp [Sc.val, At.val, arr8, arr32, arr64]⟩
theorem cb4 : Callable Tryz.prog 4 := callable_of Tryz.func4 (by kernel_rfl) rfl
theorem cb5 : Callable Tryz.prog 5 := callable_of Tryz.func5 (by kernel_rfl) rfl
theorem cb6 : Callable Tryz.prog 6 := callable_of Tryz.func6 (by kernel_rfl) rfl
theorem cb7 : Callable Tryz.prog 7 := callable_of Tryz.func7 (by kernel_rfl) rfl
theorem cb8 : Callable Tryz.prog 8 := callable_of Tryz.func8 (by kernel_rfl) rfl
theorem cb9 : Callable Tryz.prog 9 := callable_of Tryz.func9 (by kernel_rfl) rfl
theorem cb10 : Callable Tryz.prog 10 := callable_of Tryz.func10 (by kernel_rfl) rfl
theorem cb11 : Callable Tryz.prog 11 := callable_of Tryz.func11 (by kernel_rfl) rfl
theorem cb12 : Callable Tryz.prog 12 := callable_of Tryz.func12 (by kernel_rfl) rfl
theorem cb13 : Callable Tryz.prog 13 := callable_of Tryz.func13 (by kernel_rfl) rfl
theorem cb14 : Callable Tryz.prog 14 := callable_of Tryz.func14 (by kernel_rfl) rfl
theorem cb15 : Callable Tryz.prog 15 := callable_of Tryz.func15 (by kernel_rfl) rfl
theorem cb16 : Callable Tryz.prog 16 := callable_of Tryz.func16 (by kernel_rfl) rfl
theorem cb17 : Callable Tryz.prog 17 := callable_of Tryz.func17 (by kernel_rfl) rfl
theorem cb18 : Callable Tryz.prog 18 := callable_of Tryz.func18 (by kernel_rfl) rfl
theorem cb19 : Callable Tryz.prog 19 := callable_of Tryz.func19 (by kernel_rfl) rfl
theorem cb20 : Callable Tryz.prog 20 := callable_of Tryz.func20 (by kernel_rfl) rfl
theorem cb21 : Callable Tryz.prog 21 := callable_of Tryz.func21 (by kernel_rfl) rfl
theorem cb22 : Callable Tryz.prog 22 := callable_of Tryz.func22 (by kernel_rfl) rfl
theorem cb23 : Callable Tryz.prog 23 := callable_of Tryz.func23 (by kernel_rfl) rfl
theorem cb24 : Callable Tryz.prog 24 := callable_of Tryz.func24 (by kernel_rfl) rfl
theorem cb25 : Callable Tryz.prog 25 := callable_of Tryz.func25 (by kernel_rfl) rfl
theorem cb27 : Callable Tryz.prog 27 := callable_of Tryz.func27 (by kernel_rfl) rfl
theorem cb28 : Callable Tryz.prog 28 := callable_of Tryz.func28 (by kernel_rfl) rfl
theorem cb29 : Callable Tryz.prog 29 := callable_of Tryz.func29 (by kernel_rfl) rfl
theorem cb30 : Callable Tryz.prog 30 := callable_of Tryz.func30 (by kernel_rfl) rfl
theorem cb31 : Callable Tryz.prog 31 := callable_of Tryz.func31 (by kernel_rfl) rfl
theorem cb32 : Callable Tryz.prog 32 := callable_of Tryz.func32 (by kernel_rfl) rfl
theorem cb33 : Callable Tryz.prog 33 := callable_of Tryz.func33 (by kernel_rfl) rfl
theorem cb34 : Callable Tryz.prog 34 := callable_of Tryz.func34 (by kernel_rfl) rfl
theorem cb35 : Callable Tryz.prog 35 := callable_of Tryz.func35 (by kernel_rfl) rfl
theorem cb36 : Callable Tryz.prog 36 := callable_of Tryz.func36 (by kernel_rfl) rfl
theorem cb37 : Callable Tryz.prog 37 := callable_of Tryz.func37 (by kernel_rfl) rfl
theorem cb38 : Callable Tryz.prog 38 := callable_of Tryz.func38 (by kernel_rfl) rfl
theorem cb39 : Callable Tryz.prog 39 := callable_of Tryz.func39 (by kernel_rfl) rfl
theorem cb40 : Callable Tryz.prog 40 := callable_of Tryz.func40 (by kernel_rfl) rfl
theorem cb41 : Callable Tryz.prog 41 := callable_of Tryz.func41 (by kernel_rfl) rfl
theorem cb42 : Callable Tryz.prog 42 := callable_of Tryz.func42 (by kernel_rfl) rfl
theorem cb43 : Callable Tryz.prog 43 := callable_of Tryz.func43 (by kernel_rfl) rfl
theorem cb44 : Callable Tryz.prog 44 := callable_of Tryz.func44 (by kernel_rfl) rfl
theorem cb45 : Callable Tryz.prog 45 := callable_of Tryz.func45 (by kernel_rfl) rfl
theorem cb46 : Callable Tryz.prog 46 := callable_of Tryz.func46 (by kernel_rfl) rfl
theorem cb51 : Callable Tryz.prog 51 := callable_of Tryz.func51 (by kernel_rfl) rfl
theorem cb52 : Callable Tryz.prog 52 := callable_of Tryz.func52 (by kernel_rfl) rfl
theorem cb53 : Callable Tryz.prog 53 := callable_of Tryz.func53 (by kernel_rfl) rfl
theorem cb54 : Callable Tryz.prog 54 := callable_of Tryz.func54 (by kernel_rfl) rfl
theorem cb55 : Callable Tryz.prog 55 := callable_of Tryz.func55 (by kernel_rfl) rfl
theorem cb56 : Callable Tryz.prog 56 := callable_of Tryz.func56 (by kernel_rfl) rfl
theorem cb57 : Callable Tryz.prog 57 := callable_of Tryz.func57 (by kernel_rfl) rfl
theorem cb58 : Callable Tryz.prog 58 := callable_of Tryz.func58 (by kernel_rfl) rfl
theorem cb61 : Callable Tryz.prog 61 := callable_of Tryz.func61 (by kernel_rfl) rfl
theorem cb62 : Callable Tryz.prog 62 := callable_of Tryz.func62 (by kernel_rfl) rfl
theorem cb63 : Callable Tryz.prog 63 := callable_of Tryz.func63 (by kernel_rfl) rfl
theorem cb64 : Callable Tryz.prog 64 := callable_of Tryz.func64 (by kernel_rfl) rfl
theorem cb65 : Callable Tryz.prog 65 := callable_of Tryz.func65 (by kernel_rfl) rfl
theorem cb66 : Callable Tryz.prog 66 := callable_of Tryz.func66 (by kernel_rfl) rfl
theorem cb67 : Callable Tryz.prog 67 := callable_of Tryz.func67 (by kernel_rfl) rfl
theorem cb71 : Callable Tryz.prog 71 := callable_of Tryz.func71 (by kernel_rfl) rfl
theorem cb75 : Callable Tryz.prog 75 := callable_of Tryz.func75 (by kernel_rfl) rfl
theorem cb76 : Callable Tryz.prog 76 := callable_of Tryz.func76 (by kernel_rfl) rfl
theorem cb89 : Callable Tryz.prog 89 := callable_of Tryz.func89 (by kernel_rfl) rfl
attribute [push_cast] stepO_if needB repsL splice Cont.piece mpBnd_nil mpBnd_cons mpRen_nil mpRen_cons intsOf eqB padC mkmS lookS updS lookI putI lookV lookR rawM_nil lookX_nil zeroSc bsA bsN partsN List.flatten_cons List.flatten_nil baseN appN rawL rawOks capsS mkfS bview bput litS bytS strS mkS zerosN rngS nxtS mmS cmpI elemK cont8_map cont32_map cont64_map take_f8 drop_f8 take_f32 drop_f32 take_f64 drop_f64 getD_app getD_f8 forall_f8 take_app drop_app List.forall_mem_append buildS setPart zeroAt zerosOf zeroCont argFr allNe ndup symC_seq symC_region symC_block symC_loop symC_draw symC_cond symC_skip symC_exit symC_ret then_normal then_exit then_ret inB_normal inB_ret inB_exit symR_cons symR_nil symM_cons symM_nil symP_nil symP_rd symP_wr symP_fk symP_f3 stepP takes isRead isCall dOk yieldS op1 S.put Fr.put Fr.ev Fr.get ev1 ev2 ev3 S.bnd Sv.bnd Sc.bnd At.bnd Res.bnd Cont.bnd nil1 val1 ret1 neg1 boxS binS binN binI bin8 bin32 bin64 shS ban unS nilEq eqS litO cvtS cvtN pickS loadS storeS idxS indexS sliceS bnds fieldS fieldAddrS extrS nilS ifcS lenS bsS parts contOf cont8 cont32 cont64 contI callS appS appS.zero1 appS.zeroN baseS srcS joinC clen setGone flat aggr isOwn isOne At.scalar scalar At.one Value.oneCell' Sc.cont Cont.cut Cont.part Cont.app Cont.len Cont.plain Cont.get Cont.set Cont.over Cont.whole toU8_n8 toU32_n32 toU64_n64 inU8_n8 inU32_n32 inU64_n64 toU8_lit toU32_lit toU64_lit inU8_lit inU32_lit inU64_lit loopK_exit loopK_ret Le leFr leHp Sv.ren Sc.ren At.ren Res.ren Cont.ren rn Fin resS outS evs ownT ownT2 inI64 maxLen Int.toNat_natCast Int.toNat_zero Nat.zero_add Nat.add_zero Nat.mul_one List.length_cons List.length_nil List.length_append List.length_map List.length_set List.length_replicate List.cons_append List.nil_append List.append_nil List.map_append List.getElem?_cons_zero List.getElem?_cons_succ List.getElem?_nil List.set_cons_zero List.set_cons_succ List.getD_cons_zero List.getD_cons_succ List.take_succ_cons List.take_zero List.drop_zero List.drop_succ_cons List.map_cons List.map_nil List.forall_mem_cons List.not_mem_nil List.reverse_cons List.toList_toArray Option.isSome_some Option.isNone_some Option.isNone_none false_implies implies_true true_implies forall_const true_and and_true and_self not_false_eq_true not_true_eq_false ne_eq or_false false_or or_true true_or or_self Nat.lt_irrefl Nat.le_refl Bool.false_eq_true Bool.true_eq_false Bool.not_true Bool.not_false Bool.or_true Bool.or_false Bool.and_true Bool.and_false Bool.true_and Bool.false_and decide_true decide_false eq_self gt_iff_lt ge_iff_le if_true if_false Option.some.injEq Prod.mk.injEq Sv.x.injEq Sc.a.injEq At.v.injEq At.o.injEq At.p.injEq Res.blk.injEq Res.own.injEq Value.int.injEq Value.bool.injEq Cont.u8.injEq Cont.u32.injEq Cont.u64.injEq Cont.c.injEq Cont.i64.injEq List.cons.injEq symK_cons symK_nil wantS stepRd maskR_cons maskR_nil List.set_nil
attribute [push_cast] Tryz.underlying2 sz2 bz2 zok2 zv2 Tryz.underlying3 sz3 bz3 zok3 zv3 Tryz.underlying4 sz4 bz4 zok4 zv4 Tryz.underlying5 sz5 bz5 zok5 zv5 Tryz.underlying9 sz9 bz9 zok9 zv9 Tryz.underlying12 sz12 bz12 zok12 zv12 Tryz.underlying13 sz13 bz13 fo13_0 fo13_1 zok13 zv13 Tryz.underlying15 sz15 bz15 zok15 zv15 Tryz.underlying16 sz16 bz16 zok16 zv16 Tryz.underlying17 sz17 bz17 zok17 zv17 Tryz.underlying20 sz20 bz20 zok20 zv20 Tryz.underlying21 sz21 bz21 zok21 zv21 Tryz.underlying22 sz22 bz22 zok22 zv22 Tryz.underlying23 sz23 bz23 zok23 zv23 Tryz.underlying24 sz24 bz24 aeq24 zok24 zv24 Tryz.underlying27 sz27 bz27 zok27 zv27 Tryz.underlying28 sz28 bz28 zok28 zv28 Tryz.underlying29 sz29 bz29 zok29 zv29 Tryz.underlying30 sz30 bz30 fo30_0 fo30_1 fo30_2 fo30_3 zok30 zv30 Tryz.underlying31 sz31 bz31 fo31_0 fo31_1 fo31_2 fo31_3 zok31 zv31 Tryz.underlying33 sz33 bz33 zok33 zv33 Tryz.underlying34 sz34 bz34 zok34 zv34 Tryz.underlying35 sz35 bz35 fo35_0 fo35_1 fo35_2 fo35_3 zok35 zv35 Tryz.underlying36 sz36 bz36 fo36_0 fo36_1 fo36_2 fo36_3 zok36 zv36 Tryz.underlying37 sz37 bz37 zok37 zv37 Tryz.underlying38 sz38 bz38 zok38 zv38 Tryz.underlying39 sz39 bz39 zok39 zv39 Tryz.underlying42 sz42 bz42 zok42 zv42 Tryz.underlying43 sz43 bz43 zok43 zv43 Tryz.underlying48 sz48 bz48 zok48 zv48 Tryz.underlying49 sz49 bz49 fo49_0 fo49_1 zok49 zv49 Tryz.underlying50 sz50 bz50 fo50_0 fo50_1 zok50 zv50 Tryz.underlying51 sz51 bz51 zok51 zv51 Tryz.underlying53 sz53 bz53 fo53_0 fo53_1 zok53 zv53 Tryz.underlying54 sz54 bz54 fo54_0 fo54_1 zok54 zv54 seq54 Tryz.underlying57 sz57 bz57 fo57_0 fo57_1 zok57 zv57 Tryz.underlying58 sz58 bz58 fo58_0 fo58_1 zok58 zv58 seq58 Tryz.underlying59 sz59 bz59 zok59 zv59 Tryz.underlying63 sz63 bz63 zok63 zv63 Tryz.underlying68 sz68 bz68 zok68 zv68 Tryz.underlying70 sz70 bz70 fo70_0 fo70_1 zok70 zv70 Tryz.underlying71 sz71 bz71 fo71_0 fo71_1 zok71 zv71 seq71 Tryz.underlying79 sz79 bz79 zok79 zv79 Tryz.underlying80 sz80 bz80 fo80_0 fo80_1 zok80 zv80 seq80 Tryz.underlying81 sz81 bz81 zok81 zv81 Tryz.underlying100 sz100 bz100 zok100 zv100 Tryz.underlying102 sz102 bz102 aeq102 zok102 zv102 Tryz.underlying130 sz130 bz130 aeq130 zok130 zv130 Tryz.underlying131 sz131 bz131 zok131 zv131 Tryz.underlying134 sz134 bz134 fo134_0 zok134 zv134 Tryz.underlying135 sz135 bz135 zok135 zv135 Tryz.underlying139 sz139 bz139 zok139 zv139 Tryz.underlying142 sz142 bz142 zok142 zv142 Tryz.underlying144 sz144 bz144 zok144 zv144 Tryz.underlying145 sz145 bz145 zok145 zv145 Tryz.underlying151 sz151 bz151 zok151 zv151 Tryz.underlying153 sz153 bz153 aeq153 zok153 zv153 Tryz.underlying157 sz157 bz157 zok157 zv157 Tryz.underlying167 sz167 bz167 zok167 zv167 Tryz.underlying171 sz171 bz171 zok171 zv171 Tryz.underlying173 sz173 bz173 aeq173 zok173 zv173 Tryz.underlying178 sz178 bz178 zok178 zv178 Tryz.underlying182 sz182 bz182 aeq182 zok182 zv182 Tryz.underlying195 sz195 bz195 zok195 zv195 Tryz.underlying204 sz204 bz204 zok204 zv204 Tryz.underlying206 sz206 bz206 zok206 zv206 Tryz.underlying213 sz213 bz213 zok213 zv213
attribute [push_cast] Tryz.results3 Tryz.results4 Tryz.results5 Tryz.results6 Tryz.results7 Tryz.results8 Tryz.results9 Tryz.results10 Tryz.results11 Tryz.results12 Tryz.results13 Tryz.results14 Tryz.results15 Tryz.results16 Tryz.results17 Tryz.results18 Tryz.results19 Tryz.results20 Tryz.results21 Tryz.results22 Tryz.results23 Tryz.results24 Tryz.results25 Tryz.results27 Tryz.results28 Tryz.results29 Tryz.results30 Tryz.results31 Tryz.results32 Tryz.results33 Tryz.results34 Tryz.results35 Tryz.results36 Tryz.results37 Tryz.results38 Tryz.results39 Tryz.results40 Tryz.results41 Tryz.results42 Tryz.results43 Tryz.results44 Tryz.results45 Tryz.results46 Tryz.results51 Tryz.results52 Tryz.results53 Tryz.results54 Tryz.results55 Tryz.results56 Tryz.results57 Tryz.results58 Tryz.results59 Tryz.results61 Tryz.results62 Tryz.results63 Tryz.results64 Tryz.results65 Tryz.results66 Tryz.results67 Tryz.results71 Tryz.results72 Tryz.results73 Tryz.results75 Tryz.results76 Tryz.results77 Tryz.results78 Tryz.results79 Tryz.results80 Tryz.results81 Tryz.results82 Tryz.results83 Tryz.results84 Tryz.results85 Tryz.results86 Tryz.results87 Tryz.results88 Tryz.results89 Tryz.results90 Tryz.results91 Tryz.results92 Tryz.results94 Tryz.results95 Tryz.results96 Tryz.results97 Tryz.results98 Tryz.results99 Tryz.results100 Tryz.results101 Tryz.results102
end Go.Proofs.YtombphphaoeeiaaGreatDoor
