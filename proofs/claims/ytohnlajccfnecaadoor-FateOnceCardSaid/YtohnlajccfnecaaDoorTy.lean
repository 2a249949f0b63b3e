/- Facts on the types of the program, for the engine. Made by program. -/
import Derived.Test.YtohnlajccfnecaaDoorEn3
import Derived.Test.YtohnlajccfnecaaDoorProg
namespace Go.Proofs.YtohnlajccfnecaaDoor
open Go.RowKit
set_option linter.unusedSimpArgs false
theorem sz2 : sz Tryd.prog 2 = 1 := by kernel_rfl
theorem bz2 : bz Tryd.prog 2 = 8 := by kernel_rfl
theorem zok2 : ZOk Tryd.prog 2 (.c [.v (.int .i64 0)]) = True := eq_true ⟨.int .i64 0, by kernel_rfl, fun _ => by first | rfl | simp [Value.cells, Cont.vals, arr8, arr32, arr64]⟩
theorem zv2 : ZVal Tryd.prog 2 (.a (.v (.int .i64 0))) = True := eq_true ⟨.int .i64 0, by kernel_rfl, fun _ => by first | rfl | simp [Sc.val, At.val, arr8, arr32, arr64]⟩
theorem sz3 : sz Tryd.prog 3 = 1 := by kernel_rfl
theorem bz3 : bz Tryd.prog 3 = 8 := by kernel_rfl
theorem zok3 : ZOk Tryd.prog 3 (.c [.v (.int .i64 0)]) = True := eq_true ⟨.int .i64 0, by kernel_rfl, fun _ => by first | rfl | simp [Value.cells, Cont.vals, arr8, arr32, arr64]⟩
theorem zv3 : ZVal Tryd.prog 3 (.a (.v (.int .i64 0))) = True := eq_true ⟨.int .i64 0, by kernel_rfl, fun _ => by first | rfl | simp [Sc.val, At.val, arr8, arr32, arr64]⟩
theorem sz4 : sz Tryd.prog 4 = 1 := by kernel_rfl
theorem bz4 : bz Tryd.prog 4 = 1 := by kernel_rfl
theorem zok4 : ZOk Tryd.prog 4 (.c [.v (.bool false)]) = True := eq_true ⟨.bool false, by kernel_rfl, fun _ => by first | rfl | simp [Value.cells, Cont.vals, arr8, arr32, arr64]⟩
theorem zv4 : ZVal Tryd.prog 4 (.a (.v (.bool false))) = True := eq_true ⟨.bool false, by kernel_rfl, fun _ => by first | rfl | simp [Sc.val, At.val, arr8, arr32, arr64]⟩
theorem sz5 : sz Tryd.prog 5 = 1 := by kernel_rfl
theorem bz5 : bz Tryd.prog 5 = 1 := by kernel_rfl
theorem zok5 : ZOk Tryd.prog 5 (.c [.v (.int .u8 0)]) = True := eq_true ⟨.int .u8 0, by kernel_rfl, fun _ => by first | rfl | simp [Value.cells, Cont.vals, arr8, arr32, arr64]⟩
theorem zv5 : ZVal Tryd.prog 5 (.a (.v (.int .u8 0))) = True := eq_true ⟨.int .u8 0, by kernel_rfl, fun _ => by first | rfl | simp [Sc.val, At.val, arr8, arr32, arr64]⟩
theorem sz9 : sz Tryd.prog 9 = 1 := by kernel_rfl
theorem bz9 : bz Tryd.prog 9 = 16 := by kernel_rfl
theorem zok9 : ZOk Tryd.prog 9 (.c [.v (.string .empty)]) = True := eq_true ⟨.string .empty, by kernel_rfl, fun _ => by first | rfl | simp [Value.cells, Cont.vals, arr8, arr32, arr64]⟩
theorem zv9 : ZVal Tryd.prog 9 (.a (.v (.string .empty))) = True := eq_true ⟨.string .empty, by kernel_rfl, fun _ => by first | rfl | simp [Sc.val, At.val, arr8, arr32, arr64]⟩
theorem sz12 : sz Tryd.prog 12 = 1 := by kernel_rfl
theorem bz12 : bz Tryd.prog 12 = 8 := by kernel_rfl
theorem zok12 : ZOk Tryd.prog 12 (.c [.v (.int .u64 0)]) = True := eq_true ⟨.int .u64 0, by kernel_rfl, fun _ => by first | rfl | simp [Value.cells, Cont.vals, arr8, arr32, arr64]⟩
theorem zv12 : ZVal Tryd.prog 12 (.a (.v (.int .u64 0))) = True := eq_true ⟨.int .u64 0, by kernel_rfl, fun _ => by first | rfl | simp [Sc.val, At.val, arr8, arr32, arr64]⟩
theorem sz13 : sz Tryd.prog 13 = 2 := by kernel_rfl
theorem bz13 : bz Tryd.prog 13 = 24 := by kernel_rfl
theorem fo13_0 : fieldOff Tryd.prog 13 0 = some (0, 9) := by kernel_rfl
theorem fo13_1 : fieldOff Tryd.prog 13 1 = some (1, 12) := by kernel_rfl
theorem zok13 : ZOk Tryd.prog 13 (.c [.v (.string .empty), .v (.int .u64 0)]) = True := eq_true ⟨.agg #[.string .empty, .int .u64 0], by kernel_rfl, fun _ => by first | rfl | simp [Value.cells, Cont.vals, arr8, arr32, arr64]⟩
theorem zv13 : ZVal Tryd.prog 13 (.g [.v (.string .empty), .v (.int .u64 0)]) = True := eq_true ⟨.agg #[.string .empty, .int .u64 0], by kernel_rfl, fun _ => by first | rfl | simp [Sc.val, At.val, arr8, arr32, arr64]⟩
theorem sz15 : sz Tryd.prog 15 = 1 := by kernel_rfl
theorem bz15 : bz Tryd.prog 15 = 8 := by kernel_rfl
theorem zok15 : ZOk Tryd.prog 15 (.c [.v (.pointer none)]) = True := eq_true ⟨.pointer none, by kernel_rfl, fun _ => by first | rfl | simp [Value.cells, Cont.vals, arr8, arr32, arr64]⟩
theorem zv15 : ZVal Tryd.prog 15 (.a (.v (.pointer none))) = True := eq_true ⟨.pointer none, by kernel_rfl, fun _ => by first | rfl | simp [Sc.val, At.val, arr8, arr32, arr64]⟩
theorem sz16 : sz Tryd.prog 16 = 1 := by kernel_rfl
theorem bz16 : bz Tryd.prog 16 = 8 := by kernel_rfl
theorem zok16 : ZOk Tryd.prog 16 (.c [.v (.pointer none)]) = True := eq_true ⟨.pointer none, by kernel_rfl, fun _ => by first | rfl | simp [Value.cells, Cont.vals, arr8, arr32, arr64]⟩
theorem zv16 : ZVal Tryd.prog 16 (.a (.v (.pointer none))) = True := eq_true ⟨.pointer none, by kernel_rfl, fun _ => by first | rfl | simp [Sc.val, At.val, arr8, arr32, arr64]⟩
theorem sz17 : sz Tryd.prog 17 = 1 := by kernel_rfl
theorem bz17 : bz Tryd.prog 17 = 8 := by kernel_rfl
theorem zok17 : ZOk Tryd.prog 17 (.c [.v (.pointer none)]) = True := eq_true ⟨.pointer none, by kernel_rfl, fun _ => by first | rfl | simp [Value.cells, Cont.vals, arr8, arr32, arr64]⟩
theorem zv17 : ZVal Tryd.prog 17 (.a (.v (.pointer none))) = True := eq_true ⟨.pointer none, by kernel_rfl, fun _ => by first | rfl | simp [Sc.val, At.val, arr8, arr32, arr64]⟩
theorem sz20 : sz Tryd.prog 20 = 1 := by kernel_rfl
theorem bz20 : bz Tryd.prog 20 = 16 := by kernel_rfl
theorem zok20 : ZOk Tryd.prog 20 (.c [.v .nilIface]) = True := eq_true ⟨.nilIface, by kernel_rfl, fun _ => by first | rfl | simp [Value.cells, Cont.vals, arr8, arr32, arr64]⟩
theorem zv20 : ZVal Tryd.prog 20 (.a (.v (.nilIface))) = True := eq_true ⟨.nilIface, by kernel_rfl, fun _ => by first | rfl | simp [Sc.val, At.val, arr8, arr32, arr64]⟩
theorem sz21 : sz Tryd.prog 21 = 1 := by kernel_rfl
theorem bz21 : bz Tryd.prog 21 = 4 := by kernel_rfl
theorem zok21 : ZOk Tryd.prog 21 (.c [.v (.int .i32 0)]) = True := eq_true ⟨.int .i32 0, by kernel_rfl, fun _ => by first | rfl | simp [Value.cells, Cont.vals, arr8, arr32, arr64]⟩
theorem zv21 : ZVal Tryd.prog 21 (.a (.v (.int .i32 0))) = True := eq_true ⟨.int .i32 0, by kernel_rfl, fun _ => by first | rfl | simp [Sc.val, At.val, arr8, arr32, arr64]⟩
theorem sz22 : sz Tryd.prog 22 = 1 := by kernel_rfl
theorem bz22 : bz Tryd.prog 22 = 24 := by kernel_rfl
theorem zok22 : ZOk Tryd.prog 22 (.c [.v (.slice none 0 0)]) = True := eq_true ⟨.slice none 0 0, by kernel_rfl, fun _ => by first | rfl | simp [Value.cells, Cont.vals, arr8, arr32, arr64]⟩
theorem zv22 : ZVal Tryd.prog 22 (.a (.v (.slice none 0 0))) = True := eq_true ⟨.slice none 0 0, by kernel_rfl, fun _ => by first | rfl | simp [Sc.val, At.val, arr8, arr32, arr64]⟩
theorem sz23 : sz Tryd.prog 23 = 1 := by kernel_rfl
theorem bz23 : bz Tryd.prog 23 = 8 := by kernel_rfl
theorem zok23 : ZOk Tryd.prog 23 (.c [.v (.pointer none)]) = True := eq_true ⟨.pointer none, by kernel_rfl, fun _ => by first | rfl | simp [Value.cells, Cont.vals, arr8, arr32, arr64]⟩
theorem zv23 : ZVal Tryd.prog 23 (.a (.v (.pointer none))) = True := eq_true ⟨.pointer none, by kernel_rfl, fun _ => by first | rfl | simp [Sc.val, At.val, arr8, arr32, arr64]⟩
theorem sz24 : sz Tryd.prog 24 = 1 := by kernel_rfl
theorem bz24 : bz Tryd.prog 24 = 24 := by kernel_rfl
theorem zok24 : ZOk Tryd.prog 24 (.c [.v (.slice none 0 0)]) = True := eq_true ⟨.slice none 0 0, by kernel_rfl, fun _ => by first | rfl | simp [Value.cells, Cont.vals, arr8, arr32, arr64]⟩
theorem zv24 : ZVal Tryd.prog 24 (.a (.v (.slice none 0 0))) = True := eq_true ⟨.slice none 0 0, by kernel_rfl, fun _ => by first | rfl | simp [Sc.val, At.val, arr8, arr32, arr64]⟩
theorem sz25 : sz Tryd.prog 25 = 1 := by kernel_rfl
theorem bz25 : bz Tryd.prog 25 = 24 := by kernel_rfl
theorem zok25 : ZOk Tryd.prog 25 (.c [.v (.slice none 0 0)]) = True := eq_true ⟨.slice none 0 0, by kernel_rfl, fun _ => by first | rfl | simp [Value.cells, Cont.vals, arr8, arr32, arr64]⟩
theorem zv25 : ZVal Tryd.prog 25 (.a (.v (.slice none 0 0))) = True := eq_true ⟨.slice none 0 0, by kernel_rfl, fun _ => by first | rfl | simp [Sc.val, At.val, arr8, arr32, arr64]⟩
theorem sz32 : sz Tryd.prog 32 = 4 := by kernel_rfl
theorem bz32 : bz Tryd.prog 32 = 64 := by kernel_rfl
theorem fo32_0 : fieldOff Tryd.prog 32 0 = some (0, 3) := by kernel_rfl
theorem fo32_1 : fieldOff Tryd.prog 32 1 = some (1, 24) := by kernel_rfl
theorem fo32_2 : fieldOff Tryd.prog 32 2 = some (2, 25) := by kernel_rfl
theorem fo32_3 : fieldOff Tryd.prog 32 3 = some (3, 3) := by kernel_rfl
theorem zok32 : ZOk Tryd.prog 32 (.c [.v (.int .i64 0), .v (.slice none 0 0), .v (.slice none 0 0), .v (.int .i64 0)]) = True := eq_true ⟨.agg #[.int .i64 0, .slice none 0 0, .slice none 0 0, .int .i64 0], by kernel_rfl, fun _ => by first | rfl | simp [Value.cells, Cont.vals, arr8, arr32, arr64]⟩
theorem zv32 : ZVal Tryd.prog 32 (.g [.v (.int .i64 0), .v (.slice none 0 0), .v (.slice none 0 0), .v (.int .i64 0)]) = True := eq_true ⟨.agg #[.int .i64 0, .slice none 0 0, .slice none 0 0, .int .i64 0], by kernel_rfl, fun _ => by first | rfl | simp [Sc.val, At.val, arr8, arr32, arr64]⟩
theorem sz33 : sz Tryd.prog 33 = 4 := by kernel_rfl
theorem bz33 : bz Tryd.prog 33 = 64 := by kernel_rfl
theorem fo33_0 : fieldOff Tryd.prog 33 0 = some (0, 3) := by kernel_rfl
theorem fo33_1 : fieldOff Tryd.prog 33 1 = some (1, 24) := by kernel_rfl
theorem fo33_2 : fieldOff Tryd.prog 33 2 = some (2, 25) := by kernel_rfl
theorem fo33_3 : fieldOff Tryd.prog 33 3 = some (3, 3) := by kernel_rfl
theorem zok33 : ZOk Tryd.prog 33 (.c [.v (.int .i64 0), .v (.slice none 0 0), .v (.slice none 0 0), .v (.int .i64 0)]) = True := eq_true ⟨.agg #[.int .i64 0, .slice none 0 0, .slice none 0 0, .int .i64 0], by kernel_rfl, fun _ => by first | rfl | simp [Value.cells, Cont.vals, arr8, arr32, arr64]⟩
theorem zv33 : ZVal Tryd.prog 33 (.g [.v (.int .i64 0), .v (.slice none 0 0), .v (.slice none 0 0), .v (.int .i64 0)]) = True := eq_true ⟨.agg #[.int .i64 0, .slice none 0 0, .slice none 0 0, .int .i64 0], by kernel_rfl, fun _ => by first | rfl | simp [Sc.val, At.val, arr8, arr32, arr64]⟩
theorem sz34 : sz Tryd.prog 34 = 4 := by kernel_rfl
theorem bz34 : bz Tryd.prog 34 = 64 := by kernel_rfl
theorem fo34_0 : fieldOff Tryd.prog 34 0 = some (0, 3) := by kernel_rfl
theorem fo34_1 : fieldOff Tryd.prog 34 1 = some (1, 3) := by kernel_rfl
theorem fo34_2 : fieldOff Tryd.prog 34 2 = some (2, 24) := by kernel_rfl
theorem fo34_3 : fieldOff Tryd.prog 34 3 = some (3, 25) := by kernel_rfl
theorem zok34 : ZOk Tryd.prog 34 (.c [.v (.int .i64 0), .v (.int .i64 0), .v (.slice none 0 0), .v (.slice none 0 0)]) = True := eq_true ⟨.agg #[.int .i64 0, .int .i64 0, .slice none 0 0, .slice none 0 0], by kernel_rfl, fun _ => by first | rfl | simp [Value.cells, Cont.vals, arr8, arr32, arr64]⟩
theorem zv34 : ZVal Tryd.prog 34 (.g [.v (.int .i64 0), .v (.int .i64 0), .v (.slice none 0 0), .v (.slice none 0 0)]) = True := eq_true ⟨.agg #[.int .i64 0, .int .i64 0, .slice none 0 0, .slice none 0 0], by kernel_rfl, fun _ => by first | rfl | simp [Sc.val, At.val, arr8, arr32, arr64]⟩
theorem sz35 : sz Tryd.prog 35 = 4 := by kernel_rfl
theorem bz35 : bz Tryd.prog 35 = 64 := by kernel_rfl
theorem fo35_0 : fieldOff Tryd.prog 35 0 = some (0, 3) := by kernel_rfl
theorem fo35_1 : fieldOff Tryd.prog 35 1 = some (1, 3) := by kernel_rfl
theorem fo35_2 : fieldOff Tryd.prog 35 2 = some (2, 24) := by kernel_rfl
theorem fo35_3 : fieldOff Tryd.prog 35 3 = some (3, 25) := by kernel_rfl
theorem zok35 : ZOk Tryd.prog 35 (.c [.v (.int .i64 0), .v (.int .i64 0), .v (.slice none 0 0), .v (.slice none 0 0)]) = True := eq_true ⟨.agg #[.int .i64 0, .int .i64 0, .slice none 0 0, .slice none 0 0], by kernel_rfl, fun _ => by first | rfl | simp [Value.cells, Cont.vals, arr8, arr32, arr64]⟩
theorem zv35 : ZVal Tryd.prog 35 (.g [.v (.int .i64 0), .v (.int .i64 0), .v (.slice none 0 0), .v (.slice none 0 0)]) = True := eq_true ⟨.agg #[.int .i64 0, .int .i64 0, .slice none 0 0, .slice none 0 0], by kernel_rfl, fun _ => by first | rfl | simp [Sc.val, At.val, arr8, arr32, arr64]⟩
theorem sz36 : sz Tryd.prog 36 = 4 := by kernel_rfl
theorem bz36 : bz Tryd.prog 36 = 64 := by kernel_rfl
theorem fo36_0 : fieldOff Tryd.prog 36 0 = some (0, 4) := by kernel_rfl
theorem fo36_1 : fieldOff Tryd.prog 36 1 = some (1, 24) := by kernel_rfl
theorem fo36_2 : fieldOff Tryd.prog 36 2 = some (2, 25) := by kernel_rfl
theorem fo36_3 : fieldOff Tryd.prog 36 3 = some (3, 3) := by kernel_rfl
theorem zok36 : ZOk Tryd.prog 36 (.c [.v (.bool false), .v (.slice none 0 0), .v (.slice none 0 0), .v (.int .i64 0)]) = True := eq_true ⟨.agg #[.bool false, .slice none 0 0, .slice none 0 0, .int .i64 0], by kernel_rfl, fun _ => by first | rfl | simp [Value.cells, Cont.vals, arr8, arr32, arr64]⟩
theorem zv36 : ZVal Tryd.prog 36 (.g [.v (.bool false), .v (.slice none 0 0), .v (.slice none 0 0), .v (.int .i64 0)]) = True := eq_true ⟨.agg #[.bool false, .slice none 0 0, .slice none 0 0, .int .i64 0], by kernel_rfl, fun _ => by first | rfl | simp [Sc.val, At.val, arr8, arr32, arr64]⟩
theorem sz37 : sz Tryd.prog 37 = 4 := by kernel_rfl
theorem bz37 : bz Tryd.prog 37 = 64 := by kernel_rfl
theorem fo37_0 : fieldOff Tryd.prog 37 0 = some (0, 4) := by kernel_rfl
theorem fo37_1 : fieldOff Tryd.prog 37 1 = some (1, 24) := by kernel_rfl
theorem fo37_2 : fieldOff Tryd.prog 37 2 = some (2, 25) := by kernel_rfl
theorem fo37_3 : fieldOff Tryd.prog 37 3 = some (3, 3) := by kernel_rfl
theorem zok37 : ZOk Tryd.prog 37 (.c [.v (.bool false), .v (.slice none 0 0), .v (.slice none 0 0), .v (.int .i64 0)]) = True := eq_true ⟨.agg #[.bool false, .slice none 0 0, .slice none 0 0, .int .i64 0], by kernel_rfl, fun _ => by first | rfl | simp [Value.cells, Cont.vals, arr8, arr32, arr64]⟩
theorem zv37 : ZVal Tryd.prog 37 (.g [.v (.bool false), .v (.slice none 0 0), .v (.slice none 0 0), .v (.int .i64 0)]) = True := eq_true ⟨.agg #[.bool false, .slice none 0 0, .slice none 0 0, .int .i64 0], by kernel_rfl, fun _ => by first | rfl | simp [Sc.val, At.val, arr8, arr32, arr64]⟩
theorem sz46 : sz Tryd.prog 46 = 1 := by kernel_rfl
theorem bz46 : bz Tryd.prog 46 = 4 := by kernel_rfl
theorem zok46 : ZOk Tryd.prog 46 (.c [.v (.int .u32 0)]) = True := eq_true ⟨.int .u32 0, by kernel_rfl, fun _ => by first | rfl | simp [Value.cells, Cont.vals, arr8, arr32, arr64]⟩
theorem zv46 : ZVal Tryd.prog 46 (.a (.v (.int .u32 0))) = True := eq_true ⟨.int .u32 0, by kernel_rfl, fun _ => by first | rfl | simp [Sc.val, At.val, arr8, arr32, arr64]⟩
theorem sz47 : sz Tryd.prog 47 = 1 := by kernel_rfl
theorem bz47 : bz Tryd.prog 47 = 8 := by kernel_rfl
theorem zok47 : ZOk Tryd.prog 47 (.c [.v (.int .u64 0)]) = True := eq_true ⟨.int .u64 0, by kernel_rfl, fun _ => by first | rfl | simp [Value.cells, Cont.vals, arr8, arr32, arr64]⟩
theorem zv47 : ZVal Tryd.prog 47 (.a (.v (.int .u64 0))) = True := eq_true ⟨.int .u64 0, by kernel_rfl, fun _ => by first | rfl | simp [Sc.val, At.val, arr8, arr32, arr64]⟩
theorem sz48 : sz Tryd.prog 48 = 3 := by kernel_rfl
theorem bz48 : bz Tryd.prog 48 = 24 := by kernel_rfl
theorem aeq48 : arrEq Tryd.prog 48 3 .i64 = True := eq_true ⟨3, Tryd.underlying48, Tryd.underlying3, by kernel_rfl, by kernel_rfl, by kernel_rfl⟩
theorem sz49 : sz Tryd.prog 49 = 1 := by kernel_rfl
theorem bz49 : bz Tryd.prog 49 = 24 := by kernel_rfl
theorem zok49 : ZOk Tryd.prog 49 (.c [.v (.slice none 0 0)]) = True := eq_true ⟨.slice none 0 0, by kernel_rfl, fun _ => by first | rfl | simp [Value.cells, Cont.vals, arr8, arr32, arr64]⟩
theorem zv49 : ZVal Tryd.prog 49 (.a (.v (.slice none 0 0))) = True := eq_true ⟨.slice none 0 0, by kernel_rfl, fun _ => by first | rfl | simp [Sc.val, At.val, arr8, arr32, arr64]⟩
theorem sz50 : sz Tryd.prog 50 = 4 := by kernel_rfl
theorem bz50 : bz Tryd.prog 50 = 64 := by kernel_rfl
theorem fo50_0 : fieldOff Tryd.prog 50 0 = some (0, 47) := by kernel_rfl
theorem fo50_1 : fieldOff Tryd.prog 50 1 = some (1, 47) := by kernel_rfl
theorem fo50_2 : fieldOff Tryd.prog 50 2 = some (2, 49) := by kernel_rfl
theorem fo50_3 : fieldOff Tryd.prog 50 3 = some (3, 49) := by kernel_rfl
theorem zok50 : ZOk Tryd.prog 50 (.c [.v (.int .u64 0), .v (.int .u64 0), .v (.slice none 0 0), .v (.slice none 0 0)]) = True := eq_true ⟨.agg #[.int .u64 0, .int .u64 0, .slice none 0 0, .slice none 0 0], by kernel_rfl, fun _ => by first | rfl | simp [Value.cells, Cont.vals, arr8, arr32, arr64]⟩
theorem zv50 : ZVal Tryd.prog 50 (.g [.v (.int .u64 0), .v (.int .u64 0), .v (.slice none 0 0), .v (.slice none 0 0)]) = True := eq_true ⟨.agg #[.int .u64 0, .int .u64 0, .slice none 0 0, .slice none 0 0], by kernel_rfl, fun _ => by first | rfl | simp [Sc.val, At.val, arr8, arr32, arr64]⟩
theorem sz51 : sz Tryd.prog 51 = 4 := by kernel_rfl
theorem bz51 : bz Tryd.prog 51 = 64 := by kernel_rfl
theorem fo51_0 : fieldOff Tryd.prog 51 0 = some (0, 47) := by kernel_rfl
theorem fo51_1 : fieldOff Tryd.prog 51 1 = some (1, 47) := by kernel_rfl
theorem fo51_2 : fieldOff Tryd.prog 51 2 = some (2, 49) := by kernel_rfl
theorem fo51_3 : fieldOff Tryd.prog 51 3 = some (3, 49) := by kernel_rfl
theorem zok51 : ZOk Tryd.prog 51 (.c [.v (.int .u64 0), .v (.int .u64 0), .v (.slice none 0 0), .v (.slice none 0 0)]) = True := eq_true ⟨.agg #[.int .u64 0, .int .u64 0, .slice none 0 0, .slice none 0 0], by kernel_rfl, fun _ => by first | rfl | simp [Value.cells, Cont.vals, arr8, arr32, arr64]⟩
theorem zv51 : ZVal Tryd.prog 51 (.g [.v (.int .u64 0), .v (.int .u64 0), .v (.slice none 0 0), .v (.slice none 0 0)]) = True := eq_true ⟨.agg #[.int .u64 0, .int .u64 0, .slice none 0 0, .slice none 0 0], by kernel_rfl, fun _ => by first | rfl | simp [Sc.val, At.val, arr8, arr32, arr64]⟩
theorem sz52 : sz Tryd.prog 52 = 1 := by kernel_rfl
theorem bz52 : bz Tryd.prog 52 = 16 := by kernel_rfl
theorem zok52 : ZOk Tryd.prog 52 (.c [.v .nilIface]) = True := eq_true ⟨.nilIface, by kernel_rfl, fun _ => by first | rfl | simp [Value.cells, Cont.vals, arr8, arr32, arr64]⟩
theorem zv52 : ZVal Tryd.prog 52 (.a (.v (.nilIface))) = True := eq_true ⟨.nilIface, by kernel_rfl, fun _ => by first | rfl | simp [Sc.val, At.val, arr8, arr32, arr64]⟩
theorem sz53 : sz Tryd.prog 53 = 1 := by kernel_rfl
theorem bz53 : bz Tryd.prog 53 = 16 := by kernel_rfl
theorem zok53 : ZOk Tryd.prog 53 (.c [.v .nilIface]) = True := eq_true ⟨.nilIface, by kernel_rfl, fun _ => by first | rfl | simp [Value.cells, Cont.vals, arr8, arr32, arr64]⟩
theorem zv53 : ZVal Tryd.prog 53 (.a (.v (.nilIface))) = True := eq_true ⟨.nilIface, by kernel_rfl, fun _ => by first | rfl | simp [Sc.val, At.val, arr8, arr32, arr64]⟩
theorem sz56 : sz Tryd.prog 56 = 4 := by kernel_rfl
theorem bz56 : bz Tryd.prog 56 = 64 := by kernel_rfl
theorem fo56_0 : fieldOff Tryd.prog 56 0 = some (0, 47) := by kernel_rfl
theorem fo56_1 : fieldOff Tryd.prog 56 1 = some (1, 47) := by kernel_rfl
theorem fo56_2 : fieldOff Tryd.prog 56 2 = some (2, 49) := by kernel_rfl
theorem fo56_3 : fieldOff Tryd.prog 56 3 = some (3, 49) := by kernel_rfl
theorem zok56 : ZOk Tryd.prog 56 (.c [.v (.int .u64 0), .v (.int .u64 0), .v (.slice none 0 0), .v (.slice none 0 0)]) = True := eq_true ⟨.agg #[.int .u64 0, .int .u64 0, .slice none 0 0, .slice none 0 0], by kernel_rfl, fun _ => by first | rfl | simp [Value.cells, Cont.vals, arr8, arr32, arr64]⟩
theorem zv56 : ZVal Tryd.prog 56 (.g [.v (.int .u64 0), .v (.int .u64 0), .v (.slice none 0 0), .v (.slice none 0 0)]) = True := eq_true ⟨.agg #[.int .u64 0, .int .u64 0, .slice none 0 0, .slice none 0 0], by kernel_rfl, fun _ => by first | rfl | simp [Sc.val, At.val, arr8, arr32, arr64]⟩
theorem sz62 : sz Tryd.prog 62 = 2 := by kernel_rfl
theorem bz62 : bz Tryd.prog 62 = 2 := by kernel_rfl
theorem aeq62 : arrEq Tryd.prog 62 2 .u8 = True := eq_true ⟨5, Tryd.underlying62, Tryd.underlying5, by kernel_rfl, by kernel_rfl, by kernel_rfl⟩
theorem zok62 : ZOk Tryd.prog 62 (.u8 (List.replicate 2 0)) = True := eq_true ⟨.agg (arr8 (List.replicate 2 0)), by kernel_rfl, fun _ => by first | rfl | simp [Value.cells, Cont.vals, arr8, arr32, arr64]⟩
theorem zv62 : ZVal Tryd.prog 62 (.a8 (List.replicate 2 0)) = True := eq_true ⟨.agg (arr8 (List.replicate 2 0)), by kernel_rfl, fun _ => by first | rfl | simp [Sc.val, At.val, arr8, arr32, arr64]⟩
theorem sz68 : sz Tryd.prog 68 = 1 := by kernel_rfl
theorem bz68 : bz Tryd.prog 68 = 24 := by kernel_rfl
theorem zok68 : ZOk Tryd.prog 68 (.c [.v (.slice none 0 0)]) = True := eq_true ⟨.slice none 0 0, by kernel_rfl, fun _ => by first | rfl | simp [Value.cells, Cont.vals, arr8, arr32, arr64]⟩
theorem zv68 : ZVal Tryd.prog 68 (.a (.v (.slice none 0 0))) = True := eq_true ⟨.slice none 0 0, by kernel_rfl, fun _ => by first | rfl | simp [Sc.val, At.val, arr8, arr32, arr64]⟩
theorem sz74 : sz Tryd.prog 74 = 1 := by kernel_rfl
theorem bz74 : bz Tryd.prog 74 = 8 := by kernel_rfl
theorem zok74 : ZOk Tryd.prog 74 (.c [.v (.int .i64 0)]) = True := eq_true ⟨.int .i64 0, by kernel_rfl, fun _ => by first | rfl | simp [Value.cells, Cont.vals, arr8, arr32, arr64]⟩
theorem zv74 : ZVal Tryd.prog 74 (.a (.v (.int .i64 0))) = True := eq_true ⟨.int .i64 0, by kernel_rfl, fun _ => by first | rfl | simp [Sc.val, At.val, arr8, arr32, arr64]⟩
theorem sz80 : sz Tryd.prog 80 = 1 := by kernel_rfl
theorem bz80 : bz Tryd.prog 80 = 8 := by kernel_rfl
theorem zok80 : ZOk Tryd.prog 80 (.c [.v (.pointer none)]) = True := eq_true ⟨.pointer none, by kernel_rfl, fun _ => by first | rfl | simp [Value.cells, Cont.vals, arr8, arr32, arr64]⟩
theorem zv80 : ZVal Tryd.prog 80 (.a (.v (.pointer none))) = True := eq_true ⟨.pointer none, by kernel_rfl, fun _ => by first | rfl | simp [Sc.val, At.val, arr8, arr32, arr64]⟩
theorem sz81 : sz Tryd.prog 81 = 1 := by kernel_rfl
theorem bz81 : bz Tryd.prog 81 = 8 := by kernel_rfl
theorem zok81 : ZOk Tryd.prog 81 (.c [.v (.pointer none)]) = True := eq_true ⟨.pointer none, by kernel_rfl, fun _ => by first | rfl | simp [Value.cells, Cont.vals, arr8, arr32, arr64]⟩
theorem zv81 : ZVal Tryd.prog 81 (.a (.v (.pointer none))) = True := eq_true ⟨.pointer none, by kernel_rfl, fun _ => by first | rfl | simp [Sc.val, At.val, arr8, arr32, arr64]⟩
theorem sz82 : sz Tryd.prog 82 = 1 := by kernel_rfl
theorem bz82 : bz Tryd.prog 82 = 24 := by kernel_rfl
theorem zok82 : ZOk Tryd.prog 82 (.c [.v (.slice none 0 0)]) = True := eq_true ⟨.slice none 0 0, by kernel_rfl, fun _ => by first | rfl | simp [Value.cells, Cont.vals, arr8, arr32, arr64]⟩
theorem zv82 : ZVal Tryd.prog 82 (.a (.v (.slice none 0 0))) = True := eq_true ⟨.slice none 0 0, by kernel_rfl, fun _ => by first | rfl | simp [Sc.val, At.val, arr8, arr32, arr64]⟩
theorem sz83 : sz Tryd.prog 83 = 2 := by kernel_rfl
theorem bz83 : bz Tryd.prog 83 = 32 := by kernel_rfl
theorem fo83_0 : fieldOff Tryd.prog 83 0 = some (0, 81) := by kernel_rfl
theorem fo83_1 : fieldOff Tryd.prog 83 1 = some (1, 82) := by kernel_rfl
theorem zok83 : ZOk Tryd.prog 83 (.c [.v (.pointer none), .v (.slice none 0 0)]) = True := eq_true ⟨.agg #[.pointer none, .slice none 0 0], by kernel_rfl, fun _ => by first | rfl | simp [Value.cells, Cont.vals, arr8, arr32, arr64]⟩
theorem zv83 : ZVal Tryd.prog 83 (.g [.v (.pointer none), .v (.slice none 0 0)]) = True := eq_true ⟨.agg #[.pointer none, .slice none 0 0], by kernel_rfl, fun _ => by first | rfl | simp [Sc.val, At.val, arr8, arr32, arr64]⟩
theorem sz84 : sz Tryd.prog 84 = 2 := by kernel_rfl
theorem bz84 : bz Tryd.prog 84 = 32 := by kernel_rfl
theorem fo84_0 : fieldOff Tryd.prog 84 0 = some (0, 81) := by kernel_rfl
theorem fo84_1 : fieldOff Tryd.prog 84 1 = some (1, 82) := by kernel_rfl
theorem zok84 : ZOk Tryd.prog 84 (.c [.v (.pointer none), .v (.slice none 0 0)]) = True := eq_true ⟨.agg #[.pointer none, .slice none 0 0], by kernel_rfl, fun _ => by first | rfl | simp [Value.cells, Cont.vals, arr8, arr32, arr64]⟩
theorem zv84 : ZVal Tryd.prog 84 (.g [.v (.pointer none), .v (.slice none 0 0)]) = True := eq_true ⟨.agg #[.pointer none, .slice none 0 0], by kernel_rfl, fun _ => by first | rfl | simp [Sc.val, At.val, arr8, arr32, arr64]⟩
theorem sz89 : sz Tryd.prog 89 = 32 := by kernel_rfl
theorem bz89 : bz Tryd.prog 89 = 32 := by kernel_rfl
theorem aeq89 : arrEq Tryd.prog 89 32 .u8 = True := eq_true ⟨5, Tryd.underlying89, Tryd.underlying5, by kernel_rfl, by kernel_rfl, by kernel_rfl⟩
theorem zok89 : ZOk Tryd.prog 89 (.u8 (List.replicate 32 0)) = True := eq_true ⟨.agg (arr8 (List.replicate 32 0)), by kernel_rfl, fun _ => by first | rfl | simp [Value.cells, Cont.vals, arr8, arr32, arr64]⟩
theorem zv89 : ZVal Tryd.prog 89 (.a8 (List.replicate 32 0)) = True := eq_true ⟨.agg (arr8 (List.replicate 32 0)), by kernel_rfl, fun _ => by first | rfl | simp [Sc.val, At.val, arr8, arr32, arr64]⟩
theorem sz91 : sz Tryd.prog 91 = 1 := by kernel_rfl
theorem bz91 : bz Tryd.prog 91 = 8 := by kernel_rfl
theorem zok91 : ZOk Tryd.prog 91 (.c [.v (.int .u64 0)]) = True := eq_true ⟨.int .u64 0, by kernel_rfl, fun _ => by first | rfl | simp [Value.cells, Cont.vals, arr8, arr32, arr64]⟩
theorem zv91 : ZVal Tryd.prog 91 (.a (.v (.int .u64 0))) = True := eq_true ⟨.int .u64 0, by kernel_rfl, fun _ => by first | rfl | simp [Sc.val, At.val, arr8, arr32, arr64]⟩
theorem sz106 : sz Tryd.prog 106 = 24 := by kernel_rfl
theorem bz106 : bz Tryd.prog 106 = 24 := by kernel_rfl
theorem aeq106 : arrEq Tryd.prog 106 24 .u8 = True := eq_true ⟨5, Tryd.underlying106, Tryd.underlying5, by kernel_rfl, by kernel_rfl, by kernel_rfl⟩
theorem zok106 : ZOk Tryd.prog 106 (.u8 (List.replicate 24 0)) = True := eq_true ⟨.agg (arr8 (List.replicate 24 0)), by kernel_rfl, fun _ => by first | rfl | simp [Value.cells, Cont.vals, arr8, arr32, arr64]⟩
theorem zv106 : ZVal Tryd.prog 106 (.a8 (List.replicate 24 0)) = True := eq_true ⟨.agg (arr8 (List.replicate 24 0)), by kernel_rfl, fun _ => by first | rfl | simp [Sc.val, At.val, arr8, arr32, arr64]⟩
theorem sz111 : sz Tryd.prog 111 = 1 := by kernel_rfl
theorem bz111 : bz Tryd.prog 111 = 8 := by kernel_rfl
theorem zok111 : ZOk Tryd.prog 111 (.c [.v (.pointer none)]) = True := eq_true ⟨.pointer none, by kernel_rfl, fun _ => by first | rfl | simp [Value.cells, Cont.vals, arr8, arr32, arr64]⟩
theorem zv111 : ZVal Tryd.prog 111 (.a (.v (.pointer none))) = True := eq_true ⟨.pointer none, by kernel_rfl, fun _ => by first | rfl | simp [Sc.val, At.val, arr8, arr32, arr64]⟩
theorem sz112 : sz Tryd.prog 112 = 8 := by kernel_rfl
theorem bz112 : bz Tryd.prog 112 = 8 := by kernel_rfl
theorem aeq112 : arrEq Tryd.prog 112 8 .u8 = True := eq_true ⟨5, Tryd.underlying112, Tryd.underlying5, by kernel_rfl, by kernel_rfl, by kernel_rfl⟩
theorem zok112 : ZOk Tryd.prog 112 (.u8 (List.replicate 8 0)) = True := eq_true ⟨.agg (arr8 (List.replicate 8 0)), by kernel_rfl, fun _ => by first | rfl | simp [Value.cells, Cont.vals, arr8, arr32, arr64]⟩
theorem zv112 : ZVal Tryd.prog 112 (.a8 (List.replicate 8 0)) = True := eq_true ⟨.agg (arr8 (List.replicate 8 0)), by kernel_rfl, fun _ => by first | rfl | simp [Sc.val, At.val, arr8, arr32, arr64]⟩
theorem sz115 : sz Tryd.prog 115 = 1 := by kernel_rfl
theorem bz115 : bz Tryd.prog 115 = 8 := by kernel_rfl
theorem fo115_0 : fieldOff Tryd.prog 115 0 = some (0, 17) := by kernel_rfl
theorem zok115 : ZOk Tryd.prog 115 (.c [.v (.pointer none)]) = True := eq_true ⟨.agg #[.pointer none], by kernel_rfl, fun _ => by first | rfl | simp [Value.cells, Cont.vals, arr8, arr32, arr64]⟩
theorem zv115 : ZVal Tryd.prog 115 (.g [.v (.pointer none)]) = True := eq_true ⟨.agg #[.pointer none], by kernel_rfl, fun _ => by first | rfl | simp [Sc.val, At.val, arr8, arr32, arr64]⟩
theorem sz116 : sz Tryd.prog 116 = 1 := by kernel_rfl
theorem bz116 : bz Tryd.prog 116 = 8 := by kernel_rfl
theorem zok116 : ZOk Tryd.prog 116 (.c [.v (.pointer none)]) = True := eq_true ⟨.pointer none, by kernel_rfl, fun _ => by first | rfl | simp [Value.cells, Cont.vals, arr8, arr32, arr64]⟩
theorem zv116 : ZVal Tryd.prog 116 (.a (.v (.pointer none))) = True := eq_true ⟨.pointer none, by kernel_rfl, fun _ => by first | rfl | simp [Sc.val, At.val, arr8, arr32, arr64]⟩
theorem sz120 : sz Tryd.prog 120 = 1 := by kernel_rfl
theorem bz120 : bz Tryd.prog 120 = 16 := by kernel_rfl
theorem zok120 : ZOk Tryd.prog 120 (.c [.v .nilIface]) = True := eq_true ⟨.nilIface, by kernel_rfl, fun _ => by first | rfl | simp [Value.cells, Cont.vals, arr8, arr32, arr64]⟩
theorem zv120 : ZVal Tryd.prog 120 (.a (.v (.nilIface))) = True := eq_true ⟨.nilIface, by kernel_rfl, fun _ => by first | rfl | simp [Sc.val, At.val, arr8, arr32, arr64]⟩
theorem sz123 : sz Tryd.prog 123 = 1 := by kernel_rfl
theorem bz123 : bz Tryd.prog 123 = 16 := by kernel_rfl
theorem zok123 : ZOk Tryd.prog 123 (.c [.v .nilIface]) = True := eq_true ⟨.nilIface, by kernel_rfl, fun _ => by first | rfl | simp [Value.cells, Cont.vals, arr8, arr32, arr64]⟩
theorem zv123 : ZVal Tryd.prog 123 (.a (.v (.nilIface))) = True := eq_true ⟨.nilIface, by kernel_rfl, fun _ => by first | rfl | simp [Sc.val, At.val, arr8, arr32, arr64]⟩
theorem sz125 : sz Tryd.prog 125 = 1 := by kernel_rfl
theorem bz125 : bz Tryd.prog 125 = 16 := by kernel_rfl
theorem zok125 : ZOk Tryd.prog 125 (.c [.v .nilIface]) = True := eq_true ⟨.nilIface, by kernel_rfl, fun _ => by first | rfl | simp [Value.cells, Cont.vals, arr8, arr32, arr64]⟩
theorem zv125 : ZVal Tryd.prog 125 (.a (.v (.nilIface))) = True := eq_true ⟨.nilIface, by kernel_rfl, fun _ => by first | rfl | simp [Sc.val, At.val, arr8, arr32, arr64]⟩
theorem sz126 : sz Tryd.prog 126 = 1 := by kernel_rfl
theorem bz126 : bz Tryd.prog 126 = 24 := by kernel_rfl
theorem zok126 : ZOk Tryd.prog 126 (.c [.v (.slice none 0 0)]) = True := eq_true ⟨.slice none 0 0, by kernel_rfl, fun _ => by first | rfl | simp [Value.cells, Cont.vals, arr8, arr32, arr64]⟩
theorem zv126 : ZVal Tryd.prog 126 (.a (.v (.slice none 0 0))) = True := eq_true ⟨.slice none 0 0, by kernel_rfl, fun _ => by first | rfl | simp [Sc.val, At.val, arr8, arr32, arr64]⟩
theorem sz130 : sz Tryd.prog 130 = 20 := by kernel_rfl
theorem bz130 : bz Tryd.prog 130 = 160 := by kernel_rfl
theorem aeq130 : arrEq Tryd.prog 130 20 .u64 = True := eq_true ⟨47, Tryd.underlying130, Tryd.underlying47, by kernel_rfl, by kernel_rfl, by kernel_rfl⟩
theorem zok130 : ZOk Tryd.prog 130 (.u64 (List.replicate 20 0)) = True := eq_true ⟨.agg (arr64 (List.replicate 20 0)), by kernel_rfl, fun _ => by first | rfl | simp [Value.cells, Cont.vals, arr8, arr32, arr64]⟩
theorem zv130 : ZVal Tryd.prog 130 (.a64 (List.replicate 20 0)) = True := eq_true ⟨.agg (arr64 (List.replicate 20 0)), by kernel_rfl, fun _ => by first | rfl | simp [Sc.val, At.val, arr8, arr32, arr64]⟩
theorem sz131 : sz Tryd.prog 131 = 65 := by kernel_rfl
theorem bz131 : bz Tryd.prog 131 = 65 := by kernel_rfl
theorem aeq131 : arrEq Tryd.prog 131 65 .u8 = True := eq_true ⟨5, Tryd.underlying131, Tryd.underlying5, by kernel_rfl, by kernel_rfl, by kernel_rfl⟩
theorem zok131 : ZOk Tryd.prog 131 (.u8 (List.replicate 65 0)) = True := eq_true ⟨.agg (arr8 (List.replicate 65 0)), by kernel_rfl, fun _ => by first | rfl | simp [Value.cells, Cont.vals, arr8, arr32, arr64]⟩
theorem zv131 : ZVal Tryd.prog 131 (.a8 (List.replicate 65 0)) = True := eq_true ⟨.agg (arr8 (List.replicate 65 0)), by kernel_rfl, fun _ => by first | rfl | simp [Sc.val, At.val, arr8, arr32, arr64]⟩
theorem sz135 : sz Tryd.prog 135 = 64 := by kernel_rfl
theorem bz135 : bz Tryd.prog 135 = 64 := by kernel_rfl
theorem aeq135 : arrEq Tryd.prog 135 64 .u8 = True := eq_true ⟨5, Tryd.underlying135, Tryd.underlying5, by kernel_rfl, by kernel_rfl, by kernel_rfl⟩
theorem zok135 : ZOk Tryd.prog 135 (.u8 (List.replicate 64 0)) = True := eq_true ⟨.agg (arr8 (List.replicate 64 0)), by kernel_rfl, fun _ => by first | rfl | simp [Value.cells, Cont.vals, arr8, arr32, arr64]⟩
theorem zv135 : ZVal Tryd.prog 135 (.a8 (List.replicate 64 0)) = True := eq_true ⟨.agg (arr8 (List.replicate 64 0)), by kernel_rfl, fun _ => by first | rfl | simp [Sc.val, At.val, arr8, arr32, arr64]⟩
theorem sz145 : sz Tryd.prog 145 = 8 := by kernel_rfl
theorem bz145 : bz Tryd.prog 145 = 32 := by kernel_rfl
theorem aeq145 : arrEq Tryd.prog 145 8 .u32 = True := eq_true ⟨46, Tryd.underlying145, Tryd.underlying46, by kernel_rfl, by kernel_rfl, by kernel_rfl⟩
theorem zok145 : ZOk Tryd.prog 145 (.u32 (List.replicate 8 0)) = True := eq_true ⟨.agg (arr32 (List.replicate 8 0)), by kernel_rfl, fun _ => by first | rfl | simp [Value.cells, Cont.vals, arr8, arr32, arr64]⟩
theorem zv145 : ZVal Tryd.prog 145 (.a32 (List.replicate 8 0)) = True := eq_true ⟨.agg (arr32 (List.replicate 8 0)), by kernel_rfl, fun _ => by first | rfl | simp [Sc.val, At.val, arr8, arr32, arr64]⟩
theorem sz151 : sz Tryd.prog 151 = 64 := by kernel_rfl
theorem bz151 : bz Tryd.prog 151 = 256 := by kernel_rfl
theorem aeq151 : arrEq Tryd.prog 151 64 .u32 = True := eq_true ⟨46, Tryd.underlying151, Tryd.underlying46, by kernel_rfl, by kernel_rfl, by kernel_rfl⟩
theorem zok151 : ZOk Tryd.prog 151 (.u32 (List.replicate 64 0)) = True := eq_true ⟨.agg (arr32 (List.replicate 64 0)), by kernel_rfl, fun _ => by first | rfl | simp [Value.cells, Cont.vals, arr8, arr32, arr64]⟩
theorem zv151 : ZVal Tryd.prog 151 (.a32 (List.replicate 64 0)) = True := eq_true ⟨.agg (arr32 (List.replicate 64 0)), by kernel_rfl, fun _ => by first | rfl | simp [Sc.val, At.val, arr8, arr32, arr64]⟩
theorem sz169 : sz Tryd.prog 169 = 1 := by kernel_rfl
theorem bz169 : bz Tryd.prog 169 = 8 := by kernel_rfl
theorem zok169 : ZOk Tryd.prog 169 (.c [.v (.pointer none)]) = True := eq_true ⟨.pointer none, by kernel_rfl, fun _ => by first | rfl | simp [Value.cells, Cont.vals, arr8, arr32, arr64]⟩
theorem zv169 : ZVal Tryd.prog 169 (.a (.v (.pointer none))) = True := eq_true ⟨.pointer none, by kernel_rfl, fun _ => by first | rfl | simp [Sc.val, At.val, arr8, arr32, arr64]⟩
theorem sz171 : sz Tryd.prog 171 = 1 := by kernel_rfl
theorem bz171 : bz Tryd.prog 171 = 2 := by kernel_rfl
theorem zok171 : ZOk Tryd.prog 171 (.c [.v (.int .u16 0)]) = True := eq_true ⟨.int .u16 0, by kernel_rfl, fun _ => by first | rfl | simp [Value.cells, Cont.vals, arr8, arr32, arr64]⟩
theorem zv171 : ZVal Tryd.prog 171 (.a (.v (.int .u16 0))) = True := eq_true ⟨.int .u16 0, by kernel_rfl, fun _ => by first | rfl | simp [Sc.val, At.val, arr8, arr32, arr64]⟩
theorem sz178 : sz Tryd.prog 178 = 1 := by kernel_rfl
theorem bz178 : bz Tryd.prog 178 = 8 := by kernel_rfl
theorem zok178 : ZOk Tryd.prog 178 (.c [.v (.pointer none)]) = True := eq_true ⟨.pointer none, by kernel_rfl, fun _ => by first | rfl | simp [Value.cells, Cont.vals, arr8, arr32, arr64]⟩
theorem zv178 : ZVal Tryd.prog 178 (.a (.v (.pointer none))) = True := eq_true ⟨.pointer none, by kernel_rfl, fun _ => by first | rfl | simp [Sc.val, At.val, arr8, arr32, arr64]⟩
theorem cb3 : Callable Tryd.prog 3 := callable_of Tryd.func3 (by kernel_rfl) rfl
theorem cb4 : Callable Tryd.prog 4 := callable_of Tryd.func4 (by kernel_rfl) rfl
theorem cb5 : Callable Tryd.prog 5 := callable_of Tryd.func5 (by kernel_rfl) rfl
theorem cb6 : Callable Tryd.prog 6 := callable_of Tryd.func6 (by kernel_rfl) rfl
theorem cb7 : Callable Tryd.prog 7 := callable_of Tryd.func7 (by kernel_rfl) rfl
theorem cb8 : Callable Tryd.prog 8 := callable_of Tryd.func8 (by kernel_rfl) rfl
theorem cb9 : Callable Tryd.prog 9 := callable_of Tryd.func9 (by kernel_rfl) rfl
theorem cb10 : Callable Tryd.prog 10 := callable_of Tryd.func10 (by kernel_rfl) rfl
theorem cb11 : Callable Tryd.prog 11 := callable_of Tryd.func11 (by kernel_rfl) rfl
theorem cb12 : Callable Tryd.prog 12 := callable_of Tryd.func12 (by kernel_rfl) rfl
theorem cb13 : Callable Tryd.prog 13 := callable_of Tryd.func13 (by kernel_rfl) rfl
theorem cb14 : Callable Tryd.prog 14 := callable_of Tryd.func14 (by kernel_rfl) rfl
theorem cb15 : Callable Tryd.prog 15 := callable_of Tryd.func15 (by kernel_rfl) rfl
theorem cb16 : Callable Tryd.prog 16 := callable_of Tryd.func16 (by kernel_rfl) rfl
theorem cb17 : Callable Tryd.prog 17 := callable_of Tryd.func17 (by kernel_rfl) rfl
theorem cb18 : Callable Tryd.prog 18 := callable_of Tryd.func18 (by kernel_rfl) rfl
theorem cb19 : Callable Tryd.prog 19 := callable_of Tryd.func19 (by kernel_rfl) rfl
theorem cb20 : Callable Tryd.prog 20 := callable_of Tryd.func20 (by kernel_rfl) rfl
theorem cb21 : Callable Tryd.prog 21 := callable_of Tryd.func21 (by kernel_rfl) rfl
theorem cb22 : Callable Tryd.prog 22 := callable_of Tryd.func22 (by kernel_rfl) rfl
theorem cb23 : Callable Tryd.prog 23 := callable_of Tryd.func23 (by kernel_rfl) rfl
theorem cb24 : Callable Tryd.prog 24 := callable_of Tryd.func24 (by kernel_rfl) rfl
theorem cb25 : Callable Tryd.prog 25 := callable_of Tryd.func25 (by kernel_rfl) rfl
theorem cb26 : Callable Tryd.prog 26 := callable_of Tryd.func26 (by kernel_rfl) rfl
theorem cb27 : Callable Tryd.prog 27 := callable_of Tryd.func27 (by kernel_rfl) rfl
theorem cb28 : Callable Tryd.prog 28 := callable_of Tryd.func28 (by kernel_rfl) rfl
theorem cb29 : Callable Tryd.prog 29 := callable_of Tryd.func29 (by kernel_rfl) rfl
theorem cb30 : Callable Tryd.prog 30 := callable_of Tryd.func30 (by kernel_rfl) rfl
theorem cb31 : Callable Tryd.prog 31 := callable_of Tryd.func31 (by kernel_rfl) rfl
theorem cb32 : Callable Tryd.prog 32 := callable_of Tryd.func32 (by kernel_rfl) rfl
theorem cb33 : Callable Tryd.prog 33 := callable_of Tryd.func33 (by kernel_rfl) rfl
theorem cb34 : Callable Tryd.prog 34 := callable_of Tryd.func34 (by kernel_rfl) rfl
theorem cb35 : Callable Tryd.prog 35 := callable_of Tryd.func35 (by kernel_rfl) rfl
theorem cb36 : Callable Tryd.prog 36 := callable_of Tryd.func36 (by kernel_rfl) rfl
theorem cb37 : Callable Tryd.prog 37 := callable_of Tryd.func37 (by kernel_rfl) rfl
theorem cb43 : Callable Tryd.prog 43 := callable_of Tryd.func43 (by kernel_rfl) rfl
theorem cb44 : Callable Tryd.prog 44 := callable_of Tryd.func44 (by kernel_rfl) rfl
theorem cb45 : Callable Tryd.prog 45 := callable_of Tryd.func45 (by kernel_rfl) rfl
theorem cb46 : Callable Tryd.prog 46 := callable_of Tryd.func46 (by kernel_rfl) rfl
theorem cb47 : Callable Tryd.prog 47 := callable_of Tryd.func47 (by kernel_rfl) rfl
theorem cb59 : Callable Tryd.prog 59 := callable_of Tryd.func59 (by kernel_rfl) rfl
theorem cb60 : Callable Tryd.prog 60 := callable_of Tryd.func60 (by kernel_rfl) rfl
theorem cb65 : Callable Tryd.prog 65 := callable_of Tryd.func65 (by kernel_rfl) rfl
theorem cb68 : Callable Tryd.prog 68 := callable_of Tryd.func68 (by kernel_rfl) rfl
theorem cb71 : Callable Tryd.prog 71 := callable_of Tryd.func71 (by kernel_rfl) rfl
theorem cb72 : Callable Tryd.prog 72 := callable_of Tryd.func72 (by kernel_rfl) rfl
theorem cb73 : Callable Tryd.prog 73 := callable_of Tryd.func73 (by kernel_rfl) rfl
theorem cb74 : Callable Tryd.prog 74 := callable_of Tryd.func74 (by kernel_rfl) rfl
theorem cb75 : Callable Tryd.prog 75 := callable_of Tryd.func75 (by kernel_rfl) rfl
theorem cb76 : Callable Tryd.prog 76 := callable_of Tryd.func76 (by kernel_rfl) rfl
theorem cb77 : Callable Tryd.prog 77 := callable_of Tryd.func77 (by kernel_rfl) rfl
theorem cb78 : Callable Tryd.prog 78 := callable_of Tryd.func78 (by kernel_rfl) rfl
theorem cb79 : Callable Tryd.prog 79 := callable_of Tryd.func79 (by kernel_rfl) rfl
theorem cb80 : Callable Tryd.prog 80 := callable_of Tryd.func80 (by kernel_rfl) rfl
theorem cb81 : Callable Tryd.prog 81 := callable_of Tryd.func81 (by kernel_rfl) rfl
theorem cb82 : Callable Tryd.prog 82 := callable_of Tryd.func82 (by kernel_rfl) rfl
theorem cb83 : Callable Tryd.prog 83 := callable_of Tryd.func83 (by kernel_rfl) rfl
theorem cb84 : Callable Tryd.prog 84 := callable_of Tryd.func84 (by kernel_rfl) rfl
theorem cb85 : Callable Tryd.prog 85 := callable_of Tryd.func85 (by kernel_rfl) rfl
theorem cb86 : Callable Tryd.prog 86 := callable_of Tryd.func86 (by kernel_rfl) rfl
theorem cb87 : Callable Tryd.prog 87 := callable_of Tryd.func87 (by kernel_rfl) rfl
theorem cb88 : Callable Tryd.prog 88 := callable_of Tryd.func88 (by kernel_rfl) rfl
attribute [push_cast] stepO_if needB repsL splice Cont.piece mpBnd_nil mpBnd_cons mpRen_nil mpRen_cons intsOf eqB mkmS lookS updS lookI putI lookV lookR rawM_nil lookX_nil zeroSc bsA bsN partsN List.flatten_cons List.flatten_nil baseN appN rawL rawOks capsS mkfS bview bput litS bytS strS mkS zerosN rngS nxtS mmS cmpI elemK cont8_map cont32_map cont64_map take_f8 drop_f8 take_f32 drop_f32 take_f64 drop_f64 getD_app getD_f8 forall_f8 take_app drop_app List.forall_mem_append buildS setPart zeroAt zerosOf zeroCont argFr allNe ndup symC_seq symC_region symC_block symC_loop symC_draw symC_cond symC_skip symC_exit symC_ret then_normal then_exit then_ret inB_normal inB_ret inB_exit symR_cons symR_nil symM_cons symM_nil symP_nil symP_rd symP_wr symP_fk symP_f3 stepP takes isRead isCall dOk yieldS op1 S.put Fr.put Fr.ev Fr.get ev1 ev2 ev3 S.bnd Sv.bnd Sc.bnd At.bnd Res.bnd Cont.bnd nil1 val1 ret1 neg1 boxS binS binN binI bin8 bin32 bin64 shS ban unS nilEq eqS litO cvtS cvtN pickS loadS storeS idxS indexS sliceS bnds fieldS fieldAddrS extrS nilS ifcS lenS bsS parts contOf cont8 cont32 cont64 contI callS appS appS.zero1 appS.zeroN baseS srcS joinC clen setGone flat aggr isOwn isOne At.scalar scalar At.one Value.oneCell' Sc.cont Cont.cut Cont.part Cont.app Cont.len Cont.plain Cont.get Cont.set Cont.over Cont.whole toU8_n8 toU32_n32 toU64_n64 inU8_n8 inU32_n32 inU64_n64 toU8_lit toU32_lit toU64_lit inU8_lit inU32_lit inU64_lit loopK_exit loopK_ret Le leFr leHp Sv.ren Sc.ren At.ren Res.ren Cont.ren rn Fin resS outS evs ownT ownT2 inI64 maxLen Int.toNat_natCast Int.toNat_zero Nat.zero_add Nat.add_zero Nat.mul_one List.length_cons List.length_nil List.length_append List.length_map List.length_set List.length_replicate List.cons_append List.nil_append List.append_nil List.map_append List.getElem?_cons_zero List.getElem?_cons_succ List.getElem?_nil List.set_cons_zero List.set_cons_succ List.getD_cons_zero List.getD_cons_succ List.take_succ_cons List.take_zero List.drop_zero List.drop_succ_cons List.map_cons List.map_nil List.forall_mem_cons List.not_mem_nil List.reverse_cons List.toList_toArray Option.isSome_some Option.isNone_some Option.isNone_none false_implies implies_true true_implies forall_const true_and and_true and_self not_false_eq_true not_true_eq_false ne_eq or_false false_or or_true true_or or_self Nat.lt_irrefl Nat.le_refl Bool.false_eq_true Bool.true_eq_false Bool.not_true Bool.not_false Bool.or_true Bool.or_false Bool.and_true Bool.and_false Bool.true_and Bool.false_and decide_true decide_false eq_self gt_iff_lt ge_iff_le if_true if_false Option.some.injEq Prod.mk.injEq Sv.x.injEq Sc.a.injEq At.v.injEq At.o.injEq At.p.injEq Res.blk.injEq Res.own.injEq Value.int.injEq Value.bool.injEq Cont.u8.injEq Cont.u32.injEq Cont.u64.injEq Cont.c.injEq Cont.i64.injEq List.cons.injEq symK_cons symK_nil wantS stepRd maskR_cons maskR_nil List.set_nil
attribute [push_cast] Tryd.underlying2 sz2 bz2 zok2 zv2 Tryd.underlying3 sz3 bz3 zok3 zv3 Tryd.underlying4 sz4 bz4 zok4 zv4 Tryd.underlying5 sz5 bz5 zok5 zv5 Tryd.underlying9 sz9 bz9 zok9 zv9 Tryd.underlying12 sz12 bz12 zok12 zv12 Tryd.underlying13 sz13 bz13 fo13_0 fo13_1 zok13 zv13 Tryd.underlying15 sz15 bz15 zok15 zv15 Tryd.underlying16 sz16 bz16 zok16 zv16 Tryd.underlying17 sz17 bz17 zok17 zv17 Tryd.underlying20 sz20 bz20 zok20 zv20 Tryd.underlying21 sz21 bz21 zok21 zv21 Tryd.underlying22 sz22 bz22 zok22 zv22 Tryd.underlying23 sz23 bz23 zok23 zv23 Tryd.underlying24 sz24 bz24 zok24 zv24 Tryd.underlying25 sz25 bz25 zok25 zv25 Tryd.underlying32 sz32 bz32 fo32_0 fo32_1 fo32_2 fo32_3 zok32 zv32 Tryd.underlying33 sz33 bz33 fo33_0 fo33_1 fo33_2 fo33_3 zok33 zv33 Tryd.underlying34 sz34 bz34 fo34_0 fo34_1 fo34_2 fo34_3 zok34 zv34 Tryd.underlying35 sz35 bz35 fo35_0 fo35_1 fo35_2 fo35_3 zok35 zv35 Tryd.underlying36 sz36 bz36 fo36_0 fo36_1 fo36_2 fo36_3 zok36 zv36 Tryd.underlying37 sz37 bz37 fo37_0 fo37_1 fo37_2 fo37_3 zok37 zv37 Tryd.underlying46 sz46 bz46 zok46 zv46 Tryd.underlying47 sz47 bz47 zok47 zv47 Tryd.underlying48 sz48 bz48 aeq48 Tryd.underlying49 sz49 bz49 zok49 zv49 Tryd.underlying50 sz50 bz50 fo50_0 fo50_1 fo50_2 fo50_3 zok50 zv50 Tryd.underlying51 sz51 bz51 fo51_0 fo51_1 fo51_2 fo51_3 zok51 zv51 Tryd.underlying52 sz52 bz52 zok52 zv52 Tryd.underlying53 sz53 bz53 zok53 zv53 Tryd.underlying56 sz56 bz56 fo56_0 fo56_1 fo56_2 fo56_3 zok56 zv56 Tryd.underlying62 sz62 bz62 aeq62 zok62 zv62 Tryd.underlying68 sz68 bz68 zok68 zv68 Tryd.underlying74 sz74 bz74 zok74 zv74 Tryd.underlying80 sz80 bz80 zok80 zv80 Tryd.underlying81 sz81 bz81 zok81 zv81 Tryd.underlying82 sz82 bz82 zok82 zv82 Tryd.underlying83 sz83 bz83 fo83_0 fo83_1 zok83 zv83 Tryd.underlying84 sz84 bz84 fo84_0 fo84_1 zok84 zv84 Tryd.underlying89 sz89 bz89 aeq89 zok89 zv89 Tryd.underlying91 sz91 bz91 zok91 zv91 Tryd.underlying106 sz106 bz106 aeq106 zok106 zv106 Tryd.underlying111 sz111 bz111 zok111 zv111 Tryd.underlying112 sz112 bz112 aeq112 zok112 zv112 Tryd.underlying115 sz115 bz115 fo115_0 zok115 zv115 Tryd.underlying116 sz116 bz116 zok116 zv116 Tryd.underlying120 sz120 bz120 zok120 zv120 Tryd.underlying123 sz123 bz123 zok123 zv123 Tryd.underlying125 sz125 bz125 zok125 zv125 Tryd.underlying126 sz126 bz126 zok126 zv126 Tryd.underlying130 sz130 bz130 aeq130 zok130 zv130 Tryd.underlying131 sz131 bz131 aeq131 zok131 zv131 Tryd.underlying135 sz135 bz135 aeq135 zok135 zv135 Tryd.underlying145 sz145 bz145 aeq145 zok145 zv145 Tryd.underlying151 sz151 bz151 aeq151 zok151 zv151 Tryd.underlying169 sz169 bz169 zok169 zv169 Tryd.underlying171 sz171 bz171 zok171 zv171 Tryd.underlying178 sz178 bz178 zok178 zv178
attribute [push_cast] Tryd.results3 Tryd.results4 Tryd.results5 Tryd.results6 Tryd.results7 Tryd.results8 Tryd.results9 Tryd.results10 Tryd.results11 Tryd.results12 Tryd.results13 Tryd.results14 Tryd.results15 Tryd.results16 Tryd.results17 Tryd.results18 Tryd.results19 Tryd.results20 Tryd.results21 Tryd.results22 Tryd.results23 Tryd.results24 Tryd.results25 Tryd.results26 Tryd.results27 Tryd.results28 Tryd.results29 Tryd.results30 Tryd.results31 Tryd.results32 Tryd.results33 Tryd.results34 Tryd.results35 Tryd.results37 Tryd.results43 Tryd.results44 Tryd.results45 Tryd.results46 Tryd.results47 Tryd.results59 Tryd.results60 Tryd.results65 Tryd.results68 Tryd.results71 Tryd.results72 Tryd.results73 Tryd.results74 Tryd.results75 Tryd.results76 Tryd.results77 Tryd.results78 Tryd.results79 Tryd.results80 Tryd.results81 Tryd.results82 Tryd.results83 Tryd.results84 Tryd.results85 Tryd.results86 Tryd.results87 Tryd.results88
end Go.Proofs.YtohnlajccfnecaaDoor
