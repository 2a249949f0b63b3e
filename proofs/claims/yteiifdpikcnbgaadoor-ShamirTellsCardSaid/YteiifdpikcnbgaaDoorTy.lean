/- Facts on the types of the program, for the engine. Made by program. -/
import Derived.Test.YteiifdpikcnbgaaDoorEn3
import Derived.Test.YteiifdpikcnbgaaDoorProg
namespace Go.Proofs.YteiifdpikcnbgaaDoor
open Go.RowKit
set_option linter.unusedSimpArgs false
theorem sz2 : sz Tryd.prog 2 = 1 := by kernel_rfl
theorem bz2 : bz Tryd.prog 2 = 8 := by kernel_rfl
theorem zok2 : ZOk Tryd.prog 2 (.c [.v (.int .i64 0)]) = True := eq_true ⟨.int .i64 0, by kernel_rfl, fun _ => by first | rfl | simp [Value.cells, Cont.vals, arr8, arr32, arr64]⟩
theorem zv2 : ZVal Tryd.prog 2 (.a (.v (.int .i64 0))) = True := eq_true ⟨.int .i64 0, by kernel_rfl, fun _ => by first | rfl | simp [Sc.val, At.val, arr8, arr32, arr64]⟩
theorem sz3 : sz Tryd.prog 3 = 1 := by kernel_rfl
theorem bz3 : bz Tryd.prog 3 = 8 := by kernel_rfl
theorem zok3 : ZOk Tryd.prog 3 (.c [.v (.int .i64 0)]) = True := eq_true ⟨.int .i64 0, by kernel_rfl, fun _ => by first | rfl | simp [Value.cells, Cont.vals, arr8, arr32, arr64]⟩
theorem zv3 : ZVal Tryd.prog 3 (.a (.v (.int .i64 0))) = True := eq_true ⟨.int .i64 0, by kernel_rfl, fun _ => by first | rfl | simp [Sc.val, At.val, arr8, arr32, arr64]⟩
theorem sz4 : sz Tryd.prog 4 = 1 := by kernel_rfl
theorem bz4 : bz Tryd.prog 4 = 1 := by kernel_rfl
theorem zok4 : ZOk Tryd.prog 4 (.c [.v (.bool false)]) = True := eq_true ⟨.bool false, by kernel_rfl, fun _ => by first | rfl | simp [Value.cells, Cont.vals, arr8, arr32, arr64]⟩
theorem zv4 : ZVal Tryd.prog 4 (.a (.v (.bool false))) = True := eq_true ⟨.bool false, by kernel_rfl, fun _ => by first | rfl | simp [Sc.val, At.val, arr8, arr32, arr64]⟩
theorem sz5 : sz Tryd.prog 5 = 1 := by kernel_rfl
theorem bz5 : bz Tryd.prog 5 = 1 := by kernel_rfl
theorem zok5 : ZOk Tryd.prog 5 (.c [.v (.int .u8 0)]) = True := eq_true ⟨.int .u8 0, by kernel_rfl, fun _ => by first | rfl | simp [Value.cells, Cont.vals, arr8, arr32, arr64]⟩
theorem zv5 : ZVal Tryd.prog 5 (.a (.v (.int .u8 0))) = True := eq_true ⟨.int .u8 0, by kernel_rfl, fun _ => by first | rfl | simp [Sc.val, At.val, arr8, arr32, arr64]⟩
theorem sz9 : sz Tryd.prog 9 = 1 := by kernel_rfl
theorem bz9 : bz Tryd.prog 9 = 16 := by kernel_rfl
theorem zok9 : ZOk Tryd.prog 9 (.c [.v (.string .empty)]) = True := eq_true ⟨.string .empty, by kernel_rfl, fun _ => by first | rfl | simp [Value.cells, Cont.vals, arr8, arr32, arr64]⟩
theorem zv9 : ZVal Tryd.prog 9 (.a (.v (.string .empty))) = True := eq_true ⟨.string .empty, by kernel_rfl, fun _ => by first | rfl | simp [Sc.val, At.val, arr8, arr32, arr64]⟩
theorem sz12 : sz Tryd.prog 12 = 1 := by kernel_rfl
theorem bz12 : bz Tryd.prog 12 = 8 := by kernel_rfl
theorem zok12 : ZOk Tryd.prog 12 (.c [.v (.int .u64 0)]) = True := eq_true ⟨.int .u64 0, by kernel_rfl, fun _ => by first | rfl | simp [Value.cells, Cont.vals, arr8, arr32, arr64]⟩
theorem zv12 : ZVal Tryd.prog 12 (.a (.v (.int .u64 0))) = True := eq_true ⟨.int .u64 0, by kernel_rfl, fun _ => by first | rfl | simp [Sc.val, At.val, arr8, arr32, arr64]⟩
theorem sz13 : sz Tryd.prog 13 = 2 := by kernel_rfl
theorem bz13 : bz Tryd.prog 13 = 24 := by kernel_rfl
theorem fo13_0 : fieldOff Tryd.prog 13 0 = some (0, 9) := by kernel_rfl
theorem fo13_1 : fieldOff Tryd.prog 13 1 = some (1, 12) := by kernel_rfl
theorem zok13 : ZOk Tryd.prog 13 (.c [.v (.string .empty), .v (.int .u64 0)]) = True := eq_true ⟨.agg #[.string .empty, .int .u64 0], by kernel_rfl, fun _ => by first | rfl | simp [Value.cells, Cont.vals, arr8, arr32, arr64]⟩
theorem zv13 : ZVal Tryd.prog 13 (.g [.v (.string .empty), .v (.int .u64 0)]) = True := eq_true ⟨.agg #[.string .empty, .int .u64 0], by kernel_rfl, fun _ => by first | rfl | simp [Sc.val, At.val, arr8, arr32, arr64]⟩
theorem sz15 : sz Tryd.prog 15 = 1 := by kernel_rfl
theorem bz15 : bz Tryd.prog 15 = 8 := by kernel_rfl
theorem zok15 : ZOk Tryd.prog 15 (.c [.v (.pointer none)]) = True := eq_true ⟨.pointer none, by kernel_rfl, fun _ => by first | rfl | simp [Value.cells, Cont.vals, arr8, arr32, arr64]⟩
theorem zv15 : ZVal Tryd.prog 15 (.a (.v (.pointer none))) = True := eq_true ⟨.pointer none, by kernel_rfl, fun _ => by first | rfl | simp [Sc.val, At.val, arr8, arr32, arr64]⟩
theorem sz16 : sz Tryd.prog 16 = 1 := by kernel_rfl
theorem bz16 : bz Tryd.prog 16 = 8 := by kernel_rfl
theorem zok16 : ZOk Tryd.prog 16 (.c [.v (.pointer none)]) = True := eq_true ⟨.pointer none, by kernel_rfl, fun _ => by first | rfl | simp [Value.cells, Cont.vals, arr8, arr32, arr64]⟩
theorem zv16 : ZVal Tryd.prog 16 (.a (.v (.pointer none))) = True := eq_true ⟨.pointer none, by kernel_rfl, fun _ => by first | rfl | simp [Sc.val, At.val, arr8, arr32, arr64]⟩
theorem sz17 : sz Tryd.prog 17 = 1 := by kernel_rfl
theorem bz17 : bz Tryd.prog 17 = 8 := by kernel_rfl
theorem zok17 : ZOk Tryd.prog 17 (.c [.v (.pointer none)]) = True := eq_true ⟨.pointer none, by kernel_rfl, fun _ => by first | rfl | simp [Value.cells, Cont.vals, arr8, arr32, arr64]⟩
theorem zv17 : ZVal Tryd.prog 17 (.a (.v (.pointer none))) = True := eq_true ⟨.pointer none, by kernel_rfl, fun _ => by first | rfl | simp [Sc.val, At.val, arr8, arr32, arr64]⟩
theorem sz20 : sz Tryd.prog 20 = 1 := by kernel_rfl
theorem bz20 : bz Tryd.prog 20 = 16 := by kernel_rfl
theorem zok20 : ZOk Tryd.prog 20 (.c [.v .nilIface]) = True := eq_true ⟨.nilIface, by kernel_rfl, fun _ => by first | rfl | simp [Value.cells, Cont.vals, arr8, arr32, arr64]⟩
theorem zv20 : ZVal Tryd.prog 20 (.a (.v (.nilIface))) = True := eq_true ⟨.nilIface, by kernel_rfl, fun _ => by first | rfl | simp [Sc.val, At.val, arr8, arr32, arr64]⟩
theorem sz21 : sz Tryd.prog 21 = 1 := by kernel_rfl
theorem bz21 : bz Tryd.prog 21 = 4 := by kernel_rfl
theorem zok21 : ZOk Tryd.prog 21 (.c [.v (.int .i32 0)]) = True := eq_true ⟨.int .i32 0, by kernel_rfl, fun _ => by first | rfl | simp [Value.cells, Cont.vals, arr8, arr32, arr64]⟩
theorem zv21 : ZVal Tryd.prog 21 (.a (.v (.int .i32 0))) = True := eq_true ⟨.int .i32 0, by kernel_rfl, fun _ => by first | rfl | simp [Sc.val, At.val, arr8, arr32, arr64]⟩
theorem sz22 : sz Tryd.prog 22 = 1 := by kernel_rfl
theorem bz22 : bz Tryd.prog 22 = 24 := by kernel_rfl
theorem zok22 : ZOk Tryd.prog 22 (.c [.v (.slice none 0 0)]) = True := eq_true ⟨.slice none 0 0, by kernel_rfl, fun _ => by first | rfl | simp [Value.cells, Cont.vals, arr8, arr32, arr64]⟩
theorem zv22 : ZVal Tryd.prog 22 (.a (.v (.slice none 0 0))) = True := eq_true ⟨.slice none 0 0, by kernel_rfl, fun _ => by first | rfl | simp [Sc.val, At.val, arr8, arr32, arr64]⟩
theorem sz23 : sz Tryd.prog 23 = 1 := by kernel_rfl
theorem bz23 : bz Tryd.prog 23 = 8 := by kernel_rfl
theorem zok23 : ZOk Tryd.prog 23 (.c [.v (.int .u64 0)]) = True := eq_true ⟨.int .u64 0, by kernel_rfl, fun _ => by first | rfl | simp [Value.cells, Cont.vals, arr8, arr32, arr64]⟩
theorem zv23 : ZVal Tryd.prog 23 (.a (.v (.int .u64 0))) = True := eq_true ⟨.int .u64 0, by kernel_rfl, fun _ => by first | rfl | simp [Sc.val, At.val, arr8, arr32, arr64]⟩
theorem sz24 : sz Tryd.prog 24 = 1 := by kernel_rfl
theorem bz24 : bz Tryd.prog 24 = 24 := by kernel_rfl
theorem zok24 : ZOk Tryd.prog 24 (.c [.v (.slice none 0 0)]) = True := eq_true ⟨.slice none 0 0, by kernel_rfl, fun _ => by first | rfl | simp [Value.cells, Cont.vals, arr8, arr32, arr64]⟩
theorem zv24 : ZVal Tryd.prog 24 (.a (.v (.slice none 0 0))) = True := eq_true ⟨.slice none 0 0, by kernel_rfl, fun _ => by first | rfl | simp [Sc.val, At.val, arr8, arr32, arr64]⟩
theorem sz25 : sz Tryd.prog 25 = 1 := by kernel_rfl
theorem bz25 : bz Tryd.prog 25 = 24 := by kernel_rfl
theorem zok25 : ZOk Tryd.prog 25 (.c [.v (.slice none 0 0)]) = True := eq_true ⟨.slice none 0 0, by kernel_rfl, fun _ => by first | rfl | simp [Value.cells, Cont.vals, arr8, arr32, arr64]⟩
theorem zv25 : ZVal Tryd.prog 25 (.a (.v (.slice none 0 0))) = True := eq_true ⟨.slice none 0 0, by kernel_rfl, fun _ => by first | rfl | simp [Sc.val, At.val, arr8, arr32, arr64]⟩
theorem sz26 : sz Tryd.prog 26 = 8 := by kernel_rfl
theorem bz26 : bz Tryd.prog 26 = 128 := by kernel_rfl
theorem fo26_0 : fieldOff Tryd.prog 26 0 = some (0, 3) := by kernel_rfl
theorem fo26_1 : fieldOff Tryd.prog 26 1 = some (1, 22) := by kernel_rfl
theorem fo26_2 : fieldOff Tryd.prog 26 2 = some (2, 23) := by kernel_rfl
theorem fo26_3 : fieldOff Tryd.prog 26 3 = some (3, 23) := by kernel_rfl
theorem fo26_4 : fieldOff Tryd.prog 26 4 = some (4, 24) := by kernel_rfl
theorem fo26_5 : fieldOff Tryd.prog 26 5 = some (5, 25) := by kernel_rfl
theorem fo26_6 : fieldOff Tryd.prog 26 6 = some (6, 25) := by kernel_rfl
theorem fo26_7 : fieldOff Tryd.prog 26 7 = some (7, 3) := by kernel_rfl
theorem zok26 : ZOk Tryd.prog 26 (.c [.v (.int .i64 0), .v (.slice none 0 0), .v (.int .u64 0), .v (.int .u64 0), .v (.slice none 0 0), .v (.slice none 0 0), .v (.slice none 0 0), .v (.int .i64 0)]) = True := eq_true ⟨.agg #[.int .i64 0, .slice none 0 0, .int .u64 0, .int .u64 0, .slice none 0 0, .slice none 0 0, .slice none 0 0, .int .i64 0], by kernel_rfl, fun _ => by first | rfl | simp [Value.cells, Cont.vals, arr8, arr32, arr64]⟩
theorem zv26 : ZVal Tryd.prog 26 (.g [.v (.int .i64 0), .v (.slice none 0 0), .v (.int .u64 0), .v (.int .u64 0), .v (.slice none 0 0), .v (.slice none 0 0), .v (.slice none 0 0), .v (.int .i64 0)]) = True := eq_true ⟨.agg #[.int .i64 0, .slice none 0 0, .int .u64 0, .int .u64 0, .slice none 0 0, .slice none 0 0, .slice none 0 0, .int .i64 0], by kernel_rfl, fun _ => by first | rfl | simp [Sc.val, At.val, arr8, arr32, arr64]⟩
theorem sz27 : sz Tryd.prog 27 = 8 := by kernel_rfl
theorem bz27 : bz Tryd.prog 27 = 128 := by kernel_rfl
theorem fo27_0 : fieldOff Tryd.prog 27 0 = some (0, 3) := by kernel_rfl
theorem fo27_1 : fieldOff Tryd.prog 27 1 = some (1, 22) := by kernel_rfl
theorem fo27_2 : fieldOff Tryd.prog 27 2 = some (2, 23) := by kernel_rfl
theorem fo27_3 : fieldOff Tryd.prog 27 3 = some (3, 23) := by kernel_rfl
theorem fo27_4 : fieldOff Tryd.prog 27 4 = some (4, 24) := by kernel_rfl
theorem fo27_5 : fieldOff Tryd.prog 27 5 = some (5, 25) := by kernel_rfl
theorem fo27_6 : fieldOff Tryd.prog 27 6 = some (6, 25) := by kernel_rfl
theorem fo27_7 : fieldOff Tryd.prog 27 7 = some (7, 3) := by kernel_rfl
theorem zok27 : ZOk Tryd.prog 27 (.c [.v (.int .i64 0), .v (.slice none 0 0), .v (.int .u64 0), .v (.int .u64 0), .v (.slice none 0 0), .v (.slice none 0 0), .v (.slice none 0 0), .v (.int .i64 0)]) = True := eq_true ⟨.agg #[.int .i64 0, .slice none 0 0, .int .u64 0, .int .u64 0, .slice none 0 0, .slice none 0 0, .slice none 0 0, .int .i64 0], by kernel_rfl, fun _ => by first | rfl | simp [Value.cells, Cont.vals, arr8, arr32, arr64]⟩
theorem zv27 : ZVal Tryd.prog 27 (.g [.v (.int .i64 0), .v (.slice none 0 0), .v (.int .u64 0), .v (.int .u64 0), .v (.slice none 0 0), .v (.slice none 0 0), .v (.slice none 0 0), .v (.int .i64 0)]) = True := eq_true ⟨.agg #[.int .i64 0, .slice none 0 0, .int .u64 0, .int .u64 0, .slice none 0 0, .slice none 0 0, .slice none 0 0, .int .i64 0], by kernel_rfl, fun _ => by first | rfl | simp [Sc.val, At.val, arr8, arr32, arr64]⟩
theorem sz28 : sz Tryd.prog 28 = 1 := by kernel_rfl
theorem bz28 : bz Tryd.prog 28 = 24 := by kernel_rfl
theorem zok28 : ZOk Tryd.prog 28 (.c [.v (.slice none 0 0)]) = True := eq_true ⟨.slice none 0 0, by kernel_rfl, fun _ => by first | rfl | simp [Value.cells, Cont.vals, arr8, arr32, arr64]⟩
theorem zv28 : ZVal Tryd.prog 28 (.a (.v (.slice none 0 0))) = True := eq_true ⟨.slice none 0 0, by kernel_rfl, fun _ => by first | rfl | simp [Sc.val, At.val, arr8, arr32, arr64]⟩
theorem sz30 : sz Tryd.prog 30 = 1 := by kernel_rfl
theorem bz30 : bz Tryd.prog 30 = 16 := by kernel_rfl
theorem zok30 : ZOk Tryd.prog 30 (.c [.v .nilIface]) = True := eq_true ⟨.nilIface, by kernel_rfl, fun _ => by first | rfl | simp [Value.cells, Cont.vals, arr8, arr32, arr64]⟩
theorem zv30 : ZVal Tryd.prog 30 (.a (.v (.nilIface))) = True := eq_true ⟨.nilIface, by kernel_rfl, fun _ => by first | rfl | simp [Sc.val, At.val, arr8, arr32, arr64]⟩
theorem sz31 : sz Tryd.prog 31 = 1 := by kernel_rfl
theorem bz31 : bz Tryd.prog 31 = 16 := by kernel_rfl
theorem zok31 : ZOk Tryd.prog 31 (.c [.v .nilIface]) = True := eq_true ⟨.nilIface, by kernel_rfl, fun _ => by first | rfl | simp [Value.cells, Cont.vals, arr8, arr32, arr64]⟩
theorem zv31 : ZVal Tryd.prog 31 (.a (.v (.nilIface))) = True := eq_true ⟨.nilIface, by kernel_rfl, fun _ => by first | rfl | simp [Sc.val, At.val, arr8, arr32, arr64]⟩
theorem sz34 : sz Tryd.prog 34 = 1 := by kernel_rfl
theorem bz34 : bz Tryd.prog 34 = 24 := by kernel_rfl
theorem zok34 : ZOk Tryd.prog 34 (.c [.v (.slice none 0 0)]) = True := eq_true ⟨.slice none 0 0, by kernel_rfl, fun _ => by first | rfl | simp [Value.cells, Cont.vals, arr8, arr32, arr64]⟩
theorem zv34 : ZVal Tryd.prog 34 (.a (.v (.slice none 0 0))) = True := eq_true ⟨.slice none 0 0, by kernel_rfl, fun _ => by first | rfl | simp [Sc.val, At.val, arr8, arr32, arr64]⟩
theorem sz41 : sz Tryd.prog 41 = 1 := by kernel_rfl
theorem bz41 : bz Tryd.prog 41 = 8 := by kernel_rfl
theorem zok41 : ZOk Tryd.prog 41 (.c [.v (.map none)]) = True := eq_true ⟨.map none, by kernel_rfl, fun _ => by first | rfl | simp [Value.cells, Cont.vals, arr8, arr32, arr64]⟩
theorem zv41 : ZVal Tryd.prog 41 (.a (.v (.map none))) = True := eq_true ⟨.map none, by kernel_rfl, fun _ => by first | rfl | simp [Sc.val, At.val, arr8, arr32, arr64]⟩
theorem sz48 : sz Tryd.prog 48 = 1 := by kernel_rfl
theorem bz48 : bz Tryd.prog 48 = 24 := by kernel_rfl
theorem zok48 : ZOk Tryd.prog 48 (.c [.v (.slice none 0 0)]) = True := eq_true ⟨.slice none 0 0, by kernel_rfl, fun _ => by first | rfl | simp [Value.cells, Cont.vals, arr8, arr32, arr64]⟩
theorem zv48 : ZVal Tryd.prog 48 (.a (.v (.slice none 0 0))) = True := eq_true ⟨.slice none 0 0, by kernel_rfl, fun _ => by first | rfl | simp [Sc.val, At.val, arr8, arr32, arr64]⟩
theorem sz50 : sz Tryd.prog 50 = 1 := by kernel_rfl
theorem bz50 : bz Tryd.prog 50 = 4 := by kernel_rfl
theorem zok50 : ZOk Tryd.prog 50 (.c [.v (.int .u32 0)]) = True := eq_true ⟨.int .u32 0, by kernel_rfl, fun _ => by first | rfl | simp [Value.cells, Cont.vals, arr8, arr32, arr64]⟩
theorem zv50 : ZVal Tryd.prog 50 (.a (.v (.int .u32 0))) = True := eq_true ⟨.int .u32 0, by kernel_rfl, fun _ => by first | rfl | simp [Sc.val, At.val, arr8, arr32, arr64]⟩
theorem sz51 : sz Tryd.prog 51 = 4 := by kernel_rfl
theorem bz51 : bz Tryd.prog 51 = 16 := by kernel_rfl
theorem aeq51 : arrEq Tryd.prog 51 4 .u32 = True := eq_true ⟨50, Tryd.underlying51, Tryd.underlying50, by kernel_rfl, by kernel_rfl, by kernel_rfl⟩
theorem zok51 : ZOk Tryd.prog 51 (.u32 (List.replicate 4 0)) = True := eq_true ⟨.agg (arr32 (List.replicate 4 0)), by kernel_rfl, fun _ => by first | rfl | simp [Value.cells, Cont.vals, arr8, arr32, arr64]⟩
theorem zv51 : ZVal Tryd.prog 51 (.a32 (List.replicate 4 0)) = True := eq_true ⟨.agg (arr32 (List.replicate 4 0)), by kernel_rfl, fun _ => by first | rfl | simp [Sc.val, At.val, arr8, arr32, arr64]⟩
theorem sz52 : sz Tryd.prog 52 = 7 := by kernel_rfl
theorem bz52 : bz Tryd.prog 52 = 40 := by kernel_rfl
theorem fo52_0 : fieldOff Tryd.prog 52 0 = some (0, 23) := by kernel_rfl
theorem fo52_1 : fieldOff Tryd.prog 52 1 = some (1, 23) := by kernel_rfl
theorem fo52_2 : fieldOff Tryd.prog 52 2 = some (2, 51) := by kernel_rfl
theorem fo52_3 : fieldOff Tryd.prog 52 3 = some (6, 4) := by kernel_rfl
theorem sz53 : sz Tryd.prog 53 = 7 := by kernel_rfl
theorem bz53 : bz Tryd.prog 53 = 40 := by kernel_rfl
theorem fo53_0 : fieldOff Tryd.prog 53 0 = some (0, 23) := by kernel_rfl
theorem fo53_1 : fieldOff Tryd.prog 53 1 = some (1, 23) := by kernel_rfl
theorem fo53_2 : fieldOff Tryd.prog 53 2 = some (2, 51) := by kernel_rfl
theorem fo53_3 : fieldOff Tryd.prog 53 3 = some (6, 4) := by kernel_rfl
theorem sz54 : sz Tryd.prog 54 = 2 := by kernel_rfl
theorem bz54 : bz Tryd.prog 54 = 16 := by kernel_rfl
theorem fo54_0 : fieldOff Tryd.prog 54 0 = some (0, 3) := by kernel_rfl
theorem fo54_1 : fieldOff Tryd.prog 54 1 = some (1, 23) := by kernel_rfl
theorem zok54 : ZOk Tryd.prog 54 (.c [.v (.int .i64 0), .v (.int .u64 0)]) = True := eq_true ⟨.agg #[.int .i64 0, .int .u64 0], by kernel_rfl, fun _ => by first | rfl | simp [Value.cells, Cont.vals, arr8, arr32, arr64]⟩
theorem zv54 : ZVal Tryd.prog 54 (.g [.v (.int .i64 0), .v (.int .u64 0)]) = True := eq_true ⟨.agg #[.int .i64 0, .int .u64 0], by kernel_rfl, fun _ => by first | rfl | simp [Sc.val, At.val, arr8, arr32, arr64]⟩
theorem sz55 : sz Tryd.prog 55 = 2 := by kernel_rfl
theorem bz55 : bz Tryd.prog 55 = 16 := by kernel_rfl
theorem fo55_0 : fieldOff Tryd.prog 55 0 = some (0, 3) := by kernel_rfl
theorem fo55_1 : fieldOff Tryd.prog 55 1 = some (1, 23) := by kernel_rfl
theorem zok55 : ZOk Tryd.prog 55 (.c [.v (.int .i64 0), .v (.int .u64 0)]) = True := eq_true ⟨.agg #[.int .i64 0, .int .u64 0], by kernel_rfl, fun _ => by first | rfl | simp [Value.cells, Cont.vals, arr8, arr32, arr64]⟩
theorem zv55 : ZVal Tryd.prog 55 (.g [.v (.int .i64 0), .v (.int .u64 0)]) = True := eq_true ⟨.agg #[.int .i64 0, .int .u64 0], by kernel_rfl, fun _ => by first | rfl | simp [Sc.val, At.val, arr8, arr32, arr64]⟩
theorem seq55 : StEq Tryd.prog 55 [.i64, .u64] = True := eq_true ⟨by kernel_rfl, by kernel_rfl, by kernel_rfl, by kernel_rfl⟩
theorem sz56 : sz Tryd.prog 56 = 1 := by kernel_rfl
theorem bz56 : bz Tryd.prog 56 = 24 := by kernel_rfl
theorem zok56 : ZOk Tryd.prog 56 (.c [.v (.slice none 0 0)]) = True := eq_true ⟨.slice none 0 0, by kernel_rfl, fun _ => by first | rfl | simp [Value.cells, Cont.vals, arr8, arr32, arr64]⟩
theorem zv56 : ZVal Tryd.prog 56 (.a (.v (.slice none 0 0))) = True := eq_true ⟨.slice none 0 0, by kernel_rfl, fun _ => by first | rfl | simp [Sc.val, At.val, arr8, arr32, arr64]⟩
theorem sz60 : sz Tryd.prog 60 = 3 := by kernel_rfl
theorem bz60 : bz Tryd.prog 60 = 12 := by kernel_rfl
theorem aeq60 : arrEq Tryd.prog 60 3 .u32 = True := eq_true ⟨50, Tryd.underlying60, Tryd.underlying50, by kernel_rfl, by kernel_rfl, by kernel_rfl⟩
theorem zok60 : ZOk Tryd.prog 60 (.u32 (List.replicate 3 0)) = True := eq_true ⟨.agg (arr32 (List.replicate 3 0)), by kernel_rfl, fun _ => by first | rfl | simp [Value.cells, Cont.vals, arr8, arr32, arr64]⟩
theorem zv60 : ZVal Tryd.prog 60 (.a32 (List.replicate 3 0)) = True := eq_true ⟨.agg (arr32 (List.replicate 3 0)), by kernel_rfl, fun _ => by first | rfl | simp [Sc.val, At.val, arr8, arr32, arr64]⟩
theorem sz62 : sz Tryd.prog 62 = 1 := by kernel_rfl
theorem bz62 : bz Tryd.prog 62 = 24 := by kernel_rfl
theorem zok62 : ZOk Tryd.prog 62 (.c [.v (.slice none 0 0)]) = True := eq_true ⟨.slice none 0 0, by kernel_rfl, fun _ => by first | rfl | simp [Value.cells, Cont.vals, arr8, arr32, arr64]⟩
theorem zv62 : ZVal Tryd.prog 62 (.a (.v (.slice none 0 0))) = True := eq_true ⟨.slice none 0 0, by kernel_rfl, fun _ => by first | rfl | simp [Sc.val, At.val, arr8, arr32, arr64]⟩
theorem sz63 : sz Tryd.prog 63 = 4 := by kernel_rfl
theorem bz63 : bz Tryd.prog 63 = 64 := by kernel_rfl
theorem fo63_0 : fieldOff Tryd.prog 63 0 = some (0, 23) := by kernel_rfl
theorem fo63_1 : fieldOff Tryd.prog 63 1 = some (1, 23) := by kernel_rfl
theorem fo63_2 : fieldOff Tryd.prog 63 2 = some (2, 62) := by kernel_rfl
theorem fo63_3 : fieldOff Tryd.prog 63 3 = some (3, 62) := by kernel_rfl
theorem zok63 : ZOk Tryd.prog 63 (.c [.v (.int .u64 0), .v (.int .u64 0), .v (.slice none 0 0), .v (.slice none 0 0)]) = True := eq_true ⟨.agg #[.int .u64 0, .int .u64 0, .slice none 0 0, .slice none 0 0], by kernel_rfl, fun _ => by first | rfl | simp [Value.cells, Cont.vals, arr8, arr32, arr64]⟩
theorem zv63 : ZVal Tryd.prog 63 (.g [.v (.int .u64 0), .v (.int .u64 0), .v (.slice none 0 0), .v (.slice none 0 0)]) = True := eq_true ⟨.agg #[.int .u64 0, .int .u64 0, .slice none 0 0, .slice none 0 0], by kernel_rfl, fun _ => by first | rfl | simp [Sc.val, At.val, arr8, arr32, arr64]⟩
theorem sz64 : sz Tryd.prog 64 = 4 := by kernel_rfl
theorem bz64 : bz Tryd.prog 64 = 64 := by kernel_rfl
theorem fo64_0 : fieldOff Tryd.prog 64 0 = some (0, 23) := by kernel_rfl
theorem fo64_1 : fieldOff Tryd.prog 64 1 = some (1, 23) := by kernel_rfl
theorem fo64_2 : fieldOff Tryd.prog 64 2 = some (2, 62) := by kernel_rfl
theorem fo64_3 : fieldOff Tryd.prog 64 3 = some (3, 62) := by kernel_rfl
theorem zok64 : ZOk Tryd.prog 64 (.c [.v (.int .u64 0), .v (.int .u64 0), .v (.slice none 0 0), .v (.slice none 0 0)]) = True := eq_true ⟨.agg #[.int .u64 0, .int .u64 0, .slice none 0 0, .slice none 0 0], by kernel_rfl, fun _ => by first | rfl | simp [Value.cells, Cont.vals, arr8, arr32, arr64]⟩
theorem zv64 : ZVal Tryd.prog 64 (.g [.v (.int .u64 0), .v (.int .u64 0), .v (.slice none 0 0), .v (.slice none 0 0)]) = True := eq_true ⟨.agg #[.int .u64 0, .int .u64 0, .slice none 0 0, .slice none 0 0], by kernel_rfl, fun _ => by first | rfl | simp [Sc.val, At.val, arr8, arr32, arr64]⟩
theorem sz65 : sz Tryd.prog 65 = 2 := by kernel_rfl
theorem bz65 : bz Tryd.prog 65 = 16 := by kernel_rfl
theorem fo65_0 : fieldOff Tryd.prog 65 0 = some (0, 3) := by kernel_rfl
theorem fo65_1 : fieldOff Tryd.prog 65 1 = some (1, 23) := by kernel_rfl
theorem zok65 : ZOk Tryd.prog 65 (.c [.v (.int .i64 0), .v (.int .u64 0)]) = True := eq_true ⟨.agg #[.int .i64 0, .int .u64 0], by kernel_rfl, fun _ => by first | rfl | simp [Value.cells, Cont.vals, arr8, arr32, arr64]⟩
theorem zv65 : ZVal Tryd.prog 65 (.g [.v (.int .i64 0), .v (.int .u64 0)]) = True := eq_true ⟨.agg #[.int .i64 0, .int .u64 0], by kernel_rfl, fun _ => by first | rfl | simp [Sc.val, At.val, arr8, arr32, arr64]⟩
theorem seq65 : StEq Tryd.prog 65 [.i64, .u64] = True := eq_true ⟨by kernel_rfl, by kernel_rfl, by kernel_rfl, by kernel_rfl⟩
theorem sz66 : sz Tryd.prog 66 = 2 := by kernel_rfl
theorem bz66 : bz Tryd.prog 66 = 16 := by kernel_rfl
theorem aeq66 : arrEq Tryd.prog 66 2 .u64 = True := eq_true ⟨23, Tryd.underlying66, Tryd.underlying23, by kernel_rfl, by kernel_rfl, by kernel_rfl⟩
theorem zok66 : ZOk Tryd.prog 66 (.u64 (List.replicate 2 0)) = True := eq_true ⟨.agg (arr64 (List.replicate 2 0)), by kernel_rfl, fun _ => by first | rfl | simp [Value.cells, Cont.vals, arr8, arr32, arr64]⟩
theorem zv66 : ZVal Tryd.prog 66 (.a64 (List.replicate 2 0)) = True := eq_true ⟨.agg (arr64 (List.replicate 2 0)), by kernel_rfl, fun _ => by first | rfl | simp [Sc.val, At.val, arr8, arr32, arr64]⟩
theorem sz67 : sz Tryd.prog 67 = 12 := by kernel_rfl
theorem bz67 : bz Tryd.prog 67 = 128 := by kernel_rfl
theorem fo67_0 : fieldOff Tryd.prog 67 0 = some (0, 3) := by kernel_rfl
theorem fo67_1 : fieldOff Tryd.prog 67 1 = some (1, 3) := by kernel_rfl
theorem fo67_2 : fieldOff Tryd.prog 67 2 = some (2, 64) := by kernel_rfl
theorem fo67_3 : fieldOff Tryd.prog 67 3 = some (6, 3) := by kernel_rfl
theorem fo67_4 : fieldOff Tryd.prog 67 4 = some (7, 23) := by kernel_rfl
theorem fo67_5 : fieldOff Tryd.prog 67 5 = some (8, 65) := by kernel_rfl
theorem fo67_6 : fieldOff Tryd.prog 67 6 = some (10, 66) := by kernel_rfl
theorem sz68 : sz Tryd.prog 68 = 12 := by kernel_rfl
theorem bz68 : bz Tryd.prog 68 = 128 := by kernel_rfl
theorem fo68_0 : fieldOff Tryd.prog 68 0 = some (0, 3) := by kernel_rfl
theorem fo68_1 : fieldOff Tryd.prog 68 1 = some (1, 3) := by kernel_rfl
theorem fo68_2 : fieldOff Tryd.prog 68 2 = some (2, 64) := by kernel_rfl
theorem fo68_3 : fieldOff Tryd.prog 68 3 = some (6, 3) := by kernel_rfl
theorem fo68_4 : fieldOff Tryd.prog 68 4 = some (7, 23) := by kernel_rfl
theorem fo68_5 : fieldOff Tryd.prog 68 5 = some (8, 65) := by kernel_rfl
theorem fo68_6 : fieldOff Tryd.prog 68 6 = some (10, 66) := by kernel_rfl
theorem sz71 : sz Tryd.prog 71 = 4 := by kernel_rfl
theorem bz71 : bz Tryd.prog 71 = 64 := by kernel_rfl
theorem fo71_0 : fieldOff Tryd.prog 71 0 = some (0, 23) := by kernel_rfl
theorem fo71_1 : fieldOff Tryd.prog 71 1 = some (1, 23) := by kernel_rfl
theorem fo71_2 : fieldOff Tryd.prog 71 2 = some (2, 62) := by kernel_rfl
theorem fo71_3 : fieldOff Tryd.prog 71 3 = some (3, 62) := by kernel_rfl
theorem zok71 : ZOk Tryd.prog 71 (.c [.v (.int .u64 0), .v (.int .u64 0), .v (.slice none 0 0), .v (.slice none 0 0)]) = True := eq_true ⟨.agg #[.int .u64 0, .int .u64 0, .slice none 0 0, .slice none 0 0], by kernel_rfl, fun _ => by first | rfl | simp [Value.cells, Cont.vals, arr8, arr32, arr64]⟩
theorem zv71 : ZVal Tryd.prog 71 (.g [.v (.int .u64 0), .v (.int .u64 0), .v (.slice none 0 0), .v (.slice none 0 0)]) = True := eq_true ⟨.agg #[.int .u64 0, .int .u64 0, .slice none 0 0, .slice none 0 0], by kernel_rfl, fun _ => by first | rfl | simp [Sc.val, At.val, arr8, arr32, arr64]⟩
theorem sz75 : sz Tryd.prog 75 = 2 := by kernel_rfl
theorem bz75 : bz Tryd.prog 75 = 16 := by kernel_rfl
theorem fo75_0 : fieldOff Tryd.prog 75 0 = some (0, 23) := by kernel_rfl
theorem fo75_1 : fieldOff Tryd.prog 75 1 = some (1, 23) := by kernel_rfl
theorem zok75 : ZOk Tryd.prog 75 (.c [.v (.int .u64 0), .v (.int .u64 0)]) = True := eq_true ⟨.agg #[.int .u64 0, .int .u64 0], by kernel_rfl, fun _ => by first | rfl | simp [Value.cells, Cont.vals, arr8, arr32, arr64]⟩
theorem zv75 : ZVal Tryd.prog 75 (.g [.v (.int .u64 0), .v (.int .u64 0)]) = True := eq_true ⟨.agg #[.int .u64 0, .int .u64 0], by kernel_rfl, fun _ => by first | rfl | simp [Sc.val, At.val, arr8, arr32, arr64]⟩
theorem sz76 : sz Tryd.prog 76 = 2 := by kernel_rfl
theorem bz76 : bz Tryd.prog 76 = 16 := by kernel_rfl
theorem fo76_0 : fieldOff Tryd.prog 76 0 = some (0, 23) := by kernel_rfl
theorem fo76_1 : fieldOff Tryd.prog 76 1 = some (1, 23) := by kernel_rfl
theorem zok76 : ZOk Tryd.prog 76 (.c [.v (.int .u64 0), .v (.int .u64 0)]) = True := eq_true ⟨.agg #[.int .u64 0, .int .u64 0], by kernel_rfl, fun _ => by first | rfl | simp [Value.cells, Cont.vals, arr8, arr32, arr64]⟩
theorem zv76 : ZVal Tryd.prog 76 (.g [.v (.int .u64 0), .v (.int .u64 0)]) = True := eq_true ⟨.agg #[.int .u64 0, .int .u64 0], by kernel_rfl, fun _ => by first | rfl | simp [Sc.val, At.val, arr8, arr32, arr64]⟩
theorem seq76 : StEq Tryd.prog 76 [.u64, .u64] = True := eq_true ⟨by kernel_rfl, by kernel_rfl, by kernel_rfl, by kernel_rfl⟩
theorem sz77 : sz Tryd.prog 77 = 4 := by kernel_rfl
theorem bz77 : bz Tryd.prog 77 = 32 := by kernel_rfl
theorem zok77 : ZOk Tryd.prog 77 (.c [.v (.int .u64 0), .v (.int .u64 0), .v (.int .u64 0), .v (.int .u64 0)]) = True := eq_true ⟨.agg #[.int .u64 0, .int .u64 0, .int .u64 0, .int .u64 0], by kernel_rfl, fun _ => by first | rfl | simp [Value.cells, Cont.vals, arr8, arr32, arr64]⟩
theorem zv77 : ZVal Tryd.prog 77 (.g [.v (.int .u64 0), .v (.int .u64 0), .v (.int .u64 0), .v (.int .u64 0)]) = True := eq_true ⟨.agg #[.int .u64 0, .int .u64 0, .int .u64 0, .int .u64 0], by kernel_rfl, fun _ => by first | rfl | simp [Sc.val, At.val, arr8, arr32, arr64]⟩
theorem sz80 : sz Tryd.prog 80 = 2 := by kernel_rfl
theorem bz80 : bz Tryd.prog 80 = 16 := by kernel_rfl
theorem fo80_0 : fieldOff Tryd.prog 80 0 = some (0, 23) := by kernel_rfl
theorem fo80_1 : fieldOff Tryd.prog 80 1 = some (1, 23) := by kernel_rfl
theorem zok80 : ZOk Tryd.prog 80 (.c [.v (.int .u64 0), .v (.int .u64 0)]) = True := eq_true ⟨.agg #[.int .u64 0, .int .u64 0], by kernel_rfl, fun _ => by first | rfl | simp [Value.cells, Cont.vals, arr8, arr32, arr64]⟩
theorem zv80 : ZVal Tryd.prog 80 (.g [.v (.int .u64 0), .v (.int .u64 0)]) = True := eq_true ⟨.agg #[.int .u64 0, .int .u64 0], by kernel_rfl, fun _ => by first | rfl | simp [Sc.val, At.val, arr8, arr32, arr64]⟩
theorem seq80 : StEq Tryd.prog 80 [.u64, .u64] = True := eq_true ⟨by kernel_rfl, by kernel_rfl, by kernel_rfl, by kernel_rfl⟩
theorem sz81 : sz Tryd.prog 81 = 4 := by kernel_rfl
theorem bz81 : bz Tryd.prog 81 = 32 := by kernel_rfl
theorem zok81 : ZOk Tryd.prog 81 (.c [.v (.int .u64 0), .v (.int .u64 0), .v (.int .u64 0), .v (.int .u64 0)]) = True := eq_true ⟨.agg #[.int .u64 0, .int .u64 0, .int .u64 0, .int .u64 0], by kernel_rfl, fun _ => by first | rfl | simp [Value.cells, Cont.vals, arr8, arr32, arr64]⟩
theorem zv81 : ZVal Tryd.prog 81 (.g [.v (.int .u64 0), .v (.int .u64 0), .v (.int .u64 0), .v (.int .u64 0)]) = True := eq_true ⟨.agg #[.int .u64 0, .int .u64 0, .int .u64 0, .int .u64 0], by kernel_rfl, fun _ => by first | rfl | simp [Sc.val, At.val, arr8, arr32, arr64]⟩
theorem sz87 : sz Tryd.prog 87 = 4 := by kernel_rfl
theorem bz87 : bz Tryd.prog 87 = 48 := by kernel_rfl
theorem fo87_0 : fieldOff Tryd.prog 87 0 = some (0, 23) := by kernel_rfl
theorem fo87_1 : fieldOff Tryd.prog 87 1 = some (1, 62) := by kernel_rfl
theorem fo87_2 : fieldOff Tryd.prog 87 2 = some (2, 3) := by kernel_rfl
theorem fo87_3 : fieldOff Tryd.prog 87 3 = some (3, 3) := by kernel_rfl
theorem zok87 : ZOk Tryd.prog 87 (.c [.v (.int .u64 0), .v (.slice none 0 0), .v (.int .i64 0), .v (.int .i64 0)]) = True := eq_true ⟨.agg #[.int .u64 0, .slice none 0 0, .int .i64 0, .int .i64 0], by kernel_rfl, fun _ => by first | rfl | simp [Value.cells, Cont.vals, arr8, arr32, arr64]⟩
theorem zv87 : ZVal Tryd.prog 87 (.g [.v (.int .u64 0), .v (.slice none 0 0), .v (.int .i64 0), .v (.int .i64 0)]) = True := eq_true ⟨.agg #[.int .u64 0, .slice none 0 0, .int .i64 0, .int .i64 0], by kernel_rfl, fun _ => by first | rfl | simp [Sc.val, At.val, arr8, arr32, arr64]⟩
theorem sz88 : sz Tryd.prog 88 = 4 := by kernel_rfl
theorem bz88 : bz Tryd.prog 88 = 48 := by kernel_rfl
theorem fo88_0 : fieldOff Tryd.prog 88 0 = some (0, 23) := by kernel_rfl
theorem fo88_1 : fieldOff Tryd.prog 88 1 = some (1, 62) := by kernel_rfl
theorem fo88_2 : fieldOff Tryd.prog 88 2 = some (2, 3) := by kernel_rfl
theorem fo88_3 : fieldOff Tryd.prog 88 3 = some (3, 3) := by kernel_rfl
theorem zok88 : ZOk Tryd.prog 88 (.c [.v (.int .u64 0), .v (.slice none 0 0), .v (.int .i64 0), .v (.int .i64 0)]) = True := eq_true ⟨.agg #[.int .u64 0, .slice none 0 0, .int .i64 0, .int .i64 0], by kernel_rfl, fun _ => by first | rfl | simp [Value.cells, Cont.vals, arr8, arr32, arr64]⟩
theorem zv88 : ZVal Tryd.prog 88 (.g [.v (.int .u64 0), .v (.slice none 0 0), .v (.int .i64 0), .v (.int .i64 0)]) = True := eq_true ⟨.agg #[.int .u64 0, .slice none 0 0, .int .i64 0, .int .i64 0], by kernel_rfl, fun _ => by first | rfl | simp [Sc.val, At.val, arr8, arr32, arr64]⟩
theorem sz89 : sz Tryd.prog 89 = 1 := by kernel_rfl
theorem bz89 : bz Tryd.prog 89 = 24 := by kernel_rfl
theorem zok89 : ZOk Tryd.prog 89 (.c [.v (.slice none 0 0)]) = True := eq_true ⟨.slice none 0 0, by kernel_rfl, fun _ => by first | rfl | simp [Value.cells, Cont.vals, arr8, arr32, arr64]⟩
theorem zv89 : ZVal Tryd.prog 89 (.a (.v (.slice none 0 0))) = True := eq_true ⟨.slice none 0 0, by kernel_rfl, fun _ => by first | rfl | simp [Sc.val, At.val, arr8, arr32, arr64]⟩
theorem sz90 : sz Tryd.prog 90 = 1 := by kernel_rfl
theorem bz90 : bz Tryd.prog 90 = 24 := by kernel_rfl
theorem zok90 : ZOk Tryd.prog 90 (.c [.v (.slice none 0 0)]) = True := eq_true ⟨.slice none 0 0, by kernel_rfl, fun _ => by first | rfl | simp [Value.cells, Cont.vals, arr8, arr32, arr64]⟩
theorem zv90 : ZVal Tryd.prog 90 (.a (.v (.slice none 0 0))) = True := eq_true ⟨.slice none 0 0, by kernel_rfl, fun _ => by first | rfl | simp [Sc.val, At.val, arr8, arr32, arr64]⟩
theorem sz106 : sz Tryd.prog 106 = 1 := by kernel_rfl
theorem bz106 : bz Tryd.prog 106 = 24 := by kernel_rfl
theorem zok106 : ZOk Tryd.prog 106 (.c [.v (.slice none 0 0)]) = True := eq_true ⟨.slice none 0 0, by kernel_rfl, fun _ => by first | rfl | simp [Value.cells, Cont.vals, arr8, arr32, arr64]⟩
theorem zv106 : ZVal Tryd.prog 106 (.a (.v (.slice none 0 0))) = True := eq_true ⟨.slice none 0 0, by kernel_rfl, fun _ => by first | rfl | simp [Sc.val, At.val, arr8, arr32, arr64]⟩
theorem sz107 : sz Tryd.prog 107 = 1 := by kernel_rfl
theorem bz107 : bz Tryd.prog 107 = 24 := by kernel_rfl
theorem zok107 : ZOk Tryd.prog 107 (.c [.v (.slice none 0 0)]) = True := eq_true ⟨.slice none 0 0, by kernel_rfl, fun _ => by first | rfl | simp [Value.cells, Cont.vals, arr8, arr32, arr64]⟩
theorem zv107 : ZVal Tryd.prog 107 (.a (.v (.slice none 0 0))) = True := eq_true ⟨.slice none 0 0, by kernel_rfl, fun _ => by first | rfl | simp [Sc.val, At.val, arr8, arr32, arr64]⟩
theorem sz115 : sz Tryd.prog 115 = 1 := by kernel_rfl
theorem bz115 : bz Tryd.prog 115 = 24 := by kernel_rfl
theorem zok115 : ZOk Tryd.prog 115 (.c [.v (.slice none 0 0)]) = True := eq_true ⟨.slice none 0 0, by kernel_rfl, fun _ => by first | rfl | simp [Value.cells, Cont.vals, arr8, arr32, arr64]⟩
theorem zv115 : ZVal Tryd.prog 115 (.a (.v (.slice none 0 0))) = True := eq_true ⟨.slice none 0 0, by kernel_rfl, fun _ => by first | rfl | simp [Sc.val, At.val, arr8, arr32, arr64]⟩
theorem sz116 : sz Tryd.prog 116 = 32 := by kernel_rfl
theorem bz116 : bz Tryd.prog 116 = 32 := by kernel_rfl
theorem aeq116 : arrEq Tryd.prog 116 32 .u8 = True := eq_true ⟨5, Tryd.underlying116, Tryd.underlying5, by kernel_rfl, by kernel_rfl, by kernel_rfl⟩
theorem zok116 : ZOk Tryd.prog 116 (.u8 (List.replicate 32 0)) = True := eq_true ⟨.agg (arr8 (List.replicate 32 0)), by kernel_rfl, fun _ => by first | rfl | simp [Value.cells, Cont.vals, arr8, arr32, arr64]⟩
theorem zv116 : ZVal Tryd.prog 116 (.a8 (List.replicate 32 0)) = True := eq_true ⟨.agg (arr8 (List.replicate 32 0)), by kernel_rfl, fun _ => by first | rfl | simp [Sc.val, At.val, arr8, arr32, arr64]⟩
theorem sz121 : sz Tryd.prog 121 = 1 := by kernel_rfl
theorem bz121 : bz Tryd.prog 121 = 8 := by kernel_rfl
theorem zok121 : ZOk Tryd.prog 121 (.c [.v (.int .i64 0)]) = True := eq_true ⟨.int .i64 0, by kernel_rfl, fun _ => by first | rfl | simp [Value.cells, Cont.vals, arr8, arr32, arr64]⟩
theorem zv121 : ZVal Tryd.prog 121 (.a (.v (.int .i64 0))) = True := eq_true ⟨.int .i64 0, by kernel_rfl, fun _ => by first | rfl | simp [Sc.val, At.val, arr8, arr32, arr64]⟩
theorem sz125 : sz Tryd.prog 125 = 2 := by kernel_rfl
theorem bz125 : bz Tryd.prog 125 = 16 := by kernel_rfl
theorem fo125_0 : fieldOff Tryd.prog 125 0 = some (0, 3) := by kernel_rfl
theorem fo125_1 : fieldOff Tryd.prog 125 1 = some (1, 23) := by kernel_rfl
theorem zok125 : ZOk Tryd.prog 125 (.c [.v (.int .i64 0), .v (.int .u64 0)]) = True := eq_true ⟨.agg #[.int .i64 0, .int .u64 0], by kernel_rfl, fun _ => by first | rfl | simp [Value.cells, Cont.vals, arr8, arr32, arr64]⟩
theorem zv125 : ZVal Tryd.prog 125 (.g [.v (.int .i64 0), .v (.int .u64 0)]) = True := eq_true ⟨.agg #[.int .i64 0, .int .u64 0], by kernel_rfl, fun _ => by first | rfl | simp [Sc.val, At.val, arr8, arr32, arr64]⟩
theorem sz126 : sz Tryd.prog 126 = 2 := by kernel_rfl
theorem bz126 : bz Tryd.prog 126 = 16 := by kernel_rfl
theorem fo126_0 : fieldOff Tryd.prog 126 0 = some (0, 3) := by kernel_rfl
theorem fo126_1 : fieldOff Tryd.prog 126 1 = some (1, 23) := by kernel_rfl
theorem zok126 : ZOk Tryd.prog 126 (.c [.v (.int .i64 0), .v (.int .u64 0)]) = True := eq_true ⟨.agg #[.int .i64 0, .int .u64 0], by kernel_rfl, fun _ => by first | rfl | simp [Value.cells, Cont.vals, arr8, arr32, arr64]⟩
theorem zv126 : ZVal Tryd.prog 126 (.g [.v (.int .i64 0), .v (.int .u64 0)]) = True := eq_true ⟨.agg #[.int .i64 0, .int .u64 0], by kernel_rfl, fun _ => by first | rfl | simp [Sc.val, At.val, arr8, arr32, arr64]⟩
theorem seq126 : StEq Tryd.prog 126 [.i64, .u64] = True := eq_true ⟨by kernel_rfl, by kernel_rfl, by kernel_rfl, by kernel_rfl⟩
theorem sz131 : sz Tryd.prog 131 = 1 := by kernel_rfl
theorem bz131 : bz Tryd.prog 131 = 8 := by kernel_rfl
theorem zok131 : ZOk Tryd.prog 131 (.c [.v (.pointer none)]) = True := eq_true ⟨.pointer none, by kernel_rfl, fun _ => by first | rfl | simp [Value.cells, Cont.vals, arr8, arr32, arr64]⟩
theorem zv131 : ZVal Tryd.prog 131 (.a (.v (.pointer none))) = True := eq_true ⟨.pointer none, by kernel_rfl, fun _ => by first | rfl | simp [Sc.val, At.val, arr8, arr32, arr64]⟩
theorem sz149 : sz Tryd.prog 149 = 1 := by kernel_rfl
theorem bz149 : bz Tryd.prog 149 = 8 := by kernel_rfl
theorem zok149 : ZOk Tryd.prog 149 (.c [.v (.int .u64 0)]) = True := eq_true ⟨.int .u64 0, by kernel_rfl, fun _ => by first | rfl | simp [Value.cells, Cont.vals, arr8, arr32, arr64]⟩
theorem zv149 : ZVal Tryd.prog 149 (.a (.v (.int .u64 0))) = True := eq_true ⟨.int .u64 0, by kernel_rfl, fun _ => by first | rfl | simp [Sc.val, At.val, arr8, arr32, arr64]⟩
theorem sz178 : sz Tryd.prog 178 = 8 := by kernel_rfl
theorem bz178 : bz Tryd.prog 178 = 8 := by kernel_rfl
theorem aeq178 : arrEq Tryd.prog 178 8 .u8 = True := eq_true ⟨5, Tryd.underlying178, Tryd.underlying5, by kernel_rfl, by kernel_rfl, by kernel_rfl⟩
theorem zok178 : ZOk Tryd.prog 178 (.u8 (List.replicate 8 0)) = True := eq_true ⟨.agg (arr8 (List.replicate 8 0)), by kernel_rfl, fun _ => by first | rfl | simp [Value.cells, Cont.vals, arr8, arr32, arr64]⟩
theorem zv178 : ZVal Tryd.prog 178 (.a8 (List.replicate 8 0)) = True := eq_true ⟨.agg (arr8 (List.replicate 8 0)), by kernel_rfl, fun _ => by first | rfl | simp [Sc.val, At.val, arr8, arr32, arr64]⟩
theorem sz179 : sz Tryd.prog 179 = 64 := by kernel_rfl
theorem bz179 : bz Tryd.prog 179 = 64 := by kernel_rfl
theorem aeq179 : arrEq Tryd.prog 179 64 .u8 = True := eq_true ⟨5, Tryd.underlying179, Tryd.underlying5, by kernel_rfl, by kernel_rfl, by kernel_rfl⟩
theorem zok179 : ZOk Tryd.prog 179 (.u8 (List.replicate 64 0)) = True := eq_true ⟨.agg (arr8 (List.replicate 64 0)), by kernel_rfl, fun _ => by first | rfl | simp [Value.cells, Cont.vals, arr8, arr32, arr64]⟩
theorem zv179 : ZVal Tryd.prog 179 (.a8 (List.replicate 64 0)) = True := eq_true ⟨.agg (arr8 (List.replicate 64 0)), by kernel_rfl, fun _ => by first | rfl | simp [Sc.val, At.val, arr8, arr32, arr64]⟩
theorem sz184 : sz Tryd.prog 184 = 1 := by kernel_rfl
theorem bz184 : bz Tryd.prog 184 = 8 := by kernel_rfl
theorem fo184_0 : fieldOff Tryd.prog 184 0 = some (0, 17) := by kernel_rfl
theorem zok184 : ZOk Tryd.prog 184 (.c [.v (.pointer none)]) = True := eq_true ⟨.agg #[.pointer none], by kernel_rfl, fun _ => by first | rfl | simp [Value.cells, Cont.vals, arr8, arr32, arr64]⟩
theorem zv184 : ZVal Tryd.prog 184 (.g [.v (.pointer none)]) = True := eq_true ⟨.agg #[.pointer none], by kernel_rfl, fun _ => by first | rfl | simp [Sc.val, At.val, arr8, arr32, arr64]⟩
theorem sz185 : sz Tryd.prog 185 = 1 := by kernel_rfl
theorem bz185 : bz Tryd.prog 185 = 8 := by kernel_rfl
theorem zok185 : ZOk Tryd.prog 185 (.c [.v (.pointer none)]) = True := eq_true ⟨.pointer none, by kernel_rfl, fun _ => by first | rfl | simp [Value.cells, Cont.vals, arr8, arr32, arr64]⟩
theorem zv185 : ZVal Tryd.prog 185 (.a (.v (.pointer none))) = True := eq_true ⟨.pointer none, by kernel_rfl, fun _ => by first | rfl | simp [Sc.val, At.val, arr8, arr32, arr64]⟩
theorem sz189 : sz Tryd.prog 189 = 1 := by kernel_rfl
theorem bz189 : bz Tryd.prog 189 = 16 := by kernel_rfl
theorem zok189 : ZOk Tryd.prog 189 (.c [.v .nilIface]) = True := eq_true ⟨.nilIface, by kernel_rfl, fun _ => by first | rfl | simp [Value.cells, Cont.vals, arr8, arr32, arr64]⟩
theorem zv189 : ZVal Tryd.prog 189 (.a (.v (.nilIface))) = True := eq_true ⟨.nilIface, by kernel_rfl, fun _ => by first | rfl | simp [Sc.val, At.val, arr8, arr32, arr64]⟩
theorem sz192 : sz Tryd.prog 192 = 1 := by kernel_rfl
theorem bz192 : bz Tryd.prog 192 = 16 := by kernel_rfl
theorem zok192 : ZOk Tryd.prog 192 (.c [.v .nilIface]) = True := eq_true ⟨.nilIface, by kernel_rfl, fun _ => by first | rfl | simp [Value.cells, Cont.vals, arr8, arr32, arr64]⟩
theorem zv192 : ZVal Tryd.prog 192 (.a (.v (.nilIface))) = True := eq_true ⟨.nilIface, by kernel_rfl, fun _ => by first | rfl | simp [Sc.val, At.val, arr8, arr32, arr64]⟩
theorem sz194 : sz Tryd.prog 194 = 1 := by kernel_rfl
theorem bz194 : bz Tryd.prog 194 = 16 := by kernel_rfl
theorem zok194 : ZOk Tryd.prog 194 (.c [.v .nilIface]) = True := eq_true ⟨.nilIface, by kernel_rfl, fun _ => by first | rfl | simp [Value.cells, Cont.vals, arr8, arr32, arr64]⟩
theorem zv194 : ZVal Tryd.prog 194 (.a (.v (.nilIface))) = True := eq_true ⟨.nilIface, by kernel_rfl, fun _ => by first | rfl | simp [Sc.val, At.val, arr8, arr32, arr64]⟩
theorem sz195 : sz Tryd.prog 195 = 1 := by kernel_rfl
theorem bz195 : bz Tryd.prog 195 = 24 := by kernel_rfl
theorem zok195 : ZOk Tryd.prog 195 (.c [.v (.slice none 0 0)]) = True := eq_true ⟨.slice none 0 0, by kernel_rfl, fun _ => by first | rfl | simp [Value.cells, Cont.vals, arr8, arr32, arr64]⟩
theorem zv195 : ZVal Tryd.prog 195 (.a (.v (.slice none 0 0))) = True := eq_true ⟨.slice none 0 0, by kernel_rfl, fun _ => by first | rfl | simp [Sc.val, At.val, arr8, arr32, arr64]⟩
theorem sz200 : sz Tryd.prog 200 = 1 := by kernel_rfl
theorem bz200 : bz Tryd.prog 200 = 8 := by kernel_rfl
theorem zok200 : ZOk Tryd.prog 200 (.c [.v (.int .i64 0)]) = True := eq_true ⟨.int .i64 0, by kernel_rfl, fun _ => by first | rfl | simp [Value.cells, Cont.vals, arr8, arr32, arr64]⟩
theorem zv200 : ZVal Tryd.prog 200 (.a (.v (.int .i64 0))) = True := eq_true ⟨.int .i64 0, by kernel_rfl, fun _ => by first | rfl | simp [Sc.val, At.val, arr8, arr32, arr64]⟩
theorem sz209 : sz Tryd.prog 209 = 1 := by kernel_rfl
theorem bz209 : bz Tryd.prog 209 = 8 := by kernel_rfl
theorem zok209 : ZOk Tryd.prog 209 (.c [.v (.map none)]) = True := eq_true ⟨.map none, by kernel_rfl, fun _ => by first | rfl | simp [Value.cells, Cont.vals, arr8, arr32, arr64]⟩
theorem zv209 : ZVal Tryd.prog 209 (.a (.v (.map none))) = True := eq_true ⟨.map none, by kernel_rfl, fun _ => by first | rfl | simp [Sc.val, At.val, arr8, arr32, arr64]⟩
theorem sz218 : sz Tryd.prog 218 = 1 := by kernel_rfl
theorem bz218 : bz Tryd.prog 218 = 8 := by kernel_rfl
theorem zok218 : ZOk Tryd.prog 218 (.c [.v (.int .u64 0)]) = True := eq_true ⟨.int .u64 0, by kernel_rfl, fun _ => by first | rfl | simp [Value.cells, Cont.vals, arr8, arr32, arr64]⟩
theorem zv218 : ZVal Tryd.prog 218 (.a (.v (.int .u64 0))) = True := eq_true ⟨.int .u64 0, by kernel_rfl, fun _ => by first | rfl | simp [Sc.val, At.val, arr8, arr32, arr64]⟩
theorem sz222 : sz Tryd.prog 222 = 1 := by kernel_rfl
theorem bz222 : bz Tryd.prog 222 = 8 := by kernel_rfl
theorem zok222 : ZOk Tryd.prog 222 (.c [.v (.pointer none)]) = True := eq_true ⟨.pointer none, by kernel_rfl, fun _ => by first | rfl | simp [Value.cells, Cont.vals, arr8, arr32, arr64]⟩
theorem zv222 : ZVal Tryd.prog 222 (.a (.v (.pointer none))) = True := eq_true ⟨.pointer none, by kernel_rfl, fun _ => by first | rfl | simp [Sc.val, At.val, arr8, arr32, arr64]⟩
theorem sz225 : sz Tryd.prog 225 = 24 := by kernel_rfl
theorem bz225 : bz Tryd.prog 225 = 24 := by kernel_rfl
theorem aeq225 : arrEq Tryd.prog 225 24 .u8 = True := eq_true ⟨5, Tryd.underlying225, Tryd.underlying5, by kernel_rfl, by kernel_rfl, by kernel_rfl⟩
theorem zok225 : ZOk Tryd.prog 225 (.u8 (List.replicate 24 0)) = True := eq_true ⟨.agg (arr8 (List.replicate 24 0)), by kernel_rfl, fun _ => by first | rfl | simp [Value.cells, Cont.vals, arr8, arr32, arr64]⟩
theorem zv225 : ZVal Tryd.prog 225 (.a8 (List.replicate 24 0)) = True := eq_true ⟨.agg (arr8 (List.replicate 24 0)), by kernel_rfl, fun _ => by first | rfl | simp [Sc.val, At.val, arr8, arr32, arr64]⟩
theorem sz229 : sz Tryd.prog 229 = 1 := by kernel_rfl
theorem bz229 : bz Tryd.prog 229 = 8 := by kernel_rfl
theorem zok229 : ZOk Tryd.prog 229 (.c [.v (.pointer none)]) = True := eq_true ⟨.pointer none, by kernel_rfl, fun _ => by first | rfl | simp [Value.cells, Cont.vals, arr8, arr32, arr64]⟩
theorem zv229 : ZVal Tryd.prog 229 (.a (.v (.pointer none))) = True := eq_true ⟨.pointer none, by kernel_rfl, fun _ => by first | rfl | simp [Sc.val, At.val, arr8, arr32, arr64]⟩
theorem sz232 : sz Tryd.prog 232 = 8 := by kernel_rfl
theorem bz232 : bz Tryd.prog 232 = 32 := by kernel_rfl
theorem aeq232 : arrEq Tryd.prog 232 8 .u32 = True := eq_true ⟨50, Tryd.underlying232, Tryd.underlying50, by kernel_rfl, by kernel_rfl, by kernel_rfl⟩
theorem zok232 : ZOk Tryd.prog 232 (.u32 (List.replicate 8 0)) = True := eq_true ⟨.agg (arr32 (List.replicate 8 0)), by kernel_rfl, fun _ => by first | rfl | simp [Value.cells, Cont.vals, arr8, arr32, arr64]⟩
theorem zv232 : ZVal Tryd.prog 232 (.a32 (List.replicate 8 0)) = True := eq_true ⟨.agg (arr32 (List.replicate 8 0)), by kernel_rfl, fun _ => by first | rfl | simp [Sc.val, At.val, arr8, arr32, arr64]⟩
theorem sz239 : sz Tryd.prog 239 = 20 := by kernel_rfl
theorem bz239 : bz Tryd.prog 239 = 160 := by kernel_rfl
theorem aeq239 : arrEq Tryd.prog 239 20 .u64 = True := eq_true ⟨23, Tryd.underlying239, Tryd.underlying23, by kernel_rfl, by kernel_rfl, by kernel_rfl⟩
theorem zok239 : ZOk Tryd.prog 239 (.u64 (List.replicate 20 0)) = True := eq_true ⟨.agg (arr64 (List.replicate 20 0)), by kernel_rfl, fun _ => by first | rfl | simp [Value.cells, Cont.vals, arr8, arr32, arr64]⟩
theorem zv239 : ZVal Tryd.prog 239 (.a64 (List.replicate 20 0)) = True := eq_true ⟨.agg (arr64 (List.replicate 20 0)), by kernel_rfl, fun _ => by first | rfl | simp [Sc.val, At.val, arr8, arr32, arr64]⟩
theorem sz240 : sz Tryd.prog 240 = 65 := by kernel_rfl
theorem bz240 : bz Tryd.prog 240 = 65 := by kernel_rfl
theorem aeq240 : arrEq Tryd.prog 240 65 .u8 = True := eq_true ⟨5, Tryd.underlying240, Tryd.underlying5, by kernel_rfl, by kernel_rfl, by kernel_rfl⟩
theorem zok240 : ZOk Tryd.prog 240 (.u8 (List.replicate 65 0)) = True := eq_true ⟨.agg (arr8 (List.replicate 65 0)), by kernel_rfl, fun _ => by first | rfl | simp [Value.cells, Cont.vals, arr8, arr32, arr64]⟩
theorem zv240 : ZVal Tryd.prog 240 (.a8 (List.replicate 65 0)) = True := eq_true ⟨.agg (arr8 (List.replicate 65 0)), by kernel_rfl, fun _ => by first | rfl | simp [Sc.val, At.val, arr8, arr32, arr64]⟩
theorem sz243 : sz Tryd.prog 243 = 64 := by kernel_rfl
theorem bz243 : bz Tryd.prog 243 = 256 := by kernel_rfl
theorem aeq243 : arrEq Tryd.prog 243 64 .u32 = True := eq_true ⟨50, Tryd.underlying243, Tryd.underlying50, by kernel_rfl, by kernel_rfl, by kernel_rfl⟩
theorem zok243 : ZOk Tryd.prog 243 (.u32 (List.replicate 64 0)) = True := eq_true ⟨.agg (arr32 (List.replicate 64 0)), by kernel_rfl, fun _ => by first | rfl | simp [Value.cells, Cont.vals, arr8, arr32, arr64]⟩
theorem zv243 : ZVal Tryd.prog 243 (.a32 (List.replicate 64 0)) = True := eq_true ⟨.agg (arr32 (List.replicate 64 0)), by kernel_rfl, fun _ => by first | rfl | simp [Sc.val, At.val, arr8, arr32, arr64]⟩
theorem sz255 : sz Tryd.prog 255 = 1 := by kernel_rfl
theorem bz255 : bz Tryd.prog 255 = 8 := by kernel_rfl
theorem zok255 : ZOk Tryd.prog 255 (.c [.v (.pointer none)]) = True := eq_true ⟨.pointer none, by kernel_rfl, fun _ => by first | rfl | simp [Value.cells, Cont.vals, arr8, arr32, arr64]⟩
theorem zv255 : ZVal Tryd.prog 255 (.a (.v (.pointer none))) = True := eq_true ⟨.pointer none, by kernel_rfl, fun _ => by first | rfl | simp [Sc.val, At.val, arr8, arr32, arr64]⟩
theorem sz264 : sz Tryd.prog 264 = 1 := by kernel_rfl
theorem bz264 : bz Tryd.prog 264 = 8 := by kernel_rfl
theorem zok264 : ZOk Tryd.prog 264 (.c [.v (.pointer none)]) = True := eq_true ⟨.pointer none, by kernel_rfl, fun _ => by first | rfl | simp [Value.cells, Cont.vals, arr8, arr32, arr64]⟩
theorem zv264 : ZVal Tryd.prog 264 (.a (.v (.pointer none))) = True := eq_true ⟨.pointer none, by kernel_rfl, fun _ => by first | rfl | simp [Sc.val, At.val, arr8, arr32, arr64]⟩
theorem sz266 : sz Tryd.prog 266 = 1 := by kernel_rfl
theorem bz266 : bz Tryd.prog 266 = 2 := by kernel_rfl
theorem zok266 : ZOk Tryd.prog 266 (.c [.v (.int .u16 0)]) = True := eq_true ⟨.int .u16 0, by kernel_rfl, fun _ => by first | rfl | simp [Value.cells, Cont.vals, arr8, arr32, arr64]⟩
theorem zv266 : ZVal Tryd.prog 266 (.a (.v (.int .u16 0))) = True := eq_true ⟨.int .u16 0, by kernel_rfl, fun _ => by first | rfl | simp [Sc.val, At.val, arr8, arr32, arr64]⟩
theorem sz273 : sz Tryd.prog 273 = 1 := by kernel_rfl
theorem bz273 : bz Tryd.prog 273 = 8 := by kernel_rfl
theorem zok273 : ZOk Tryd.prog 273 (.c [.v (.pointer none)]) = True := eq_true ⟨.pointer none, by kernel_rfl, fun _ => by first | rfl | simp [Value.cells, Cont.vals, arr8, arr32, arr64]⟩
theorem zv273 : ZVal Tryd.prog 273 (.a (.v (.pointer none))) = True := eq_true ⟨.pointer none, by kernel_rfl, fun _ => by first | rfl | simp [Sc.val, At.val, arr8, arr32, arr64]⟩
theorem cb3 : Callable Tryd.prog 3 := callable_of Tryd.func3 (by kernel_rfl) rfl
theorem cb4 : Callable Tryd.prog 4 := callable_of Tryd.func4 (by kernel_rfl) rfl
theorem cb5 : Callable Tryd.prog 5 := callable_of Tryd.func5 (by kernel_rfl) rfl
theorem cb6 : Callable Tryd.prog 6 := callable_of Tryd.func6 (by kernel_rfl) rfl
theorem cb7 : Callable Tryd.prog 7 := callable_of Tryd.func7 (by kernel_rfl) rfl
theorem cb8 : Callable Tryd.prog 8 := callable_of Tryd.func8 (by kernel_rfl) rfl
theorem cb9 : Callable Tryd.prog 9 := callable_of Tryd.func9 (by kernel_rfl) rfl
theorem cb10 : Callable Tryd.prog 10 := callable_of Tryd.func10 (by kernel_rfl) rfl
theorem cb11 : Callable Tryd.prog 11 := callable_of Tryd.func11 (by kernel_rfl) rfl
theorem cb12 : Callable Tryd.prog 12 := callable_of Tryd.func12 (by kernel_rfl) rfl
theorem cb13 : Callable Tryd.prog 13 := callable_of Tryd.func13 (by kernel_rfl) rfl
theorem cb14 : Callable Tryd.prog 14 := callable_of Tryd.func14 (by kernel_rfl) rfl
theorem cb15 : Callable Tryd.prog 15 := callable_of Tryd.func15 (by kernel_rfl) rfl
theorem cb16 : Callable Tryd.prog 16 := callable_of Tryd.func16 (by kernel_rfl) rfl
theorem cb17 : Callable Tryd.prog 17 := callable_of Tryd.func17 (by kernel_rfl) rfl
theorem cb18 : Callable Tryd.prog 18 := callable_of Tryd.func18 (by kernel_rfl) rfl
theorem cb19 : Callable Tryd.prog 19 := callable_of Tryd.func19 (by kernel_rfl) rfl
theorem cb20 : Callable Tryd.prog 20 := callable_of Tryd.func20 (by kernel_rfl) rfl
theorem cb21 : Callable Tryd.prog 21 := callable_of Tryd.func21 (by kernel_rfl) rfl
theorem cb22 : Callable Tryd.prog 22 := callable_of Tryd.func22 (by kernel_rfl) rfl
theorem cb23 : Callable Tryd.prog 23 := callable_of Tryd.func23 (by kernel_rfl) rfl
theorem cb24 : Callable Tryd.prog 24 := callable_of Tryd.func24 (by kernel_rfl) rfl
theorem cb25 : Callable Tryd.prog 25 := callable_of Tryd.func25 (by kernel_rfl) rfl
theorem cb26 : Callable Tryd.prog 26 := callable_of Tryd.func26 (by kernel_rfl) rfl
theorem cb27 : Callable Tryd.prog 27 := callable_of Tryd.func27 (by kernel_rfl) rfl
theorem cb28 : Callable Tryd.prog 28 := callable_of Tryd.func28 (by kernel_rfl) rfl
theorem cb29 : Callable Tryd.prog 29 := callable_of Tryd.func29 (by kernel_rfl) rfl
theorem cb30 : Callable Tryd.prog 30 := callable_of Tryd.func30 (by kernel_rfl) rfl
theorem cb31 : Callable Tryd.prog 31 := callable_of Tryd.func31 (by kernel_rfl) rfl
theorem cb32 : Callable Tryd.prog 32 := callable_of Tryd.func32 (by kernel_rfl) rfl
theorem cb33 : Callable Tryd.prog 33 := callable_of Tryd.func33 (by kernel_rfl) rfl
theorem cb34 : Callable Tryd.prog 34 := callable_of Tryd.func34 (by kernel_rfl) rfl
theorem cb35 : Callable Tryd.prog 35 := callable_of Tryd.func35 (by kernel_rfl) rfl
theorem cb36 : Callable Tryd.prog 36 := callable_of Tryd.func36 (by kernel_rfl) rfl
theorem cb37 : Callable Tryd.prog 37 := callable_of Tryd.func37 (by kernel_rfl) rfl
theorem cb38 : Callable Tryd.prog 38 := callable_of Tryd.func38 (by kernel_rfl) rfl
theorem cb39 : Callable Tryd.prog 39 := callable_of Tryd.func39 (by kernel_rfl) rfl
theorem cb40 : Callable Tryd.prog 40 := callable_of Tryd.func40 (by kernel_rfl) rfl
theorem cb41 : Callable Tryd.prog 41 := callable_of Tryd.func41 (by kernel_rfl) rfl
theorem cb42 : Callable Tryd.prog 42 := callable_of Tryd.func42 (by kernel_rfl) rfl
theorem cb43 : Callable Tryd.prog 43 := callable_of Tryd.func43 (by kernel_rfl) rfl
theorem cb44 : Callable Tryd.prog 44 := callable_of Tryd.func44 (by kernel_rfl) rfl
theorem cb45 : Callable Tryd.prog 45 := callable_of Tryd.func45 (by kernel_rfl) rfl
theorem cb46 : Callable Tryd.prog 46 := callable_of Tryd.func46 (by kernel_rfl) rfl
theorem cb47 : Callable Tryd.prog 47 := callable_of Tryd.func47 (by kernel_rfl) rfl
theorem cb48 : Callable Tryd.prog 48 := callable_of Tryd.func48 (by kernel_rfl) rfl
theorem cb49 : Callable Tryd.prog 49 := callable_of Tryd.func49 (by kernel_rfl) rfl
theorem cb50 : Callable Tryd.prog 50 := callable_of Tryd.func50 (by kernel_rfl) rfl
theorem cb51 : Callable Tryd.prog 51 := callable_of Tryd.func51 (by kernel_rfl) rfl
theorem cb52 : Callable Tryd.prog 52 := callable_of Tryd.func52 (by kernel_rfl) rfl
theorem cb53 : Callable Tryd.prog 53 := callable_of Tryd.func53 (by kernel_rfl) rfl
theorem cb54 : Callable Tryd.prog 54 := callable_of Tryd.func54 (by kernel_rfl) rfl
theorem cb55 : Callable Tryd.prog 55 := callable_of Tryd.func55 (by kernel_rfl) rfl
theorem cb56 : Callable Tryd.prog 56 := callable_of Tryd.func56 (by kernel_rfl) rfl
theorem cb57 : Callable Tryd.prog 57 := callable_of Tryd.func57 (by kernel_rfl) rfl
theorem cb58 : Callable Tryd.prog 58 := callable_of Tryd.func58 (by kernel_rfl) rfl
theorem cb59 : Callable Tryd.prog 59 := callable_of Tryd.func59 (by kernel_rfl) rfl
theorem cb60 : Callable Tryd.prog 60 := callable_of Tryd.func60 (by kernel_rfl) rfl
theorem cb61 : Callable Tryd.prog 61 := callable_of Tryd.func61 (by kernel_rfl) rfl
theorem cb62 : Callable Tryd.prog 62 := callable_of Tryd.func62 (by kernel_rfl) rfl
theorem cb63 : Callable Tryd.prog 63 := callable_of Tryd.func63 (by kernel_rfl) rfl
theorem cb64 : Callable Tryd.prog 64 := callable_of Tryd.func64 (by kernel_rfl) rfl
theorem cb65 : Callable Tryd.prog 65 := callable_of Tryd.func65 (by kernel_rfl) rfl
theorem cb66 : Callable Tryd.prog 66 := callable_of Tryd.func66 (by kernel_rfl) rfl
theorem cb67 : Callable Tryd.prog 67 := callable_of Tryd.func67 (by kernel_rfl) rfl
theorem cb68 : Callable Tryd.prog 68 := callable_of Tryd.func68 (by kernel_rfl) rfl
theorem cb69 : Callable Tryd.prog 69 := callable_of Tryd.func69 (by kernel_rfl) rfl
theorem cb70 : Callable Tryd.prog 70 := callable_of Tryd.func70 (by kernel_rfl) rfl
theorem cb71 : Callable Tryd.prog 71 := callable_of Tryd.func71 (by kernel_rfl) rfl
theorem cb72 : Callable Tryd.prog 72 := callable_of Tryd.func72 (by kernel_rfl) rfl
theorem cb73 : Callable Tryd.prog 73 := callable_of Tryd.func73 (by kernel_rfl) rfl
theorem cb74 : Callable Tryd.prog 74 := callable_of Tryd.func74 (by kernel_rfl) rfl
theorem cb75 : Callable Tryd.prog 75 := callable_of Tryd.func75 (by kernel_rfl) rfl
theorem cb76 : Callable Tryd.prog 76 := callable_of Tryd.func76 (by kernel_rfl) rfl
theorem cb77 : Callable Tryd.prog 77 := callable_of Tryd.func77 (by kernel_rfl) rfl
theorem cb78 : Callable Tryd.prog 78 := callable_of Tryd.func78 (by kernel_rfl) rfl
theorem cb79 : Callable Tryd.prog 79 := callable_of Tryd.func79 (by kernel_rfl) rfl
theorem cb80 : Callable Tryd.prog 80 := callable_of Tryd.func80 (by kernel_rfl) rfl
theorem cb81 : Callable Tryd.prog 81 := callable_of Tryd.func81 (by kernel_rfl) rfl
theorem cb83 : Callable Tryd.prog 83 := callable_of Tryd.func83 (by kernel_rfl) rfl
theorem cb84 : Callable Tryd.prog 84 := callable_of Tryd.func84 (by kernel_rfl) rfl
theorem cb85 : Callable Tryd.prog 85 := callable_of Tryd.func85 (by kernel_rfl) rfl
theorem cb86 : Callable Tryd.prog 86 := callable_of Tryd.func86 (by kernel_rfl) rfl
theorem cb87 : Callable Tryd.prog 87 := callable_of Tryd.func87 (by kernel_rfl) rfl
theorem cb88 : Callable Tryd.prog 88 := callable_of Tryd.func88 (by kernel_rfl) rfl
theorem cb89 : Callable Tryd.prog 89 := callable_of Tryd.func89 (by kernel_rfl) rfl
theorem cb90 : Callable Tryd.prog 90 := callable_of Tryd.func90 (by kernel_rfl) rfl
theorem cb91 : Callable Tryd.prog 91 := callable_of Tryd.func91 (by kernel_rfl) rfl
theorem cb92 : Callable Tryd.prog 92 := callable_of Tryd.func92 (by kernel_rfl) rfl
theorem cb97 : Callable Tryd.prog 97 := callable_of Tryd.func97 (by kernel_rfl) rfl
theorem cb98 : Callable Tryd.prog 98 := callable_of Tryd.func98 (by kernel_rfl) rfl
theorem cb99 : Callable Tryd.prog 99 := callable_of Tryd.func99 (by kernel_rfl) rfl
theorem cb100 : Callable Tryd.prog 100 := callable_of Tryd.func100 (by kernel_rfl) rfl
theorem cb101 : Callable Tryd.prog 101 := callable_of Tryd.func101 (by kernel_rfl) rfl
theorem cb102 : Callable Tryd.prog 102 := callable_of Tryd.func102 (by kernel_rfl) rfl
theorem cb103 : Callable Tryd.prog 103 := callable_of Tryd.func103 (by kernel_rfl) rfl
theorem cb104 : Callable Tryd.prog 104 := callable_of Tryd.func104 (by kernel_rfl) rfl
theorem cb105 : Callable Tryd.prog 105 := callable_of Tryd.func105 (by kernel_rfl) rfl
theorem cb106 : Callable Tryd.prog 106 := callable_of Tryd.func106 (by kernel_rfl) rfl
theorem cb108 : Callable Tryd.prog 108 := callable_of Tryd.func108 (by kernel_rfl) rfl
theorem cb109 : Callable Tryd.prog 109 := callable_of Tryd.func109 (by kernel_rfl) rfl
theorem cb110 : Callable Tryd.prog 110 := callable_of Tryd.func110 (by kernel_rfl) rfl
theorem cb111 : Callable Tryd.prog 111 := callable_of Tryd.func111 (by kernel_rfl) rfl
theorem cb112 : Callable Tryd.prog 112 := callable_of Tryd.func112 (by kernel_rfl) rfl
theorem cb113 : Callable Tryd.prog 113 := callable_of Tryd.func113 (by kernel_rfl) rfl
theorem cb114 : Callable Tryd.prog 114 := callable_of Tryd.func114 (by kernel_rfl) rfl
theorem cb115 : Callable Tryd.prog 115 := callable_of Tryd.func115 (by kernel_rfl) rfl
theorem cb116 : Callable Tryd.prog 116 := callable_of Tryd.func116 (by kernel_rfl) rfl
theorem cb117 : Callable Tryd.prog 117 := callable_of Tryd.func117 (by kernel_rfl) rfl
theorem cb121 : Callable Tryd.prog 121 := callable_of Tryd.func121 (by kernel_rfl) rfl
theorem cb123 : Callable Tryd.prog 123 := callable_of Tryd.func123 (by kernel_rfl) rfl
theorem cb124 : Callable Tryd.prog 124 := callable_of Tryd.func124 (by kernel_rfl) rfl
theorem cb125 : Callable Tryd.prog 125 := callable_of Tryd.func125 (by kernel_rfl) rfl
theorem cb126 : Callable Tryd.prog 126 := callable_of Tryd.func126 (by kernel_rfl) rfl
theorem cb127 : Callable Tryd.prog 127 := callable_of Tryd.func127 (by kernel_rfl) rfl
theorem cb128 : Callable Tryd.prog 128 := callable_of Tryd.func128 (by kernel_rfl) rfl
theorem cb129 : Callable Tryd.prog 129 := callable_of Tryd.func129 (by kernel_rfl) rfl
theorem cb130 : Callable Tryd.prog 130 := callable_of Tryd.func130 (by kernel_rfl) rfl
theorem cb131 : Callable Tryd.prog 131 := callable_of Tryd.func131 (by kernel_rfl) rfl
theorem cb132 : Callable Tryd.prog 132 := callable_of Tryd.func132 (by kernel_rfl) rfl
theorem cb133 : Callable Tryd.prog 133 := callable_of Tryd.func133 (by kernel_rfl) rfl
theorem cb134 : Callable Tryd.prog 134 := callable_of Tryd.func134 (by kernel_rfl) rfl
theorem cb135 : Callable Tryd.prog 135 := callable_of Tryd.func135 (by kernel_rfl) rfl
theorem cb136 : Callable Tryd.prog 136 := callable_of Tryd.func136 (by kernel_rfl) rfl
theorem cb137 : Callable Tryd.prog 137 := callable_of Tryd.func137 (by kernel_rfl) rfl
theorem cb138 : Callable Tryd.prog 138 := callable_of Tryd.func138 (by kernel_rfl) rfl
theorem cb139 : Callable Tryd.prog 139 := callable_of Tryd.func139 (by kernel_rfl) rfl
theorem cb140 : Callable Tryd.prog 140 := callable_of Tryd.func140 (by kernel_rfl) rfl
theorem cb142 : Callable Tryd.prog 142 := callable_of Tryd.func142 (by kernel_rfl) rfl
theorem cb143 : Callable Tryd.prog 143 := callable_of Tryd.func143 (by kernel_rfl) rfl
theorem cb145 : Callable Tryd.prog 145 := callable_of Tryd.func145 (by kernel_rfl) rfl
theorem cb146 : Callable Tryd.prog 146 := callable_of Tryd.func146 (by kernel_rfl) rfl
theorem cb147 : Callable Tryd.prog 147 := callable_of Tryd.func147 (by kernel_rfl) rfl
theorem cb148 : Callable Tryd.prog 148 := callable_of Tryd.func148 (by kernel_rfl) rfl
theorem cb153 : Callable Tryd.prog 153 := callable_of Tryd.func153 (by kernel_rfl) rfl
theorem cb154 : Callable Tryd.prog 154 := callable_of Tryd.func154 (by kernel_rfl) rfl
theorem cb155 : Callable Tryd.prog 155 := callable_of Tryd.func155 (by kernel_rfl) rfl
theorem cb159 : Callable Tryd.prog 159 := callable_of Tryd.func159 (by kernel_rfl) rfl
theorem cb160 : Callable Tryd.prog 160 := callable_of Tryd.func160 (by kernel_rfl) rfl
theorem cb161 : Callable Tryd.prog 161 := callable_of Tryd.func161 (by kernel_rfl) rfl
theorem cb162 : Callable Tryd.prog 162 := callable_of Tryd.func162 (by kernel_rfl) rfl
theorem cb163 : Callable Tryd.prog 163 := callable_of Tryd.func163 (by kernel_rfl) rfl
theorem cb164 : Callable Tryd.prog 164 := callable_of Tryd.func164 (by kernel_rfl) rfl
theorem cb165 : Callable Tryd.prog 165 := callable_of Tryd.func165 (by kernel_rfl) rfl
attribute [push_cast] stepO_if needB repsL splice Cont.piece mpBnd_nil mpBnd_cons mpRen_nil mpRen_cons intsOf eqB mkmS lookS updS lookI putI lookV lookR rawM_nil lookX_nil zeroSc bsA bsN partsN List.flatten_cons List.flatten_nil baseN appN rawL rawOks capsS mkfS bview bput litS bytS strS mkS zerosN rngS nxtS mmS cmpI elemK cont8_map cont32_map cont64_map take_f8 drop_f8 take_f32 drop_f32 take_f64 drop_f64 getD_app getD_f8 forall_f8 take_app drop_app List.forall_mem_append buildS setPart zeroAt zerosOf zeroCont argFr allNe ndup symC_seq symC_region symC_block symC_loop symC_draw symC_cond symC_skip symC_exit symC_ret then_normal then_exit then_ret inB_normal inB_ret inB_exit symR_cons symR_nil symM_cons symM_nil symP_nil symP_rd symP_wr symP_fk symP_f3 stepP takes isRead isCall dOk yieldS op1 S.put Fr.put Fr.ev Fr.get ev1 ev2 ev3 S.bnd Sv.bnd Sc.bnd At.bnd Res.bnd Cont.bnd nil1 val1 ret1 neg1 boxS binS binN binI bin8 bin32 bin64 shS ban unS nilEq eqS litO cvtS cvtN pickS loadS storeS idxS indexS sliceS bnds fieldS fieldAddrS extrS nilS ifcS lenS bsS parts contOf cont8 cont32 cont64 contI callS appS appS.zero1 appS.zeroN baseS srcS joinC clen setGone flat aggr isOwn isOne At.scalar scalar At.one Value.oneCell' Sc.cont Cont.cut Cont.part Cont.app Cont.len Cont.plain Cont.get Cont.set Cont.over Cont.whole toU8_n8 toU32_n32 toU64_n64 inU8_n8 inU32_n32 inU64_n64 toU8_lit toU32_lit toU64_lit inU8_lit inU32_lit inU64_lit loopK_exit loopK_ret Le leFr leHp Sv.ren Sc.ren At.ren Res.ren Cont.ren rn Fin resS outS evs ownT ownT2 inI64 maxLen Int.toNat_natCast Int.toNat_zero Nat.zero_add Nat.add_zero Nat.mul_one List.length_cons List.length_nil List.length_append List.length_map List.length_set List.length_replicate List.cons_append List.nil_append List.append_nil List.map_append List.getElem?_cons_zero List.getElem?_cons_succ List.getElem?_nil List.set_cons_zero List.set_cons_succ List.getD_cons_zero List.getD_cons_succ List.take_succ_cons List.take_zero List.drop_zero List.drop_succ_cons List.map_cons List.map_nil List.forall_mem_cons List.not_mem_nil List.reverse_cons List.toList_toArray Option.isSome_some Option.isNone_some Option.isNone_none false_implies implies_true true_implies forall_const true_and and_true and_self not_false_eq_true not_true_eq_false ne_eq or_false false_or or_true true_or or_self Nat.lt_irrefl Nat.le_refl Bool.false_eq_true Bool.true_eq_false Bool.not_true Bool.not_false Bool.or_true Bool.or_false Bool.and_true Bool.and_false Bool.true_and Bool.false_and decide_true decide_false eq_self gt_iff_lt ge_iff_le if_true if_false Option.some.injEq Prod.mk.injEq Sv.x.injEq Sc.a.injEq At.v.injEq At.o.injEq At.p.injEq Res.blk.injEq Res.own.injEq Value.int.injEq Value.bool.injEq Cont.u8.injEq Cont.u32.injEq Cont.u64.injEq Cont.c.injEq Cont.i64.injEq List.cons.injEq symK_cons symK_nil wantS stepRd maskR_cons maskR_nil List.set_nil
attribute [push_cast] Tryd.underlying2 sz2 bz2 zok2 zv2 Tryd.underlying3 sz3 bz3 zok3 zv3 Tryd.underlying4 sz4 bz4 zok4 zv4 Tryd.underlying5 sz5 bz5 zok5 zv5 Tryd.underlying9 sz9 bz9 zok9 zv9 Tryd.underlying12 sz12 bz12 zok12 zv12 Tryd.underlying13 sz13 bz13 fo13_0 fo13_1 zok13 zv13 Tryd.underlying15 sz15 bz15 zok15 zv15 Tryd.underlying16 sz16 bz16 zok16 zv16 Tryd.underlying17 sz17 bz17 zok17 zv17 Tryd.underlying20 sz20 bz20 zok20 zv20 Tryd.underlying21 sz21 bz21 zok21 zv21 Tryd.underlying22 sz22 bz22 zok22 zv22 Tryd.underlying23 sz23 bz23 zok23 zv23 Tryd.underlying24 sz24 bz24 zok24 zv24 Tryd.underlying25 sz25 bz25 zok25 zv25 Tryd.underlying26 sz26 bz26 fo26_0 fo26_1 fo26_2 fo26_3 fo26_4 fo26_5 fo26_6 fo26_7 zok26 zv26 Tryd.underlying27 sz27 bz27 fo27_0 fo27_1 fo27_2 fo27_3 fo27_4 fo27_5 fo27_6 fo27_7 zok27 zv27 Tryd.underlying28 sz28 bz28 zok28 zv28 Tryd.underlying30 sz30 bz30 zok30 zv30 Tryd.underlying31 sz31 bz31 zok31 zv31 Tryd.underlying34 sz34 bz34 zok34 zv34 Tryd.underlying41 sz41 bz41 zok41 zv41 Tryd.underlying48 sz48 bz48 zok48 zv48 Tryd.underlying50 sz50 bz50 zok50 zv50 Tryd.underlying51 sz51 bz51 aeq51 zok51 zv51 Tryd.underlying52 sz52 bz52 fo52_0 fo52_1 fo52_2 fo52_3 Tryd.underlying53 sz53 bz53 fo53_0 fo53_1 fo53_2 fo53_3 Tryd.underlying54 sz54 bz54 fo54_0 fo54_1 zok54 zv54 Tryd.underlying55 sz55 bz55 fo55_0 fo55_1 zok55 zv55 seq55 Tryd.underlying56 sz56 bz56 zok56 zv56 Tryd.underlying60 sz60 bz60 aeq60 zok60 zv60 Tryd.underlying62 sz62 bz62 zok62 zv62 Tryd.underlying63 sz63 bz63 fo63_0 fo63_1 fo63_2 fo63_3 zok63 zv63 Tryd.underlying64 sz64 bz64 fo64_0 fo64_1 fo64_2 fo64_3 zok64 zv64 Tryd.underlying65 sz65 bz65 fo65_0 fo65_1 zok65 zv65 seq65 Tryd.underlying66 sz66 bz66 aeq66 zok66 zv66 Tryd.underlying67 sz67 bz67 fo67_0 fo67_1 fo67_2 fo67_3 fo67_4 fo67_5 fo67_6 Tryd.underlying68 sz68 bz68 fo68_0 fo68_1 fo68_2 fo68_3 fo68_4 fo68_5 fo68_6 Tryd.underlying71 sz71 bz71 fo71_0 fo71_1 fo71_2 fo71_3 zok71 zv71 Tryd.underlying75 sz75 bz75 fo75_0 fo75_1 zok75 zv75 Tryd.underlying76 sz76 bz76 fo76_0 fo76_1 zok76 zv76 seq76 Tryd.underlying77 sz77 bz77 zok77 zv77 Tryd.underlying80 sz80 bz80 fo80_0 fo80_1 zok80 zv80 seq80 Tryd.underlying81 sz81 bz81 zok81 zv81 Tryd.underlying87 sz87 bz87 fo87_0 fo87_1 fo87_2 fo87_3 zok87 zv87 Tryd.underlying88 sz88 bz88 fo88_0 fo88_1 fo88_2 fo88_3 zok88 zv88 Tryd.underlying89 sz89 bz89 zok89 zv89 Tryd.underlying90 sz90 bz90 zok90 zv90 Tryd.underlying106 sz106 bz106 zok106 zv106 Tryd.underlying107 sz107 bz107 zok107 zv107 Tryd.underlying115 sz115 bz115 zok115 zv115 Tryd.underlying116 sz116 bz116 aeq116 zok116 zv116 Tryd.underlying121 sz121 bz121 zok121 zv121 Tryd.underlying125 sz125 bz125 fo125_0 fo125_1 zok125 zv125 Tryd.underlying126 sz126 bz126 fo126_0 fo126_1 zok126 zv126 seq126 Tryd.underlying131 sz131 bz131 zok131 zv131 Tryd.underlying149 sz149 bz149 zok149 zv149 Tryd.underlying178 sz178 bz178 aeq178 zok178 zv178 Tryd.underlying179 sz179 bz179 aeq179 zok179 zv179 Tryd.underlying184 sz184 bz184 fo184_0 zok184 zv184 Tryd.underlying185 sz185 bz185 zok185 zv185 Tryd.underlying189 sz189 bz189 zok189 zv189 Tryd.underlying192 sz192 bz192 zok192 zv192 Tryd.underlying194 sz194 bz194 zok194 zv194 Tryd.underlying195 sz195 bz195 zok195 zv195 Tryd.underlying200 sz200 bz200 zok200 zv200 Tryd.underlying209 sz209 bz209 zok209 zv209 Tryd.underlying218 sz218 bz218 zok218 zv218 Tryd.underlying222 sz222 bz222 zok222 zv222 Tryd.underlying225 sz225 bz225 aeq225 zok225 zv225 Tryd.underlying229 sz229 bz229 zok229 zv229 Tryd.underlying232 sz232 bz232 aeq232 zok232 zv232 Tryd.underlying239 sz239 bz239 aeq239 zok239 zv239 Tryd.underlying240 sz240 bz240 aeq240 zok240 zv240 Tryd.underlying243 sz243 bz243 aeq243 zok243 zv243 Tryd.underlying255 sz255 bz255 zok255 zv255 Tryd.underlying264 sz264 bz264 zok264 zv264 Tryd.underlying266 sz266 bz266 zok266 zv266 Tryd.underlying273 sz273 bz273 zok273 zv273
attribute [push_cast] Tryd.results3 Tryd.results4 Tryd.results5 Tryd.results6 Tryd.results7 Tryd.results8 Tryd.results9 Tryd.results10 Tryd.results11 Tryd.results12 Tryd.results13 Tryd.results14 Tryd.results15 Tryd.results16 Tryd.results17 Tryd.results18 Tryd.results19 Tryd.results20 Tryd.results21 Tryd.results22 Tryd.results23 Tryd.results24 Tryd.results25 Tryd.results26 Tryd.results27 Tryd.results28 Tryd.results29 Tryd.results30 Tryd.results31 Tryd.results32 Tryd.results33 Tryd.results34 Tryd.results35 Tryd.results36 Tryd.results37 Tryd.results38 Tryd.results39 Tryd.results40 Tryd.results41 Tryd.results42 Tryd.results43 Tryd.results44 Tryd.results45 Tryd.results46 Tryd.results47 Tryd.results48 Tryd.results49 Tryd.results50 Tryd.results51 Tryd.results52 Tryd.results53 Tryd.results54 Tryd.results55 Tryd.results56 Tryd.results57 Tryd.results58 Tryd.results59 Tryd.results60 Tryd.results61 Tryd.results62 Tryd.results64 Tryd.results65 Tryd.results66 Tryd.results67 Tryd.results68 Tryd.results69 Tryd.results70 Tryd.results71 Tryd.results72 Tryd.results73 Tryd.results74 Tryd.results75 Tryd.results76 Tryd.results77 Tryd.results78 Tryd.results79 Tryd.results80 Tryd.results81 Tryd.results83 Tryd.results84 Tryd.results85 Tryd.results86 Tryd.results87 Tryd.results88 Tryd.results89 Tryd.results90 Tryd.results91 Tryd.results92 Tryd.results97 Tryd.results98 Tryd.results99 Tryd.results100 Tryd.results101 Tryd.results102 Tryd.results103 Tryd.results104 Tryd.results105 Tryd.results106 Tryd.results108 Tryd.results109 Tryd.results110 Tryd.results111 Tryd.results112 Tryd.results113 Tryd.results114 Tryd.results115 Tryd.results116 Tryd.results117 Tryd.results121 Tryd.results123 Tryd.results124 Tryd.results125 Tryd.results126 Tryd.results127 Tryd.results128 Tryd.results129 Tryd.results130 Tryd.results131 Tryd.results132 Tryd.results133 Tryd.results134 Tryd.results135 Tryd.results136 Tryd.results137 Tryd.results138 Tryd.results139 Tryd.results140 Tryd.results142 Tryd.results143 Tryd.results145 Tryd.results146 Tryd.results147 Tryd.results148 Tryd.results153 Tryd.results154 Tryd.results155 Tryd.results159 Tryd.results160 Tryd.results161 Tryd.results162 Tryd.results163 Tryd.results164 Tryd.results165
end Go.Proofs.YteiifdpikcnbgaaDoor
