import Derived.Test.YtiaeollemmkclaaDoorEn3
import Derived.Test.YtiaeollemmkclaaDoorProg
/- Facts on the types of the program, for the engine. Made by program. -/
namespace Go.Proofs.YtiaeollemmkclaaDoor
open Go.RowKit
set_option linter.unusedSimpArgs false
theorem sz2 : sz Tryd.prog 2 = 1 := by kernel_rfl
theorem bz2 : bz Tryd.prog 2 = 8 := by kernel_rfl
theorem zok2 : ZOk Tryd.prog 2 (.c [.v (.int .i64 0)]) = True := eq_true ⟨.int .i64 0, by kernel_rfl, fun _ => by first | rfl | simp [Value.cells, Cont.vals, arr8, arr32, arr64]⟩
theorem zv2 : ZVal Tryd.prog 2 (.a (.v (.int .i64 0))) = True := eq_true ⟨.int .i64 0, by kernel_rfl, fun _ => by first | rfl | simp [Sc.val, At.val, arr8, arr32, arr64]⟩
theorem sz3 : sz Tryd.prog 3 = 1 := by kernel_rfl
theorem bz3 : bz Tryd.prog 3 = 8 := by kernel_rfl
theorem zok3 : ZOk Tryd.prog 3 (.c [.v (.int .i64 0)]) = True := eq_true ⟨.int .i64 0, by kernel_rfl, fun _ => by first | rfl | simp [Value.cells, Cont.vals, arr8, arr32, arr64]⟩
theorem zv3 : ZVal Tryd.prog 3 (.a (.v (.int .i64 0))) = True := eq_true ⟨.int .i64 0, by kernel_rfl, fun _ => by first | rfl | simp [Sc.val, At.val, arr8, arr32, arr64]⟩
theorem sz4 : sz Tryd.prog 4 = 1 := by kernel_rfl
theorem bz4 : bz Tryd.prog 4 = 1 := by kernel_rfl
theorem zok4 : ZOk Tryd.prog 4 (.c [.v (.bool false)]) = True := eq_true ⟨.bool false, by kernel_rfl, fun _ => by first | rfl | simp [Value.cells, Cont.vals, arr8, arr32, arr64]⟩
theorem zv4 : ZVal Tryd.prog 4 (.a (.v (.bool false))) = True := eq_true ⟨.bool false, by kernel_rfl, fun _ => by first | rfl | simp [Sc.val, At.val, arr8, arr32, arr64]⟩
theorem sz5 : sz Tryd.prog 5 = 1 := by kernel_rfl
theorem bz5 : bz Tryd.prog 5 = 1 := by kernel_rfl
theorem zok5 : ZOk Tryd.prog 5 (.c [.v (.int .u8 0)]) = True := eq_true ⟨.int .u8 0, by kernel_rfl, fun _ => by first | rfl | simp [Value.cells, Cont.vals, arr8, arr32, arr64]⟩
theorem zv5 : ZVal Tryd.prog 5 (.a (.v (.int .u8 0))) = True := eq_true ⟨.int .u8 0, by kernel_rfl, fun _ => by first | rfl | simp [Sc.val, At.val, arr8, arr32, arr64]⟩
theorem sz9 : sz Tryd.prog 9 = 1 := by kernel_rfl
theorem bz9 : bz Tryd.prog 9 = 16 := by kernel_rfl
theorem zok9 : ZOk Tryd.prog 9 (.c [.v (.string .empty)]) = True := eq_true ⟨.string .empty, by kernel_rfl, fun _ => by first | rfl | simp [Value.cells, Cont.vals, arr8, arr32, arr64]⟩
theorem zv9 : ZVal Tryd.prog 9 (.a (.v (.string .empty))) = True := eq_true ⟨.string .empty, by kernel_rfl, fun _ => by first | rfl | simp [Sc.val, At.val, arr8, arr32, arr64]⟩
theorem sz12 : sz Tryd.prog 12 = 1 := by kernel_rfl
theorem bz12 : bz Tryd.prog 12 = 8 := by kernel_rfl
theorem zok12 : ZOk Tryd.prog 12 (.c [.v (.int .u64 0)]) = True := eq_true ⟨.int .u64 0, by kernel_rfl, fun _ => by first | rfl | simp [Value.cells, Cont.vals, arr8, arr32, arr64]⟩
theorem zv12 : ZVal Tryd.prog 12 (.a (.v (.int .u64 0))) = True := eq_true ⟨.int .u64 0, by kernel_rfl, fun _ => by first | rfl | simp [Sc.val, At.val, arr8, arr32, arr64]⟩
theorem sz13 : sz Tryd.prog 13 = 2 := by kernel_rfl
theorem bz13 : bz Tryd.prog 13 = 24 := by kernel_rfl
theorem fo13_0 : fieldOff Tryd.prog 13 0 = some (0, 9) := by kernel_rfl
theorem fo13_1 : fieldOff Tryd.prog 13 1 = some (1, 12) := by kernel_rfl
theorem zok13 : ZOk Tryd.prog 13 (.c [.v (.string .empty), .v (.int .u64 0)]) = True := eq_true ⟨.agg #[.string .empty, .int .u64 0], by kernel_rfl, fun _ => by first | rfl | simp [Value.cells, Cont.vals, arr8, arr32, arr64]⟩
theorem zv13 : ZVal Tryd.prog 13 (.g [.v (.string .empty), .v (.int .u64 0)]) = True := eq_true ⟨.agg #[.string .empty, .int .u64 0], by kernel_rfl, fun _ => by first | rfl | simp [Sc.val, At.val, arr8, arr32, arr64]⟩
theorem sz15 : sz Tryd.prog 15 = 1 := by kernel_rfl
theorem bz15 : bz Tryd.prog 15 = 8 := by kernel_rfl
theorem zok15 : ZOk Tryd.prog 15 (.c [.v (.pointer none)]) = True := eq_true ⟨.pointer none, by kernel_rfl, fun _ => by first | rfl | simp [Value.cells, Cont.vals, arr8, arr32, arr64]⟩
theorem zv15 : ZVal Tryd.prog 15 (.a (.v (.pointer none))) = True := eq_true ⟨.pointer none, by kernel_rfl, fun _ => by first | rfl | simp [Sc.val, At.val, arr8, arr32, arr64]⟩
theorem sz16 : sz Tryd.prog 16 = 1 := by kernel_rfl
theorem bz16 : bz Tryd.prog 16 = 8 := by kernel_rfl
theorem zok16 : ZOk Tryd.prog 16 (.c [.v (.pointer none)]) = True := eq_true ⟨.pointer none, by kernel_rfl, fun _ => by first | rfl | simp [Value.cells, Cont.vals, arr8, arr32, arr64]⟩
theorem zv16 : ZVal Tryd.prog 16 (.a (.v (.pointer none))) = True := eq_true ⟨.pointer none, by kernel_rfl, fun _ => by first | rfl | simp [Sc.val, At.val, arr8, arr32, arr64]⟩
theorem sz17 : sz Tryd.prog 17 = 1 := by kernel_rfl
theorem bz17 : bz Tryd.prog 17 = 8 := by kernel_rfl
theorem zok17 : ZOk Tryd.prog 17 (.c [.v (.pointer none)]) = True := eq_true ⟨.pointer none, by kernel_rfl, fun _ => by first | rfl | simp [Value.cells, Cont.vals, arr8, arr32, arr64]⟩
theorem zv17 : ZVal Tryd.prog 17 (.a (.v (.pointer none))) = True := eq_true ⟨.pointer none, by kernel_rfl, fun _ => by first | rfl | simp [Sc.val, At.val, arr8, arr32, arr64]⟩
theorem sz20 : sz Tryd.prog 20 = 1 := by kernel_rfl
theorem bz20 : bz Tryd.prog 20 = 16 := by kernel_rfl
theorem zok20 : ZOk Tryd.prog 20 (.c [.v .nilIface]) = True := eq_true ⟨.nilIface, by kernel_rfl, fun _ => by first | rfl | simp [Value.cells, Cont.vals, arr8, arr32, arr64]⟩
theorem zv20 : ZVal Tryd.prog 20 (.a (.v (.nilIface))) = True := eq_true ⟨.nilIface, by kernel_rfl, fun _ => by first | rfl | simp [Sc.val, At.val, arr8, arr32, arr64]⟩
theorem sz21 : sz Tryd.prog 21 = 1 := by kernel_rfl
theorem bz21 : bz Tryd.prog 21 = 4 := by kernel_rfl
theorem zok21 : ZOk Tryd.prog 21 (.c [.v (.int .i32 0)]) = True := eq_true ⟨.int .i32 0, by kernel_rfl, fun _ => by first | rfl | simp [Value.cells, Cont.vals, arr8, arr32, arr64]⟩
theorem zv21 : ZVal Tryd.prog 21 (.a (.v (.int .i32 0))) = True := eq_true ⟨.int .i32 0, by kernel_rfl, fun _ => by first | rfl | simp [Sc.val, At.val, arr8, arr32, arr64]⟩
theorem sz22 : sz Tryd.prog 22 = 1 := by kernel_rfl
theorem bz22 : bz Tryd.prog 22 = 24 := by kernel_rfl
theorem zok22 : ZOk Tryd.prog 22 (.c [.v (.slice none 0 0)]) = True := eq_true ⟨.slice none 0 0, by kernel_rfl, fun _ => by first | rfl | simp [Value.cells, Cont.vals, arr8, arr32, arr64]⟩
theorem zv22 : ZVal Tryd.prog 22 (.a (.v (.slice none 0 0))) = True := eq_true ⟨.slice none 0 0, by kernel_rfl, fun _ => by first | rfl | simp [Sc.val, At.val, arr8, arr32, arr64]⟩
theorem sz23 : sz Tryd.prog 23 = 1 := by kernel_rfl
theorem bz23 : bz Tryd.prog 23 = 24 := by kernel_rfl
theorem zok23 : ZOk Tryd.prog 23 (.c [.v (.slice none 0 0)]) = True := eq_true ⟨.slice none 0 0, by kernel_rfl, fun _ => by first | rfl | simp [Value.cells, Cont.vals, arr8, arr32, arr64]⟩
theorem zv23 : ZVal Tryd.prog 23 (.a (.v (.slice none 0 0))) = True := eq_true ⟨.slice none 0 0, by kernel_rfl, fun _ => by first | rfl | simp [Sc.val, At.val, arr8, arr32, arr64]⟩
theorem sz24 : sz Tryd.prog 24 = 1 := by kernel_rfl
theorem bz24 : bz Tryd.prog 24 = 8 := by kernel_rfl
theorem zok24 : ZOk Tryd.prog 24 (.c [.v (.pointer none)]) = True := eq_true ⟨.pointer none, by kernel_rfl, fun _ => by first | rfl | simp [Value.cells, Cont.vals, arr8, arr32, arr64]⟩
theorem zv24 : ZVal Tryd.prog 24 (.a (.v (.pointer none))) = True := eq_true ⟨.pointer none, by kernel_rfl, fun _ => by first | rfl | simp [Sc.val, At.val, arr8, arr32, arr64]⟩
theorem sz25 : sz Tryd.prog 25 = 1 := by kernel_rfl
theorem bz25 : bz Tryd.prog 25 = 8 := by kernel_rfl
theorem zok25 : ZOk Tryd.prog 25 (.c [.v (.pointer none)]) = True := eq_true ⟨.pointer none, by kernel_rfl, fun _ => by first | rfl | simp [Value.cells, Cont.vals, arr8, arr32, arr64]⟩
theorem zv25 : ZVal Tryd.prog 25 (.a (.v (.pointer none))) = True := eq_true ⟨.pointer none, by kernel_rfl, fun _ => by first | rfl | simp [Sc.val, At.val, arr8, arr32, arr64]⟩
theorem sz27 : sz Tryd.prog 27 = 1 := by kernel_rfl
theorem bz27 : bz Tryd.prog 27 = 8 := by kernel_rfl
theorem zok27 : ZOk Tryd.prog 27 (.c [.v (.int .u64 0)]) = True := eq_true ⟨.int .u64 0, by kernel_rfl, fun _ => by first | rfl | simp [Value.cells, Cont.vals, arr8, arr32, arr64]⟩
theorem zv27 : ZVal Tryd.prog 27 (.a (.v (.int .u64 0))) = True := eq_true ⟨.int .u64 0, by kernel_rfl, fun _ => by first | rfl | simp [Sc.val, At.val, arr8, arr32, arr64]⟩
theorem sz28 : sz Tryd.prog 28 = 1 := by kernel_rfl
theorem bz28 : bz Tryd.prog 28 = 24 := by kernel_rfl
theorem zok28 : ZOk Tryd.prog 28 (.c [.v (.slice none 0 0)]) = True := eq_true ⟨.slice none 0 0, by kernel_rfl, fun _ => by first | rfl | simp [Value.cells, Cont.vals, arr8, arr32, arr64]⟩
theorem zv28 : ZVal Tryd.prog 28 (.a (.v (.slice none 0 0))) = True := eq_true ⟨.slice none 0 0, by kernel_rfl, fun _ => by first | rfl | simp [Sc.val, At.val, arr8, arr32, arr64]⟩
theorem sz29 : sz Tryd.prog 29 = 32 := by kernel_rfl
theorem bz29 : bz Tryd.prog 29 = 32 := by kernel_rfl
theorem aeq29 : arrEq Tryd.prog 29 32 .u8 = True := eq_true ⟨5, Tryd.underlying29, Tryd.underlying5, by kernel_rfl, by kernel_rfl, by kernel_rfl⟩
theorem zok29 : ZOk Tryd.prog 29 (.u8 (List.replicate 32 0)) = True := eq_true ⟨.agg (arr8 (List.replicate 32 0)), by kernel_rfl, fun _ => by first | rfl | simp [Value.cells, Cont.vals, arr8, arr32, arr64]⟩
theorem zv29 : ZVal Tryd.prog 29 (.a8 (List.replicate 32 0)) = True := eq_true ⟨.agg (arr8 (List.replicate 32 0)), by kernel_rfl, fun _ => by first | rfl | simp [Sc.val, At.val, arr8, arr32, arr64]⟩
theorem sz30 : sz Tryd.prog 30 = 1 := by kernel_rfl
theorem bz30 : bz Tryd.prog 30 = 24 := by kernel_rfl
theorem zok30 : ZOk Tryd.prog 30 (.c [.v (.slice none 0 0)]) = True := eq_true ⟨.slice none 0 0, by kernel_rfl, fun _ => by first | rfl | simp [Value.cells, Cont.vals, arr8, arr32, arr64]⟩
theorem zv30 : ZVal Tryd.prog 30 (.a (.v (.slice none 0 0))) = True := eq_true ⟨.slice none 0 0, by kernel_rfl, fun _ => by first | rfl | simp [Sc.val, At.val, arr8, arr32, arr64]⟩
theorem sz31 : sz Tryd.prog 31 = 39 := by kernel_rfl
theorem bz31 : bz Tryd.prog 31 = 136 := by kernel_rfl
theorem fo31_0 : fieldOff Tryd.prog 31 0 = some (0, 5) := by kernel_rfl
theorem fo31_1 : fieldOff Tryd.prog 31 1 = some (1, 27) := by kernel_rfl
theorem fo31_2 : fieldOff Tryd.prog 31 2 = some (2, 28) := by kernel_rfl
theorem fo31_3 : fieldOff Tryd.prog 31 3 = some (3, 23) := by kernel_rfl
theorem fo31_4 : fieldOff Tryd.prog 31 4 = some (4, 29) := by kernel_rfl
theorem fo31_5 : fieldOff Tryd.prog 31 5 = some (36, 30) := by kernel_rfl
theorem fo31_6 : fieldOff Tryd.prog 31 6 = some (37, 3) := by kernel_rfl
theorem fo31_7 : fieldOff Tryd.prog 31 7 = some (38, 27) := by kernel_rfl
theorem sz32 : sz Tryd.prog 32 = 39 := by kernel_rfl
theorem bz32 : bz Tryd.prog 32 = 136 := by kernel_rfl
theorem fo32_0 : fieldOff Tryd.prog 32 0 = some (0, 5) := by kernel_rfl
theorem fo32_1 : fieldOff Tryd.prog 32 1 = some (1, 27) := by kernel_rfl
theorem fo32_2 : fieldOff Tryd.prog 32 2 = some (2, 28) := by kernel_rfl
theorem fo32_3 : fieldOff Tryd.prog 32 3 = some (3, 23) := by kernel_rfl
theorem fo32_4 : fieldOff Tryd.prog 32 4 = some (4, 29) := by kernel_rfl
theorem fo32_5 : fieldOff Tryd.prog 32 5 = some (36, 30) := by kernel_rfl
theorem fo32_6 : fieldOff Tryd.prog 32 6 = some (37, 3) := by kernel_rfl
theorem fo32_7 : fieldOff Tryd.prog 32 7 = some (38, 27) := by kernel_rfl
theorem sz40 : sz Tryd.prog 40 = 1 := by kernel_rfl
theorem bz40 : bz Tryd.prog 40 = 16 := by kernel_rfl
theorem zok40 : ZOk Tryd.prog 40 (.c [.v .nilIface]) = True := eq_true ⟨.nilIface, by kernel_rfl, fun _ => by first | rfl | simp [Value.cells, Cont.vals, arr8, arr32, arr64]⟩
theorem zv40 : ZVal Tryd.prog 40 (.a (.v (.nilIface))) = True := eq_true ⟨.nilIface, by kernel_rfl, fun _ => by first | rfl | simp [Sc.val, At.val, arr8, arr32, arr64]⟩
theorem sz41 : sz Tryd.prog 41 = 1 := by kernel_rfl
theorem bz41 : bz Tryd.prog 41 = 16 := by kernel_rfl
theorem zok41 : ZOk Tryd.prog 41 (.c [.v .nilIface]) = True := eq_true ⟨.nilIface, by kernel_rfl, fun _ => by first | rfl | simp [Value.cells, Cont.vals, arr8, arr32, arr64]⟩
theorem zv41 : ZVal Tryd.prog 41 (.a (.v (.nilIface))) = True := eq_true ⟨.nilIface, by kernel_rfl, fun _ => by first | rfl | simp [Sc.val, At.val, arr8, arr32, arr64]⟩
theorem sz45 : sz Tryd.prog 45 = 1 := by kernel_rfl
theorem bz45 : bz Tryd.prog 45 = 8 := by kernel_rfl
theorem zok45 : ZOk Tryd.prog 45 (.c [.v (.pointer none)]) = True := eq_true ⟨.pointer none, by kernel_rfl, fun _ => by first | rfl | simp [Value.cells, Cont.vals, arr8, arr32, arr64]⟩
theorem zv45 : ZVal Tryd.prog 45 (.a (.v (.pointer none))) = True := eq_true ⟨.pointer none, by kernel_rfl, fun _ => by first | rfl | simp [Sc.val, At.val, arr8, arr32, arr64]⟩
theorem sz46 : sz Tryd.prog 46 = 2 := by kernel_rfl
theorem bz46 : bz Tryd.prog 46 = 16 := by kernel_rfl
theorem fo46_0 : fieldOff Tryd.prog 46 0 = some (0, 45) := by kernel_rfl
theorem fo46_1 : fieldOff Tryd.prog 46 1 = some (1, 3) := by kernel_rfl
theorem zok46 : ZOk Tryd.prog 46 (.c [.v (.pointer none), .v (.int .i64 0)]) = True := eq_true ⟨.agg #[.pointer none, .int .i64 0], by kernel_rfl, fun _ => by first | rfl | simp [Value.cells, Cont.vals, arr8, arr32, arr64]⟩
theorem zv46 : ZVal Tryd.prog 46 (.g [.v (.pointer none), .v (.int .i64 0)]) = True := eq_true ⟨.agg #[.pointer none, .int .i64 0], by kernel_rfl, fun _ => by first | rfl | simp [Sc.val, At.val, arr8, arr32, arr64]⟩
theorem sz47 : sz Tryd.prog 47 = 2 := by kernel_rfl
theorem bz47 : bz Tryd.prog 47 = 16 := by kernel_rfl
theorem fo47_0 : fieldOff Tryd.prog 47 0 = some (0, 45) := by kernel_rfl
theorem fo47_1 : fieldOff Tryd.prog 47 1 = some (1, 3) := by kernel_rfl
theorem zok47 : ZOk Tryd.prog 47 (.c [.v (.pointer none), .v (.int .i64 0)]) = True := eq_true ⟨.agg #[.pointer none, .int .i64 0], by kernel_rfl, fun _ => by first | rfl | simp [Value.cells, Cont.vals, arr8, arr32, arr64]⟩
theorem zv47 : ZVal Tryd.prog 47 (.g [.v (.pointer none), .v (.int .i64 0)]) = True := eq_true ⟨.agg #[.pointer none, .int .i64 0], by kernel_rfl, fun _ => by first | rfl | simp [Sc.val, At.val, arr8, arr32, arr64]⟩
theorem sz55 : sz Tryd.prog 55 = 1 := by kernel_rfl
theorem bz55 : bz Tryd.prog 55 = 2 := by kernel_rfl
theorem zok55 : ZOk Tryd.prog 55 (.c [.v (.int .u16 0)]) = True := eq_true ⟨.int .u16 0, by kernel_rfl, fun _ => by first | rfl | simp [Value.cells, Cont.vals, arr8, arr32, arr64]⟩
theorem zv55 : ZVal Tryd.prog 55 (.a (.v (.int .u16 0))) = True := eq_true ⟨.int .u16 0, by kernel_rfl, fun _ => by first | rfl | simp [Sc.val, At.val, arr8, arr32, arr64]⟩
theorem sz58 : sz Tryd.prog 58 = 1 := by kernel_rfl
theorem bz58 : bz Tryd.prog 58 = 24 := by kernel_rfl
theorem zok58 : ZOk Tryd.prog 58 (.c [.v (.slice none 0 0)]) = True := eq_true ⟨.slice none 0 0, by kernel_rfl, fun _ => by first | rfl | simp [Value.cells, Cont.vals, arr8, arr32, arr64]⟩
theorem zv58 : ZVal Tryd.prog 58 (.a (.v (.slice none 0 0))) = True := eq_true ⟨.slice none 0 0, by kernel_rfl, fun _ => by first | rfl | simp [Sc.val, At.val, arr8, arr32, arr64]⟩
theorem sz59 : sz Tryd.prog 59 = 1 := by kernel_rfl
theorem bz59 : bz Tryd.prog 59 = 24 := by kernel_rfl
theorem zok59 : ZOk Tryd.prog 59 (.c [.v (.slice none 0 0)]) = True := eq_true ⟨.slice none 0 0, by kernel_rfl, fun _ => by first | rfl | simp [Value.cells, Cont.vals, arr8, arr32, arr64]⟩
theorem zv59 : ZVal Tryd.prog 59 (.a (.v (.slice none 0 0))) = True := eq_true ⟨.slice none 0 0, by kernel_rfl, fun _ => by first | rfl | simp [Sc.val, At.val, arr8, arr32, arr64]⟩
theorem sz60 : sz Tryd.prog 60 = 5 := by kernel_rfl
theorem bz60 : bz Tryd.prog 60 = 72 := by kernel_rfl
theorem fo60_0 : fieldOff Tryd.prog 60 0 = some (0, 3) := by kernel_rfl
theorem fo60_1 : fieldOff Tryd.prog 60 1 = some (1, 58) := by kernel_rfl
theorem fo60_2 : fieldOff Tryd.prog 60 2 = some (2, 59) := by kernel_rfl
theorem fo60_3 : fieldOff Tryd.prog 60 3 = some (3, 3) := by kernel_rfl
theorem fo60_4 : fieldOff Tryd.prog 60 4 = some (4, 3) := by kernel_rfl
theorem zok60 : ZOk Tryd.prog 60 (.c [.v (.int .i64 0), .v (.slice none 0 0), .v (.slice none 0 0), .v (.int .i64 0), .v (.int .i64 0)]) = True := eq_true ⟨.agg #[.int .i64 0, .slice none 0 0, .slice none 0 0, .int .i64 0, .int .i64 0], by kernel_rfl, fun _ => by first | rfl | simp [Value.cells, Cont.vals, arr8, arr32, arr64]⟩
theorem zv60 : ZVal Tryd.prog 60 (.g [.v (.int .i64 0), .v (.slice none 0 0), .v (.slice none 0 0), .v (.int .i64 0), .v (.int .i64 0)]) = True := eq_true ⟨.agg #[.int .i64 0, .slice none 0 0, .slice none 0 0, .int .i64 0, .int .i64 0], by kernel_rfl, fun _ => by first | rfl | simp [Sc.val, At.val, arr8, arr32, arr64]⟩
theorem sz61 : sz Tryd.prog 61 = 5 := by kernel_rfl
theorem bz61 : bz Tryd.prog 61 = 72 := by kernel_rfl
theorem fo61_0 : fieldOff Tryd.prog 61 0 = some (0, 3) := by kernel_rfl
theorem fo61_1 : fieldOff Tryd.prog 61 1 = some (1, 58) := by kernel_rfl
theorem fo61_2 : fieldOff Tryd.prog 61 2 = some (2, 59) := by kernel_rfl
theorem fo61_3 : fieldOff Tryd.prog 61 3 = some (3, 3) := by kernel_rfl
theorem fo61_4 : fieldOff Tryd.prog 61 4 = some (4, 3) := by kernel_rfl
theorem zok61 : ZOk Tryd.prog 61 (.c [.v (.int .i64 0), .v (.slice none 0 0), .v (.slice none 0 0), .v (.int .i64 0), .v (.int .i64 0)]) = True := eq_true ⟨.agg #[.int .i64 0, .slice none 0 0, .slice none 0 0, .int .i64 0, .int .i64 0], by kernel_rfl, fun _ => by first | rfl | simp [Value.cells, Cont.vals, arr8, arr32, arr64]⟩
theorem zv61 : ZVal Tryd.prog 61 (.g [.v (.int .i64 0), .v (.slice none 0 0), .v (.slice none 0 0), .v (.int .i64 0), .v (.int .i64 0)]) = True := eq_true ⟨.agg #[.int .i64 0, .slice none 0 0, .slice none 0 0, .int .i64 0, .int .i64 0], by kernel_rfl, fun _ => by first | rfl | simp [Sc.val, At.val, arr8, arr32, arr64]⟩
theorem sz62 : sz Tryd.prog 62 = 1 := by kernel_rfl
theorem bz62 : bz Tryd.prog 62 = 24 := by kernel_rfl
theorem zok62 : ZOk Tryd.prog 62 (.c [.v (.slice none 0 0)]) = True := eq_true ⟨.slice none 0 0, by kernel_rfl, fun _ => by first | rfl | simp [Value.cells, Cont.vals, arr8, arr32, arr64]⟩
theorem zv62 : ZVal Tryd.prog 62 (.a (.v (.slice none 0 0))) = True := eq_true ⟨.slice none 0 0, by kernel_rfl, fun _ => by first | rfl | simp [Sc.val, At.val, arr8, arr32, arr64]⟩
theorem sz63 : sz Tryd.prog 63 = 1 := by kernel_rfl
theorem bz63 : bz Tryd.prog 63 = 24 := by kernel_rfl
theorem zok63 : ZOk Tryd.prog 63 (.c [.v (.slice none 0 0)]) = True := eq_true ⟨.slice none 0 0, by kernel_rfl, fun _ => by first | rfl | simp [Value.cells, Cont.vals, arr8, arr32, arr64]⟩
theorem zv63 : ZVal Tryd.prog 63 (.a (.v (.slice none 0 0))) = True := eq_true ⟨.slice none 0 0, by kernel_rfl, fun _ => by first | rfl | simp [Sc.val, At.val, arr8, arr32, arr64]⟩
theorem sz64 : sz Tryd.prog 64 = 5 := by kernel_rfl
theorem bz64 : bz Tryd.prog 64 = 72 := by kernel_rfl
theorem fo64_0 : fieldOff Tryd.prog 64 0 = some (0, 3) := by kernel_rfl
theorem fo64_1 : fieldOff Tryd.prog 64 1 = some (1, 62) := by kernel_rfl
theorem fo64_2 : fieldOff Tryd.prog 64 2 = some (2, 63) := by kernel_rfl
theorem fo64_3 : fieldOff Tryd.prog 64 3 = some (3, 3) := by kernel_rfl
theorem fo64_4 : fieldOff Tryd.prog 64 4 = some (4, 3) := by kernel_rfl
theorem zok64 : ZOk Tryd.prog 64 (.c [.v (.int .i64 0), .v (.slice none 0 0), .v (.slice none 0 0), .v (.int .i64 0), .v (.int .i64 0)]) = True := eq_true ⟨.agg #[.int .i64 0, .slice none 0 0, .slice none 0 0, .int .i64 0, .int .i64 0], by kernel_rfl, fun _ => by first | rfl | simp [Value.cells, Cont.vals, arr8, arr32, arr64]⟩
theorem zv64 : ZVal Tryd.prog 64 (.g [.v (.int .i64 0), .v (.slice none 0 0), .v (.slice none 0 0), .v (.int .i64 0), .v (.int .i64 0)]) = True := eq_true ⟨.agg #[.int .i64 0, .slice none 0 0, .slice none 0 0, .int .i64 0, .int .i64 0], by kernel_rfl, fun _ => by first | rfl | simp [Sc.val, At.val, arr8, arr32, arr64]⟩
theorem sz65 : sz Tryd.prog 65 = 5 := by kernel_rfl
theorem bz65 : bz Tryd.prog 65 = 72 := by kernel_rfl
theorem fo65_0 : fieldOff Tryd.prog 65 0 = some (0, 3) := by kernel_rfl
theorem fo65_1 : fieldOff Tryd.prog 65 1 = some (1, 62) := by kernel_rfl
theorem fo65_2 : fieldOff Tryd.prog 65 2 = some (2, 63) := by kernel_rfl
theorem fo65_3 : fieldOff Tryd.prog 65 3 = some (3, 3) := by kernel_rfl
theorem fo65_4 : fieldOff Tryd.prog 65 4 = some (4, 3) := by kernel_rfl
theorem zok65 : ZOk Tryd.prog 65 (.c [.v (.int .i64 0), .v (.slice none 0 0), .v (.slice none 0 0), .v (.int .i64 0), .v (.int .i64 0)]) = True := eq_true ⟨.agg #[.int .i64 0, .slice none 0 0, .slice none 0 0, .int .i64 0, .int .i64 0], by kernel_rfl, fun _ => by first | rfl | simp [Value.cells, Cont.vals, arr8, arr32, arr64]⟩
theorem zv65 : ZVal Tryd.prog 65 (.g [.v (.int .i64 0), .v (.slice none 0 0), .v (.slice none 0 0), .v (.int .i64 0), .v (.int .i64 0)]) = True := eq_true ⟨.agg #[.int .i64 0, .slice none 0 0, .slice none 0 0, .int .i64 0, .int .i64 0], by kernel_rfl, fun _ => by first | rfl | simp [Sc.val, At.val, arr8, arr32, arr64]⟩
theorem sz69 : sz Tryd.prog 69 = 1 := by kernel_rfl
theorem bz69 : bz Tryd.prog 69 = 24 := by kernel_rfl
theorem zok69 : ZOk Tryd.prog 69 (.c [.v (.slice none 0 0)]) = True := eq_true ⟨.slice none 0 0, by kernel_rfl, fun _ => by first | rfl | simp [Value.cells, Cont.vals, arr8, arr32, arr64]⟩
theorem zv69 : ZVal Tryd.prog 69 (.a (.v (.slice none 0 0))) = True := eq_true ⟨.slice none 0 0, by kernel_rfl, fun _ => by first | rfl | simp [Sc.val, At.val, arr8, arr32, arr64]⟩
theorem sz78 : sz Tryd.prog 78 = 3 := by kernel_rfl
theorem bz78 : bz Tryd.prog 78 = 24 := by kernel_rfl
theorem fo78_0 : fieldOff Tryd.prog 78 0 = some (0, 3) := by kernel_rfl
theorem fo78_1 : fieldOff Tryd.prog 78 1 = some (1, 3) := by kernel_rfl
theorem fo78_2 : fieldOff Tryd.prog 78 2 = some (2, 3) := by kernel_rfl
theorem zok78 : ZOk Tryd.prog 78 (.c [.v (.int .i64 0), .v (.int .i64 0), .v (.int .i64 0)]) = True := eq_true ⟨.agg #[.int .i64 0, .int .i64 0, .int .i64 0], by kernel_rfl, fun _ => by first | rfl | simp [Value.cells, Cont.vals, arr8, arr32, arr64]⟩
theorem zv78 : ZVal Tryd.prog 78 (.g [.v (.int .i64 0), .v (.int .i64 0), .v (.int .i64 0)]) = True := eq_true ⟨.agg #[.int .i64 0, .int .i64 0, .int .i64 0], by kernel_rfl, fun _ => by first | rfl | simp [Sc.val, At.val, arr8, arr32, arr64]⟩
theorem sz79 : sz Tryd.prog 79 = 3 := by kernel_rfl
theorem bz79 : bz Tryd.prog 79 = 24 := by kernel_rfl
theorem fo79_0 : fieldOff Tryd.prog 79 0 = some (0, 3) := by kernel_rfl
theorem fo79_1 : fieldOff Tryd.prog 79 1 = some (1, 3) := by kernel_rfl
theorem fo79_2 : fieldOff Tryd.prog 79 2 = some (2, 3) := by kernel_rfl
theorem zok79 : ZOk Tryd.prog 79 (.c [.v (.int .i64 0), .v (.int .i64 0), .v (.int .i64 0)]) = True := eq_true ⟨.agg #[.int .i64 0, .int .i64 0, .int .i64 0], by kernel_rfl, fun _ => by first | rfl | simp [Value.cells, Cont.vals, arr8, arr32, arr64]⟩
theorem zv79 : ZVal Tryd.prog 79 (.g [.v (.int .i64 0), .v (.int .i64 0), .v (.int .i64 0)]) = True := eq_true ⟨.agg #[.int .i64 0, .int .i64 0, .int .i64 0], by kernel_rfl, fun _ => by first | rfl | simp [Sc.val, At.val, arr8, arr32, arr64]⟩
theorem seq79 : StEq Tryd.prog 79 [.i64, .i64, .i64] = True := eq_true ⟨by kernel_rfl, by kernel_rfl, by kernel_rfl, by kernel_rfl⟩
theorem sz81 : sz Tryd.prog 81 = 1 := by kernel_rfl
theorem bz81 : bz Tryd.prog 81 = 24 := by kernel_rfl
theorem zok81 : ZOk Tryd.prog 81 (.c [.v (.slice none 0 0)]) = True := eq_true ⟨.slice none 0 0, by kernel_rfl, fun _ => by first | rfl | simp [Value.cells, Cont.vals, arr8, arr32, arr64]⟩
theorem zv81 : ZVal Tryd.prog 81 (.a (.v (.slice none 0 0))) = True := eq_true ⟨.slice none 0 0, by kernel_rfl, fun _ => by first | rfl | simp [Sc.val, At.val, arr8, arr32, arr64]⟩
theorem sz82 : sz Tryd.prog 82 = 43 := by kernel_rfl
theorem bz82 : bz Tryd.prog 82 = 184 := by kernel_rfl
theorem fo82_0 : fieldOff Tryd.prog 82 0 = some (0, 5) := by kernel_rfl
theorem fo82_1 : fieldOff Tryd.prog 82 1 = some (1, 3) := by kernel_rfl
theorem fo82_2 : fieldOff Tryd.prog 82 2 = some (2, 3) := by kernel_rfl
theorem fo82_3 : fieldOff Tryd.prog 82 3 = some (3, 3) := by kernel_rfl
theorem fo82_4 : fieldOff Tryd.prog 82 4 = some (4, 3) := by kernel_rfl
theorem fo82_5 : fieldOff Tryd.prog 82 5 = some (5, 27) := by kernel_rfl
theorem fo82_6 : fieldOff Tryd.prog 82 6 = some (6, 29) := by kernel_rfl
theorem fo82_7 : fieldOff Tryd.prog 82 7 = some (38, 69) := by kernel_rfl
theorem fo82_8 : fieldOff Tryd.prog 82 8 = some (39, 28) := by kernel_rfl
theorem fo82_9 : fieldOff Tryd.prog 82 9 = some (40, 81) := by kernel_rfl
theorem fo82_10 : fieldOff Tryd.prog 82 10 = some (41, 30) := by kernel_rfl
theorem fo82_11 : fieldOff Tryd.prog 82 11 = some (42, 3) := by kernel_rfl
theorem sz83 : sz Tryd.prog 83 = 43 := by kernel_rfl
theorem bz83 : bz Tryd.prog 83 = 184 := by kernel_rfl
theorem fo83_0 : fieldOff Tryd.prog 83 0 = some (0, 5) := by kernel_rfl
theorem fo83_1 : fieldOff Tryd.prog 83 1 = some (1, 3) := by kernel_rfl
theorem fo83_2 : fieldOff Tryd.prog 83 2 = some (2, 3) := by kernel_rfl
theorem fo83_3 : fieldOff Tryd.prog 83 3 = some (3, 3) := by kernel_rfl
theorem fo83_4 : fieldOff Tryd.prog 83 4 = some (4, 3) := by kernel_rfl
theorem fo83_5 : fieldOff Tryd.prog 83 5 = some (5, 27) := by kernel_rfl
theorem fo83_6 : fieldOff Tryd.prog 83 6 = some (6, 29) := by kernel_rfl
theorem fo83_7 : fieldOff Tryd.prog 83 7 = some (38, 69) := by kernel_rfl
theorem fo83_8 : fieldOff Tryd.prog 83 8 = some (39, 28) := by kernel_rfl
theorem fo83_9 : fieldOff Tryd.prog 83 9 = some (40, 81) := by kernel_rfl
theorem fo83_10 : fieldOff Tryd.prog 83 10 = some (41, 30) := by kernel_rfl
theorem fo83_11 : fieldOff Tryd.prog 83 11 = some (42, 3) := by kernel_rfl
theorem sz87 : sz Tryd.prog 87 = 1 := by kernel_rfl
theorem bz87 : bz Tryd.prog 87 = 24 := by kernel_rfl
theorem zok87 : ZOk Tryd.prog 87 (.c [.v (.slice none 0 0)]) = True := eq_true ⟨.slice none 0 0, by kernel_rfl, fun _ => by first | rfl | simp [Value.cells, Cont.vals, arr8, arr32, arr64]⟩
theorem zv87 : ZVal Tryd.prog 87 (.a (.v (.slice none 0 0))) = True := eq_true ⟨.slice none 0 0, by kernel_rfl, fun _ => by first | rfl | simp [Sc.val, At.val, arr8, arr32, arr64]⟩
theorem sz88 : sz Tryd.prog 88 = 43 := by kernel_rfl
theorem bz88 : bz Tryd.prog 88 = 184 := by kernel_rfl
theorem fo88_0 : fieldOff Tryd.prog 88 0 = some (0, 5) := by kernel_rfl
theorem fo88_1 : fieldOff Tryd.prog 88 1 = some (1, 3) := by kernel_rfl
theorem fo88_2 : fieldOff Tryd.prog 88 2 = some (2, 3) := by kernel_rfl
theorem fo88_3 : fieldOff Tryd.prog 88 3 = some (3, 3) := by kernel_rfl
theorem fo88_4 : fieldOff Tryd.prog 88 4 = some (4, 3) := by kernel_rfl
theorem fo88_5 : fieldOff Tryd.prog 88 5 = some (5, 27) := by kernel_rfl
theorem fo88_6 : fieldOff Tryd.prog 88 6 = some (6, 29) := by kernel_rfl
theorem fo88_7 : fieldOff Tryd.prog 88 7 = some (38, 69) := by kernel_rfl
theorem fo88_8 : fieldOff Tryd.prog 88 8 = some (39, 28) := by kernel_rfl
theorem fo88_9 : fieldOff Tryd.prog 88 9 = some (40, 87) := by kernel_rfl
theorem fo88_10 : fieldOff Tryd.prog 88 10 = some (41, 30) := by kernel_rfl
theorem fo88_11 : fieldOff Tryd.prog 88 11 = some (42, 3) := by kernel_rfl
theorem sz89 : sz Tryd.prog 89 = 43 := by kernel_rfl
theorem bz89 : bz Tryd.prog 89 = 184 := by kernel_rfl
theorem fo89_0 : fieldOff Tryd.prog 89 0 = some (0, 5) := by kernel_rfl
theorem fo89_1 : fieldOff Tryd.prog 89 1 = some (1, 3) := by kernel_rfl
theorem fo89_2 : fieldOff Tryd.prog 89 2 = some (2, 3) := by kernel_rfl
theorem fo89_3 : fieldOff Tryd.prog 89 3 = some (3, 3) := by kernel_rfl
theorem fo89_4 : fieldOff Tryd.prog 89 4 = some (4, 3) := by kernel_rfl
theorem fo89_5 : fieldOff Tryd.prog 89 5 = some (5, 27) := by kernel_rfl
theorem fo89_6 : fieldOff Tryd.prog 89 6 = some (6, 29) := by kernel_rfl
theorem fo89_7 : fieldOff Tryd.prog 89 7 = some (38, 69) := by kernel_rfl
theorem fo89_8 : fieldOff Tryd.prog 89 8 = some (39, 28) := by kernel_rfl
theorem fo89_9 : fieldOff Tryd.prog 89 9 = some (40, 87) := by kernel_rfl
theorem fo89_10 : fieldOff Tryd.prog 89 10 = some (41, 30) := by kernel_rfl
theorem fo89_11 : fieldOff Tryd.prog 89 11 = some (42, 3) := by kernel_rfl
theorem sz104 : sz Tryd.prog 104 = 1 := by kernel_rfl
theorem bz104 : bz Tryd.prog 104 = 24 := by kernel_rfl
theorem zok104 : ZOk Tryd.prog 104 (.c [.v (.slice none 0 0)]) = True := eq_true ⟨.slice none 0 0, by kernel_rfl, fun _ => by first | rfl | simp [Value.cells, Cont.vals, arr8, arr32, arr64]⟩
theorem zv104 : ZVal Tryd.prog 104 (.a (.v (.slice none 0 0))) = True := eq_true ⟨.slice none 0 0, by kernel_rfl, fun _ => by first | rfl | simp [Sc.val, At.val, arr8, arr32, arr64]⟩
theorem sz108 : sz Tryd.prog 108 = 1 := by kernel_rfl
theorem bz108 : bz Tryd.prog 108 = 24 := by kernel_rfl
theorem zok108 : ZOk Tryd.prog 108 (.c [.v (.slice none 0 0)]) = True := eq_true ⟨.slice none 0 0, by kernel_rfl, fun _ => by first | rfl | simp [Value.cells, Cont.vals, arr8, arr32, arr64]⟩
theorem zv108 : ZVal Tryd.prog 108 (.a (.v (.slice none 0 0))) = True := eq_true ⟨.slice none 0 0, by kernel_rfl, fun _ => by first | rfl | simp [Sc.val, At.val, arr8, arr32, arr64]⟩
theorem sz113 : sz Tryd.prog 113 = 1 := by kernel_rfl
theorem bz113 : bz Tryd.prog 113 = 24 := by kernel_rfl
theorem zok113 : ZOk Tryd.prog 113 (.c [.v (.slice none 0 0)]) = True := eq_true ⟨.slice none 0 0, by kernel_rfl, fun _ => by first | rfl | simp [Value.cells, Cont.vals, arr8, arr32, arr64]⟩
theorem zv113 : ZVal Tryd.prog 113 (.a (.v (.slice none 0 0))) = True := eq_true ⟨.slice none 0 0, by kernel_rfl, fun _ => by first | rfl | simp [Sc.val, At.val, arr8, arr32, arr64]⟩
theorem sz114 : sz Tryd.prog 114 = 2 := by kernel_rfl
theorem bz114 : bz Tryd.prog 114 = 40 := by kernel_rfl
theorem fo114_0 : fieldOff Tryd.prog 114 0 = some (0, 9) := by kernel_rfl
theorem fo114_1 : fieldOff Tryd.prog 114 1 = some (1, 113) := by kernel_rfl
theorem zok114 : ZOk Tryd.prog 114 (.c [.v (.string .empty), .v (.slice none 0 0)]) = True := eq_true ⟨.agg #[.string .empty, .slice none 0 0], by kernel_rfl, fun _ => by first | rfl | simp [Value.cells, Cont.vals, arr8, arr32, arr64]⟩
theorem zv114 : ZVal Tryd.prog 114 (.g [.v (.string .empty), .v (.slice none 0 0)]) = True := eq_true ⟨.agg #[.string .empty, .slice none 0 0], by kernel_rfl, fun _ => by first | rfl | simp [Sc.val, At.val, arr8, arr32, arr64]⟩
theorem sz115 : sz Tryd.prog 115 = 2 := by kernel_rfl
theorem bz115 : bz Tryd.prog 115 = 40 := by kernel_rfl
theorem fo115_0 : fieldOff Tryd.prog 115 0 = some (0, 9) := by kernel_rfl
theorem fo115_1 : fieldOff Tryd.prog 115 1 = some (1, 113) := by kernel_rfl
theorem zok115 : ZOk Tryd.prog 115 (.c [.v (.string .empty), .v (.slice none 0 0)]) = True := eq_true ⟨.agg #[.string .empty, .slice none 0 0], by kernel_rfl, fun _ => by first | rfl | simp [Value.cells, Cont.vals, arr8, arr32, arr64]⟩
theorem zv115 : ZVal Tryd.prog 115 (.g [.v (.string .empty), .v (.slice none 0 0)]) = True := eq_true ⟨.agg #[.string .empty, .slice none 0 0], by kernel_rfl, fun _ => by first | rfl | simp [Sc.val, At.val, arr8, arr32, arr64]⟩
theorem sz124 : sz Tryd.prog 124 = 2 := by kernel_rfl
theorem bz124 : bz Tryd.prog 124 = 32 := by kernel_rfl
theorem fo124_0 : fieldOff Tryd.prog 124 0 = some (0, 45) := by kernel_rfl
theorem fo124_1 : fieldOff Tryd.prog 124 1 = some (1, 23) := by kernel_rfl
theorem zok124 : ZOk Tryd.prog 124 (.c [.v (.pointer none), .v (.slice none 0 0)]) = True := eq_true ⟨.agg #[.pointer none, .slice none 0 0], by kernel_rfl, fun _ => by first | rfl | simp [Value.cells, Cont.vals, arr8, arr32, arr64]⟩
theorem zv124 : ZVal Tryd.prog 124 (.g [.v (.pointer none), .v (.slice none 0 0)]) = True := eq_true ⟨.agg #[.pointer none, .slice none 0 0], by kernel_rfl, fun _ => by first | rfl | simp [Sc.val, At.val, arr8, arr32, arr64]⟩
theorem sz125 : sz Tryd.prog 125 = 2 := by kernel_rfl
theorem bz125 : bz Tryd.prog 125 = 32 := by kernel_rfl
theorem fo125_0 : fieldOff Tryd.prog 125 0 = some (0, 45) := by kernel_rfl
theorem fo125_1 : fieldOff Tryd.prog 125 1 = some (1, 23) := by kernel_rfl
theorem zok125 : ZOk Tryd.prog 125 (.c [.v (.pointer none), .v (.slice none 0 0)]) = True := eq_true ⟨.agg #[.pointer none, .slice none 0 0], by kernel_rfl, fun _ => by first | rfl | simp [Value.cells, Cont.vals, arr8, arr32, arr64]⟩
theorem zv125 : ZVal Tryd.prog 125 (.g [.v (.pointer none), .v (.slice none 0 0)]) = True := eq_true ⟨.agg #[.pointer none, .slice none 0 0], by kernel_rfl, fun _ => by first | rfl | simp [Sc.val, At.val, arr8, arr32, arr64]⟩
theorem sz131 : sz Tryd.prog 131 = 2 := by kernel_rfl
theorem bz131 : bz Tryd.prog 131 = 32 := by kernel_rfl
theorem fo131_0 : fieldOff Tryd.prog 131 0 = some (0, 23) := by kernel_rfl
theorem fo131_1 : fieldOff Tryd.prog 131 1 = some (1, 4) := by kernel_rfl
theorem zok131 : ZOk Tryd.prog 131 (.c [.v (.slice none 0 0), .v (.bool false)]) = True := eq_true ⟨.agg #[.slice none 0 0, .bool false], by kernel_rfl, fun _ => by first | rfl | simp [Value.cells, Cont.vals, arr8, arr32, arr64]⟩
theorem zv131 : ZVal Tryd.prog 131 (.g [.v (.slice none 0 0), .v (.bool false)]) = True := eq_true ⟨.agg #[.slice none 0 0, .bool false], by kernel_rfl, fun _ => by first | rfl | simp [Sc.val, At.val, arr8, arr32, arr64]⟩
theorem sz132 : sz Tryd.prog 132 = 2 := by kernel_rfl
theorem bz132 : bz Tryd.prog 132 = 32 := by kernel_rfl
theorem fo132_0 : fieldOff Tryd.prog 132 0 = some (0, 23) := by kernel_rfl
theorem fo132_1 : fieldOff Tryd.prog 132 1 = some (1, 4) := by kernel_rfl
theorem zok132 : ZOk Tryd.prog 132 (.c [.v (.slice none 0 0), .v (.bool false)]) = True := eq_true ⟨.agg #[.slice none 0 0, .bool false], by kernel_rfl, fun _ => by first | rfl | simp [Value.cells, Cont.vals, arr8, arr32, arr64]⟩
theorem zv132 : ZVal Tryd.prog 132 (.g [.v (.slice none 0 0), .v (.bool false)]) = True := eq_true ⟨.agg #[.slice none 0 0, .bool false], by kernel_rfl, fun _ => by first | rfl | simp [Sc.val, At.val, arr8, arr32, arr64]⟩
theorem sz136 : sz Tryd.prog 136 = 1 := by kernel_rfl
theorem bz136 : bz Tryd.prog 136 = 4 := by kernel_rfl
theorem zok136 : ZOk Tryd.prog 136 (.c [.v (.int .u32 0)]) = True := eq_true ⟨.int .u32 0, by kernel_rfl, fun _ => by first | rfl | simp [Value.cells, Cont.vals, arr8, arr32, arr64]⟩
theorem zv136 : ZVal Tryd.prog 136 (.a (.v (.int .u32 0))) = True := eq_true ⟨.int .u32 0, by kernel_rfl, fun _ => by first | rfl | simp [Sc.val, At.val, arr8, arr32, arr64]⟩
theorem sz137 : sz Tryd.prog 137 = 1 := by kernel_rfl
theorem bz137 : bz Tryd.prog 137 = 8 := by kernel_rfl
theorem zok137 : ZOk Tryd.prog 137 (.c [.v (.int .i64 0)]) = True := eq_true ⟨.int .i64 0, by kernel_rfl, fun _ => by first | rfl | simp [Value.cells, Cont.vals, arr8, arr32, arr64]⟩
theorem zv137 : ZVal Tryd.prog 137 (.a (.v (.int .i64 0))) = True := eq_true ⟨.int .i64 0, by kernel_rfl, fun _ => by first | rfl | simp [Sc.val, At.val, arr8, arr32, arr64]⟩
theorem sz139 : sz Tryd.prog 139 = 1 := by kernel_rfl
theorem bz139 : bz Tryd.prog 139 = 8 := by kernel_rfl
theorem zok139 : ZOk Tryd.prog 139 (.c [.v (.pointer none)]) = True := eq_true ⟨.pointer none, by kernel_rfl, fun _ => by first | rfl | simp [Value.cells, Cont.vals, arr8, arr32, arr64]⟩
theorem zv139 : ZVal Tryd.prog 139 (.a (.v (.pointer none))) = True := eq_true ⟨.pointer none, by kernel_rfl, fun _ => by first | rfl | simp [Sc.val, At.val, arr8, arr32, arr64]⟩
theorem sz145 : sz Tryd.prog 145 = 3 := by kernel_rfl
theorem bz145 : bz Tryd.prog 145 = 24 := by kernel_rfl
theorem fo145_0 : fieldOff Tryd.prog 145 0 = some (0, 3) := by kernel_rfl
theorem fo145_1 : fieldOff Tryd.prog 145 1 = some (1, 3) := by kernel_rfl
theorem fo145_2 : fieldOff Tryd.prog 145 2 = some (2, 3) := by kernel_rfl
theorem zok145 : ZOk Tryd.prog 145 (.c [.v (.int .i64 0), .v (.int .i64 0), .v (.int .i64 0)]) = True := eq_true ⟨.agg #[.int .i64 0, .int .i64 0, .int .i64 0], by kernel_rfl, fun _ => by first | rfl | simp [Value.cells, Cont.vals, arr8, arr32, arr64]⟩
theorem zv145 : ZVal Tryd.prog 145 (.g [.v (.int .i64 0), .v (.int .i64 0), .v (.int .i64 0)]) = True := eq_true ⟨.agg #[.int .i64 0, .int .i64 0, .int .i64 0], by kernel_rfl, fun _ => by first | rfl | simp [Sc.val, At.val, arr8, arr32, arr64]⟩
theorem seq145 : StEq Tryd.prog 145 [.i64, .i64, .i64] = True := eq_true ⟨by kernel_rfl, by kernel_rfl, by kernel_rfl, by kernel_rfl⟩
theorem sz146 : sz Tryd.prog 146 = 3 := by kernel_rfl
theorem bz146 : bz Tryd.prog 146 = 40 := by kernel_rfl
theorem fo146_0 : fieldOff Tryd.prog 146 0 = some (0, 3) := by kernel_rfl
theorem fo146_1 : fieldOff Tryd.prog 146 1 = some (1, 69) := by kernel_rfl
theorem fo146_2 : fieldOff Tryd.prog 146 2 = some (2, 3) := by kernel_rfl
theorem zok146 : ZOk Tryd.prog 146 (.c [.v (.int .i64 0), .v (.slice none 0 0), .v (.int .i64 0)]) = True := eq_true ⟨.agg #[.int .i64 0, .slice none 0 0, .int .i64 0], by kernel_rfl, fun _ => by first | rfl | simp [Value.cells, Cont.vals, arr8, arr32, arr64]⟩
theorem zv146 : ZVal Tryd.prog 146 (.g [.v (.int .i64 0), .v (.slice none 0 0), .v (.int .i64 0)]) = True := eq_true ⟨.agg #[.int .i64 0, .slice none 0 0, .int .i64 0], by kernel_rfl, fun _ => by first | rfl | simp [Sc.val, At.val, arr8, arr32, arr64]⟩
theorem sz147 : sz Tryd.prog 147 = 3 := by kernel_rfl
theorem bz147 : bz Tryd.prog 147 = 40 := by kernel_rfl
theorem fo147_0 : fieldOff Tryd.prog 147 0 = some (0, 3) := by kernel_rfl
theorem fo147_1 : fieldOff Tryd.prog 147 1 = some (1, 69) := by kernel_rfl
theorem fo147_2 : fieldOff Tryd.prog 147 2 = some (2, 3) := by kernel_rfl
theorem zok147 : ZOk Tryd.prog 147 (.c [.v (.int .i64 0), .v (.slice none 0 0), .v (.int .i64 0)]) = True := eq_true ⟨.agg #[.int .i64 0, .slice none 0 0, .int .i64 0], by kernel_rfl, fun _ => by first | rfl | simp [Value.cells, Cont.vals, arr8, arr32, arr64]⟩
theorem zv147 : ZVal Tryd.prog 147 (.g [.v (.int .i64 0), .v (.slice none 0 0), .v (.int .i64 0)]) = True := eq_true ⟨.agg #[.int .i64 0, .slice none 0 0, .int .i64 0], by kernel_rfl, fun _ => by first | rfl | simp [Sc.val, At.val, arr8, arr32, arr64]⟩
theorem sz148 : sz Tryd.prog 148 = 3 := by kernel_rfl
theorem bz148 : bz Tryd.prog 148 = 40 := by kernel_rfl
theorem fo148_0 : fieldOff Tryd.prog 148 0 = some (0, 3) := by kernel_rfl
theorem fo148_1 : fieldOff Tryd.prog 148 1 = some (1, 69) := by kernel_rfl
theorem fo148_2 : fieldOff Tryd.prog 148 2 = some (2, 3) := by kernel_rfl
theorem zok148 : ZOk Tryd.prog 148 (.c [.v (.int .i64 0), .v (.slice none 0 0), .v (.int .i64 0)]) = True := eq_true ⟨.agg #[.int .i64 0, .slice none 0 0, .int .i64 0], by kernel_rfl, fun _ => by first | rfl | simp [Value.cells, Cont.vals, arr8, arr32, arr64]⟩
theorem zv148 : ZVal Tryd.prog 148 (.g [.v (.int .i64 0), .v (.slice none 0 0), .v (.int .i64 0)]) = True := eq_true ⟨.agg #[.int .i64 0, .slice none 0 0, .int .i64 0], by kernel_rfl, fun _ => by first | rfl | simp [Sc.val, At.val, arr8, arr32, arr64]⟩
theorem sz159 : sz Tryd.prog 159 = 2 := by kernel_rfl
theorem bz159 : bz Tryd.prog 159 = 16 := by kernel_rfl
theorem fo159_0 : fieldOff Tryd.prog 159 0 = some (0, 3) := by kernel_rfl
theorem fo159_1 : fieldOff Tryd.prog 159 1 = some (1, 27) := by kernel_rfl
theorem zok159 : ZOk Tryd.prog 159 (.c [.v (.int .i64 0), .v (.int .u64 0)]) = True := eq_true ⟨.agg #[.int .i64 0, .int .u64 0], by kernel_rfl, fun _ => by first | rfl | simp [Value.cells, Cont.vals, arr8, arr32, arr64]⟩
theorem zv159 : ZVal Tryd.prog 159 (.g [.v (.int .i64 0), .v (.int .u64 0)]) = True := eq_true ⟨.agg #[.int .i64 0, .int .u64 0], by kernel_rfl, fun _ => by first | rfl | simp [Sc.val, At.val, arr8, arr32, arr64]⟩
theorem sz160 : sz Tryd.prog 160 = 2 := by kernel_rfl
theorem bz160 : bz Tryd.prog 160 = 16 := by kernel_rfl
theorem fo160_0 : fieldOff Tryd.prog 160 0 = some (0, 3) := by kernel_rfl
theorem fo160_1 : fieldOff Tryd.prog 160 1 = some (1, 27) := by kernel_rfl
theorem zok160 : ZOk Tryd.prog 160 (.c [.v (.int .i64 0), .v (.int .u64 0)]) = True := eq_true ⟨.agg #[.int .i64 0, .int .u64 0], by kernel_rfl, fun _ => by first | rfl | simp [Value.cells, Cont.vals, arr8, arr32, arr64]⟩
theorem zv160 : ZVal Tryd.prog 160 (.g [.v (.int .i64 0), .v (.int .u64 0)]) = True := eq_true ⟨.agg #[.int .i64 0, .int .u64 0], by kernel_rfl, fun _ => by first | rfl | simp [Sc.val, At.val, arr8, arr32, arr64]⟩
theorem seq160 : StEq Tryd.prog 160 [.i64, .u64] = True := eq_true ⟨by kernel_rfl, by kernel_rfl, by kernel_rfl, by kernel_rfl⟩
theorem sz165 : sz Tryd.prog 165 = 1 := by kernel_rfl
theorem bz165 : bz Tryd.prog 165 = 8 := by kernel_rfl
theorem zok165 : ZOk Tryd.prog 165 (.c [.v (.pointer none)]) = True := eq_true ⟨.pointer none, by kernel_rfl, fun _ => by first | rfl | simp [Value.cells, Cont.vals, arr8, arr32, arr64]⟩
theorem zv165 : ZVal Tryd.prog 165 (.a (.v (.pointer none))) = True := eq_true ⟨.pointer none, by kernel_rfl, fun _ => by first | rfl | simp [Sc.val, At.val, arr8, arr32, arr64]⟩
theorem sz166 : sz Tryd.prog 166 = 2 := by kernel_rfl
theorem bz166 : bz Tryd.prog 166 = 16 := by kernel_rfl
theorem fo166_0 : fieldOff Tryd.prog 166 0 = some (0, 3) := by kernel_rfl
theorem fo166_1 : fieldOff Tryd.prog 166 1 = some (1, 27) := by kernel_rfl
theorem zok166 : ZOk Tryd.prog 166 (.c [.v (.int .i64 0), .v (.int .u64 0)]) = True := eq_true ⟨.agg #[.int .i64 0, .int .u64 0], by kernel_rfl, fun _ => by first | rfl | simp [Value.cells, Cont.vals, arr8, arr32, arr64]⟩
theorem zv166 : ZVal Tryd.prog 166 (.g [.v (.int .i64 0), .v (.int .u64 0)]) = True := eq_true ⟨.agg #[.int .i64 0, .int .u64 0], by kernel_rfl, fun _ => by first | rfl | simp [Sc.val, At.val, arr8, arr32, arr64]⟩
theorem seq166 : StEq Tryd.prog 166 [.i64, .u64] = True := eq_true ⟨by kernel_rfl, by kernel_rfl, by kernel_rfl, by kernel_rfl⟩
theorem sz172 : sz Tryd.prog 172 = 2 := by kernel_rfl
theorem bz172 : bz Tryd.prog 172 = 40 := by kernel_rfl
theorem fo172_0 : fieldOff Tryd.prog 172 0 = some (0, 9) := by kernel_rfl
theorem fo172_1 : fieldOff Tryd.prog 172 1 = some (1, 113) := by kernel_rfl
theorem zok172 : ZOk Tryd.prog 172 (.c [.v (.string .empty), .v (.slice none 0 0)]) = True := eq_true ⟨.agg #[.string .empty, .slice none 0 0], by kernel_rfl, fun _ => by first | rfl | simp [Value.cells, Cont.vals, arr8, arr32, arr64]⟩
theorem zv172 : ZVal Tryd.prog 172 (.g [.v (.string .empty), .v (.slice none 0 0)]) = True := eq_true ⟨.agg #[.string .empty, .slice none 0 0], by kernel_rfl, fun _ => by first | rfl | simp [Sc.val, At.val, arr8, arr32, arr64]⟩
theorem sz175 : sz Tryd.prog 175 = 1 := by kernel_rfl
theorem bz175 : bz Tryd.prog 175 = 8 := by kernel_rfl
theorem zok175 : ZOk Tryd.prog 175 (.c [.v (.pointer none)]) = True := eq_true ⟨.pointer none, by kernel_rfl, fun _ => by first | rfl | simp [Value.cells, Cont.vals, arr8, arr32, arr64]⟩
theorem zv175 : ZVal Tryd.prog 175 (.a (.v (.pointer none))) = True := eq_true ⟨.pointer none, by kernel_rfl, fun _ => by first | rfl | simp [Sc.val, At.val, arr8, arr32, arr64]⟩
theorem sz176 : sz Tryd.prog 176 = 2 := by kernel_rfl
theorem bz176 : bz Tryd.prog 176 = 32 := by kernel_rfl
theorem fo176_0 : fieldOff Tryd.prog 176 0 = some (0, 175) := by kernel_rfl
theorem fo176_1 : fieldOff Tryd.prog 176 1 = some (1, 23) := by kernel_rfl
theorem zok176 : ZOk Tryd.prog 176 (.c [.v (.pointer none), .v (.slice none 0 0)]) = True := eq_true ⟨.agg #[.pointer none, .slice none 0 0], by kernel_rfl, fun _ => by first | rfl | simp [Value.cells, Cont.vals, arr8, arr32, arr64]⟩
theorem zv176 : ZVal Tryd.prog 176 (.g [.v (.pointer none), .v (.slice none 0 0)]) = True := eq_true ⟨.agg #[.pointer none, .slice none 0 0], by kernel_rfl, fun _ => by first | rfl | simp [Sc.val, At.val, arr8, arr32, arr64]⟩
theorem sz177 : sz Tryd.prog 177 = 2 := by kernel_rfl
theorem bz177 : bz Tryd.prog 177 = 32 := by kernel_rfl
theorem fo177_0 : fieldOff Tryd.prog 177 0 = some (0, 175) := by kernel_rfl
theorem fo177_1 : fieldOff Tryd.prog 177 1 = some (1, 23) := by kernel_rfl
theorem zok177 : ZOk Tryd.prog 177 (.c [.v (.pointer none), .v (.slice none 0 0)]) = True := eq_true ⟨.agg #[.pointer none, .slice none 0 0], by kernel_rfl, fun _ => by first | rfl | simp [Value.cells, Cont.vals, arr8, arr32, arr64]⟩
theorem zv177 : ZVal Tryd.prog 177 (.g [.v (.pointer none), .v (.slice none 0 0)]) = True := eq_true ⟨.agg #[.pointer none, .slice none 0 0], by kernel_rfl, fun _ => by first | rfl | simp [Sc.val, At.val, arr8, arr32, arr64]⟩
theorem sz180 : sz Tryd.prog 180 = 1 := by kernel_rfl
theorem bz180 : bz Tryd.prog 180 = 24 := by kernel_rfl
theorem zok180 : ZOk Tryd.prog 180 (.c [.v (.slice none 0 0)]) = True := eq_true ⟨.slice none 0 0, by kernel_rfl, fun _ => by first | rfl | simp [Value.cells, Cont.vals, arr8, arr32, arr64]⟩
theorem zv180 : ZVal Tryd.prog 180 (.a (.v (.slice none 0 0))) = True := eq_true ⟨.slice none 0 0, by kernel_rfl, fun _ => by first | rfl | simp [Sc.val, At.val, arr8, arr32, arr64]⟩
theorem sz186 : sz Tryd.prog 186 = 1 := by kernel_rfl
theorem bz186 : bz Tryd.prog 186 = 8 := by kernel_rfl
theorem zok186 : ZOk Tryd.prog 186 (.c [.v (.int .u64 0)]) = True := eq_true ⟨.int .u64 0, by kernel_rfl, fun _ => by first | rfl | simp [Value.cells, Cont.vals, arr8, arr32, arr64]⟩
theorem zv186 : ZVal Tryd.prog 186 (.a (.v (.int .u64 0))) = True := eq_true ⟨.int .u64 0, by kernel_rfl, fun _ => by first | rfl | simp [Sc.val, At.val, arr8, arr32, arr64]⟩
theorem sz222 : sz Tryd.prog 222 = 1 := by kernel_rfl
theorem bz222 : bz Tryd.prog 222 = 8 := by kernel_rfl
theorem zok222 : ZOk Tryd.prog 222 (.c [.v (.pointer none)]) = True := eq_true ⟨.pointer none, by kernel_rfl, fun _ => by first | rfl | simp [Value.cells, Cont.vals, arr8, arr32, arr64]⟩
theorem zv222 : ZVal Tryd.prog 222 (.a (.v (.pointer none))) = True := eq_true ⟨.pointer none, by kernel_rfl, fun _ => by first | rfl | simp [Sc.val, At.val, arr8, arr32, arr64]⟩
theorem sz229 : sz Tryd.prog 229 = 1 := by kernel_rfl
theorem bz229 : bz Tryd.prog 229 = 8 := by kernel_rfl
theorem fo229_0 : fieldOff Tryd.prog 229 0 = some (0, 17) := by kernel_rfl
theorem zok229 : ZOk Tryd.prog 229 (.c [.v (.pointer none)]) = True := eq_true ⟨.agg #[.pointer none], by kernel_rfl, fun _ => by first | rfl | simp [Value.cells, Cont.vals, arr8, arr32, arr64]⟩
theorem zv229 : ZVal Tryd.prog 229 (.g [.v (.pointer none)]) = True := eq_true ⟨.agg #[.pointer none], by kernel_rfl, fun _ => by first | rfl | simp [Sc.val, At.val, arr8, arr32, arr64]⟩
theorem sz230 : sz Tryd.prog 230 = 1 := by kernel_rfl
theorem bz230 : bz Tryd.prog 230 = 8 := by kernel_rfl
theorem zok230 : ZOk Tryd.prog 230 (.c [.v (.pointer none)]) = True := eq_true ⟨.pointer none, by kernel_rfl, fun _ => by first | rfl | simp [Value.cells, Cont.vals, arr8, arr32, arr64]⟩
theorem zv230 : ZVal Tryd.prog 230 (.a (.v (.pointer none))) = True := eq_true ⟨.pointer none, by kernel_rfl, fun _ => by first | rfl | simp [Sc.val, At.val, arr8, arr32, arr64]⟩
theorem sz234 : sz Tryd.prog 234 = 1 := by kernel_rfl
theorem bz234 : bz Tryd.prog 234 = 16 := by kernel_rfl
theorem zok234 : ZOk Tryd.prog 234 (.c [.v .nilIface]) = True := eq_true ⟨.nilIface, by kernel_rfl, fun _ => by first | rfl | simp [Value.cells, Cont.vals, arr8, arr32, arr64]⟩
theorem zv234 : ZVal Tryd.prog 234 (.a (.v (.nilIface))) = True := eq_true ⟨.nilIface, by kernel_rfl, fun _ => by first | rfl | simp [Sc.val, At.val, arr8, arr32, arr64]⟩
theorem sz237 : sz Tryd.prog 237 = 1 := by kernel_rfl
theorem bz237 : bz Tryd.prog 237 = 16 := by kernel_rfl
theorem zok237 : ZOk Tryd.prog 237 (.c [.v .nilIface]) = True := eq_true ⟨.nilIface, by kernel_rfl, fun _ => by first | rfl | simp [Value.cells, Cont.vals, arr8, arr32, arr64]⟩
theorem zv237 : ZVal Tryd.prog 237 (.a (.v (.nilIface))) = True := eq_true ⟨.nilIface, by kernel_rfl, fun _ => by first | rfl | simp [Sc.val, At.val, arr8, arr32, arr64]⟩
theorem sz238 : sz Tryd.prog 238 = 1 := by kernel_rfl
theorem bz238 : bz Tryd.prog 238 = 16 := by kernel_rfl
theorem zok238 : ZOk Tryd.prog 238 (.c [.v .nilIface]) = True := eq_true ⟨.nilIface, by kernel_rfl, fun _ => by first | rfl | simp [Value.cells, Cont.vals, arr8, arr32, arr64]⟩
theorem zv238 : ZVal Tryd.prog 238 (.a (.v (.nilIface))) = True := eq_true ⟨.nilIface, by kernel_rfl, fun _ => by first | rfl | simp [Sc.val, At.val, arr8, arr32, arr64]⟩
theorem sz239 : sz Tryd.prog 239 = 1 := by kernel_rfl
theorem bz239 : bz Tryd.prog 239 = 24 := by kernel_rfl
theorem zok239 : ZOk Tryd.prog 239 (.c [.v (.slice none 0 0)]) = True := eq_true ⟨.slice none 0 0, by kernel_rfl, fun _ => by first | rfl | simp [Value.cells, Cont.vals, arr8, arr32, arr64]⟩
theorem zv239 : ZVal Tryd.prog 239 (.a (.v (.slice none 0 0))) = True := eq_true ⟨.slice none 0 0, by kernel_rfl, fun _ => by first | rfl | simp [Sc.val, At.val, arr8, arr32, arr64]⟩
theorem sz246 : sz Tryd.prog 246 = 1 := by kernel_rfl
theorem bz246 : bz Tryd.prog 246 = 24 := by kernel_rfl
theorem zok246 : ZOk Tryd.prog 246 (.c [.v (.slice none 0 0)]) = True := eq_true ⟨.slice none 0 0, by kernel_rfl, fun _ => by first | rfl | simp [Value.cells, Cont.vals, arr8, arr32, arr64]⟩
theorem zv246 : ZVal Tryd.prog 246 (.a (.v (.slice none 0 0))) = True := eq_true ⟨.slice none 0 0, by kernel_rfl, fun _ => by first | rfl | simp [Sc.val, At.val, arr8, arr32, arr64]⟩
theorem sz247 : sz Tryd.prog 247 = 2 := by kernel_rfl
theorem bz247 : bz Tryd.prog 247 = 16 := by kernel_rfl
theorem fo247_0 : fieldOff Tryd.prog 247 0 = some (0, 3) := by kernel_rfl
theorem fo247_1 : fieldOff Tryd.prog 247 1 = some (1, 3) := by kernel_rfl
theorem zok247 : ZOk Tryd.prog 247 (.c [.v (.int .i64 0), .v (.int .i64 0)]) = True := eq_true ⟨.agg #[.int .i64 0, .int .i64 0], by kernel_rfl, fun _ => by first | rfl | simp [Value.cells, Cont.vals, arr8, arr32, arr64]⟩
theorem zv247 : ZVal Tryd.prog 247 (.g [.v (.int .i64 0), .v (.int .i64 0)]) = True := eq_true ⟨.agg #[.int .i64 0, .int .i64 0], by kernel_rfl, fun _ => by first | rfl | simp [Sc.val, At.val, arr8, arr32, arr64]⟩
theorem sz248 : sz Tryd.prog 248 = 2 := by kernel_rfl
theorem bz248 : bz Tryd.prog 248 = 16 := by kernel_rfl
theorem fo248_0 : fieldOff Tryd.prog 248 0 = some (0, 3) := by kernel_rfl
theorem fo248_1 : fieldOff Tryd.prog 248 1 = some (1, 3) := by kernel_rfl
theorem zok248 : ZOk Tryd.prog 248 (.c [.v (.int .i64 0), .v (.int .i64 0)]) = True := eq_true ⟨.agg #[.int .i64 0, .int .i64 0], by kernel_rfl, fun _ => by first | rfl | simp [Value.cells, Cont.vals, arr8, arr32, arr64]⟩
theorem zv248 : ZVal Tryd.prog 248 (.g [.v (.int .i64 0), .v (.int .i64 0)]) = True := eq_true ⟨.agg #[.int .i64 0, .int .i64 0], by kernel_rfl, fun _ => by first | rfl | simp [Sc.val, At.val, arr8, arr32, arr64]⟩
theorem sz250 : sz Tryd.prog 250 = 1 := by kernel_rfl
theorem bz250 : bz Tryd.prog 250 = 8 := by kernel_rfl
theorem zok250 : ZOk Tryd.prog 250 (.c [.v (.int .i64 0)]) = True := eq_true ⟨.int .i64 0, by kernel_rfl, fun _ => by first | rfl | simp [Value.cells, Cont.vals, arr8, arr32, arr64]⟩
theorem zv250 : ZVal Tryd.prog 250 (.a (.v (.int .i64 0))) = True := eq_true ⟨.int .i64 0, by kernel_rfl, fun _ => by first | rfl | simp [Sc.val, At.val, arr8, arr32, arr64]⟩
theorem sz253 : sz Tryd.prog 253 = 1 := by kernel_rfl
theorem bz253 : bz Tryd.prog 253 = 8 := by kernel_rfl
theorem zok253 : ZOk Tryd.prog 253 (.c [.v (.pointer none)]) = True := eq_true ⟨.pointer none, by kernel_rfl, fun _ => by first | rfl | simp [Value.cells, Cont.vals, arr8, arr32, arr64]⟩
theorem zv253 : ZVal Tryd.prog 253 (.a (.v (.pointer none))) = True := eq_true ⟨.pointer none, by kernel_rfl, fun _ => by first | rfl | simp [Sc.val, At.val, arr8, arr32, arr64]⟩
theorem sz259 : sz Tryd.prog 259 = 3 := by kernel_rfl
theorem bz259 : bz Tryd.prog 259 = 48 := by kernel_rfl
theorem fo259_0 : fieldOff Tryd.prog 259 0 = some (0, 9) := by kernel_rfl
theorem fo259_1 : fieldOff Tryd.prog 259 1 = some (1, 9) := by kernel_rfl
theorem fo259_2 : fieldOff Tryd.prog 259 2 = some (2, 41) := by kernel_rfl
theorem zok259 : ZOk Tryd.prog 259 (.c [.v (.string .empty), .v (.string .empty), .v (.nilIface)]) = True := eq_true ⟨.agg #[.string .empty, .string .empty, .nilIface], by kernel_rfl, fun _ => by first | rfl | simp [Value.cells, Cont.vals, arr8, arr32, arr64]⟩
theorem zv259 : ZVal Tryd.prog 259 (.g [.v (.string .empty), .v (.string .empty), .v (.nilIface)]) = True := eq_true ⟨.agg #[.string .empty, .string .empty, .nilIface], by kernel_rfl, fun _ => by first | rfl | simp [Sc.val, At.val, arr8, arr32, arr64]⟩
theorem sz260 : sz Tryd.prog 260 = 3 := by kernel_rfl
theorem bz260 : bz Tryd.prog 260 = 48 := by kernel_rfl
theorem fo260_0 : fieldOff Tryd.prog 260 0 = some (0, 9) := by kernel_rfl
theorem fo260_1 : fieldOff Tryd.prog 260 1 = some (1, 9) := by kernel_rfl
theorem fo260_2 : fieldOff Tryd.prog 260 2 = some (2, 41) := by kernel_rfl
theorem zok260 : ZOk Tryd.prog 260 (.c [.v (.string .empty), .v (.string .empty), .v (.nilIface)]) = True := eq_true ⟨.agg #[.string .empty, .string .empty, .nilIface], by kernel_rfl, fun _ => by first | rfl | simp [Value.cells, Cont.vals, arr8, arr32, arr64]⟩
theorem zv260 : ZVal Tryd.prog 260 (.g [.v (.string .empty), .v (.string .empty), .v (.nilIface)]) = True := eq_true ⟨.agg #[.string .empty, .string .empty, .nilIface], by kernel_rfl, fun _ => by first | rfl | simp [Sc.val, At.val, arr8, arr32, arr64]⟩
theorem sz268 : sz Tryd.prog 268 = 1 := by kernel_rfl
theorem bz268 : bz Tryd.prog 268 = 8 := by kernel_rfl
theorem zok268 : ZOk Tryd.prog 268 (.c [.v (.pointer none)]) = True := eq_true ⟨.pointer none, by kernel_rfl, fun _ => by first | rfl | simp [Value.cells, Cont.vals, arr8, arr32, arr64]⟩
theorem zv268 : ZVal Tryd.prog 268 (.a (.v (.pointer none))) = True := eq_true ⟨.pointer none, by kernel_rfl, fun _ => by first | rfl | simp [Sc.val, At.val, arr8, arr32, arr64]⟩
theorem sz269 : sz Tryd.prog 269 = 1 := by kernel_rfl
theorem bz269 : bz Tryd.prog 269 = 16 := by kernel_rfl
theorem fo269_0 : fieldOff Tryd.prog 269 0 = some (0, 9) := by kernel_rfl
theorem zok269 : ZOk Tryd.prog 269 (.c [.v (.string .empty)]) = True := eq_true ⟨.agg #[.string .empty], by kernel_rfl, fun _ => by first | rfl | simp [Value.cells, Cont.vals, arr8, arr32, arr64]⟩
theorem zv269 : ZVal Tryd.prog 269 (.g [.v (.string .empty)]) = True := eq_true ⟨.agg #[.string .empty], by kernel_rfl, fun _ => by first | rfl | simp [Sc.val, At.val, arr8, arr32, arr64]⟩
theorem sz270 : sz Tryd.prog 270 = 1 := by kernel_rfl
theorem bz270 : bz Tryd.prog 270 = 16 := by kernel_rfl
theorem fo270_0 : fieldOff Tryd.prog 270 0 = some (0, 9) := by kernel_rfl
theorem zok270 : ZOk Tryd.prog 270 (.c [.v (.string .empty)]) = True := eq_true ⟨.agg #[.string .empty], by kernel_rfl, fun _ => by first | rfl | simp [Value.cells, Cont.vals, arr8, arr32, arr64]⟩
theorem zv270 : ZVal Tryd.prog 270 (.g [.v (.string .empty)]) = True := eq_true ⟨.agg #[.string .empty], by kernel_rfl, fun _ => by first | rfl | simp [Sc.val, At.val, arr8, arr32, arr64]⟩
theorem sz274 : sz Tryd.prog 274 = 256 := by kernel_rfl
theorem bz274 : bz Tryd.prog 274 = 256 := by kernel_rfl
theorem aeq274 : arrEq Tryd.prog 274 256 .u8 = True := eq_true ⟨5, Tryd.underlying274, Tryd.underlying5, by kernel_rfl, by kernel_rfl, by kernel_rfl⟩
theorem zok274 : ZOk Tryd.prog 274 (.u8 (List.replicate 256 0)) = True := eq_true ⟨.agg (arr8 (List.replicate 256 0)), by kernel_rfl, fun _ => by first | rfl | simp [Value.cells, Cont.vals, arr8, arr32, arr64]⟩
theorem zv274 : ZVal Tryd.prog 274 (.a8 (List.replicate 256 0)) = True := eq_true ⟨.agg (arr8 (List.replicate 256 0)), by kernel_rfl, fun _ => by first | rfl | simp [Sc.val, At.val, arr8, arr32, arr64]⟩
theorem sz275 : sz Tryd.prog 275 = 2 := by kernel_rfl
theorem bz275 : bz Tryd.prog 275 = 2 := by kernel_rfl
theorem fo275_0 : fieldOff Tryd.prog 275 0 = some (0, 5) := by kernel_rfl
theorem fo275_1 : fieldOff Tryd.prog 275 1 = some (1, 5) := by kernel_rfl
theorem zok275 : ZOk Tryd.prog 275 (.c [.v (.int .u8 0), .v (.int .u8 0)]) = True := eq_true ⟨.agg #[.int .u8 0, .int .u8 0], by kernel_rfl, fun _ => by first | rfl | simp [Value.cells, Cont.vals, arr8, arr32, arr64]⟩
theorem zv275 : ZVal Tryd.prog 275 (.g [.v (.int .u8 0), .v (.int .u8 0)]) = True := eq_true ⟨.agg #[.int .u8 0, .int .u8 0], by kernel_rfl, fun _ => by first | rfl | simp [Sc.val, At.val, arr8, arr32, arr64]⟩
theorem sz276 : sz Tryd.prog 276 = 2 := by kernel_rfl
theorem bz276 : bz Tryd.prog 276 = 2 := by kernel_rfl
theorem fo276_0 : fieldOff Tryd.prog 276 0 = some (0, 5) := by kernel_rfl
theorem fo276_1 : fieldOff Tryd.prog 276 1 = some (1, 5) := by kernel_rfl
theorem zok276 : ZOk Tryd.prog 276 (.c [.v (.int .u8 0), .v (.int .u8 0)]) = True := eq_true ⟨.agg #[.int .u8 0, .int .u8 0], by kernel_rfl, fun _ => by first | rfl | simp [Value.cells, Cont.vals, arr8, arr32, arr64]⟩
theorem zv276 : ZVal Tryd.prog 276 (.g [.v (.int .u8 0), .v (.int .u8 0)]) = True := eq_true ⟨.agg #[.int .u8 0, .int .u8 0], by kernel_rfl, fun _ => by first | rfl | simp [Sc.val, At.val, arr8, arr32, arr64]⟩
theorem sz277 : sz Tryd.prog 277 = 32 := by kernel_rfl
theorem bz277 : bz Tryd.prog 277 = 32 := by kernel_rfl
theorem zok277 : ZOk Tryd.prog 277 (.c [.v (.int .u8 0), .v (.int .u8 0), .v (.int .u8 0), .v (.int .u8 0), .v (.int .u8 0), .v (.int .u8 0), .v (.int .u8 0), .v (.int .u8 0), .v (.int .u8 0), .v (.int .u8 0), .v (.int .u8 0), .v (.int .u8 0), .v (.int .u8 0), .v (.int .u8 0), .v (.int .u8 0), .v (.int .u8 0), .v (.int .u8 0), .v (.int .u8 0), .v (.int .u8 0), .v (.int .u8 0), .v (.int .u8 0), .v (.int .u8 0), .v (.int .u8 0), .v (.int .u8 0), .v (.int .u8 0), .v (.int .u8 0), .v (.int .u8 0), .v (.int .u8 0), .v (.int .u8 0), .v (.int .u8 0), .v (.int .u8 0), .v (.int .u8 0)]) = True := eq_true ⟨.agg #[.int .u8 0, .int .u8 0, .int .u8 0, .int .u8 0, .int .u8 0, .int .u8 0, .int .u8 0, .int .u8 0, .int .u8 0, .int .u8 0, .int .u8 0, .int .u8 0, .int .u8 0, .int .u8 0, .int .u8 0, .int .u8 0, .int .u8 0, .int .u8 0, .int .u8 0, .int .u8 0, .int .u8 0, .int .u8 0, .int .u8 0, .int .u8 0, .int .u8 0, .int .u8 0, .int .u8 0, .int .u8 0, .int .u8 0, .int .u8 0, .int .u8 0, .int .u8 0], by kernel_rfl, fun _ => by first | rfl | simp [Value.cells, Cont.vals, arr8, arr32, arr64]⟩
theorem zv277 : ZVal Tryd.prog 277 (.g [.v (.int .u8 0), .v (.int .u8 0), .v (.int .u8 0), .v (.int .u8 0), .v (.int .u8 0), .v (.int .u8 0), .v (.int .u8 0), .v (.int .u8 0), .v (.int .u8 0), .v (.int .u8 0), .v (.int .u8 0), .v (.int .u8 0), .v (.int .u8 0), .v (.int .u8 0), .v (.int .u8 0), .v (.int .u8 0), .v (.int .u8 0), .v (.int .u8 0), .v (.int .u8 0), .v (.int .u8 0), .v (.int .u8 0), .v (.int .u8 0), .v (.int .u8 0), .v (.int .u8 0), .v (.int .u8 0), .v (.int .u8 0), .v (.int .u8 0), .v (.int .u8 0), .v (.int .u8 0), .v (.int .u8 0), .v (.int .u8 0), .v (.int .u8 0)]) = True := eq_true ⟨.agg #[.int .u8 0, .int .u8 0, .int .u8 0, .int .u8 0, .int .u8 0, .int .u8 0, .int .u8 0, .int .u8 0, .int .u8 0, .int .u8 0, .int .u8 0, .int .u8 0, .int .u8 0, .int .u8 0, .int .u8 0, .int .u8 0, .int .u8 0, .int .u8 0, .int .u8 0, .int .u8 0, .int .u8 0, .int .u8 0, .int .u8 0, .int .u8 0, .int .u8 0, .int .u8 0, .int .u8 0, .int .u8 0, .int .u8 0, .int .u8 0, .int .u8 0, .int .u8 0], by kernel_rfl, fun _ => by first | rfl | simp [Sc.val, At.val, arr8, arr32, arr64]⟩
theorem sz278 : sz Tryd.prog 278 = 24 := by kernel_rfl
theorem bz278 : bz Tryd.prog 278 = 24 := by kernel_rfl
theorem aeq278 : arrEq Tryd.prog 278 24 .u8 = True := eq_true ⟨5, Tryd.underlying278, Tryd.underlying5, by kernel_rfl, by kernel_rfl, by kernel_rfl⟩
theorem zok278 : ZOk Tryd.prog 278 (.u8 (List.replicate 24 0)) = True := eq_true ⟨.agg (arr8 (List.replicate 24 0)), by kernel_rfl, fun _ => by first | rfl | simp [Value.cells, Cont.vals, arr8, arr32, arr64]⟩
theorem zv278 : ZVal Tryd.prog 278 (.a8 (List.replicate 24 0)) = True := eq_true ⟨.agg (arr8 (List.replicate 24 0)), by kernel_rfl, fun _ => by first | rfl | simp [Sc.val, At.val, arr8, arr32, arr64]⟩
theorem sz283 : sz Tryd.prog 283 = 20 := by kernel_rfl
theorem bz283 : bz Tryd.prog 283 = 160 := by kernel_rfl
theorem aeq283 : arrEq Tryd.prog 283 20 .u64 = True := eq_true ⟨27, Tryd.underlying283, Tryd.underlying27, by kernel_rfl, by kernel_rfl, by kernel_rfl⟩
theorem zok283 : ZOk Tryd.prog 283 (.u64 (List.replicate 20 0)) = True := eq_true ⟨.agg (arr64 (List.replicate 20 0)), by kernel_rfl, fun _ => by first | rfl | simp [Value.cells, Cont.vals, arr8, arr32, arr64]⟩
theorem zv283 : ZVal Tryd.prog 283 (.a64 (List.replicate 20 0)) = True := eq_true ⟨.agg (arr64 (List.replicate 20 0)), by kernel_rfl, fun _ => by first | rfl | simp [Sc.val, At.val, arr8, arr32, arr64]⟩
theorem sz284 : sz Tryd.prog 284 = 65 := by kernel_rfl
theorem bz284 : bz Tryd.prog 284 = 65 := by kernel_rfl
theorem aeq284 : arrEq Tryd.prog 284 65 .u8 = True := eq_true ⟨5, Tryd.underlying284, Tryd.underlying5, by kernel_rfl, by kernel_rfl, by kernel_rfl⟩
theorem zok284 : ZOk Tryd.prog 284 (.u8 (List.replicate 65 0)) = True := eq_true ⟨.agg (arr8 (List.replicate 65 0)), by kernel_rfl, fun _ => by first | rfl | simp [Value.cells, Cont.vals, arr8, arr32, arr64]⟩
theorem zv284 : ZVal Tryd.prog 284 (.a8 (List.replicate 65 0)) = True := eq_true ⟨.agg (arr8 (List.replicate 65 0)), by kernel_rfl, fun _ => by first | rfl | simp [Sc.val, At.val, arr8, arr32, arr64]⟩
theorem sz287 : sz Tryd.prog 287 = 64 := by kernel_rfl
theorem bz287 : bz Tryd.prog 287 = 64 := by kernel_rfl
theorem aeq287 : arrEq Tryd.prog 287 64 .u8 = True := eq_true ⟨5, Tryd.underlying287, Tryd.underlying5, by kernel_rfl, by kernel_rfl, by kernel_rfl⟩
theorem zok287 : ZOk Tryd.prog 287 (.u8 (List.replicate 64 0)) = True := eq_true ⟨.agg (arr8 (List.replicate 64 0)), by kernel_rfl, fun _ => by first | rfl | simp [Value.cells, Cont.vals, arr8, arr32, arr64]⟩
theorem zv287 : ZVal Tryd.prog 287 (.a8 (List.replicate 64 0)) = True := eq_true ⟨.agg (arr8 (List.replicate 64 0)), by kernel_rfl, fun _ => by first | rfl | simp [Sc.val, At.val, arr8, arr32, arr64]⟩
theorem sz304 : sz Tryd.prog 304 = 1 := by kernel_rfl
theorem bz304 : bz Tryd.prog 304 = 8 := by kernel_rfl
theorem zok304 : ZOk Tryd.prog 304 (.c [.v (.pointer none)]) = True := eq_true ⟨.pointer none, by kernel_rfl, fun _ => by first | rfl | simp [Value.cells, Cont.vals, arr8, arr32, arr64]⟩
theorem zv304 : ZVal Tryd.prog 304 (.a (.v (.pointer none))) = True := eq_true ⟨.pointer none, by kernel_rfl, fun _ => by first | rfl | simp [Sc.val, At.val, arr8, arr32, arr64]⟩
theorem sz312 : sz Tryd.prog 312 = 1 := by kernel_rfl
theorem bz312 : bz Tryd.prog 312 = 8 := by kernel_rfl
theorem zok312 : ZOk Tryd.prog 312 (.c [.v (.pointer none)]) = True := eq_true ⟨.pointer none, by kernel_rfl, fun _ => by first | rfl | simp [Value.cells, Cont.vals, arr8, arr32, arr64]⟩
theorem zv312 : ZVal Tryd.prog 312 (.a (.v (.pointer none))) = True := eq_true ⟨.pointer none, by kernel_rfl, fun _ => by first | rfl | simp [Sc.val, At.val, arr8, arr32, arr64]⟩
theorem cb52 : Callable Tryd.prog 52 := callable_of Tryd.func52 (by kernel_rfl) rfl
theorem cb53 : Callable Tryd.prog 53 := callable_of Tryd.func53 (by kernel_rfl) rfl
theorem cb54 : Callable Tryd.prog 54 := callable_of Tryd.func54 (by kernel_rfl) rfl
theorem cb55 : Callable Tryd.prog 55 := callable_of Tryd.func55 (by kernel_rfl) rfl
theorem cb56 : Callable Tryd.prog 56 := callable_of Tryd.func56 (by kernel_rfl) rfl
theorem cb57 : Callable Tryd.prog 57 := callable_of Tryd.func57 (by kernel_rfl) rfl
theorem cb58 : Callable Tryd.prog 58 := callable_of Tryd.func58 (by kernel_rfl) rfl
theorem cb59 : Callable Tryd.prog 59 := callable_of Tryd.func59 (by kernel_rfl) rfl
theorem cb101 : Callable Tryd.prog 101 := callable_of Tryd.func101 (by kernel_rfl) rfl
theorem cb102 : Callable Tryd.prog 102 := callable_of Tryd.func102 (by kernel_rfl) rfl
theorem cb103 : Callable Tryd.prog 103 := callable_of Tryd.func103 (by kernel_rfl) rfl
theorem cb107 : Callable Tryd.prog 107 := callable_of Tryd.func107 (by kernel_rfl) rfl
theorem cb108 : Callable Tryd.prog 108 := callable_of Tryd.func108 (by kernel_rfl) rfl
theorem cb138 : Callable Tryd.prog 138 := callable_of Tryd.func138 (by kernel_rfl) rfl
theorem cb139 : Callable Tryd.prog 139 := callable_of Tryd.func139 (by kernel_rfl) rfl
theorem cb142 : Callable Tryd.prog 142 := callable_of Tryd.func142 (by kernel_rfl) rfl
theorem cb143 : Callable Tryd.prog 143 := callable_of Tryd.func143 (by kernel_rfl) rfl
theorem cb144 : Callable Tryd.prog 144 := callable_of Tryd.func144 (by kernel_rfl) rfl
attribute [push_cast] stepO_if needB repsL splice Cont.piece mpBnd_nil mpBnd_cons mpRen_nil mpRen_cons intsOf eqB padC mkmS lookS updS lookI putI lookV lookR rawM_nil lookX_nil zeroSc bsA bsN partsN List.flatten_cons List.flatten_nil baseN appN rawL rawOks capsS mkfS bview bput litS bytS strS mkS zerosN rngS nxtS mmS cmpI elemK cont8_map cont32_map cont64_map take_f8 drop_f8 take_f32 drop_f32 take_f64 drop_f64 getD_app getD_f8 forall_f8 take_app drop_app List.forall_mem_append buildS setPart zeroAt zerosOf zeroCont argFr allNe ndup symC_seq symC_region symC_block symC_loop symC_draw symC_cond symC_skip symC_exit symC_ret then_normal then_exit then_ret inB_normal inB_ret inB_exit symR_cons symR_nil symM_cons symM_nil symP_nil symP_rd symP_wr symP_fk symP_f3 stepP takes isRead isCall dOk yieldS op1 S.put Fr.put Fr.ev Fr.get ev1 ev2 ev3 S.bnd Sv.bnd Sc.bnd At.bnd Res.bnd Cont.bnd nil1 val1 ret1 neg1 boxS binS binN binI bin8 bin32 bin64 shS ban unS nilEq eqS litO cvtS cvtN pickS loadS storeS idxS indexS sliceS bnds fieldS fieldAddrS extrS nilS ifcS lenS bsS parts contOf cont8 cont32 cont64 contI callS appS appS.zero1 appS.zeroN baseS srcS joinC clen setGone flat aggr isOwn isOne At.scalar scalar At.one Value.oneCell' Sc.cont Cont.cut Cont.part Cont.app Cont.len Cont.plain Cont.get Cont.set Cont.over Cont.whole toU8_n8 toU32_n32 toU64_n64 inU8_n8 inU32_n32 inU64_n64 toU8_lit toU32_lit toU64_lit inU8_lit inU32_lit inU64_lit loopK_exit loopK_ret Le leFr leHp Sv.ren Sc.ren At.ren Res.ren Cont.ren rn Fin resS outS evs ownT ownT2 inI64 maxLen Int.toNat_natCast Int.toNat_zero Nat.zero_add Nat.add_zero Nat.mul_one List.length_cons List.length_nil List.length_append List.length_map List.length_set List.length_replicate List.cons_append List.nil_append List.append_nil List.map_append List.getElem?_cons_zero List.getElem?_cons_succ List.getElem?_nil List.set_cons_zero List.set_cons_succ List.getD_cons_zero List.getD_cons_succ List.take_succ_cons List.take_zero List.drop_zero List.drop_succ_cons List.map_cons List.map_nil List.forall_mem_cons List.not_mem_nil List.reverse_cons List.toList_toArray Option.isSome_some Option.isNone_some Option.isNone_none false_implies implies_true true_implies forall_const true_and and_true and_self not_false_eq_true not_true_eq_false ne_eq or_false false_or or_true true_or or_self Nat.lt_irrefl Nat.le_refl Bool.false_eq_true Bool.true_eq_false Bool.not_true Bool.not_false Bool.or_true Bool.or_false Bool.and_true Bool.and_false Bool.true_and Bool.false_and decide_true decide_false eq_self gt_iff_lt ge_iff_le if_true if_false Option.some.injEq Prod.mk.injEq Sv.x.injEq Sc.a.injEq At.v.injEq At.o.injEq At.p.injEq Res.blk.injEq Res.own.injEq Value.int.injEq Value.bool.injEq Cont.u8.injEq Cont.u32.injEq Cont.u64.injEq Cont.c.injEq Cont.i64.injEq List.cons.injEq symK_cons symK_nil wantS stepRd maskR_cons maskR_nil List.set_nil
attribute [push_cast] Tryd.underlying2 sz2 bz2 zok2 zv2 Tryd.underlying3 sz3 bz3 zok3 zv3 Tryd.underlying4 sz4 bz4 zok4 zv4 Tryd.underlying5 sz5 bz5 zok5 zv5 Tryd.underlying9 sz9 bz9 zok9 zv9 Tryd.underlying12 sz12 bz12 zok12 zv12 Tryd.underlying13 sz13 bz13 fo13_0 fo13_1 zok13 zv13 Tryd.underlying15 sz15 bz15 zok15 zv15 Tryd.underlying16 sz16 bz16 zok16 zv16 Tryd.underlying17 sz17 bz17 zok17 zv17 Tryd.underlying20 sz20 bz20 zok20 zv20 Tryd.underlying21 sz21 bz21 zok21 zv21 Tryd.underlying22 sz22 bz22 zok22 zv22 Tryd.underlying23 sz23 bz23 zok23 zv23 Tryd.underlying24 sz24 bz24 zok24 zv24 Tryd.underlying25 sz25 bz25 zok25 zv25 Tryd.underlying27 sz27 bz27 zok27 zv27 Tryd.underlying28 sz28 bz28 zok28 zv28 Tryd.underlying29 sz29 bz29 aeq29 zok29 zv29 Tryd.underlying30 sz30 bz30 zok30 zv30 Tryd.underlying31 sz31 bz31 fo31_0 fo31_1 fo31_2 fo31_3 fo31_4 fo31_5 fo31_6 fo31_7 Tryd.underlying32 sz32 bz32 fo32_0 fo32_1 fo32_2 fo32_3 fo32_4 fo32_5 fo32_6 fo32_7 Tryd.underlying40 sz40 bz40 zok40 zv40 Tryd.underlying41 sz41 bz41 zok41 zv41 Tryd.underlying45 sz45 bz45 zok45 zv45 Tryd.underlying46 sz46 bz46 fo46_0 fo46_1 zok46 zv46 Tryd.underlying47 sz47 bz47 fo47_0 fo47_1 zok47 zv47 Tryd.underlying55 sz55 bz55 zok55 zv55 Tryd.underlying58 sz58 bz58 zok58 zv58 Tryd.underlying59 sz59 bz59 zok59 zv59 Tryd.underlying60 sz60 bz60 fo60_0 fo60_1 fo60_2 fo60_3 fo60_4 zok60 zv60 Tryd.underlying61 sz61 bz61 fo61_0 fo61_1 fo61_2 fo61_3 fo61_4 zok61 zv61 Tryd.underlying62 sz62 bz62 zok62 zv62 Tryd.underlying63 sz63 bz63 zok63 zv63 Tryd.underlying64 sz64 bz64 fo64_0 fo64_1 fo64_2 fo64_3 fo64_4 zok64 zv64 Tryd.underlying65 sz65 bz65 fo65_0 fo65_1 fo65_2 fo65_3 fo65_4 zok65 zv65 Tryd.underlying69 sz69 bz69 zok69 zv69 Tryd.underlying78 sz78 bz78 fo78_0 fo78_1 fo78_2 zok78 zv78 Tryd.underlying79 sz79 bz79 fo79_0 fo79_1 fo79_2 zok79 zv79 seq79 Tryd.underlying81 sz81 bz81 zok81 zv81 Tryd.underlying82 sz82 bz82 fo82_0 fo82_1 fo82_2 fo82_3 fo82_4 fo82_5 fo82_6 fo82_7 fo82_8 fo82_9 fo82_10 fo82_11 Tryd.underlying83 sz83 bz83 fo83_0 fo83_1 fo83_2 fo83_3 fo83_4 fo83_5 fo83_6 fo83_7 fo83_8 fo83_9 fo83_10 fo83_11 Tryd.underlying87 sz87 bz87 zok87 zv87 Tryd.underlying88 sz88 bz88 fo88_0 fo88_1 fo88_2 fo88_3 fo88_4 fo88_5 fo88_6 fo88_7 fo88_8 fo88_9 fo88_10 fo88_11 Tryd.underlying89 sz89 bz89 fo89_0 fo89_1 fo89_2 fo89_3 fo89_4 fo89_5 fo89_6 fo89_7 fo89_8 fo89_9 fo89_10 fo89_11 Tryd.underlying104 sz104 bz104 zok104 zv104 Tryd.underlying108 sz108 bz108 zok108 zv108 Tryd.underlying113 sz113 bz113 zok113 zv113 Tryd.underlying114 sz114 bz114 fo114_0 fo114_1 zok114 zv114 Tryd.underlying115 sz115 bz115 fo115_0 fo115_1 zok115 zv115 Tryd.underlying124 sz124 bz124 fo124_0 fo124_1 zok124 zv124 Tryd.underlying125 sz125 bz125 fo125_0 fo125_1 zok125 zv125 Tryd.underlying131 sz131 bz131 fo131_0 fo131_1 zok131 zv131 Tryd.underlying132 sz132 bz132 fo132_0 fo132_1 zok132 zv132 Tryd.underlying136 sz136 bz136 zok136 zv136 Tryd.underlying137 sz137 bz137 zok137 zv137 Tryd.underlying139 sz139 bz139 zok139 zv139 Tryd.underlying145 sz145 bz145 fo145_0 fo145_1 fo145_2 zok145 zv145 seq145 Tryd.underlying146 sz146 bz146 fo146_0 fo146_1 fo146_2 zok146 zv146 Tryd.underlying147 sz147 bz147 fo147_0 fo147_1 fo147_2 zok147 zv147 Tryd.underlying148 sz148 bz148 fo148_0 fo148_1 fo148_2 zok148 zv148 Tryd.underlying159 sz159 bz159 fo159_0 fo159_1 zok159 zv159 Tryd.underlying160 sz160 bz160 fo160_0 fo160_1 zok160 zv160 seq160 Tryd.underlying165 sz165 bz165 zok165 zv165 Tryd.underlying166 sz166 bz166 fo166_0 fo166_1 zok166 zv166 seq166 Tryd.underlying172 sz172 bz172 fo172_0 fo172_1 zok172 zv172 Tryd.underlying175 sz175 bz175 zok175 zv175 Tryd.underlying176 sz176 bz176 fo176_0 fo176_1 zok176 zv176 Tryd.underlying177 sz177 bz177 fo177_0 fo177_1 zok177 zv177 Tryd.underlying180 sz180 bz180 zok180 zv180 Tryd.underlying186 sz186 bz186 zok186 zv186 Tryd.underlying222 sz222 bz222 zok222 zv222 Tryd.underlying229 sz229 bz229 fo229_0 zok229 zv229 Tryd.underlying230 sz230 bz230 zok230 zv230 Tryd.underlying234 sz234 bz234 zok234 zv234 Tryd.underlying237 sz237 bz237 zok237 zv237 Tryd.underlying238 sz238 bz238 zok238 zv238 Tryd.underlying239 sz239 bz239 zok239 zv239 Tryd.underlying246 sz246 bz246 zok246 zv246 Tryd.underlying247 sz247 bz247 fo247_0 fo247_1 zok247 zv247 Tryd.underlying248 sz248 bz248 fo248_0 fo248_1 zok248 zv248 Tryd.underlying250 sz250 bz250 zok250 zv250 Tryd.underlying253 sz253 bz253 zok253 zv253 Tryd.underlying259 sz259 bz259 fo259_0 fo259_1 fo259_2 zok259 zv259 Tryd.underlying260 sz260 bz260 fo260_0 fo260_1 fo260_2 zok260 zv260 Tryd.underlying268 sz268 bz268 zok268 zv268 Tryd.underlying269 sz269 bz269 fo269_0 zok269 zv269 Tryd.underlying270 sz270 bz270 fo270_0 zok270 zv270 Tryd.underlying274 sz274 bz274 aeq274 zok274 zv274 Tryd.underlying275 sz275 bz275 fo275_0 fo275_1 zok275 zv275 Tryd.underlying276 sz276 bz276 fo276_0 fo276_1 zok276 zv276 Tryd.underlying277 sz277 bz277 zok277 zv277 Tryd.underlying278 sz278 bz278 aeq278 zok278 zv278 Tryd.underlying283 sz283 bz283 aeq283 zok283 zv283 Tryd.underlying284 sz284 bz284 aeq284 zok284 zv284 Tryd.underlying287 sz287 bz287 aeq287 zok287 zv287 Tryd.underlying304 sz304 bz304 zok304 zv304 Tryd.underlying312 sz312 bz312 zok312 zv312
attribute [push_cast] Tryd.results3 Tryd.results4 Tryd.results5 Tryd.results6 Tryd.results7 Tryd.results8 Tryd.results9 Tryd.results10 Tryd.results11 Tryd.results12 Tryd.results13 Tryd.results14 Tryd.results15 Tryd.results16 Tryd.results17 Tryd.results18 Tryd.results19 Tryd.results20 Tryd.results21 Tryd.results22 Tryd.results23 Tryd.results24 Tryd.results25 Tryd.results26 Tryd.results27 Tryd.results28 Tryd.results29 Tryd.results30 Tryd.results31 Tryd.results32 Tryd.results33 Tryd.results34 Tryd.results35 Tryd.results36 Tryd.results37 Tryd.results38 Tryd.results39 Tryd.results40 Tryd.results41 Tryd.results42 Tryd.results43 Tryd.results44 Tryd.results45 Tryd.results46 Tryd.results47 Tryd.results48 Tryd.results49 Tryd.results50 Tryd.results51 Tryd.results52 Tryd.results53 Tryd.results54 Tryd.results55 Tryd.results56 Tryd.results57 Tryd.results58 Tryd.results59 Tryd.results60 Tryd.results61 Tryd.results62 Tryd.results63 Tryd.results64 Tryd.results65 Tryd.results66 Tryd.results67 Tryd.results68 Tryd.results69 Tryd.results71 Tryd.results72 Tryd.results73 Tryd.results74 Tryd.results75 Tryd.results76 Tryd.results77 Tryd.results78 Tryd.results79 Tryd.results80 Tryd.results81 Tryd.results82 Tryd.results83 Tryd.results84 Tryd.results85 Tryd.results86 Tryd.results87 Tryd.results88 Tryd.results89 Tryd.results90 Tryd.results91 Tryd.results92 Tryd.results93 Tryd.results94 Tryd.results95 Tryd.results96 Tryd.results97 Tryd.results98 Tryd.results99 Tryd.results100 Tryd.results101 Tryd.results102 Tryd.results103 Tryd.results107 Tryd.results108 Tryd.results109 Tryd.results110 Tryd.results111 Tryd.results112 Tryd.results117 Tryd.results118 Tryd.results119 Tryd.results120 Tryd.results121 Tryd.results122 Tryd.results123 Tryd.results124 Tryd.results125 Tryd.results126 Tryd.results127 Tryd.results128 Tryd.results129 Tryd.results130 Tryd.results131 Tryd.results132 Tryd.results133 Tryd.results134 Tryd.results135 Tryd.results136 Tryd.results137 Tryd.results138 Tryd.results139 Tryd.results141 Tryd.results142 Tryd.results143 Tryd.results144 Tryd.results145 Tryd.results149 Tryd.results150 Tryd.results152 Tryd.results154 Tryd.results156 Tryd.results159 Tryd.results160 Tryd.results161 Tryd.results162 Tryd.results163 Tryd.results164 Tryd.results165 Tryd.results167 Tryd.results170 Tryd.results190 Tryd.results191 Tryd.results192
end Go.Proofs.YtiaeollemmkclaaDoor
