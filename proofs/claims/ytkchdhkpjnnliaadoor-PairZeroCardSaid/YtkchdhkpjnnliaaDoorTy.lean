/- Facts on the types of the program, for the engine. Made by program. -/
import Derived.Test.YtkchdhkpjnnliaaDoorEn3
import Derived.Test.YtkchdhkpjnnliaaDoorProg
namespace Go.Proofs.YtkchdhkpjnnliaaDoor
open Go.RowKit
set_option linter.unusedSimpArgs false
theorem sz1 : sz Tryd.prog 1 = 1 := by kernel_rfl
theorem bz1 : bz Tryd.prog 1 = 8 := by kernel_rfl
theorem zok1 : ZOk Tryd.prog 1 (.c [.v .nilFunc]) = True := eq_true ⟨.nilFunc, by kernel_rfl, fun _ => by first | rfl | simp [Value.cells, Cont.vals, arr8, arr32, arr64]⟩
theorem sz2 : sz Tryd.prog 2 = 1 := by kernel_rfl
theorem bz2 : bz Tryd.prog 2 = 8 := by kernel_rfl
theorem zok2 : ZOk Tryd.prog 2 (.c [.v (.int .i64 0)]) = True := eq_true ⟨.int .i64 0, by kernel_rfl, fun _ => by first | rfl | simp [Value.cells, Cont.vals, arr8, arr32, arr64]⟩
theorem sz3 : sz Tryd.prog 3 = 1 := by kernel_rfl
theorem bz3 : bz Tryd.prog 3 = 8 := by kernel_rfl
theorem zok3 : ZOk Tryd.prog 3 (.c [.v (.int .i64 0)]) = True := eq_true ⟨.int .i64 0, by kernel_rfl, fun _ => by first | rfl | simp [Value.cells, Cont.vals, arr8, arr32, arr64]⟩
theorem sz4 : sz Tryd.prog 4 = 1 := by kernel_rfl
theorem bz4 : bz Tryd.prog 4 = 1 := by kernel_rfl
theorem zok4 : ZOk Tryd.prog 4 (.c [.v (.bool false)]) = True := eq_true ⟨.bool false, by kernel_rfl, fun _ => by first | rfl | simp [Value.cells, Cont.vals, arr8, arr32, arr64]⟩
theorem sz5 : sz Tryd.prog 5 = 1 := by kernel_rfl
theorem bz5 : bz Tryd.prog 5 = 1 := by kernel_rfl
theorem zok5 : ZOk Tryd.prog 5 (.c [.v (.int .u8 0)]) = True := eq_true ⟨.int .u8 0, by kernel_rfl, fun _ => by first | rfl | simp [Value.cells, Cont.vals, arr8, arr32, arr64]⟩
theorem sz6 : sz Tryd.prog 6 = 1 := by kernel_rfl
theorem bz6 : bz Tryd.prog 6 = 1 := by kernel_rfl
theorem zok6 : ZOk Tryd.prog 6 (.c [.v (.int .u8 0)]) = True := eq_true ⟨.int .u8 0, by kernel_rfl, fun _ => by first | rfl | simp [Value.cells, Cont.vals, arr8, arr32, arr64]⟩
theorem sz7 : sz Tryd.prog 7 = 4 := by kernel_rfl
theorem bz7 : bz Tryd.prog 7 = 24 := by kernel_rfl
theorem fo7_0 : fieldOff Tryd.prog 7 0 = some (0, 2) := by kernel_rfl
theorem fo7_1 : fieldOff Tryd.prog 7 1 = some (1, 3) := by kernel_rfl
theorem fo7_2 : fieldOff Tryd.prog 7 2 = some (2, 4) := by kernel_rfl
theorem fo7_3 : fieldOff Tryd.prog 7 3 = some (3, 6) := by kernel_rfl
theorem zok7 : ZOk Tryd.prog 7 (.c [.v (.int .i64 0), .v (.int .i64 0), .v (.bool false), .v (.int .u8 0)]) = True := eq_true ⟨.agg #[.int .i64 0, .int .i64 0, .bool false, .int .u8 0], by kernel_rfl, fun _ => by first | rfl | simp [Value.cells, Cont.vals, arr8, arr32, arr64]⟩
theorem sz8 : sz Tryd.prog 8 = 4 := by kernel_rfl
theorem bz8 : bz Tryd.prog 8 = 24 := by kernel_rfl
theorem fo8_0 : fieldOff Tryd.prog 8 0 = some (0, 2) := by kernel_rfl
theorem fo8_1 : fieldOff Tryd.prog 8 1 = some (1, 3) := by kernel_rfl
theorem fo8_2 : fieldOff Tryd.prog 8 2 = some (2, 4) := by kernel_rfl
theorem fo8_3 : fieldOff Tryd.prog 8 3 = some (3, 6) := by kernel_rfl
theorem zok8 : ZOk Tryd.prog 8 (.c [.v (.int .i64 0), .v (.int .i64 0), .v (.bool false), .v (.int .u8 0)]) = True := eq_true ⟨.agg #[.int .i64 0, .int .i64 0, .bool false, .int .u8 0], by kernel_rfl, fun _ => by first | rfl | simp [Value.cells, Cont.vals, arr8, arr32, arr64]⟩
theorem sz9 : sz Tryd.prog 9 = 1 := by kernel_rfl
theorem bz9 : bz Tryd.prog 9 = 16 := by kernel_rfl
theorem zok9 : ZOk Tryd.prog 9 (.c [.v (.string .empty)]) = True := eq_true ⟨.string .empty, by kernel_rfl, fun _ => by first | rfl | simp [Value.cells, Cont.vals, arr8, arr32, arr64]⟩
theorem sz10 : sz Tryd.prog 10 = 1 := by kernel_rfl
theorem bz10 : bz Tryd.prog 10 = 16 := by kernel_rfl
theorem zok10 : ZOk Tryd.prog 10 (.c [.v (.string .empty)]) = True := eq_true ⟨.string .empty, by kernel_rfl, fun _ => by first | rfl | simp [Value.cells, Cont.vals, arr8, arr32, arr64]⟩
theorem sz11 : sz Tryd.prog 11 = 1 := by kernel_rfl
theorem bz11 : bz Tryd.prog 11 = 16 := by kernel_rfl
theorem zok11 : ZOk Tryd.prog 11 (.c [.v (.string .empty)]) = True := eq_true ⟨.string .empty, by kernel_rfl, fun _ => by first | rfl | simp [Value.cells, Cont.vals, arr8, arr32, arr64]⟩
theorem sz12 : sz Tryd.prog 12 = 1 := by kernel_rfl
theorem bz12 : bz Tryd.prog 12 = 8 := by kernel_rfl
theorem zok12 : ZOk Tryd.prog 12 (.c [.v (.int .u64 0)]) = True := eq_true ⟨.int .u64 0, by kernel_rfl, fun _ => by first | rfl | simp [Value.cells, Cont.vals, arr8, arr32, arr64]⟩
theorem sz13 : sz Tryd.prog 13 = 2 := by kernel_rfl
theorem bz13 : bz Tryd.prog 13 = 24 := by kernel_rfl
theorem fo13_0 : fieldOff Tryd.prog 13 0 = some (0, 9) := by kernel_rfl
theorem fo13_1 : fieldOff Tryd.prog 13 1 = some (1, 12) := by kernel_rfl
theorem zok13 : ZOk Tryd.prog 13 (.c [.v (.string .empty), .v (.int .u64 0)]) = True := eq_true ⟨.agg #[.string .empty, .int .u64 0], by kernel_rfl, fun _ => by first | rfl | simp [Value.cells, Cont.vals, arr8, arr32, arr64]⟩
theorem sz14 : sz Tryd.prog 14 = 2 := by kernel_rfl
theorem bz14 : bz Tryd.prog 14 = 24 := by kernel_rfl
theorem fo14_0 : fieldOff Tryd.prog 14 0 = some (0, 9) := by kernel_rfl
theorem fo14_1 : fieldOff Tryd.prog 14 1 = some (1, 12) := by kernel_rfl
theorem zok14 : ZOk Tryd.prog 14 (.c [.v (.string .empty), .v (.int .u64 0)]) = True := eq_true ⟨.agg #[.string .empty, .int .u64 0], by kernel_rfl, fun _ => by first | rfl | simp [Value.cells, Cont.vals, arr8, arr32, arr64]⟩
theorem sz15 : sz Tryd.prog 15 = 1 := by kernel_rfl
theorem bz15 : bz Tryd.prog 15 = 8 := by kernel_rfl
theorem zok15 : ZOk Tryd.prog 15 (.c [.v (.pointer none)]) = True := eq_true ⟨.pointer none, by kernel_rfl, fun _ => by first | rfl | simp [Value.cells, Cont.vals, arr8, arr32, arr64]⟩
theorem sz16 : sz Tryd.prog 16 = 1 := by kernel_rfl
theorem bz16 : bz Tryd.prog 16 = 8 := by kernel_rfl
theorem zok16 : ZOk Tryd.prog 16 (.c [.v (.pointer none)]) = True := eq_true ⟨.pointer none, by kernel_rfl, fun _ => by first | rfl | simp [Value.cells, Cont.vals, arr8, arr32, arr64]⟩
theorem sz17 : sz Tryd.prog 17 = 1 := by kernel_rfl
theorem bz17 : bz Tryd.prog 17 = 8 := by kernel_rfl
theorem zok17 : ZOk Tryd.prog 17 (.c [.v (.pointer none)]) = True := eq_true ⟨.pointer none, by kernel_rfl, fun _ => by first | rfl | simp [Value.cells, Cont.vals, arr8, arr32, arr64]⟩
theorem sz18 : sz Tryd.prog 18 = 1 := by kernel_rfl
theorem bz18 : bz Tryd.prog 18 = 8 := by kernel_rfl
theorem fo18_0 : fieldOff Tryd.prog 18 0 = some (0, 17) := by kernel_rfl
theorem zok18 : ZOk Tryd.prog 18 (.c [.v (.pointer none)]) = True := eq_true ⟨.agg #[.pointer none], by kernel_rfl, fun _ => by first | rfl | simp [Value.cells, Cont.vals, arr8, arr32, arr64]⟩
theorem sz19 : sz Tryd.prog 19 = 1 := by kernel_rfl
theorem bz19 : bz Tryd.prog 19 = 8 := by kernel_rfl
theorem fo19_0 : fieldOff Tryd.prog 19 0 = some (0, 17) := by kernel_rfl
theorem zok19 : ZOk Tryd.prog 19 (.c [.v (.pointer none)]) = True := eq_true ⟨.agg #[.pointer none], by kernel_rfl, fun _ => by first | rfl | simp [Value.cells, Cont.vals, arr8, arr32, arr64]⟩
theorem sz20 : sz Tryd.prog 20 = 1 := by kernel_rfl
theorem bz20 : bz Tryd.prog 20 = 16 := by kernel_rfl
theorem zok20 : ZOk Tryd.prog 20 (.c [.v .nilIface]) = True := eq_true ⟨.nilIface, by kernel_rfl, fun _ => by first | rfl | simp [Value.cells, Cont.vals, arr8, arr32, arr64]⟩
theorem sz21 : sz Tryd.prog 21 = 1 := by kernel_rfl
theorem bz21 : bz Tryd.prog 21 = 4 := by kernel_rfl
theorem zok21 : ZOk Tryd.prog 21 (.c [.v (.int .i32 0)]) = True := eq_true ⟨.int .i32 0, by kernel_rfl, fun _ => by first | rfl | simp [Value.cells, Cont.vals, arr8, arr32, arr64]⟩
theorem sz22 : sz Tryd.prog 22 = 1 := by kernel_rfl
theorem bz22 : bz Tryd.prog 22 = 8 := by kernel_rfl
theorem zok22 : ZOk Tryd.prog 22 (.c [.v (.int .u64 0)]) = True := eq_true ⟨.int .u64 0, by kernel_rfl, fun _ => by first | rfl | simp [Value.cells, Cont.vals, arr8, arr32, arr64]⟩
theorem sz23 : sz Tryd.prog 23 = 32 := by kernel_rfl
theorem bz23 : bz Tryd.prog 23 = 32 := by kernel_rfl
theorem aeq23 : arrEq Tryd.prog 23 32 .u8 = True := eq_true ⟨5, Tryd.underlying23, Tryd.underlying5, by kernel_rfl, by kernel_rfl, by kernel_rfl⟩
theorem zok23 : ZOk Tryd.prog 23 (.u8 (List.replicate 32 0)) = True := eq_true ⟨.agg (arr8 (List.replicate 32 0)), by kernel_rfl, fun _ => by first | rfl | simp [Value.cells, Cont.vals, arr8, arr32, arr64]⟩
theorem sz24 : sz Tryd.prog 24 = 1 := by kernel_rfl
theorem bz24 : bz Tryd.prog 24 = 24 := by kernel_rfl
theorem zok24 : ZOk Tryd.prog 24 (.c [.v (.slice none 0 0)]) = True := eq_true ⟨.slice none 0 0, by kernel_rfl, fun _ => by first | rfl | simp [Value.cells, Cont.vals, arr8, arr32, arr64]⟩
theorem sz25 : sz Tryd.prog 25 = 33 := by kernel_rfl
theorem bz25 : bz Tryd.prog 25 = 56 := by kernel_rfl
theorem fo25_0 : fieldOff Tryd.prog 25 0 = some (0, 23) := by kernel_rfl
theorem fo25_1 : fieldOff Tryd.prog 25 1 = some (32, 24) := by kernel_rfl
theorem sz26 : sz Tryd.prog 26 = 33 := by kernel_rfl
theorem bz26 : bz Tryd.prog 26 = 56 := by kernel_rfl
theorem fo26_0 : fieldOff Tryd.prog 26 0 = some (0, 23) := by kernel_rfl
theorem fo26_1 : fieldOff Tryd.prog 26 1 = some (32, 24) := by kernel_rfl
theorem sz27 : sz Tryd.prog 27 = 1 := by kernel_rfl
theorem bz27 : bz Tryd.prog 27 = 24 := by kernel_rfl
theorem zok27 : ZOk Tryd.prog 27 (.c [.v (.slice none 0 0)]) = True := eq_true ⟨.slice none 0 0, by kernel_rfl, fun _ => by first | rfl | simp [Value.cells, Cont.vals, arr8, arr32, arr64]⟩
theorem sz28 : sz Tryd.prog 28 = 1 := by kernel_rfl
theorem bz28 : bz Tryd.prog 28 = 8 := by kernel_rfl
theorem zok28 : ZOk Tryd.prog 28 (.c [.v .nilFunc]) = True := eq_true ⟨.nilFunc, by kernel_rfl, fun _ => by first | rfl | simp [Value.cells, Cont.vals, arr8, arr32, arr64]⟩
theorem sz29 : sz Tryd.prog 29 = 1 := by kernel_rfl
theorem bz29 : bz Tryd.prog 29 = 16 := by kernel_rfl
theorem zok29 : ZOk Tryd.prog 29 (.c [.v .nilIface]) = True := eq_true ⟨.nilIface, by kernel_rfl, fun _ => by first | rfl | simp [Value.cells, Cont.vals, arr8, arr32, arr64]⟩
theorem sz30 : sz Tryd.prog 30 = 1 := by kernel_rfl
theorem bz30 : bz Tryd.prog 30 = 16 := by kernel_rfl
theorem zok30 : ZOk Tryd.prog 30 (.c [.v .nilIface]) = True := eq_true ⟨.nilIface, by kernel_rfl, fun _ => by first | rfl | simp [Value.cells, Cont.vals, arr8, arr32, arr64]⟩
theorem sz32 : sz Tryd.prog 32 = 1 := by kernel_rfl
theorem bz32 : bz Tryd.prog 32 = 8 := by kernel_rfl
theorem zok32 : ZOk Tryd.prog 32 (.c [.v .nilFunc]) = True := eq_true ⟨.nilFunc, by kernel_rfl, fun _ => by first | rfl | simp [Value.cells, Cont.vals, arr8, arr32, arr64]⟩
theorem sz34 : sz Tryd.prog 34 = 1 := by kernel_rfl
theorem bz34 : bz Tryd.prog 34 = 8 := by kernel_rfl
theorem zok34 : ZOk Tryd.prog 34 (.c [.v .nilFunc]) = True := eq_true ⟨.nilFunc, by kernel_rfl, fun _ => by first | rfl | simp [Value.cells, Cont.vals, arr8, arr32, arr64]⟩
theorem sz35 : sz Tryd.prog 35 = 1 := by kernel_rfl
theorem bz35 : bz Tryd.prog 35 = 8 := by kernel_rfl
theorem zok35 : ZOk Tryd.prog 35 (.c [.v .nilFunc]) = True := eq_true ⟨.nilFunc, by kernel_rfl, fun _ => by first | rfl | simp [Value.cells, Cont.vals, arr8, arr32, arr64]⟩
theorem sz36 : sz Tryd.prog 36 = 1 := by kernel_rfl
theorem bz36 : bz Tryd.prog 36 = 8 := by kernel_rfl
theorem zok36 : ZOk Tryd.prog 36 (.c [.v .nilFunc]) = True := eq_true ⟨.nilFunc, by kernel_rfl, fun _ => by first | rfl | simp [Value.cells, Cont.vals, arr8, arr32, arr64]⟩
theorem sz37 : sz Tryd.prog 37 = 1 := by kernel_rfl
theorem bz37 : bz Tryd.prog 37 = 8 := by kernel_rfl
theorem zok37 : ZOk Tryd.prog 37 (.c [.v .nilFunc]) = True := eq_true ⟨.nilFunc, by kernel_rfl, fun _ => by first | rfl | simp [Value.cells, Cont.vals, arr8, arr32, arr64]⟩
theorem sz38 : sz Tryd.prog 38 = 1 := by kernel_rfl
theorem bz38 : bz Tryd.prog 38 = 8 := by kernel_rfl
theorem zok38 : ZOk Tryd.prog 38 (.c [.v .nilFunc]) = True := eq_true ⟨.nilFunc, by kernel_rfl, fun _ => by first | rfl | simp [Value.cells, Cont.vals, arr8, arr32, arr64]⟩
theorem sz39 : sz Tryd.prog 39 = 2 := by kernel_rfl
theorem bz39 : bz Tryd.prog 39 = 16 := by kernel_rfl
theorem aeq39 : arrEq Tryd.prog 39 2 .u64 = True := eq_true ⟨22, Tryd.underlying39, Tryd.underlying22, by kernel_rfl, by kernel_rfl, by kernel_rfl⟩
theorem zok39 : ZOk Tryd.prog 39 (.u64 (List.replicate 2 0)) = True := eq_true ⟨.agg (arr64 (List.replicate 2 0)), by kernel_rfl, fun _ => by first | rfl | simp [Value.cells, Cont.vals, arr8, arr32, arr64]⟩
theorem sz40 : sz Tryd.prog 40 = 2 := by kernel_rfl
theorem bz40 : bz Tryd.prog 40 = 48 := by kernel_rfl
theorem sz41 : sz Tryd.prog 41 = 1 := by kernel_rfl
theorem bz41 : bz Tryd.prog 41 = 8 := by kernel_rfl
theorem zok41 : ZOk Tryd.prog 41 (.c [.v .nilFunc]) = True := eq_true ⟨.nilFunc, by kernel_rfl, fun _ => by first | rfl | simp [Value.cells, Cont.vals, arr8, arr32, arr64]⟩
theorem sz42 : sz Tryd.prog 42 = 1 := by kernel_rfl
theorem bz42 : bz Tryd.prog 42 = 8 := by kernel_rfl
theorem zok42 : ZOk Tryd.prog 42 (.c [.v .nilFunc]) = True := eq_true ⟨.nilFunc, by kernel_rfl, fun _ => by first | rfl | simp [Value.cells, Cont.vals, arr8, arr32, arr64]⟩
theorem sz43 : sz Tryd.prog 43 = 1 := by kernel_rfl
theorem bz43 : bz Tryd.prog 43 = 8 := by kernel_rfl
theorem zok43 : ZOk Tryd.prog 43 (.c [.v .nilFunc]) = True := eq_true ⟨.nilFunc, by kernel_rfl, fun _ => by first | rfl | simp [Value.cells, Cont.vals, arr8, arr32, arr64]⟩
theorem sz44 : sz Tryd.prog 44 = 64 := by kernel_rfl
theorem bz44 : bz Tryd.prog 44 = 64 := by kernel_rfl
theorem aeq44 : arrEq Tryd.prog 44 64 .u8 = True := eq_true ⟨5, Tryd.underlying44, Tryd.underlying5, by kernel_rfl, by kernel_rfl, by kernel_rfl⟩
theorem zok44 : ZOk Tryd.prog 44 (.u8 (List.replicate 64 0)) = True := eq_true ⟨.agg (arr8 (List.replicate 64 0)), by kernel_rfl, fun _ => by first | rfl | simp [Value.cells, Cont.vals, arr8, arr32, arr64]⟩
theorem sz45 : sz Tryd.prog 45 = 1 := by kernel_rfl
theorem bz45 : bz Tryd.prog 45 = 8 := by kernel_rfl
theorem zok45 : ZOk Tryd.prog 45 (.c [.v .nilFunc]) = True := eq_true ⟨.nilFunc, by kernel_rfl, fun _ => by first | rfl | simp [Value.cells, Cont.vals, arr8, arr32, arr64]⟩
theorem sz46 : sz Tryd.prog 46 = 1 := by kernel_rfl
theorem bz46 : bz Tryd.prog 46 = 8 := by kernel_rfl
theorem zok46 : ZOk Tryd.prog 46 (.c [.v .nilFunc]) = True := eq_true ⟨.nilFunc, by kernel_rfl, fun _ => by first | rfl | simp [Value.cells, Cont.vals, arr8, arr32, arr64]⟩
theorem sz47 : sz Tryd.prog 47 = 1 := by kernel_rfl
theorem bz47 : bz Tryd.prog 47 = 8 := by kernel_rfl
theorem zok47 : ZOk Tryd.prog 47 (.c [.v .nilFunc]) = True := eq_true ⟨.nilFunc, by kernel_rfl, fun _ => by first | rfl | simp [Value.cells, Cont.vals, arr8, arr32, arr64]⟩
theorem sz48 : sz Tryd.prog 48 = 1 := by kernel_rfl
theorem bz48 : bz Tryd.prog 48 = 8 := by kernel_rfl
theorem zok48 : ZOk Tryd.prog 48 (.c [.v .nilFunc]) = True := eq_true ⟨.nilFunc, by kernel_rfl, fun _ => by first | rfl | simp [Value.cells, Cont.vals, arr8, arr32, arr64]⟩
theorem sz49 : sz Tryd.prog 49 = 1 := by kernel_rfl
theorem bz49 : bz Tryd.prog 49 = 8 := by kernel_rfl
theorem zok49 : ZOk Tryd.prog 49 (.c [.v .nilFunc]) = True := eq_true ⟨.nilFunc, by kernel_rfl, fun _ => by first | rfl | simp [Value.cells, Cont.vals, arr8, arr32, arr64]⟩
theorem sz51 : sz Tryd.prog 51 = 1 := by kernel_rfl
theorem bz51 : bz Tryd.prog 51 = 8 := by kernel_rfl
theorem zok51 : ZOk Tryd.prog 51 (.c [.v .nilFunc]) = True := eq_true ⟨.nilFunc, by kernel_rfl, fun _ => by first | rfl | simp [Value.cells, Cont.vals, arr8, arr32, arr64]⟩
theorem sz52 : sz Tryd.prog 52 = 1 := by kernel_rfl
theorem bz52 : bz Tryd.prog 52 = 8 := by kernel_rfl
theorem zok52 : ZOk Tryd.prog 52 (.c [.v .nilFunc]) = True := eq_true ⟨.nilFunc, by kernel_rfl, fun _ => by first | rfl | simp [Value.cells, Cont.vals, arr8, arr32, arr64]⟩
theorem sz53 : sz Tryd.prog 53 = 1 := by kernel_rfl
theorem bz53 : bz Tryd.prog 53 = 8 := by kernel_rfl
theorem zok53 : ZOk Tryd.prog 53 (.c [.v .nilFunc]) = True := eq_true ⟨.nilFunc, by kernel_rfl, fun _ => by first | rfl | simp [Value.cells, Cont.vals, arr8, arr32, arr64]⟩
theorem sz54 : sz Tryd.prog 54 = 1 := by kernel_rfl
theorem bz54 : bz Tryd.prog 54 = 8 := by kernel_rfl
theorem zok54 : ZOk Tryd.prog 54 (.c [.v .nilFunc]) = True := eq_true ⟨.nilFunc, by kernel_rfl, fun _ => by first | rfl | simp [Value.cells, Cont.vals, arr8, arr32, arr64]⟩
theorem sz55 : sz Tryd.prog 55 = 2 := by kernel_rfl
theorem bz55 : bz Tryd.prog 55 = 16 := by kernel_rfl
theorem aeq55 : arrEq Tryd.prog 55 2 .i64 = True := eq_true ⟨3, Tryd.underlying55, Tryd.underlying3, by kernel_rfl, by kernel_rfl, by kernel_rfl⟩
theorem sz56 : sz Tryd.prog 56 = 1 := by kernel_rfl
theorem bz56 : bz Tryd.prog 56 = 24 := by kernel_rfl
theorem zok56 : ZOk Tryd.prog 56 (.c [.v (.slice none 0 0)]) = True := eq_true ⟨.slice none 0 0, by kernel_rfl, fun _ => by first | rfl | simp [Value.cells, Cont.vals, arr8, arr32, arr64]⟩
theorem sz58 : sz Tryd.prog 58 = 1 := by kernel_rfl
theorem bz58 : bz Tryd.prog 58 = 8 := by kernel_rfl
theorem zok58 : ZOk Tryd.prog 58 (.c [.v .nilFunc]) = True := eq_true ⟨.nilFunc, by kernel_rfl, fun _ => by first | rfl | simp [Value.cells, Cont.vals, arr8, arr32, arr64]⟩
theorem sz60 : sz Tryd.prog 60 = 1 := by kernel_rfl
theorem bz60 : bz Tryd.prog 60 = 8 := by kernel_rfl
theorem zok60 : ZOk Tryd.prog 60 (.c [.v .nilFunc]) = True := eq_true ⟨.nilFunc, by kernel_rfl, fun _ => by first | rfl | simp [Value.cells, Cont.vals, arr8, arr32, arr64]⟩
theorem sz62 : sz Tryd.prog 62 = 1 := by kernel_rfl
theorem bz62 : bz Tryd.prog 62 = 8 := by kernel_rfl
theorem zok62 : ZOk Tryd.prog 62 (.c [.v .nilFunc]) = True := eq_true ⟨.nilFunc, by kernel_rfl, fun _ => by first | rfl | simp [Value.cells, Cont.vals, arr8, arr32, arr64]⟩
theorem sz64 : sz Tryd.prog 64 = 1 := by kernel_rfl
theorem bz64 : bz Tryd.prog 64 = 8 := by kernel_rfl
theorem zok64 : ZOk Tryd.prog 64 (.c [.v .nilFunc]) = True := eq_true ⟨.nilFunc, by kernel_rfl, fun _ => by first | rfl | simp [Value.cells, Cont.vals, arr8, arr32, arr64]⟩
theorem sz65 : sz Tryd.prog 65 = 1 := by kernel_rfl
theorem bz65 : bz Tryd.prog 65 = 8 := by kernel_rfl
theorem zok65 : ZOk Tryd.prog 65 (.c [.v .nilFunc]) = True := eq_true ⟨.nilFunc, by kernel_rfl, fun _ => by first | rfl | simp [Value.cells, Cont.vals, arr8, arr32, arr64]⟩
theorem sz66 : sz Tryd.prog 66 = 1 := by kernel_rfl
theorem bz66 : bz Tryd.prog 66 = 8 := by kernel_rfl
theorem zok66 : ZOk Tryd.prog 66 (.c [.v .nilFunc]) = True := eq_true ⟨.nilFunc, by kernel_rfl, fun _ => by first | rfl | simp [Value.cells, Cont.vals, arr8, arr32, arr64]⟩
theorem sz67 : sz Tryd.prog 67 = 1 := by kernel_rfl
theorem bz67 : bz Tryd.prog 67 = 8 := by kernel_rfl
theorem zok67 : ZOk Tryd.prog 67 (.c [.v .nilFunc]) = True := eq_true ⟨.nilFunc, by kernel_rfl, fun _ => by first | rfl | simp [Value.cells, Cont.vals, arr8, arr32, arr64]⟩
theorem sz68 : sz Tryd.prog 68 = 2 := by kernel_rfl
theorem bz68 : bz Tryd.prog 68 = 2 := by kernel_rfl
theorem aeq68 : arrEq Tryd.prog 68 2 .u8 = True := eq_true ⟨5, Tryd.underlying68, Tryd.underlying5, by kernel_rfl, by kernel_rfl, by kernel_rfl⟩
theorem zok68 : ZOk Tryd.prog 68 (.u8 (List.replicate 2 0)) = True := eq_true ⟨.agg (arr8 (List.replicate 2 0)), by kernel_rfl, fun _ => by first | rfl | simp [Value.cells, Cont.vals, arr8, arr32, arr64]⟩
theorem sz69 : sz Tryd.prog 69 = 1 := by kernel_rfl
theorem bz69 : bz Tryd.prog 69 = 8 := by kernel_rfl
theorem zok69 : ZOk Tryd.prog 69 (.c [.v .nilFunc]) = True := eq_true ⟨.nilFunc, by kernel_rfl, fun _ => by first | rfl | simp [Value.cells, Cont.vals, arr8, arr32, arr64]⟩
theorem sz70 : sz Tryd.prog 70 = 1 := by kernel_rfl
theorem bz70 : bz Tryd.prog 70 = 4 := by kernel_rfl
theorem zok70 : ZOk Tryd.prog 70 (.c [.v (.int .u32 0)]) = True := eq_true ⟨.int .u32 0, by kernel_rfl, fun _ => by first | rfl | simp [Value.cells, Cont.vals, arr8, arr32, arr64]⟩
theorem sz71 : sz Tryd.prog 71 = 1 := by kernel_rfl
theorem bz71 : bz Tryd.prog 71 = 8 := by kernel_rfl
theorem zok71 : ZOk Tryd.prog 71 (.c [.v (.int .u64 0)]) = True := eq_true ⟨.int .u64 0, by kernel_rfl, fun _ => by first | rfl | simp [Value.cells, Cont.vals, arr8, arr32, arr64]⟩
theorem sz72 : sz Tryd.prog 72 = 1 := by kernel_rfl
theorem bz72 : bz Tryd.prog 72 = 8 := by kernel_rfl
theorem zok72 : ZOk Tryd.prog 72 (.c [.v .nilFunc]) = True := eq_true ⟨.nilFunc, by kernel_rfl, fun _ => by first | rfl | simp [Value.cells, Cont.vals, arr8, arr32, arr64]⟩
theorem sz73 : sz Tryd.prog 73 = 4 := by kernel_rfl
theorem bz73 : bz Tryd.prog 73 = 32 := by kernel_rfl
theorem fo73_0 : fieldOff Tryd.prog 73 0 = some (0, 3) := by kernel_rfl
theorem fo73_1 : fieldOff Tryd.prog 73 1 = some (1, 22) := by kernel_rfl
theorem fo73_2 : fieldOff Tryd.prog 73 2 = some (2, 22) := by kernel_rfl
theorem fo73_3 : fieldOff Tryd.prog 73 3 = some (3, 3) := by kernel_rfl
theorem zok73 : ZOk Tryd.prog 73 (.c [.v (.int .i64 0), .v (.int .u64 0), .v (.int .u64 0), .v (.int .i64 0)]) = True := eq_true ⟨.agg #[.int .i64 0, .int .u64 0, .int .u64 0, .int .i64 0], by kernel_rfl, fun _ => by first | rfl | simp [Value.cells, Cont.vals, arr8, arr32, arr64]⟩
theorem sz74 : sz Tryd.prog 74 = 4 := by kernel_rfl
theorem bz74 : bz Tryd.prog 74 = 32 := by kernel_rfl
theorem fo74_0 : fieldOff Tryd.prog 74 0 = some (0, 3) := by kernel_rfl
theorem fo74_1 : fieldOff Tryd.prog 74 1 = some (1, 22) := by kernel_rfl
theorem fo74_2 : fieldOff Tryd.prog 74 2 = some (2, 22) := by kernel_rfl
theorem fo74_3 : fieldOff Tryd.prog 74 3 = some (3, 3) := by kernel_rfl
theorem zok74 : ZOk Tryd.prog 74 (.c [.v (.int .i64 0), .v (.int .u64 0), .v (.int .u64 0), .v (.int .i64 0)]) = True := eq_true ⟨.agg #[.int .i64 0, .int .u64 0, .int .u64 0, .int .i64 0], by kernel_rfl, fun _ => by first | rfl | simp [Value.cells, Cont.vals, arr8, arr32, arr64]⟩
theorem sz75 : sz Tryd.prog 75 = 1 := by kernel_rfl
theorem bz75 : bz Tryd.prog 75 = 24 := by kernel_rfl
theorem zok75 : ZOk Tryd.prog 75 (.c [.v (.slice none 0 0)]) = True := eq_true ⟨.slice none 0 0, by kernel_rfl, fun _ => by first | rfl | simp [Value.cells, Cont.vals, arr8, arr32, arr64]⟩
theorem sz76 : sz Tryd.prog 76 = 1 := by kernel_rfl
theorem bz76 : bz Tryd.prog 76 = 8 := by kernel_rfl
theorem zok76 : ZOk Tryd.prog 76 (.c [.v .nilFunc]) = True := eq_true ⟨.nilFunc, by kernel_rfl, fun _ => by first | rfl | simp [Value.cells, Cont.vals, arr8, arr32, arr64]⟩
theorem sz77 : sz Tryd.prog 77 = 1 := by kernel_rfl
theorem bz77 : bz Tryd.prog 77 = 24 := by kernel_rfl
theorem zok77 : ZOk Tryd.prog 77 (.c [.v (.slice none 0 0)]) = True := eq_true ⟨.slice none 0 0, by kernel_rfl, fun _ => by first | rfl | simp [Value.cells, Cont.vals, arr8, arr32, arr64]⟩
theorem sz78 : sz Tryd.prog 78 = 1 := by kernel_rfl
theorem bz78 : bz Tryd.prog 78 = 8 := by kernel_rfl
theorem zok78 : ZOk Tryd.prog 78 (.c [.v .nilFunc]) = True := eq_true ⟨.nilFunc, by kernel_rfl, fun _ => by first | rfl | simp [Value.cells, Cont.vals, arr8, arr32, arr64]⟩
theorem sz79 : sz Tryd.prog 79 = 1 := by kernel_rfl
theorem bz79 : bz Tryd.prog 79 = 8 := by kernel_rfl
theorem zok79 : ZOk Tryd.prog 79 (.c [.v .nilFunc]) = True := eq_true ⟨.nilFunc, by kernel_rfl, fun _ => by first | rfl | simp [Value.cells, Cont.vals, arr8, arr32, arr64]⟩
theorem sz80 : sz Tryd.prog 80 = 1 := by kernel_rfl
theorem bz80 : bz Tryd.prog 80 = 8 := by kernel_rfl
theorem zok80 : ZOk Tryd.prog 80 (.c [.v .nilFunc]) = True := eq_true ⟨.nilFunc, by kernel_rfl, fun _ => by first | rfl | simp [Value.cells, Cont.vals, arr8, arr32, arr64]⟩
theorem sz81 : sz Tryd.prog 81 = 1 := by kernel_rfl
theorem bz81 : bz Tryd.prog 81 = 8 := by kernel_rfl
theorem zok81 : ZOk Tryd.prog 81 (.c [.v .nilFunc]) = True := eq_true ⟨.nilFunc, by kernel_rfl, fun _ => by first | rfl | simp [Value.cells, Cont.vals, arr8, arr32, arr64]⟩
theorem sz82 : sz Tryd.prog 82 = 1 := by kernel_rfl
theorem bz82 : bz Tryd.prog 82 = 8 := by kernel_rfl
theorem zok82 : ZOk Tryd.prog 82 (.c [.v .nilFunc]) = True := eq_true ⟨.nilFunc, by kernel_rfl, fun _ => by first | rfl | simp [Value.cells, Cont.vals, arr8, arr32, arr64]⟩
theorem sz83 : sz Tryd.prog 83 = 1 := by kernel_rfl
theorem bz83 : bz Tryd.prog 83 = 8 := by kernel_rfl
theorem zok83 : ZOk Tryd.prog 83 (.c [.v .nilFunc]) = True := eq_true ⟨.nilFunc, by kernel_rfl, fun _ => by first | rfl | simp [Value.cells, Cont.vals, arr8, arr32, arr64]⟩
theorem sz84 : sz Tryd.prog 84 = 1 := by kernel_rfl
theorem bz84 : bz Tryd.prog 84 = 8 := by kernel_rfl
theorem zok84 : ZOk Tryd.prog 84 (.c [.v .nilFunc]) = True := eq_true ⟨.nilFunc, by kernel_rfl, fun _ => by first | rfl | simp [Value.cells, Cont.vals, arr8, arr32, arr64]⟩
theorem sz85 : sz Tryd.prog 85 = 4 := by kernel_rfl
theorem bz85 : bz Tryd.prog 85 = 32 := by kernel_rfl
theorem aeq85 : arrEq Tryd.prog 85 4 .u64 = True := eq_true ⟨22, Tryd.underlying85, Tryd.underlying22, by kernel_rfl, by kernel_rfl, by kernel_rfl⟩
theorem zok85 : ZOk Tryd.prog 85 (.u64 (List.replicate 4 0)) = True := eq_true ⟨.agg (arr64 (List.replicate 4 0)), by kernel_rfl, fun _ => by first | rfl | simp [Value.cells, Cont.vals, arr8, arr32, arr64]⟩
theorem sz86 : sz Tryd.prog 86 = 2 := by kernel_rfl
theorem bz86 : bz Tryd.prog 86 = 16 := by kernel_rfl
theorem fo86_0 : fieldOff Tryd.prog 86 0 = some (0, 3) := by kernel_rfl
theorem fo86_1 : fieldOff Tryd.prog 86 1 = some (1, 22) := by kernel_rfl
theorem zok86 : ZOk Tryd.prog 86 (.c [.v (.int .i64 0), .v (.int .u64 0)]) = True := eq_true ⟨.agg #[.int .i64 0, .int .u64 0], by kernel_rfl, fun _ => by first | rfl | simp [Value.cells, Cont.vals, arr8, arr32, arr64]⟩
theorem sz87 : sz Tryd.prog 87 = 2 := by kernel_rfl
theorem bz87 : bz Tryd.prog 87 = 16 := by kernel_rfl
theorem fo87_0 : fieldOff Tryd.prog 87 0 = some (0, 3) := by kernel_rfl
theorem fo87_1 : fieldOff Tryd.prog 87 1 = some (1, 22) := by kernel_rfl
theorem zok87 : ZOk Tryd.prog 87 (.c [.v (.int .i64 0), .v (.int .u64 0)]) = True := eq_true ⟨.agg #[.int .i64 0, .int .u64 0], by kernel_rfl, fun _ => by first | rfl | simp [Value.cells, Cont.vals, arr8, arr32, arr64]⟩
theorem sz88 : sz Tryd.prog 88 = 1 := by kernel_rfl
theorem bz88 : bz Tryd.prog 88 = 8 := by kernel_rfl
theorem zok88 : ZOk Tryd.prog 88 (.c [.v .nilFunc]) = True := eq_true ⟨.nilFunc, by kernel_rfl, fun _ => by first | rfl | simp [Value.cells, Cont.vals, arr8, arr32, arr64]⟩
theorem sz89 : sz Tryd.prog 89 = 1 := by kernel_rfl
theorem bz89 : bz Tryd.prog 89 = 8 := by kernel_rfl
theorem zok89 : ZOk Tryd.prog 89 (.c [.v .nilFunc]) = True := eq_true ⟨.nilFunc, by kernel_rfl, fun _ => by first | rfl | simp [Value.cells, Cont.vals, arr8, arr32, arr64]⟩
theorem sz90 : sz Tryd.prog 90 = 1 := by kernel_rfl
theorem bz90 : bz Tryd.prog 90 = 8 := by kernel_rfl
theorem zok90 : ZOk Tryd.prog 90 (.c [.v .nilFunc]) = True := eq_true ⟨.nilFunc, by kernel_rfl, fun _ => by first | rfl | simp [Value.cells, Cont.vals, arr8, arr32, arr64]⟩
theorem sz91 : sz Tryd.prog 91 = 1 := by kernel_rfl
theorem bz91 : bz Tryd.prog 91 = 24 := by kernel_rfl
theorem zok91 : ZOk Tryd.prog 91 (.c [.v (.slice none 0 0)]) = True := eq_true ⟨.slice none 0 0, by kernel_rfl, fun _ => by first | rfl | simp [Value.cells, Cont.vals, arr8, arr32, arr64]⟩
theorem sz92 : sz Tryd.prog 92 = 1 := by kernel_rfl
theorem bz92 : bz Tryd.prog 92 = 24 := by kernel_rfl
theorem zok92 : ZOk Tryd.prog 92 (.c [.v (.slice none 0 0)]) = True := eq_true ⟨.slice none 0 0, by kernel_rfl, fun _ => by first | rfl | simp [Value.cells, Cont.vals, arr8, arr32, arr64]⟩
theorem sz93 : sz Tryd.prog 93 = 1 := by kernel_rfl
theorem bz93 : bz Tryd.prog 93 = 8 := by kernel_rfl
theorem zok93 : ZOk Tryd.prog 93 (.c [.v .nilFunc]) = True := eq_true ⟨.nilFunc, by kernel_rfl, fun _ => by first | rfl | simp [Value.cells, Cont.vals, arr8, arr32, arr64]⟩
theorem sz94 : sz Tryd.prog 94 = 1 := by kernel_rfl
theorem bz94 : bz Tryd.prog 94 = 8 := by kernel_rfl
theorem zok94 : ZOk Tryd.prog 94 (.c [.v .nilFunc]) = True := eq_true ⟨.nilFunc, by kernel_rfl, fun _ => by first | rfl | simp [Value.cells, Cont.vals, arr8, arr32, arr64]⟩
theorem sz95 : sz Tryd.prog 95 = 1 := by kernel_rfl
theorem bz95 : bz Tryd.prog 95 = 8 := by kernel_rfl
theorem zok95 : ZOk Tryd.prog 95 (.c [.v (.int .i64 0)]) = True := eq_true ⟨.int .i64 0, by kernel_rfl, fun _ => by first | rfl | simp [Value.cells, Cont.vals, arr8, arr32, arr64]⟩
theorem sz96 : sz Tryd.prog 96 = 1 := by kernel_rfl
theorem bz96 : bz Tryd.prog 96 = 8 := by kernel_rfl
theorem zok96 : ZOk Tryd.prog 96 (.c [.v .nilFunc]) = True := eq_true ⟨.nilFunc, by kernel_rfl, fun _ => by first | rfl | simp [Value.cells, Cont.vals, arr8, arr32, arr64]⟩
theorem sz97 : sz Tryd.prog 97 = 1 := by kernel_rfl
theorem bz97 : bz Tryd.prog 97 = 8 := by kernel_rfl
theorem zok97 : ZOk Tryd.prog 97 (.c [.v .nilFunc]) = True := eq_true ⟨.nilFunc, by kernel_rfl, fun _ => by first | rfl | simp [Value.cells, Cont.vals, arr8, arr32, arr64]⟩
theorem sz98 : sz Tryd.prog 98 = 1 := by kernel_rfl
theorem bz98 : bz Tryd.prog 98 = 8 := by kernel_rfl
theorem zok98 : ZOk Tryd.prog 98 (.c [.v .nilFunc]) = True := eq_true ⟨.nilFunc, by kernel_rfl, fun _ => by first | rfl | simp [Value.cells, Cont.vals, arr8, arr32, arr64]⟩
theorem sz99 : sz Tryd.prog 99 = 1 := by kernel_rfl
theorem bz99 : bz Tryd.prog 99 = 8 := by kernel_rfl
theorem zok99 : ZOk Tryd.prog 99 (.c [.v .nilFunc]) = True := eq_true ⟨.nilFunc, by kernel_rfl, fun _ => by first | rfl | simp [Value.cells, Cont.vals, arr8, arr32, arr64]⟩
theorem sz100 : sz Tryd.prog 100 = 1 := by kernel_rfl
theorem bz100 : bz Tryd.prog 100 = 8 := by kernel_rfl
theorem zok100 : ZOk Tryd.prog 100 (.c [.v .nilFunc]) = True := eq_true ⟨.nilFunc, by kernel_rfl, fun _ => by first | rfl | simp [Value.cells, Cont.vals, arr8, arr32, arr64]⟩
theorem sz101 : sz Tryd.prog 101 = 1 := by kernel_rfl
theorem bz101 : bz Tryd.prog 101 = 8 := by kernel_rfl
theorem zok101 : ZOk Tryd.prog 101 (.c [.v .nilFunc]) = True := eq_true ⟨.nilFunc, by kernel_rfl, fun _ => by first | rfl | simp [Value.cells, Cont.vals, arr8, arr32, arr64]⟩
theorem sz102 : sz Tryd.prog 102 = 1 := by kernel_rfl
theorem bz102 : bz Tryd.prog 102 = 8 := by kernel_rfl
theorem zok102 : ZOk Tryd.prog 102 (.c [.v .nilFunc]) = True := eq_true ⟨.nilFunc, by kernel_rfl, fun _ => by first | rfl | simp [Value.cells, Cont.vals, arr8, arr32, arr64]⟩
theorem sz103 : sz Tryd.prog 103 = 1 := by kernel_rfl
theorem bz103 : bz Tryd.prog 103 = 8 := by kernel_rfl
theorem zok103 : ZOk Tryd.prog 103 (.c [.v .nilFunc]) = True := eq_true ⟨.nilFunc, by kernel_rfl, fun _ => by first | rfl | simp [Value.cells, Cont.vals, arr8, arr32, arr64]⟩
theorem sz104 : sz Tryd.prog 104 = 8 := by kernel_rfl
theorem bz104 : bz Tryd.prog 104 = 32 := by kernel_rfl
theorem aeq104 : arrEq Tryd.prog 104 8 .u32 = True := eq_true ⟨70, Tryd.underlying104, Tryd.underlying70, by kernel_rfl, by kernel_rfl, by kernel_rfl⟩
theorem zok104 : ZOk Tryd.prog 104 (.u32 (List.replicate 8 0)) = True := eq_true ⟨.agg (arr32 (List.replicate 8 0)), by kernel_rfl, fun _ => by first | rfl | simp [Value.cells, Cont.vals, arr8, arr32, arr64]⟩
theorem sz105 : sz Tryd.prog 105 = 1 := by kernel_rfl
theorem bz105 : bz Tryd.prog 105 = 8 := by kernel_rfl
theorem zok105 : ZOk Tryd.prog 105 (.c [.v .nilFunc]) = True := eq_true ⟨.nilFunc, by kernel_rfl, fun _ => by first | rfl | simp [Value.cells, Cont.vals, arr8, arr32, arr64]⟩
theorem sz106 : sz Tryd.prog 106 = 1 := by kernel_rfl
theorem bz106 : bz Tryd.prog 106 = 8 := by kernel_rfl
theorem zok106 : ZOk Tryd.prog 106 (.c [.v .nilFunc]) = True := eq_true ⟨.nilFunc, by kernel_rfl, fun _ => by first | rfl | simp [Value.cells, Cont.vals, arr8, arr32, arr64]⟩
theorem sz107 : sz Tryd.prog 107 = 1 := by kernel_rfl
theorem bz107 : bz Tryd.prog 107 = 8 := by kernel_rfl
theorem zok107 : ZOk Tryd.prog 107 (.c [.v .nilFunc]) = True := eq_true ⟨.nilFunc, by kernel_rfl, fun _ => by first | rfl | simp [Value.cells, Cont.vals, arr8, arr32, arr64]⟩
theorem sz108 : sz Tryd.prog 108 = 1 := by kernel_rfl
theorem bz108 : bz Tryd.prog 108 = 8 := by kernel_rfl
theorem zok108 : ZOk Tryd.prog 108 (.c [.v .nilFunc]) = True := eq_true ⟨.nilFunc, by kernel_rfl, fun _ => by first | rfl | simp [Value.cells, Cont.vals, arr8, arr32, arr64]⟩
theorem sz110 : sz Tryd.prog 110 = 1 := by kernel_rfl
theorem bz110 : bz Tryd.prog 110 = 8 := by kernel_rfl
theorem zok110 : ZOk Tryd.prog 110 (.c [.v .nilFunc]) = True := eq_true ⟨.nilFunc, by kernel_rfl, fun _ => by first | rfl | simp [Value.cells, Cont.vals, arr8, arr32, arr64]⟩
theorem sz111 : sz Tryd.prog 111 = 1 := by kernel_rfl
theorem bz111 : bz Tryd.prog 111 = 8 := by kernel_rfl
theorem zok111 : ZOk Tryd.prog 111 (.c [.v .nilFunc]) = True := eq_true ⟨.nilFunc, by kernel_rfl, fun _ => by first | rfl | simp [Value.cells, Cont.vals, arr8, arr32, arr64]⟩
theorem sz112 : sz Tryd.prog 112 = 1 := by kernel_rfl
theorem bz112 : bz Tryd.prog 112 = 8 := by kernel_rfl
theorem zok112 : ZOk Tryd.prog 112 (.c [.v .nilFunc]) = True := eq_true ⟨.nilFunc, by kernel_rfl, fun _ => by first | rfl | simp [Value.cells, Cont.vals, arr8, arr32, arr64]⟩
theorem sz113 : sz Tryd.prog 113 = 1 := by kernel_rfl
theorem bz113 : bz Tryd.prog 113 = 8 := by kernel_rfl
theorem zok113 : ZOk Tryd.prog 113 (.c [.v (.pointer none)]) = True := eq_true ⟨.pointer none, by kernel_rfl, fun _ => by first | rfl | simp [Value.cells, Cont.vals, arr8, arr32, arr64]⟩
theorem sz114 : sz Tryd.prog 114 = 1 := by kernel_rfl
theorem bz114 : bz Tryd.prog 114 = 8 := by kernel_rfl
theorem zok114 : ZOk Tryd.prog 114 (.c [.v .nilFunc]) = True := eq_true ⟨.nilFunc, by kernel_rfl, fun _ => by first | rfl | simp [Value.cells, Cont.vals, arr8, arr32, arr64]⟩
theorem sz115 : sz Tryd.prog 115 = 1 := by kernel_rfl
theorem bz115 : bz Tryd.prog 115 = 8 := by kernel_rfl
theorem zok115 : ZOk Tryd.prog 115 (.c [.v .nilFunc]) = True := eq_true ⟨.nilFunc, by kernel_rfl, fun _ => by first | rfl | simp [Value.cells, Cont.vals, arr8, arr32, arr64]⟩
theorem sz116 : sz Tryd.prog 116 = 2 := by kernel_rfl
theorem bz116 : bz Tryd.prog 116 = 16 := by kernel_rfl
theorem fo116_0 : fieldOff Tryd.prog 116 0 = some (0, 3) := by kernel_rfl
theorem fo116_1 : fieldOff Tryd.prog 116 1 = some (1, 22) := by kernel_rfl
theorem zok116 : ZOk Tryd.prog 116 (.c [.v (.int .i64 0), .v (.int .u64 0)]) = True := eq_true ⟨.agg #[.int .i64 0, .int .u64 0], by kernel_rfl, fun _ => by first | rfl | simp [Value.cells, Cont.vals, arr8, arr32, arr64]⟩
theorem sz117 : sz Tryd.prog 117 = 1 := by kernel_rfl
theorem bz117 : bz Tryd.prog 117 = 8 := by kernel_rfl
theorem zok117 : ZOk Tryd.prog 117 (.c [.v .nilFunc]) = True := eq_true ⟨.nilFunc, by kernel_rfl, fun _ => by first | rfl | simp [Value.cells, Cont.vals, arr8, arr32, arr64]⟩
theorem sz118 : sz Tryd.prog 118 = 1 := by kernel_rfl
theorem bz118 : bz Tryd.prog 118 = 8 := by kernel_rfl
theorem zok118 : ZOk Tryd.prog 118 (.c [.v .nilFunc]) = True := eq_true ⟨.nilFunc, by kernel_rfl, fun _ => by first | rfl | simp [Value.cells, Cont.vals, arr8, arr32, arr64]⟩
theorem sz119 : sz Tryd.prog 119 = 1 := by kernel_rfl
theorem bz119 : bz Tryd.prog 119 = 8 := by kernel_rfl
theorem zok119 : ZOk Tryd.prog 119 (.c [.v .nilFunc]) = True := eq_true ⟨.nilFunc, by kernel_rfl, fun _ => by first | rfl | simp [Value.cells, Cont.vals, arr8, arr32, arr64]⟩
theorem sz120 : sz Tryd.prog 120 = 1 := by kernel_rfl
theorem bz120 : bz Tryd.prog 120 = 8 := by kernel_rfl
theorem zok120 : ZOk Tryd.prog 120 (.c [.v .nilFunc]) = True := eq_true ⟨.nilFunc, by kernel_rfl, fun _ => by first | rfl | simp [Value.cells, Cont.vals, arr8, arr32, arr64]⟩
theorem sz121 : sz Tryd.prog 121 = 64 := by kernel_rfl
theorem bz121 : bz Tryd.prog 121 = 256 := by kernel_rfl
theorem aeq121 : arrEq Tryd.prog 121 64 .u32 = True := eq_true ⟨70, Tryd.underlying121, Tryd.underlying70, by kernel_rfl, by kernel_rfl, by kernel_rfl⟩
theorem zok121 : ZOk Tryd.prog 121 (.u32 (List.replicate 64 0)) = True := eq_true ⟨.agg (arr32 (List.replicate 64 0)), by kernel_rfl, fun _ => by first | rfl | simp [Value.cells, Cont.vals, arr8, arr32, arr64]⟩
theorem sz122 : sz Tryd.prog 122 = 1 := by kernel_rfl
theorem bz122 : bz Tryd.prog 122 = 8 := by kernel_rfl
theorem zok122 : ZOk Tryd.prog 122 (.c [.v .nilFunc]) = True := eq_true ⟨.nilFunc, by kernel_rfl, fun _ => by first | rfl | simp [Value.cells, Cont.vals, arr8, arr32, arr64]⟩
theorem sz124 : sz Tryd.prog 124 = 1 := by kernel_rfl
theorem bz124 : bz Tryd.prog 124 = 8 := by kernel_rfl
theorem zok124 : ZOk Tryd.prog 124 (.c [.v (.int .u64 0)]) = True := eq_true ⟨.int .u64 0, by kernel_rfl, fun _ => by first | rfl | simp [Value.cells, Cont.vals, arr8, arr32, arr64]⟩
theorem sz125 : sz Tryd.prog 125 = 3 := by kernel_rfl
theorem bz125 : bz Tryd.prog 125 = 24 := by kernel_rfl
theorem fo125_0 : fieldOff Tryd.prog 125 0 = some (0, 17) := by kernel_rfl
theorem fo125_1 : fieldOff Tryd.prog 125 1 = some (1, 123) := by kernel_rfl
theorem fo125_2 : fieldOff Tryd.prog 125 2 = some (2, 124) := by kernel_rfl
theorem sz126 : sz Tryd.prog 126 = 3 := by kernel_rfl
theorem bz126 : bz Tryd.prog 126 = 24 := by kernel_rfl
theorem fo126_0 : fieldOff Tryd.prog 126 0 = some (0, 17) := by kernel_rfl
theorem fo126_1 : fieldOff Tryd.prog 126 1 = some (1, 123) := by kernel_rfl
theorem fo126_2 : fieldOff Tryd.prog 126 2 = some (2, 124) := by kernel_rfl
theorem sz127 : sz Tryd.prog 127 = 1 := by kernel_rfl
theorem bz127 : bz Tryd.prog 127 = 8 := by kernel_rfl
theorem zok127 : ZOk Tryd.prog 127 (.c [.v .nilFunc]) = True := eq_true ⟨.nilFunc, by kernel_rfl, fun _ => by first | rfl | simp [Value.cells, Cont.vals, arr8, arr32, arr64]⟩
theorem sz128 : sz Tryd.prog 128 = 1 := by kernel_rfl
theorem bz128 : bz Tryd.prog 128 = 16 := by kernel_rfl
theorem zok128 : ZOk Tryd.prog 128 (.c [.v .nilIface]) = True := eq_true ⟨.nilIface, by kernel_rfl, fun _ => by first | rfl | simp [Value.cells, Cont.vals, arr8, arr32, arr64]⟩
theorem sz129 : sz Tryd.prog 129 = 1 := by kernel_rfl
theorem bz129 : bz Tryd.prog 129 = 16 := by kernel_rfl
theorem zok129 : ZOk Tryd.prog 129 (.c [.v .nilIface]) = True := eq_true ⟨.nilIface, by kernel_rfl, fun _ => by first | rfl | simp [Value.cells, Cont.vals, arr8, arr32, arr64]⟩
theorem sz130 : sz Tryd.prog 130 = 1 := by kernel_rfl
theorem bz130 : bz Tryd.prog 130 = 8 := by kernel_rfl
theorem zok130 : ZOk Tryd.prog 130 (.c [.v .nilFunc]) = True := eq_true ⟨.nilFunc, by kernel_rfl, fun _ => by first | rfl | simp [Value.cells, Cont.vals, arr8, arr32, arr64]⟩
theorem sz131 : sz Tryd.prog 131 = 1 := by kernel_rfl
theorem bz131 : bz Tryd.prog 131 = 1 := by kernel_rfl
theorem zok131 : ZOk Tryd.prog 131 (.c [.v (.int .u8 0)]) = True := eq_true ⟨.int .u8 0, by kernel_rfl, fun _ => by first | rfl | simp [Value.cells, Cont.vals, arr8, arr32, arr64]⟩
theorem sz132 : sz Tryd.prog 132 = 1 := by kernel_rfl
theorem bz132 : bz Tryd.prog 132 = 8 := by kernel_rfl
theorem zok132 : ZOk Tryd.prog 132 (.c [.v .nilFunc]) = True := eq_true ⟨.nilFunc, by kernel_rfl, fun _ => by first | rfl | simp [Value.cells, Cont.vals, arr8, arr32, arr64]⟩
theorem sz133 : sz Tryd.prog 133 = 1 := by kernel_rfl
theorem bz133 : bz Tryd.prog 133 = 8 := by kernel_rfl
theorem zok133 : ZOk Tryd.prog 133 (.c [.v .nilFunc]) = True := eq_true ⟨.nilFunc, by kernel_rfl, fun _ => by first | rfl | simp [Value.cells, Cont.vals, arr8, arr32, arr64]⟩
theorem sz134 : sz Tryd.prog 134 = 1 := by kernel_rfl
theorem bz134 : bz Tryd.prog 134 = 8 := by kernel_rfl
theorem zok134 : ZOk Tryd.prog 134 (.c [.v .nilFunc]) = True := eq_true ⟨.nilFunc, by kernel_rfl, fun _ => by first | rfl | simp [Value.cells, Cont.vals, arr8, arr32, arr64]⟩
theorem sz135 : sz Tryd.prog 135 = 8 := by kernel_rfl
theorem bz135 : bz Tryd.prog 135 = 8 := by kernel_rfl
theorem aeq135 : arrEq Tryd.prog 135 8 .u8 = True := eq_true ⟨5, Tryd.underlying135, Tryd.underlying5, by kernel_rfl, by kernel_rfl, by kernel_rfl⟩
theorem zok135 : ZOk Tryd.prog 135 (.u8 (List.replicate 8 0)) = True := eq_true ⟨.agg (arr8 (List.replicate 8 0)), by kernel_rfl, fun _ => by first | rfl | simp [Value.cells, Cont.vals, arr8, arr32, arr64]⟩
theorem sz136 : sz Tryd.prog 136 = 1 := by kernel_rfl
theorem bz136 : bz Tryd.prog 136 = 8 := by kernel_rfl
theorem fo136_0 : fieldOff Tryd.prog 136 0 = some (0, 17) := by kernel_rfl
theorem zok136 : ZOk Tryd.prog 136 (.c [.v (.pointer none)]) = True := eq_true ⟨.agg #[.pointer none], by kernel_rfl, fun _ => by first | rfl | simp [Value.cells, Cont.vals, arr8, arr32, arr64]⟩
theorem sz137 : sz Tryd.prog 137 = 1 := by kernel_rfl
theorem bz137 : bz Tryd.prog 137 = 8 := by kernel_rfl
theorem fo137_0 : fieldOff Tryd.prog 137 0 = some (0, 17) := by kernel_rfl
theorem zok137 : ZOk Tryd.prog 137 (.c [.v (.pointer none)]) = True := eq_true ⟨.agg #[.pointer none], by kernel_rfl, fun _ => by first | rfl | simp [Value.cells, Cont.vals, arr8, arr32, arr64]⟩
theorem sz138 : sz Tryd.prog 138 = 1 := by kernel_rfl
theorem bz138 : bz Tryd.prog 138 = 8 := by kernel_rfl
theorem zok138 : ZOk Tryd.prog 138 (.c [.v (.pointer none)]) = True := eq_true ⟨.pointer none, by kernel_rfl, fun _ => by first | rfl | simp [Value.cells, Cont.vals, arr8, arr32, arr64]⟩
theorem sz139 : sz Tryd.prog 139 = 1 := by kernel_rfl
theorem bz139 : bz Tryd.prog 139 = 8 := by kernel_rfl
theorem zok139 : ZOk Tryd.prog 139 (.c [.v .nilFunc]) = True := eq_true ⟨.nilFunc, by kernel_rfl, fun _ => by first | rfl | simp [Value.cells, Cont.vals, arr8, arr32, arr64]⟩
theorem sz140 : sz Tryd.prog 140 = 1 := by kernel_rfl
theorem bz140 : bz Tryd.prog 140 = 8 := by kernel_rfl
theorem zok140 : ZOk Tryd.prog 140 (.c [.v .nilFunc]) = True := eq_true ⟨.nilFunc, by kernel_rfl, fun _ => by first | rfl | simp [Value.cells, Cont.vals, arr8, arr32, arr64]⟩
theorem sz141 : sz Tryd.prog 141 = 1 := by kernel_rfl
theorem bz141 : bz Tryd.prog 141 = 8 := by kernel_rfl
theorem zok141 : ZOk Tryd.prog 141 (.c [.v .nilFunc]) = True := eq_true ⟨.nilFunc, by kernel_rfl, fun _ => by first | rfl | simp [Value.cells, Cont.vals, arr8, arr32, arr64]⟩
theorem sz142 : sz Tryd.prog 142 = 1 := by kernel_rfl
theorem bz142 : bz Tryd.prog 142 = 16 := by kernel_rfl
theorem zok142 : ZOk Tryd.prog 142 (.c [.v .nilIface]) = True := eq_true ⟨.nilIface, by kernel_rfl, fun _ => by first | rfl | simp [Value.cells, Cont.vals, arr8, arr32, arr64]⟩
theorem sz144 : sz Tryd.prog 144 = 1 := by kernel_rfl
theorem bz144 : bz Tryd.prog 144 = 8 := by kernel_rfl
theorem zok144 : ZOk Tryd.prog 144 (.c [.v .nilFunc]) = True := eq_true ⟨.nilFunc, by kernel_rfl, fun _ => by first | rfl | simp [Value.cells, Cont.vals, arr8, arr32, arr64]⟩
theorem sz145 : sz Tryd.prog 145 = 1 := by kernel_rfl
theorem bz145 : bz Tryd.prog 145 = 16 := by kernel_rfl
theorem zok145 : ZOk Tryd.prog 145 (.c [.v .nilIface]) = True := eq_true ⟨.nilIface, by kernel_rfl, fun _ => by first | rfl | simp [Value.cells, Cont.vals, arr8, arr32, arr64]⟩
theorem sz146 : sz Tryd.prog 146 = 1 := by kernel_rfl
theorem bz146 : bz Tryd.prog 146 = 8 := by kernel_rfl
theorem zok146 : ZOk Tryd.prog 146 (.c [.v .nilFunc]) = True := eq_true ⟨.nilFunc, by kernel_rfl, fun _ => by first | rfl | simp [Value.cells, Cont.vals, arr8, arr32, arr64]⟩
theorem sz147 : sz Tryd.prog 147 = 1 := by kernel_rfl
theorem bz147 : bz Tryd.prog 147 = 16 := by kernel_rfl
theorem zok147 : ZOk Tryd.prog 147 (.c [.v .nilIface]) = True := eq_true ⟨.nilIface, by kernel_rfl, fun _ => by first | rfl | simp [Value.cells, Cont.vals, arr8, arr32, arr64]⟩
theorem sz148 : sz Tryd.prog 148 = 1 := by kernel_rfl
theorem bz148 : bz Tryd.prog 148 = 24 := by kernel_rfl
theorem zok148 : ZOk Tryd.prog 148 (.c [.v (.slice none 0 0)]) = True := eq_true ⟨.slice none 0 0, by kernel_rfl, fun _ => by first | rfl | simp [Value.cells, Cont.vals, arr8, arr32, arr64]⟩
theorem sz149 : sz Tryd.prog 149 = 1 := by kernel_rfl
theorem bz149 : bz Tryd.prog 149 = 8 := by kernel_rfl
theorem zok149 : ZOk Tryd.prog 149 (.c [.v .nilFunc]) = True := eq_true ⟨.nilFunc, by kernel_rfl, fun _ => by first | rfl | simp [Value.cells, Cont.vals, arr8, arr32, arr64]⟩
theorem sz151 : sz Tryd.prog 151 = 1 := by kernel_rfl
theorem bz151 : bz Tryd.prog 151 = 8 := by kernel_rfl
theorem zok151 : ZOk Tryd.prog 151 (.c [.v .nilFunc]) = True := eq_true ⟨.nilFunc, by kernel_rfl, fun _ => by first | rfl | simp [Value.cells, Cont.vals, arr8, arr32, arr64]⟩
theorem sz152 : sz Tryd.prog 152 = 1 := by kernel_rfl
theorem bz152 : bz Tryd.prog 152 = 8 := by kernel_rfl
theorem zok152 : ZOk Tryd.prog 152 (.c [.v .nilFunc]) = True := eq_true ⟨.nilFunc, by kernel_rfl, fun _ => by first | rfl | simp [Value.cells, Cont.vals, arr8, arr32, arr64]⟩
theorem sz153 : sz Tryd.prog 153 = 4 := by kernel_rfl
theorem bz153 : bz Tryd.prog 153 = 40 := by kernel_rfl
theorem fo153_0 : fieldOff Tryd.prog 153 0 = some (0, 17) := by kernel_rfl
theorem fo153_1 : fieldOff Tryd.prog 153 1 = some (1, 17) := by kernel_rfl
theorem fo153_2 : fieldOff Tryd.prog 153 2 = some (2, 17) := by kernel_rfl
theorem fo153_3 : fieldOff Tryd.prog 153 3 = some (3, 9) := by kernel_rfl
theorem zok153 : ZOk Tryd.prog 153 (.c [.v (.pointer none), .v (.pointer none), .v (.pointer none), .v (.string .empty)]) = True := eq_true ⟨.agg #[.pointer none, .pointer none, .pointer none, .string .empty], by kernel_rfl, fun _ => by first | rfl | simp [Value.cells, Cont.vals, arr8, arr32, arr64]⟩
theorem sz154 : sz Tryd.prog 154 = 4 := by kernel_rfl
theorem bz154 : bz Tryd.prog 154 = 40 := by kernel_rfl
theorem fo154_0 : fieldOff Tryd.prog 154 0 = some (0, 17) := by kernel_rfl
theorem fo154_1 : fieldOff Tryd.prog 154 1 = some (1, 17) := by kernel_rfl
theorem fo154_2 : fieldOff Tryd.prog 154 2 = some (2, 17) := by kernel_rfl
theorem fo154_3 : fieldOff Tryd.prog 154 3 = some (3, 9) := by kernel_rfl
theorem zok154 : ZOk Tryd.prog 154 (.c [.v (.pointer none), .v (.pointer none), .v (.pointer none), .v (.string .empty)]) = True := eq_true ⟨.agg #[.pointer none, .pointer none, .pointer none, .string .empty], by kernel_rfl, fun _ => by first | rfl | simp [Value.cells, Cont.vals, arr8, arr32, arr64]⟩
theorem sz155 : sz Tryd.prog 155 = 0 := by kernel_rfl
theorem bz155 : bz Tryd.prog 155 = 0 := by kernel_rfl
theorem sz156 : sz Tryd.prog 156 = 0 := by kernel_rfl
theorem bz156 : bz Tryd.prog 156 = 0 := by kernel_rfl
theorem fo156_0 : fieldOff Tryd.prog 156 0 = some (0, 155) := by kernel_rfl
theorem sz157 : sz Tryd.prog 157 = 0 := by kernel_rfl
theorem bz157 : bz Tryd.prog 157 = 0 := by kernel_rfl
theorem fo157_0 : fieldOff Tryd.prog 157 0 = some (0, 155) := by kernel_rfl
theorem sz158 : sz Tryd.prog 158 = 1 := by kernel_rfl
theorem bz158 : bz Tryd.prog 158 = 8 := by kernel_rfl
theorem zok158 : ZOk Tryd.prog 158 (.c [.v .nilFunc]) = True := eq_true ⟨.nilFunc, by kernel_rfl, fun _ => by first | rfl | simp [Value.cells, Cont.vals, arr8, arr32, arr64]⟩
theorem sz159 : sz Tryd.prog 159 = 1 := by kernel_rfl
theorem bz159 : bz Tryd.prog 159 = 8 := by kernel_rfl
theorem zok159 : ZOk Tryd.prog 159 (.c [.v .nilFunc]) = True := eq_true ⟨.nilFunc, by kernel_rfl, fun _ => by first | rfl | simp [Value.cells, Cont.vals, arr8, arr32, arr64]⟩
theorem sz160 : sz Tryd.prog 160 = 1 := by kernel_rfl
theorem bz160 : bz Tryd.prog 160 = 1 := by kernel_rfl
theorem zok160 : ZOk Tryd.prog 160 (.c [.v (.int .u8 0)]) = True := eq_true ⟨.int .u8 0, by kernel_rfl, fun _ => by first | rfl | simp [Value.cells, Cont.vals, arr8, arr32, arr64]⟩
theorem sz161 : sz Tryd.prog 161 = 1 := by kernel_rfl
theorem bz161 : bz Tryd.prog 161 = 8 := by kernel_rfl
theorem zok161 : ZOk Tryd.prog 161 (.c [.v .nilFunc]) = True := eq_true ⟨.nilFunc, by kernel_rfl, fun _ => by first | rfl | simp [Value.cells, Cont.vals, arr8, arr32, arr64]⟩
theorem sz162 : sz Tryd.prog 162 = 1 := by kernel_rfl
theorem bz162 : bz Tryd.prog 162 = 8 := by kernel_rfl
theorem zok162 : ZOk Tryd.prog 162 (.c [.v (.pointer none)]) = True := eq_true ⟨.pointer none, by kernel_rfl, fun _ => by first | rfl | simp [Value.cells, Cont.vals, arr8, arr32, arr64]⟩
theorem sz163 : sz Tryd.prog 163 = 1 := by kernel_rfl
theorem bz163 : bz Tryd.prog 163 = 4 := by kernel_rfl
theorem zok163 : ZOk Tryd.prog 163 (.c [.v (.int .i32 0)]) = True := eq_true ⟨.int .i32 0, by kernel_rfl, fun _ => by first | rfl | simp [Value.cells, Cont.vals, arr8, arr32, arr64]⟩
theorem sz164 : sz Tryd.prog 164 = 1 := by kernel_rfl
theorem bz164 : bz Tryd.prog 164 = 4 := by kernel_rfl
theorem zok164 : ZOk Tryd.prog 164 (.c [.v (.int .i32 0)]) = True := eq_true ⟨.int .i32 0, by kernel_rfl, fun _ => by first | rfl | simp [Value.cells, Cont.vals, arr8, arr32, arr64]⟩
theorem sz165 : sz Tryd.prog 165 = 11 := by kernel_rfl
theorem bz165 : bz Tryd.prog 165 = 48 := by kernel_rfl
theorem fo165_0 : fieldOff Tryd.prog 165 0 = some (0, 12) := by kernel_rfl
theorem fo165_1 : fieldOff Tryd.prog 165 1 = some (1, 12) := by kernel_rfl
theorem fo165_2 : fieldOff Tryd.prog 165 2 = some (2, 70) := by kernel_rfl
theorem fo165_3 : fieldOff Tryd.prog 165 3 = some (3, 160) := by kernel_rfl
theorem fo165_4 : fieldOff Tryd.prog 165 4 = some (4, 5) := by kernel_rfl
theorem fo165_5 : fieldOff Tryd.prog 165 5 = some (5, 5) := by kernel_rfl
theorem fo165_6 : fieldOff Tryd.prog 165 6 = some (6, 131) := by kernel_rfl
theorem fo165_7 : fieldOff Tryd.prog 165 7 = some (7, 161) := by kernel_rfl
theorem fo165_8 : fieldOff Tryd.prog 165 8 = some (8, 162) := by kernel_rfl
theorem fo165_9 : fieldOff Tryd.prog 165 9 = some (9, 163) := by kernel_rfl
theorem fo165_10 : fieldOff Tryd.prog 165 10 = some (10, 164) := by kernel_rfl
theorem zok165 : ZOk Tryd.prog 165 (.c [.v (.int .u64 0), .v (.int .u64 0), .v (.int .u32 0), .v (.int .u8 0), .v (.int .u8 0), .v (.int .u8 0), .v (.int .u8 0), .v (.nilFunc), .v (.pointer none), .v (.int .i32 0), .v (.int .i32 0)]) = True := eq_true ⟨.agg #[.int .u64 0, .int .u64 0, .int .u32 0, .int .u8 0, .int .u8 0, .int .u8 0, .int .u8 0, .nilFunc, .pointer none, .int .i32 0, .int .i32 0], by kernel_rfl, fun _ => by first | rfl | simp [Value.cells, Cont.vals, arr8, arr32, arr64]⟩
theorem sz166 : sz Tryd.prog 166 = 11 := by kernel_rfl
theorem bz166 : bz Tryd.prog 166 = 48 := by kernel_rfl
theorem fo166_0 : fieldOff Tryd.prog 166 0 = some (0, 12) := by kernel_rfl
theorem fo166_1 : fieldOff Tryd.prog 166 1 = some (1, 12) := by kernel_rfl
theorem fo166_2 : fieldOff Tryd.prog 166 2 = some (2, 70) := by kernel_rfl
theorem fo166_3 : fieldOff Tryd.prog 166 3 = some (3, 160) := by kernel_rfl
theorem fo166_4 : fieldOff Tryd.prog 166 4 = some (4, 5) := by kernel_rfl
theorem fo166_5 : fieldOff Tryd.prog 166 5 = some (5, 5) := by kernel_rfl
theorem fo166_6 : fieldOff Tryd.prog 166 6 = some (6, 131) := by kernel_rfl
theorem fo166_7 : fieldOff Tryd.prog 166 7 = some (7, 161) := by kernel_rfl
theorem fo166_8 : fieldOff Tryd.prog 166 8 = some (8, 162) := by kernel_rfl
theorem fo166_9 : fieldOff Tryd.prog 166 9 = some (9, 163) := by kernel_rfl
theorem fo166_10 : fieldOff Tryd.prog 166 10 = some (10, 164) := by kernel_rfl
theorem zok166 : ZOk Tryd.prog 166 (.c [.v (.int .u64 0), .v (.int .u64 0), .v (.int .u32 0), .v (.int .u8 0), .v (.int .u8 0), .v (.int .u8 0), .v (.int .u8 0), .v (.nilFunc), .v (.pointer none), .v (.int .i32 0), .v (.int .i32 0)]) = True := eq_true ⟨.agg #[.int .u64 0, .int .u64 0, .int .u32 0, .int .u8 0, .int .u8 0, .int .u8 0, .int .u8 0, .nilFunc, .pointer none, .int .i32 0, .int .i32 0], by kernel_rfl, fun _ => by first | rfl | simp [Value.cells, Cont.vals, arr8, arr32, arr64]⟩
theorem sz167 : sz Tryd.prog 167 = 1 := by kernel_rfl
theorem bz167 : bz Tryd.prog 167 = 8 := by kernel_rfl
theorem zok167 : ZOk Tryd.prog 167 (.c [.v .nilFunc]) = True := eq_true ⟨.nilFunc, by kernel_rfl, fun _ => by first | rfl | simp [Value.cells, Cont.vals, arr8, arr32, arr64]⟩
theorem sz168 : sz Tryd.prog 168 = 1 := by kernel_rfl
theorem bz168 : bz Tryd.prog 168 = 8 := by kernel_rfl
theorem zok168 : ZOk Tryd.prog 168 (.c [.v .nilFunc]) = True := eq_true ⟨.nilFunc, by kernel_rfl, fun _ => by first | rfl | simp [Value.cells, Cont.vals, arr8, arr32, arr64]⟩
theorem sz169 : sz Tryd.prog 169 = 2 := by kernel_rfl
theorem bz169 : bz Tryd.prog 169 = 24 := by kernel_rfl
theorem fo169_0 : fieldOff Tryd.prog 169 0 = some (0, 9) := by kernel_rfl
theorem fo169_1 : fieldOff Tryd.prog 169 1 = some (1, 131) := by kernel_rfl
theorem zok169 : ZOk Tryd.prog 169 (.c [.v (.string .empty), .v (.int .u8 0)]) = True := eq_true ⟨.agg #[.string .empty, .int .u8 0], by kernel_rfl, fun _ => by first | rfl | simp [Value.cells, Cont.vals, arr8, arr32, arr64]⟩
theorem sz170 : sz Tryd.prog 170 = 2 := by kernel_rfl
theorem bz170 : bz Tryd.prog 170 = 24 := by kernel_rfl
theorem fo170_0 : fieldOff Tryd.prog 170 0 = some (0, 9) := by kernel_rfl
theorem fo170_1 : fieldOff Tryd.prog 170 1 = some (1, 131) := by kernel_rfl
theorem zok170 : ZOk Tryd.prog 170 (.c [.v (.string .empty), .v (.int .u8 0)]) = True := eq_true ⟨.agg #[.string .empty, .int .u8 0], by kernel_rfl, fun _ => by first | rfl | simp [Value.cells, Cont.vals, arr8, arr32, arr64]⟩
theorem sz171 : sz Tryd.prog 171 = 1 := by kernel_rfl
theorem bz171 : bz Tryd.prog 171 = 8 := by kernel_rfl
theorem zok171 : ZOk Tryd.prog 171 (.c [.v (.pointer none)]) = True := eq_true ⟨.pointer none, by kernel_rfl, fun _ => by first | rfl | simp [Value.cells, Cont.vals, arr8, arr32, arr64]⟩
theorem sz172 : sz Tryd.prog 172 = 1 := by kernel_rfl
theorem bz172 : bz Tryd.prog 172 = 8 := by kernel_rfl
theorem zok172 : ZOk Tryd.prog 172 (.c [.v .nilFunc]) = True := eq_true ⟨.nilFunc, by kernel_rfl, fun _ => by first | rfl | simp [Value.cells, Cont.vals, arr8, arr32, arr64]⟩
theorem sz173 : sz Tryd.prog 173 = 1 := by kernel_rfl
theorem bz173 : bz Tryd.prog 173 = 2 := by kernel_rfl
theorem zok173 : ZOk Tryd.prog 173 (.c [.v (.int .u16 0)]) = True := eq_true ⟨.int .u16 0, by kernel_rfl, fun _ => by first | rfl | simp [Value.cells, Cont.vals, arr8, arr32, arr64]⟩
theorem sz174 : sz Tryd.prog 174 = 5 := by kernel_rfl
theorem bz174 : bz Tryd.prog 174 = 16 := by kernel_rfl
theorem fo174_0 : fieldOff Tryd.prog 174 0 = some (0, 163) := by kernel_rfl
theorem fo174_1 : fieldOff Tryd.prog 174 1 = some (1, 173) := by kernel_rfl
theorem fo174_2 : fieldOff Tryd.prog 174 2 = some (2, 173) := by kernel_rfl
theorem fo174_3 : fieldOff Tryd.prog 174 3 = some (3, 70) := by kernel_rfl
theorem fo174_4 : fieldOff Tryd.prog 174 4 = some (4, 70) := by kernel_rfl
theorem zok174 : ZOk Tryd.prog 174 (.c [.v (.int .i32 0), .v (.int .u16 0), .v (.int .u16 0), .v (.int .u32 0), .v (.int .u32 0)]) = True := eq_true ⟨.agg #[.int .i32 0, .int .u16 0, .int .u16 0, .int .u32 0, .int .u32 0], by kernel_rfl, fun _ => by first | rfl | simp [Value.cells, Cont.vals, arr8, arr32, arr64]⟩
theorem sz175 : sz Tryd.prog 175 = 5 := by kernel_rfl
theorem bz175 : bz Tryd.prog 175 = 16 := by kernel_rfl
theorem fo175_0 : fieldOff Tryd.prog 175 0 = some (0, 163) := by kernel_rfl
theorem fo175_1 : fieldOff Tryd.prog 175 1 = some (1, 173) := by kernel_rfl
theorem fo175_2 : fieldOff Tryd.prog 175 2 = some (2, 173) := by kernel_rfl
theorem fo175_3 : fieldOff Tryd.prog 175 3 = some (3, 70) := by kernel_rfl
theorem fo175_4 : fieldOff Tryd.prog 175 4 = some (4, 70) := by kernel_rfl
theorem zok175 : ZOk Tryd.prog 175 (.c [.v (.int .i32 0), .v (.int .u16 0), .v (.int .u16 0), .v (.int .u32 0), .v (.int .u32 0)]) = True := eq_true ⟨.agg #[.int .i32 0, .int .u16 0, .int .u16 0, .int .u32 0, .int .u32 0], by kernel_rfl, fun _ => by first | rfl | simp [Value.cells, Cont.vals, arr8, arr32, arr64]⟩
theorem sz176 : sz Tryd.prog 176 = 1 := by kernel_rfl
theorem bz176 : bz Tryd.prog 176 = 24 := by kernel_rfl
theorem zok176 : ZOk Tryd.prog 176 (.c [.v (.slice none 0 0)]) = True := eq_true ⟨.slice none 0 0, by kernel_rfl, fun _ => by first | rfl | simp [Value.cells, Cont.vals, arr8, arr32, arr64]⟩
theorem sz177 : sz Tryd.prog 177 = 1 := by kernel_rfl
theorem bz177 : bz Tryd.prog 177 = 4 := by kernel_rfl
theorem zok177 : ZOk Tryd.prog 177 (.c [.v (.int .i32 0)]) = True := eq_true ⟨.int .i32 0, by kernel_rfl, fun _ => by first | rfl | simp [Value.cells, Cont.vals, arr8, arr32, arr64]⟩
theorem sz178 : sz Tryd.prog 178 = 4 := by kernel_rfl
theorem bz178 : bz Tryd.prog 178 = 16 := by kernel_rfl
theorem fo178_0 : fieldOff Tryd.prog 178 0 = some (0, 163) := by kernel_rfl
theorem fo178_1 : fieldOff Tryd.prog 178 1 = some (1, 164) := by kernel_rfl
theorem fo178_2 : fieldOff Tryd.prog 178 2 = some (2, 177) := by kernel_rfl
theorem fo178_3 : fieldOff Tryd.prog 178 3 = some (3, 177) := by kernel_rfl
theorem zok178 : ZOk Tryd.prog 178 (.c [.v (.int .i32 0), .v (.int .i32 0), .v (.int .i32 0), .v (.int .i32 0)]) = True := eq_true ⟨.agg #[.int .i32 0, .int .i32 0, .int .i32 0, .int .i32 0], by kernel_rfl, fun _ => by first | rfl | simp [Value.cells, Cont.vals, arr8, arr32, arr64]⟩
theorem sz179 : sz Tryd.prog 179 = 4 := by kernel_rfl
theorem bz179 : bz Tryd.prog 179 = 16 := by kernel_rfl
theorem fo179_0 : fieldOff Tryd.prog 179 0 = some (0, 163) := by kernel_rfl
theorem fo179_1 : fieldOff Tryd.prog 179 1 = some (1, 164) := by kernel_rfl
theorem fo179_2 : fieldOff Tryd.prog 179 2 = some (2, 177) := by kernel_rfl
theorem fo179_3 : fieldOff Tryd.prog 179 3 = some (3, 177) := by kernel_rfl
theorem zok179 : ZOk Tryd.prog 179 (.c [.v (.int .i32 0), .v (.int .i32 0), .v (.int .i32 0), .v (.int .i32 0)]) = True := eq_true ⟨.agg #[.int .i32 0, .int .i32 0, .int .i32 0, .int .i32 0], by kernel_rfl, fun _ => by first | rfl | simp [Value.cells, Cont.vals, arr8, arr32, arr64]⟩
theorem sz180 : sz Tryd.prog 180 = 1 := by kernel_rfl
theorem bz180 : bz Tryd.prog 180 = 8 := by kernel_rfl
theorem zok180 : ZOk Tryd.prog 180 (.c [.v (.pointer none)]) = True := eq_true ⟨.pointer none, by kernel_rfl, fun _ => by first | rfl | simp [Value.cells, Cont.vals, arr8, arr32, arr64]⟩
theorem cb3 : Callable Tryd.prog 3 := callable_of Tryd.func3 (by kernel_rfl) rfl
theorem cb4 : Callable Tryd.prog 4 := callable_of Tryd.func4 (by kernel_rfl) rfl
theorem cb5 : Callable Tryd.prog 5 := callable_of Tryd.func5 (by kernel_rfl) rfl
theorem cb6 : Callable Tryd.prog 6 := callable_of Tryd.func6 (by kernel_rfl) rfl
theorem cb7 : Callable Tryd.prog 7 := callable_of Tryd.func7 (by kernel_rfl) rfl
theorem cb8 : Callable Tryd.prog 8 := callable_of Tryd.func8 (by kernel_rfl) rfl
theorem cb9 : Callable Tryd.prog 9 := callable_of Tryd.func9 (by kernel_rfl) rfl
theorem cb10 : Callable Tryd.prog 10 := callable_of Tryd.func10 (by kernel_rfl) rfl
theorem cb11 : Callable Tryd.prog 11 := callable_of Tryd.func11 (by kernel_rfl) rfl
theorem cb12 : Callable Tryd.prog 12 := callable_of Tryd.func12 (by kernel_rfl) rfl
theorem cb13 : Callable Tryd.prog 13 := callable_of Tryd.func13 (by kernel_rfl) rfl
theorem cb14 : Callable Tryd.prog 14 := callable_of Tryd.func14 (by kernel_rfl) rfl
theorem cb15 : Callable Tryd.prog 15 := callable_of Tryd.func15 (by kernel_rfl) rfl
theorem cb16 : Callable Tryd.prog 16 := callable_of Tryd.func16 (by kernel_rfl) rfl
theorem cb17 : Callable Tryd.prog 17 := callable_of Tryd.func17 (by kernel_rfl) rfl
theorem cb18 : Callable Tryd.prog 18 := callable_of Tryd.func18 (by kernel_rfl) rfl
theorem cb19 : Callable Tryd.prog 19 := callable_of Tryd.func19 (by kernel_rfl) rfl
theorem cb20 : Callable Tryd.prog 20 := callable_of Tryd.func20 (by kernel_rfl) rfl
theorem cb21 : Callable Tryd.prog 21 := callable_of Tryd.func21 (by kernel_rfl) rfl
theorem cb22 : Callable Tryd.prog 22 := callable_of Tryd.func22 (by kernel_rfl) rfl
theorem cb23 : Callable Tryd.prog 23 := callable_of Tryd.func23 (by kernel_rfl) rfl
theorem cb24 : Callable Tryd.prog 24 := callable_of Tryd.func24 (by kernel_rfl) rfl
theorem cb25 : Callable Tryd.prog 25 := callable_of Tryd.func25 (by kernel_rfl) rfl
theorem cb26 : Callable Tryd.prog 26 := callable_of Tryd.func26 (by kernel_rfl) rfl
theorem cb27 : Callable Tryd.prog 27 := callable_of Tryd.func27 (by kernel_rfl) rfl
theorem cb28 : Callable Tryd.prog 28 := callable_of Tryd.func28 (by kernel_rfl) rfl
theorem cb29 : Callable Tryd.prog 29 := callable_of Tryd.func29 (by kernel_rfl) rfl
theorem cb30 : Callable Tryd.prog 30 := callable_of Tryd.func30 (by kernel_rfl) rfl
theorem cb31 : Callable Tryd.prog 31 := callable_of Tryd.func31 (by kernel_rfl) rfl
theorem cb32 : Callable Tryd.prog 32 := callable_of Tryd.func32 (by kernel_rfl) rfl
theorem cb33 : Callable Tryd.prog 33 := callable_of Tryd.func33 (by kernel_rfl) rfl
theorem cb34 : Callable Tryd.prog 34 := callable_of Tryd.func34 (by kernel_rfl) rfl
theorem cb35 : Callable Tryd.prog 35 := callable_of Tryd.func35 (by kernel_rfl) rfl
theorem cb36 : Callable Tryd.prog 36 := callable_of Tryd.func36 (by kernel_rfl) rfl
theorem cb37 : Callable Tryd.prog 37 := callable_of Tryd.func37 (by kernel_rfl) rfl
theorem cb38 : Callable Tryd.prog 38 := callable_of Tryd.func38 (by kernel_rfl) rfl
theorem cb39 : Callable Tryd.prog 39 := callable_of Tryd.func39 (by kernel_rfl) rfl
theorem cb40 : Callable Tryd.prog 40 := callable_of Tryd.func40 (by kernel_rfl) rfl
theorem cb41 : Callable Tryd.prog 41 := callable_of Tryd.func41 (by kernel_rfl) rfl
theorem cb42 : Callable Tryd.prog 42 := callable_of Tryd.func42 (by kernel_rfl) rfl
theorem cb43 : Callable Tryd.prog 43 := callable_of Tryd.func43 (by kernel_rfl) rfl
theorem cb44 : Callable Tryd.prog 44 := callable_of Tryd.func44 (by kernel_rfl) rfl
theorem cb45 : Callable Tryd.prog 45 := callable_of Tryd.func45 (by kernel_rfl) rfl
theorem cb46 : Callable Tryd.prog 46 := callable_of Tryd.func46 (by kernel_rfl) rfl
theorem cb47 : Callable Tryd.prog 47 := callable_of Tryd.func47 (by kernel_rfl) rfl
theorem cb48 : Callable Tryd.prog 48 := callable_of Tryd.func48 (by kernel_rfl) rfl
theorem cb49 : Callable Tryd.prog 49 := callable_of Tryd.func49 (by kernel_rfl) rfl
theorem cb50 : Callable Tryd.prog 50 := callable_of Tryd.func50 (by kernel_rfl) rfl
theorem cb51 : Callable Tryd.prog 51 := callable_of Tryd.func51 (by kernel_rfl) rfl
theorem cb52 : Callable Tryd.prog 52 := callable_of Tryd.func52 (by kernel_rfl) rfl
theorem cb53 : Callable Tryd.prog 53 := callable_of Tryd.func53 (by kernel_rfl) rfl
theorem cb54 : Callable Tryd.prog 54 := callable_of Tryd.func54 (by kernel_rfl) rfl
theorem cb55 : Callable Tryd.prog 55 := callable_of Tryd.func55 (by kernel_rfl) rfl
theorem cb56 : Callable Tryd.prog 56 := callable_of Tryd.func56 (by kernel_rfl) rfl
theorem cb57 : Callable Tryd.prog 57 := callable_of Tryd.func57 (by kernel_rfl) rfl
theorem cb58 : Callable Tryd.prog 58 := callable_of Tryd.func58 (by kernel_rfl) rfl
theorem cb59 : Callable Tryd.prog 59 := callable_of Tryd.func59 (by kernel_rfl) rfl
theorem cb60 : Callable Tryd.prog 60 := callable_of Tryd.func60 (by kernel_rfl) rfl
theorem cb61 : Callable Tryd.prog 61 := callable_of Tryd.func61 (by kernel_rfl) rfl
theorem cb62 : Callable Tryd.prog 62 := callable_of Tryd.func62 (by kernel_rfl) rfl
theorem cb63 : Callable Tryd.prog 63 := callable_of Tryd.func63 (by kernel_rfl) rfl
theorem cb64 : Callable Tryd.prog 64 := callable_of Tryd.func64 (by kernel_rfl) rfl
theorem cb65 : Callable Tryd.prog 65 := callable_of Tryd.func65 (by kernel_rfl) rfl
theorem cb66 : Callable Tryd.prog 66 := callable_of Tryd.func66 (by kernel_rfl) rfl
theorem cb67 : Callable Tryd.prog 67 := callable_of Tryd.func67 (by kernel_rfl) rfl
theorem cb68 : Callable Tryd.prog 68 := callable_of Tryd.func68 (by kernel_rfl) rfl
theorem cb69 : Callable Tryd.prog 69 := callable_of Tryd.func69 (by kernel_rfl) rfl
theorem cb70 : Callable Tryd.prog 70 := callable_of Tryd.func70 (by kernel_rfl) rfl
theorem cb71 : Callable Tryd.prog 71 := callable_of Tryd.func71 (by kernel_rfl) rfl
theorem cb72 : Callable Tryd.prog 72 := callable_of Tryd.func72 (by kernel_rfl) rfl
theorem cb73 : Callable Tryd.prog 73 := callable_of Tryd.func73 (by kernel_rfl) rfl
theorem cb74 : Callable Tryd.prog 74 := callable_of Tryd.func74 (by kernel_rfl) rfl
theorem cb75 : Callable Tryd.prog 75 := callable_of Tryd.func75 (by kernel_rfl) rfl
theorem cb76 : Callable Tryd.prog 76 := callable_of Tryd.func76 (by kernel_rfl) rfl
theorem cb77 : Callable Tryd.prog 77 := callable_of Tryd.func77 (by kernel_rfl) rfl
theorem cb78 : Callable Tryd.prog 78 := callable_of Tryd.func78 (by kernel_rfl) rfl
theorem cb79 : Callable Tryd.prog 79 := callable_of Tryd.func79 (by kernel_rfl) rfl
theorem cb80 : Callable Tryd.prog 80 := callable_of Tryd.func80 (by kernel_rfl) rfl
theorem cb81 : Callable Tryd.prog 81 := callable_of Tryd.func81 (by kernel_rfl) rfl
theorem cb82 : Callable Tryd.prog 82 := callable_of Tryd.func82 (by kernel_rfl) rfl
theorem cb83 : Callable Tryd.prog 83 := callable_of Tryd.func83 (by kernel_rfl) rfl
theorem cb84 : Callable Tryd.prog 84 := callable_of Tryd.func84 (by kernel_rfl) rfl
theorem cb85 : Callable Tryd.prog 85 := callable_of Tryd.func85 (by kernel_rfl) rfl
theorem cb90 : Callable Tryd.prog 90 := callable_of Tryd.func90 (by kernel_rfl) rfl
theorem cb91 : Callable Tryd.prog 91 := callable_of Tryd.func91 (by kernel_rfl) rfl
theorem cb92 : Callable Tryd.prog 92 := callable_of Tryd.func92 (by kernel_rfl) rfl
theorem cb96 : Callable Tryd.prog 96 := callable_of Tryd.func96 (by kernel_rfl) rfl
attribute [push_cast] stepO_if needB bsA bsN partsN List.flatten_cons List.flatten_nil baseN appN rawL rawOks capsS mkfS bview bput litS bytS strS mkS zerosN rngS nxtS mmS cmpI elemK cont8_map cont32_map cont64_map take_f8 drop_f8 take_f32 drop_f32 take_f64 drop_f64 getD_app getD_f8 forall_f8 take_app drop_app List.forall_mem_append buildS setPart zeroAt zerosOf zeroCont argFr allNe ndup symC_seq symC_region symC_block symC_loop symC_draw symC_cond symC_skip symC_exit symC_ret then_normal then_exit then_ret inB_normal inB_ret inB_exit symR_cons symR_nil symM_cons symM_nil symP_nil symP_rd symP_wr symP_fk symP_f3 stepP takes isRead isCall dOk yieldS op1 S.put Fr.put Fr.ev Fr.get ev1 ev2 ev3 S.bnd Sv.bnd Sc.bnd At.bnd Res.bnd Cont.bnd nil1 val1 ret1 neg1 boxS binS binN binI bin8 bin32 bin64 shS ban unS nilEq eqS litO cvtS cvtN pickS loadS storeS idxS indexS sliceS bnds fieldS fieldAddrS extrS nilS ifcS lenS bsS parts contOf cont8 cont32 cont64 contI callS appS appS.zero1 appS.zeroN baseS srcS joinC clen setGone flat aggr isOwn isOne At.scalar scalar At.one Value.oneCell' Sc.cont Cont.cut Cont.part Cont.app Cont.len Cont.plain Cont.get Cont.set Cont.over Cont.whole toU8_n8 toU32_n32 toU64_n64 inU8_n8 inU32_n32 inU64_n64 toU8_lit toU32_lit toU64_lit inU8_lit inU32_lit inU64_lit loopK_exit loopK_ret Le leFr leHp Sv.ren Sc.ren At.ren Res.ren Cont.ren rn Fin resS outS evs ownT ownT2 inI64 maxLen Int.toNat_natCast Int.toNat_zero Nat.zero_add Nat.add_zero Nat.mul_one List.length_cons List.length_nil List.length_append List.length_map List.length_set List.length_replicate List.cons_append List.nil_append List.append_nil List.map_append List.getElem?_cons_zero List.getElem?_cons_succ List.getElem?_nil List.set_cons_zero List.set_cons_succ List.getD_cons_zero List.getD_cons_succ List.take_succ_cons List.take_zero List.drop_zero List.drop_succ_cons List.map_cons List.map_nil List.forall_mem_cons List.not_mem_nil List.reverse_cons List.toList_toArray Option.isSome_some Option.isNone_some Option.isNone_none false_implies implies_true true_implies forall_const true_and and_true and_self not_false_eq_true not_true_eq_false ne_eq or_false false_or or_true true_or or_self Nat.lt_irrefl Nat.le_refl Bool.false_eq_true Bool.true_eq_false Bool.not_true Bool.not_false Bool.or_true Bool.or_false Bool.and_true Bool.and_false Bool.true_and Bool.false_and decide_true decide_false eq_self gt_iff_lt ge_iff_le if_true if_false Option.some.injEq Prod.mk.injEq Sv.x.injEq Sc.a.injEq At.v.injEq At.o.injEq At.p.injEq Res.blk.injEq Res.own.injEq Value.int.injEq Value.bool.injEq Cont.u8.injEq Cont.u32.injEq Cont.u64.injEq Cont.c.injEq Cont.i64.injEq symK_cons symK_nil wantS stepRd maskR_cons maskR_nil List.set_nil
attribute [push_cast] Tryd.underlying1 sz1 bz1 zok1 Tryd.underlying2 sz2 bz2 zok2 Tryd.underlying3 sz3 bz3 zok3 Tryd.underlying4 sz4 bz4 zok4 Tryd.underlying5 sz5 bz5 zok5 Tryd.underlying6 sz6 bz6 zok6 Tryd.underlying7 sz7 bz7 fo7_0 fo7_1 fo7_2 fo7_3 zok7 Tryd.underlying8 sz8 bz8 fo8_0 fo8_1 fo8_2 fo8_3 zok8 Tryd.underlying9 sz9 bz9 zok9 Tryd.underlying10 sz10 bz10 zok10 Tryd.underlying11 sz11 bz11 zok11 Tryd.underlying12 sz12 bz12 zok12 Tryd.underlying13 sz13 bz13 fo13_0 fo13_1 zok13 Tryd.underlying14 sz14 bz14 fo14_0 fo14_1 zok14 Tryd.underlying15 sz15 bz15 zok15 Tryd.underlying16 sz16 bz16 zok16 Tryd.underlying17 sz17 bz17 zok17 Tryd.underlying18 sz18 bz18 fo18_0 zok18 Tryd.underlying19 sz19 bz19 fo19_0 zok19 Tryd.underlying20 sz20 bz20 zok20 Tryd.underlying21 sz21 bz21 zok21 Tryd.underlying22 sz22 bz22 zok22 Tryd.underlying23 sz23 bz23 aeq23 zok23 Tryd.underlying24 sz24 bz24 zok24 Tryd.underlying25 sz25 bz25 fo25_0 fo25_1 Tryd.underlying26 sz26 bz26 fo26_0 fo26_1 Tryd.underlying27 sz27 bz27 zok27 Tryd.underlying28 sz28 bz28 zok28 Tryd.underlying29 sz29 bz29 zok29 Tryd.underlying30 sz30 bz30 zok30 Tryd.underlying32 sz32 bz32 zok32 Tryd.underlying34 sz34 bz34 zok34 Tryd.underlying35 sz35 bz35 zok35 Tryd.underlying36 sz36 bz36 zok36 Tryd.underlying37 sz37 bz37 zok37 Tryd.underlying38 sz38 bz38 zok38 Tryd.underlying39 sz39 bz39 aeq39 zok39 Tryd.underlying40 sz40 bz40 Tryd.underlying41 sz41 bz41 zok41 Tryd.underlying42 sz42 bz42 zok42 Tryd.underlying43 sz43 bz43 zok43 Tryd.underlying44 sz44 bz44 aeq44 zok44 Tryd.underlying45 sz45 bz45 zok45 Tryd.underlying46 sz46 bz46 zok46 Tryd.underlying47 sz47 bz47 zok47 Tryd.underlying48 sz48 bz48 zok48 Tryd.underlying49 sz49 bz49 zok49 Tryd.underlying51 sz51 bz51 zok51 Tryd.underlying52 sz52 bz52 zok52 Tryd.underlying53 sz53 bz53 zok53 Tryd.underlying54 sz54 bz54 zok54 Tryd.underlying55 sz55 bz55 aeq55 Tryd.underlying56 sz56 bz56 zok56 Tryd.underlying58 sz58 bz58 zok58 Tryd.underlying60 sz60 bz60 zok60 Tryd.underlying62 sz62 bz62 zok62 Tryd.underlying64 sz64 bz64 zok64 Tryd.underlying65 sz65 bz65 zok65 Tryd.underlying66 sz66 bz66 zok66 Tryd.underlying67 sz67 bz67 zok67 Tryd.underlying68 sz68 bz68 aeq68 zok68 Tryd.underlying69 sz69 bz69 zok69 Tryd.underlying70 sz70 bz70 zok70 Tryd.underlying71 sz71 bz71 zok71 Tryd.underlying72 sz72 bz72 zok72 Tryd.underlying73 sz73 bz73 fo73_0 fo73_1 fo73_2 fo73_3 zok73 Tryd.underlying74 sz74 bz74 fo74_0 fo74_1 fo74_2 fo74_3 zok74 Tryd.underlying75 sz75 bz75 zok75 Tryd.underlying76 sz76 bz76 zok76 Tryd.underlying77 sz77 bz77 zok77 Tryd.underlying78 sz78 bz78 zok78 Tryd.underlying79 sz79 bz79 zok79 Tryd.underlying80 sz80 bz80 zok80 Tryd.underlying81 sz81 bz81 zok81 Tryd.underlying82 sz82 bz82 zok82 Tryd.underlying83 sz83 bz83 zok83 Tryd.underlying84 sz84 bz84 zok84 Tryd.underlying85 sz85 bz85 aeq85 zok85 Tryd.underlying86 sz86 bz86 fo86_0 fo86_1 zok86 Tryd.underlying87 sz87 bz87 fo87_0 fo87_1 zok87 Tryd.underlying88 sz88 bz88 zok88 Tryd.underlying89 sz89 bz89 zok89 Tryd.underlying90 sz90 bz90 zok90 Tryd.underlying91 sz91 bz91 zok91 Tryd.underlying92 sz92 bz92 zok92 Tryd.underlying93 sz93 bz93 zok93 Tryd.underlying94 sz94 bz94 zok94 Tryd.underlying95 sz95 bz95 zok95 Tryd.underlying96 sz96 bz96 zok96 Tryd.underlying97 sz97 bz97 zok97 Tryd.underlying98 sz98 bz98 zok98 Tryd.underlying99 sz99 bz99 zok99 Tryd.underlying100 sz100 bz100 zok100 Tryd.underlying101 sz101 bz101 zok101 Tryd.underlying102 sz102 bz102 zok102 Tryd.underlying103 sz103 bz103 zok103 Tryd.underlying104 sz104 bz104 aeq104 zok104 Tryd.underlying105 sz105 bz105 zok105 Tryd.underlying106 sz106 bz106 zok106 Tryd.underlying107 sz107 bz107 zok107 Tryd.underlying108 sz108 bz108 zok108 Tryd.underlying110 sz110 bz110 zok110 Tryd.underlying111 sz111 bz111 zok111 Tryd.underlying112 sz112 bz112 zok112 Tryd.underlying113 sz113 bz113 zok113 Tryd.underlying114 sz114 bz114 zok114 Tryd.underlying115 sz115 bz115 zok115 Tryd.underlying116 sz116 bz116 fo116_0 fo116_1 zok116 Tryd.underlying117 sz117 bz117 zok117 Tryd.underlying118 sz118 bz118 zok118 Tryd.underlying119 sz119 bz119 zok119 Tryd.underlying120 sz120 bz120 zok120 Tryd.underlying121 sz121 bz121 aeq121 zok121 Tryd.underlying122 sz122 bz122 zok122 Tryd.underlying124 sz124 bz124 zok124 Tryd.underlying125 sz125 bz125 fo125_0 fo125_1 fo125_2 Tryd.underlying126 sz126 bz126 fo126_0 fo126_1 fo126_2 Tryd.underlying127 sz127 bz127 zok127 Tryd.underlying128 sz128 bz128 zok128 Tryd.underlying129 sz129 bz129 zok129 Tryd.underlying130 sz130 bz130 zok130 Tryd.underlying131 sz131 bz131 zok131 Tryd.underlying132 sz132 bz132 zok132 Tryd.underlying133 sz133 bz133 zok133 Tryd.underlying134 sz134 bz134 zok134 Tryd.underlying135 sz135 bz135 aeq135 zok135 Tryd.underlying136 sz136 bz136 fo136_0 zok136 Tryd.underlying137 sz137 bz137 fo137_0 zok137 Tryd.underlying138 sz138 bz138 zok138 Tryd.underlying139 sz139 bz139 zok139 Tryd.underlying140 sz140 bz140 zok140 Tryd.underlying141 sz141 bz141 zok141 Tryd.underlying142 sz142 bz142 zok142 Tryd.underlying144 sz144 bz144 zok144 Tryd.underlying145 sz145 bz145 zok145 Tryd.underlying146 sz146 bz146 zok146 Tryd.underlying147 sz147 bz147 zok147 Tryd.underlying148 sz148 bz148 zok148 Tryd.underlying149 sz149 bz149 zok149 Tryd.underlying151 sz151 bz151 zok151 Tryd.underlying152 sz152 bz152 zok152 Tryd.underlying153 sz153 bz153 fo153_0 fo153_1 fo153_2 fo153_3 zok153 Tryd.underlying154 sz154 bz154 fo154_0 fo154_1 fo154_2 fo154_3 zok154 Tryd.underlying155 sz155 bz155 Tryd.underlying156 sz156 bz156 fo156_0 Tryd.underlying157 sz157 bz157 fo157_0 Tryd.underlying158 sz158 bz158 zok158 Tryd.underlying159 sz159 bz159 zok159 Tryd.underlying160 sz160 bz160 zok160 Tryd.underlying161 sz161 bz161 zok161 Tryd.underlying162 sz162 bz162 zok162 Tryd.underlying163 sz163 bz163 zok163 Tryd.underlying164 sz164 bz164 zok164 Tryd.underlying165 sz165 bz165 fo165_0 fo165_1 fo165_2 fo165_3 fo165_4 fo165_5 fo165_6 fo165_7 fo165_8 fo165_9 fo165_10 zok165 Tryd.underlying166 sz166 bz166 fo166_0 fo166_1 fo166_2 fo166_3 fo166_4 fo166_5 fo166_6 fo166_7 fo166_8 fo166_9 fo166_10 zok166 Tryd.underlying167 sz167 bz167 zok167 Tryd.underlying168 sz168 bz168 zok168 Tryd.underlying169 sz169 bz169 fo169_0 fo169_1 zok169 Tryd.underlying170 sz170 bz170 fo170_0 fo170_1 zok170 Tryd.underlying171 sz171 bz171 zok171 Tryd.underlying172 sz172 bz172 zok172 Tryd.underlying173 sz173 bz173 zok173 Tryd.underlying174 sz174 bz174 fo174_0 fo174_1 fo174_2 fo174_3 fo174_4 zok174 Tryd.underlying175 sz175 bz175 fo175_0 fo175_1 fo175_2 fo175_3 fo175_4 zok175 Tryd.underlying176 sz176 bz176 zok176 Tryd.underlying177 sz177 bz177 zok177 Tryd.underlying178 sz178 bz178 fo178_0 fo178_1 fo178_2 fo178_3 zok178 Tryd.underlying179 sz179 bz179 fo179_0 fo179_1 fo179_2 fo179_3 zok179 Tryd.underlying180 sz180 bz180 zok180
attribute [push_cast] Tryd.results3 Tryd.results4 Tryd.results5 Tryd.results6 Tryd.results7 Tryd.results8 Tryd.results9 Tryd.results10 Tryd.results11 Tryd.results12 Tryd.results13 Tryd.results14 Tryd.results15 Tryd.results16 Tryd.results17 Tryd.results18 Tryd.results19 Tryd.results20 Tryd.results21 Tryd.results22 Tryd.results23 Tryd.results24 Tryd.results25 Tryd.results26 Tryd.results27 Tryd.results28 Tryd.results29 Tryd.results30 Tryd.results31 Tryd.results32 Tryd.results33 Tryd.results34 Tryd.results35 Tryd.results36 Tryd.results37 Tryd.results38 Tryd.results39 Tryd.results40 Tryd.results41 Tryd.results42 Tryd.results43 Tryd.results44 Tryd.results45 Tryd.results46 Tryd.results47 Tryd.results48 Tryd.results49 Tryd.results50 Tryd.results51 Tryd.results52 Tryd.results53 Tryd.results54 Tryd.results55 Tryd.results56 Tryd.results57 Tryd.results58 Tryd.results59 Tryd.results60 Tryd.results61 Tryd.results62 Tryd.results63 Tryd.results64 Tryd.results65 Tryd.results66 Tryd.results67 Tryd.results68 Tryd.results69 Tryd.results71 Tryd.results72 Tryd.results73 Tryd.results74 Tryd.results75 Tryd.results76 Tryd.results77 Tryd.results78 Tryd.results79 Tryd.results80 Tryd.results81 Tryd.results82 Tryd.results83 Tryd.results84 Tryd.results85 Tryd.results90 Tryd.results91 Tryd.results92 Tryd.results96
end Go.Proofs.YtkchdhkpjnnliaaDoor
