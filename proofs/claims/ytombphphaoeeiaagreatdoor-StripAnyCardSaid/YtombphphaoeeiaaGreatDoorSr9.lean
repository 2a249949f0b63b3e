import Derived.Test.YtombphphaoeeiaaGreatDoorSr8
import Derived.Test.YtombphphaoeeiaaGreatDoorDrD
/- Groups as the program's (law 32's giveGroup). -/
namespace Go.Proofs.YtombphphaoeeiaaGreatDoor
open Go.RowKit
set_option linter.unusedSimpArgs false
set_option linter.unusedVariables false
/-- giveGroup's first region: how it stands, by what is done. -/
def ggF (r : RfG) : Nat → S
  | 0 => ⟨[(1, .x (.a (.p 0 0))), (2, .x (.a (.p 1 0))), (6, .x (.a (.v (.slice r.pA r.ps.length r.pc)))), (10, .x (.a (.v (.slice r.cA r.cm.length r.cc)))), (13, .x (.a (.v (.int .i64 r.nd))))], [.blk 36 (.c [.v (.slice r.pA r.ps.length r.pc), .v (.slice r.cA r.cm.length r.cc), .v (.int .i64 r.nd), .v (.slice r.gA r.gs.length r.gc)]), .blk 31 (.c [.v (.slice none 0 0), .v (.slice none 0 0), .v (.int .i64 0), .v (.map none)])]⟩
  | 1 => ⟨[(1, .x (.a (.p 0 0))), (2, .x (.a (.p 1 0))), (6, .x (.a (.v (.slice r.pA r.ps.length r.pc)))), (10, .x (.a (.v (.slice r.cA r.cm.length r.cc)))), (13, .x (.a (.v (.int .i64 r.nd)))), (7, .x (.a (.o 2)))], [.blk 36 (.c [.v (.slice r.pA r.ps.length r.pc), .v (.slice r.cA r.cm.length r.cc), .v (.int .i64 r.nd), .v (.slice r.gA r.gs.length r.gc)]), .blk 31 (.c [.v (.slice none 0 0), .v (.slice none 0 0), .v (.int .i64 0), .v (.map none)]), .onn 54 2 (.c (pcs r.ps))]⟩
  | 2 => ⟨[(1, .x (.a (.p 0 0))), (2, .x (.a (.p 1 0))), (6, .x (.a (.v (.slice r.pA r.ps.length r.pc)))), (10, .x (.a (.v (.slice r.cA r.cm.length r.cc)))), (13, .x (.a (.v (.int .i64 r.nd)))), (8, .x (.a (.s 2 0 0 0)))], [.blk 36 (.c [.v (.slice r.pA r.ps.length r.pc), .v (.slice r.cA r.cm.length r.cc), .v (.int .i64 r.nd), .v (.slice r.gA r.gs.length r.gc)]), .blk 31 (.c [.v (.slice none 0 0), .v (.slice none 0 0), .v (.int .i64 0), .v (.map none)]), .blk 3 (.i64 [])]⟩
  | 3 => ⟨[(1, .x (.a (.p 0 0))), (2, .x (.a (.p 1 0))), (6, .x (.a (.v (.slice r.pA r.ps.length r.pc)))), (10, .x (.a (.v (.slice r.cA r.cm.length r.cc)))), (13, .x (.a (.v (.int .i64 r.nd)))), (14, .x (.a (.o 2)))], [.blk 36 (.c [.v (.slice r.pA r.ps.length r.pc), .v (.slice r.cA r.cm.length r.cc), .v (.int .i64 r.nd), .v (.slice r.gA r.gs.length r.gc)]), .blk 31 (.c [.v (.slice none 0 0), .v (.slice none 0 0), .v (.int .i64 0), .v (.map none)]), .mp .i64 []]⟩
  | 4 => ⟨[(1, .x (.a (.p 0 0))), (2, .x (.a (.p 1 0))), (6, .x (.a (.v (.slice r.pA r.ps.length r.pc)))), (10, .x (.a (.v (.slice r.cA r.cm.length r.cc)))), (13, .x (.a (.v (.int .i64 r.nd)))), (3, .x (.a (.p 2 0)))], [.blk 36 (.c [.v (.slice r.pA r.ps.length r.pc), .v (.slice r.cA r.cm.length r.cc), .v (.int .i64 r.nd), .v (.slice r.gA r.gs.length r.gc)]), .blk 31 (.c [.v (.slice none 0 0), .v (.slice none 0 0), .v (.int .i64 0), .v (.map none)]), .blk 31 (.c [.v (.slice none 0 0), .v (.slice none 0 0), .v (.int .i64 0), .v (.map none)])]⟩
  | 5 => ⟨[(1, .x (.a (.p 0 0))), (2, .x (.a (.p 1 0))), (6, .x (.a (.v (.slice r.pA r.ps.length r.pc)))), (10, .x (.a (.v (.slice r.cA r.cm.length r.cc)))), (13, .x (.a (.v (.int .i64 r.nd)))), (7, .x (.a (.o 2))), (8, .x (.a (.s 3 0 0 0)))], [.blk 36 (.c [.v (.slice r.pA r.ps.length r.pc), .v (.slice r.cA r.cm.length r.cc), .v (.int .i64 r.nd), .v (.slice r.gA r.gs.length r.gc)]), .blk 31 (.c [.v (.slice none 0 0), .v (.slice none 0 0), .v (.int .i64 0), .v (.map none)]), .onn 54 2 (.c (pcs r.ps)), .blk 3 (.i64 [])]⟩
  | 6 => ⟨[(1, .x (.a (.p 0 0))), (2, .x (.a (.p 1 0))), (6, .x (.a (.v (.slice r.pA r.ps.length r.pc)))), (10, .x (.a (.v (.slice r.cA r.cm.length r.cc)))), (13, .x (.a (.v (.int .i64 r.nd)))), (7, .x (.a (.o 2))), (14, .x (.a (.o 3)))], [.blk 36 (.c [.v (.slice r.pA r.ps.length r.pc), .v (.slice r.cA r.cm.length r.cc), .v (.int .i64 r.nd), .v (.slice r.gA r.gs.length r.gc)]), .blk 31 (.c [.v (.slice none 0 0), .v (.slice none 0 0), .v (.int .i64 0), .v (.map none)]), .onn 54 2 (.c (pcs r.ps)), .mp .i64 []]⟩
  | 7 => ⟨[(1, .x (.a (.p 0 0))), (2, .x (.a (.p 1 0))), (6, .x (.a (.v (.slice r.pA r.ps.length r.pc)))), (10, .x (.a (.v (.slice r.cA r.cm.length r.cc)))), (13, .x (.a (.v (.int .i64 r.nd)))), (7, .x (.a (.o 2))), (3, .x (.a (.p 3 0)))], [.blk 36 (.c [.v (.slice r.pA r.ps.length r.pc), .v (.slice r.cA r.cm.length r.cc), .v (.int .i64 r.nd), .v (.slice r.gA r.gs.length r.gc)]), .blk 31 (.c [.v (.slice none 0 0), .v (.slice none 0 0), .v (.int .i64 0), .v (.map none)]), .onn 54 2 (.c (pcs r.ps)), .blk 31 (.c [.v (.slice none 0 0), .v (.slice none 0 0), .v (.int .i64 0), .v (.map none)])]⟩
  | 8 => ⟨[(1, .x (.a (.p 0 0))), (2, .x (.a (.p 1 0))), (6, .x (.a (.v (.slice r.pA r.ps.length r.pc)))), (10, .x (.a (.v (.slice r.cA r.cm.length r.cc)))), (13, .x (.a (.v (.int .i64 r.nd)))), (8, .x (.a (.s 2 0 0 0))), (14, .x (.a (.o 3)))], [.blk 36 (.c [.v (.slice r.pA r.ps.length r.pc), .v (.slice r.cA r.cm.length r.cc), .v (.int .i64 r.nd), .v (.slice r.gA r.gs.length r.gc)]), .blk 31 (.c [.v (.slice none 0 0), .v (.slice none 0 0), .v (.int .i64 0), .v (.map none)]), .blk 3 (.i64 []), .mp .i64 []]⟩
  | 9 => ⟨[(1, .x (.a (.p 0 0))), (2, .x (.a (.p 1 0))), (6, .x (.a (.v (.slice r.pA r.ps.length r.pc)))), (10, .x (.a (.v (.slice r.cA r.cm.length r.cc)))), (13, .x (.a (.v (.int .i64 r.nd)))), (8, .x (.a (.s 2 0 0 0))), (3, .x (.a (.p 3 0)))], [.blk 36 (.c [.v (.slice r.pA r.ps.length r.pc), .v (.slice r.cA r.cm.length r.cc), .v (.int .i64 r.nd), .v (.slice r.gA r.gs.length r.gc)]), .blk 31 (.c [.v (.slice none 0 0), .v (.slice none 0 0), .v (.int .i64 0), .v (.map none)]), .blk 3 (.i64 []), .blk 31 (.c [.v (.slice none 0 0), .v (.slice none 0 0), .v (.int .i64 0), .v (.map none)])]⟩
  | 10 => ⟨[(1, .x (.a (.p 0 0))), (2, .x (.a (.p 1 0))), (6, .x (.a (.v (.slice r.pA r.ps.length r.pc)))), (10, .x (.a (.v (.slice r.cA r.cm.length r.cc)))), (13, .x (.a (.v (.int .i64 r.nd)))), (14, .x (.a (.o 2))), (3, .x (.a (.p 3 0)))], [.blk 36 (.c [.v (.slice r.pA r.ps.length r.pc), .v (.slice r.cA r.cm.length r.cc), .v (.int .i64 r.nd), .v (.slice r.gA r.gs.length r.gc)]), .blk 31 (.c [.v (.slice none 0 0), .v (.slice none 0 0), .v (.int .i64 0), .v (.map none)]), .mp .i64 [], .blk 31 (.c [.v (.slice none 0 0), .v (.slice none 0 0), .v (.int .i64 0), .v (.map none)])]⟩
  | 11 => ⟨[(1, .x (.a (.p 0 0))), (2, .x (.a (.p 1 0))), (6, .x (.a (.v (.slice r.pA r.ps.length r.pc)))), (10, .x (.a (.v (.slice r.cA r.cm.length r.cc)))), (13, .x (.a (.v (.int .i64 r.nd)))), (7, .x (.a (.o 2))), (11, .x (.a (.o 3)))], [.blk 36 (.c [.v (.slice r.pA r.ps.length r.pc), .v (.slice r.cA r.cm.length r.cc), .v (.int .i64 r.nd), .v (.slice r.gA r.gs.length r.gc)]), .blk 31 (.c [.v (.slice none 0 0), .v (.slice none 0 0), .v (.int .i64 0), .v (.map none)]), .onn 54 2 (.c (pcs r.ps)), .own 3 (.i64 r.cm)]⟩
  | 12 => ⟨[(1, .x (.a (.p 0 0))), (2, .x (.a (.p 1 0))), (6, .x (.a (.v (.slice r.pA r.ps.length r.pc)))), (10, .x (.a (.v (.slice r.cA r.cm.length r.cc)))), (13, .x (.a (.v (.int .i64 r.nd)))), (7, .x (.a (.o 2))), (8, .x (.a (.s 3 0 0 0))), (14, .x (.a (.o 4)))], [.blk 36 (.c [.v (.slice r.pA r.ps.length r.pc), .v (.slice r.cA r.cm.length r.cc), .v (.int .i64 r.nd), .v (.slice r.gA r.gs.length r.gc)]), .blk 31 (.c [.v (.slice none 0 0), .v (.slice none 0 0), .v (.int .i64 0), .v (.map none)]), .onn 54 2 (.c (pcs r.ps)), .blk 3 (.i64 []), .mp .i64 []]⟩
  | 13 => ⟨[(1, .x (.a (.p 0 0))), (2, .x (.a (.p 1 0))), (6, .x (.a (.v (.slice r.pA r.ps.length r.pc)))), (10, .x (.a (.v (.slice r.cA r.cm.length r.cc)))), (13, .x (.a (.v (.int .i64 r.nd)))), (7, .x (.a (.o 2))), (8, .x (.a (.s 3 0 0 0))), (3, .x (.a (.p 4 0)))], [.blk 36 (.c [.v (.slice r.pA r.ps.length r.pc), .v (.slice r.cA r.cm.length r.cc), .v (.int .i64 r.nd), .v (.slice r.gA r.gs.length r.gc)]), .blk 31 (.c [.v (.slice none 0 0), .v (.slice none 0 0), .v (.int .i64 0), .v (.map none)]), .onn 54 2 (.c (pcs r.ps)), .blk 3 (.i64 []), .blk 31 (.c [.v (.slice none 0 0), .v (.slice none 0 0), .v (.int .i64 0), .v (.map none)])]⟩
  | 14 => ⟨[(1, .x (.a (.p 0 0))), (2, .x (.a (.p 1 0))), (6, .x (.a (.v (.slice r.pA r.ps.length r.pc)))), (10, .x (.a (.v (.slice r.cA r.cm.length r.cc)))), (13, .x (.a (.v (.int .i64 r.nd)))), (7, .x (.a (.o 2))), (14, .x (.a (.o 3))), (3, .x (.a (.p 4 0)))], [.blk 36 (.c [.v (.slice r.pA r.ps.length r.pc), .v (.slice r.cA r.cm.length r.cc), .v (.int .i64 r.nd), .v (.slice r.gA r.gs.length r.gc)]), .blk 31 (.c [.v (.slice none 0 0), .v (.slice none 0 0), .v (.int .i64 0), .v (.map none)]), .onn 54 2 (.c (pcs r.ps)), .mp .i64 [], .blk 31 (.c [.v (.slice none 0 0), .v (.slice none 0 0), .v (.int .i64 0), .v (.map none)])]⟩
  | 15 => ⟨[(1, .x (.a (.p 0 0))), (2, .x (.a (.p 1 0))), (6, .x (.a (.v (.slice r.pA r.ps.length r.pc)))), (10, .x (.a (.v (.slice r.cA r.cm.length r.cc)))), (13, .x (.a (.v (.int .i64 r.nd)))), (8, .x (.a (.s 2 0 0 0))), (14, .x (.a (.o 3))), (3, .x (.a (.p 4 0)))], [.blk 36 (.c [.v (.slice r.pA r.ps.length r.pc), .v (.slice r.cA r.cm.length r.cc), .v (.int .i64 r.nd), .v (.slice r.gA r.gs.length r.gc)]), .blk 31 (.c [.v (.slice none 0 0), .v (.slice none 0 0), .v (.int .i64 0), .v (.map none)]), .blk 3 (.i64 []), .mp .i64 [], .blk 31 (.c [.v (.slice none 0 0), .v (.slice none 0 0), .v (.int .i64 0), .v (.map none)])]⟩
  | 16 => ⟨[(1, .x (.a (.p 0 0))), (2, .x (.a (.p 1 0))), (6, .x (.a (.v (.slice r.pA r.ps.length r.pc)))), (10, .x (.a (.v (.slice r.cA r.cm.length r.cc)))), (13, .x (.a (.v (.int .i64 r.nd)))), (7, .x (.a (.o 2))), (11, .x (.a (.o 3))), (14, .x (.a (.o 4)))], [.blk 36 (.c [.v (.slice r.pA r.ps.length r.pc), .v (.slice r.cA r.cm.length r.cc), .v (.int .i64 r.nd), .v (.slice r.gA r.gs.length r.gc)]), .blk 31 (.c [.v (.slice none 0 0), .v (.slice none 0 0), .v (.int .i64 0), .v (.map none)]), .onn 54 2 (.c (pcs r.ps)), .own 3 (.i64 r.cm), .mp .i64 []]⟩
  | 17 => ⟨[(1, .x (.a (.p 0 0))), (2, .x (.a (.p 1 0))), (6, .x (.a (.v (.slice r.pA r.ps.length r.pc)))), (10, .x (.a (.v (.slice r.cA r.cm.length r.cc)))), (13, .x (.a (.v (.int .i64 r.nd)))), (7, .x (.a (.o 2))), (11, .x (.a (.o 3))), (3, .x (.a (.p 4 0)))], [.blk 36 (.c [.v (.slice r.pA r.ps.length r.pc), .v (.slice r.cA r.cm.length r.cc), .v (.int .i64 r.nd), .v (.slice r.gA r.gs.length r.gc)]), .blk 31 (.c [.v (.slice none 0 0), .v (.slice none 0 0), .v (.int .i64 0), .v (.map none)]), .onn 54 2 (.c (pcs r.ps)), .own 3 (.i64 r.cm), .blk 31 (.c [.v (.slice none 0 0), .v (.slice none 0 0), .v (.int .i64 0), .v (.map none)])]⟩
  | 18 => ⟨[(1, .x (.a (.p 0 0))), (2, .x (.a (.p 1 0))), (6, .x (.a (.v (.slice r.pA r.ps.length r.pc)))), (10, .x (.a (.v (.slice r.cA r.cm.length r.cc)))), (13, .x (.a (.v (.int .i64 r.nd)))), (7, .x (.a (.o 2))), (8, .x (.a (.s 3 0 0 0))), (14, .x (.a (.o 4))), (3, .x (.a (.p 5 0)))], [.blk 36 (.c [.v (.slice r.pA r.ps.length r.pc), .v (.slice r.cA r.cm.length r.cc), .v (.int .i64 r.nd), .v (.slice r.gA r.gs.length r.gc)]), .blk 31 (.c [.v (.slice none 0 0), .v (.slice none 0 0), .v (.int .i64 0), .v (.map none)]), .onn 54 2 (.c (pcs r.ps)), .blk 3 (.i64 []), .mp .i64 [], .blk 31 (.c [.v (.slice none 0 0), .v (.slice none 0 0), .v (.int .i64 0), .v (.map none)])]⟩
  | 19 => ⟨[(1, .x (.a (.p 0 0))), (2, .x (.a (.p 1 0))), (6, .x (.a (.v (.slice r.pA r.ps.length r.pc)))), (10, .x (.a (.v (.slice r.cA r.cm.length r.cc)))), (13, .x (.a (.v (.int .i64 r.nd)))), (7, .x (.a (.o 2))), (11, .x (.a (.o 3))), (14, .x (.a (.o 4))), (15, .x (.g [.o 2, .o 3, .v (.int .i64 r.nd), .o 4]))], [.blk 36 (.c [.v (.slice r.pA r.ps.length r.pc), .v (.slice r.cA r.cm.length r.cc), .v (.int .i64 r.nd), .v (.slice r.gA r.gs.length r.gc)]), .blk 31 (.c [.v (.slice none 0 0), .v (.slice none 0 0), .v (.int .i64 0), .v (.map none)]), .onn 54 2 (.c (pcs r.ps)), .own 3 (.i64 r.cm), .mp .i64 []]⟩
  | 20 => ⟨[(1, .x (.a (.p 0 0))), (2, .x (.a (.p 1 0))), (6, .x (.a (.v (.slice r.pA r.ps.length r.pc)))), (10, .x (.a (.v (.slice r.cA r.cm.length r.cc)))), (13, .x (.a (.v (.int .i64 r.nd)))), (7, .x (.a (.o 2))), (11, .x (.a (.o 3))), (14, .x (.a (.o 4))), (3, .x (.a (.p 5 0)))], [.blk 36 (.c [.v (.slice r.pA r.ps.length r.pc), .v (.slice r.cA r.cm.length r.cc), .v (.int .i64 r.nd), .v (.slice r.gA r.gs.length r.gc)]), .blk 31 (.c [.v (.slice none 0 0), .v (.slice none 0 0), .v (.int .i64 0), .v (.map none)]), .onn 54 2 (.c (pcs r.ps)), .own 3 (.i64 r.cm), .mp .i64 [], .blk 31 (.c [.v (.slice none 0 0), .v (.slice none 0 0), .v (.int .i64 0), .v (.map none)])]⟩
  | 21 => ⟨[(1, .x (.a (.p 0 0))), (2, .x (.a (.p 1 0))), (6, .x (.a (.v (.slice r.pA r.ps.length r.pc)))), (10, .x (.a (.v (.slice r.cA r.cm.length r.cc)))), (13, .x (.a (.v (.int .i64 r.nd)))), (7, .x (.a (.o 2))), (11, .x (.a (.o 3))), (14, .x (.a (.o 4))), (3, .x (.a (.p 5 0))), (15, .x (.g [.o 2, .o 3, .v (.int .i64 r.nd), .o 4]))], [.blk 36 (.c [.v (.slice r.pA r.ps.length r.pc), .v (.slice r.cA r.cm.length r.cc), .v (.int .i64 r.nd), .v (.slice r.gA r.gs.length r.gc)]), .blk 31 (.c [.v (.slice none 0 0), .v (.slice none 0 0), .v (.int .i64 0), .v (.map none)]), .onn 54 2 (.c (pcs r.ps)), .own 3 (.i64 r.cm), .mp .i64 [], .blk 31 (.c [.v (.slice none 0 0), .v (.slice none 0 0), .v (.int .i64 0), .v (.map none)])]⟩
  | _ => ⟨[], []⟩
def ggD : Dag := [([true, true, false, false, true, true, false, true, true, false, false, false, false], [(2, 1), (3, 2), (9, 3), (11, 4)]),
  ([true, true, true, false, true, true, false, true, true, false, false, false, false], [(3, 5), (9, 6), (11, 7)]),
  ([true, true, false, true, true, true, false, true, true, false, false, false, false], [(2, 5), (9, 8), (11, 9)]),
  ([true, true, false, false, true, true, false, true, true, true, false, false, false], [(2, 6), (3, 8), (11, 10)]),
  ([true, true, false, false, true, true, false, true, true, false, false, true, false], [(2, 7), (3, 9), (9, 10)]),
  ([true, true, true, true, true, true, false, true, true, false, false, false, false], [(6, 11), (9, 12), (11, 13)]),
  ([true, true, true, false, true, true, false, true, true, true, false, false, false], [(3, 12), (11, 14)]),
  ([true, true, true, false, true, true, false, true, true, false, false, true, false], [(3, 13), (9, 14)]),
  ([true, true, false, true, true, true, false, true, true, true, false, false, false], [(2, 12), (11, 15)]),
  ([true, true, false, true, true, true, false, true, true, false, false, true, false], [(2, 13), (9, 15)]),
  ([true, true, false, false, true, true, false, true, true, true, false, true, false], [(2, 14), (3, 15)]),
  ([true, true, true, true, true, true, true, true, true, false, false, false, false], [(9, 16), (11, 17)]),
  ([true, true, true, true, true, true, false, true, true, true, false, false, false], [(6, 16), (11, 18)]),
  ([true, true, true, true, true, true, false, true, true, false, false, true, false], [(6, 17), (9, 18)]),
  ([true, true, true, false, true, true, false, true, true, true, false, true, false], [(3, 18)]),
  ([true, true, false, true, true, true, false, true, true, true, false, true, false], [(2, 18)]),
  ([true, true, true, true, true, true, true, true, true, true, false, false, false], [(10, 19), (11, 20)]),
  ([true, true, true, true, true, true, true, true, true, false, false, true, false], [(9, 20)]),
  ([true, true, true, true, true, true, false, true, true, true, false, true, false], [(6, 20)]),
  ([true, true, true, true, true, true, true, true, true, true, true, false, false], [(11, 21)]),
  ([true, true, true, true, true, true, true, true, true, true, false, true, false], [(10, 21)]),
  ([true, true, true, true, true, true, true, true, true, true, true, true, false], [])]
theorem ggF_0 (r : RfG) : ggF r 0 = ⟨[(1, .x (.a (.p 0 0))), (2, .x (.a (.p 1 0))), (6, .x (.a (.v (.slice r.pA r.ps.length r.pc)))), (10, .x (.a (.v (.slice r.cA r.cm.length r.cc)))), (13, .x (.a (.v (.int .i64 r.nd))))], [.blk 36 (.c [.v (.slice r.pA r.ps.length r.pc), .v (.slice r.cA r.cm.length r.cc), .v (.int .i64 r.nd), .v (.slice r.gA r.gs.length r.gc)]), .blk 31 (.c [.v (.slice none 0 0), .v (.slice none 0 0), .v (.int .i64 0), .v (.map none)])]⟩ := rfl
theorem ggF_1 (r : RfG) : ggF r 1 = ⟨[(1, .x (.a (.p 0 0))), (2, .x (.a (.p 1 0))), (6, .x (.a (.v (.slice r.pA r.ps.length r.pc)))), (10, .x (.a (.v (.slice r.cA r.cm.length r.cc)))), (13, .x (.a (.v (.int .i64 r.nd)))), (7, .x (.a (.o 2)))], [.blk 36 (.c [.v (.slice r.pA r.ps.length r.pc), .v (.slice r.cA r.cm.length r.cc), .v (.int .i64 r.nd), .v (.slice r.gA r.gs.length r.gc)]), .blk 31 (.c [.v (.slice none 0 0), .v (.slice none 0 0), .v (.int .i64 0), .v (.map none)]), .onn 54 2 (.c (pcs r.ps))]⟩ := rfl
theorem ggF_2 (r : RfG) : ggF r 2 = ⟨[(1, .x (.a (.p 0 0))), (2, .x (.a (.p 1 0))), (6, .x (.a (.v (.slice r.pA r.ps.length r.pc)))), (10, .x (.a (.v (.slice r.cA r.cm.length r.cc)))), (13, .x (.a (.v (.int .i64 r.nd)))), (8, .x (.a (.s 2 0 0 0)))], [.blk 36 (.c [.v (.slice r.pA r.ps.length r.pc), .v (.slice r.cA r.cm.length r.cc), .v (.int .i64 r.nd), .v (.slice r.gA r.gs.length r.gc)]), .blk 31 (.c [.v (.slice none 0 0), .v (.slice none 0 0), .v (.int .i64 0), .v (.map none)]), .blk 3 (.i64 [])]⟩ := rfl
theorem ggF_3 (r : RfG) : ggF r 3 = ⟨[(1, .x (.a (.p 0 0))), (2, .x (.a (.p 1 0))), (6, .x (.a (.v (.slice r.pA r.ps.length r.pc)))), (10, .x (.a (.v (.slice r.cA r.cm.length r.cc)))), (13, .x (.a (.v (.int .i64 r.nd)))), (14, .x (.a (.o 2)))], [.blk 36 (.c [.v (.slice r.pA r.ps.length r.pc), .v (.slice r.cA r.cm.length r.cc), .v (.int .i64 r.nd), .v (.slice r.gA r.gs.length r.gc)]), .blk 31 (.c [.v (.slice none 0 0), .v (.slice none 0 0), .v (.int .i64 0), .v (.map none)]), .mp .i64 []]⟩ := rfl
theorem ggF_4 (r : RfG) : ggF r 4 = ⟨[(1, .x (.a (.p 0 0))), (2, .x (.a (.p 1 0))), (6, .x (.a (.v (.slice r.pA r.ps.length r.pc)))), (10, .x (.a (.v (.slice r.cA r.cm.length r.cc)))), (13, .x (.a (.v (.int .i64 r.nd)))), (3, .x (.a (.p 2 0)))], [.blk 36 (.c [.v (.slice r.pA r.ps.length r.pc), .v (.slice r.cA r.cm.length r.cc), .v (.int .i64 r.nd), .v (.slice r.gA r.gs.length r.gc)]), .blk 31 (.c [.v (.slice none 0 0), .v (.slice none 0 0), .v (.int .i64 0), .v (.map none)]), .blk 31 (.c [.v (.slice none 0 0), .v (.slice none 0 0), .v (.int .i64 0), .v (.map none)])]⟩ := rfl
theorem ggF_5 (r : RfG) : ggF r 5 = ⟨[(1, .x (.a (.p 0 0))), (2, .x (.a (.p 1 0))), (6, .x (.a (.v (.slice r.pA r.ps.length r.pc)))), (10, .x (.a (.v (.slice r.cA r.cm.length r.cc)))), (13, .x (.a (.v (.int .i64 r.nd)))), (7, .x (.a (.o 2))), (8, .x (.a (.s 3 0 0 0)))], [.blk 36 (.c [.v (.slice r.pA r.ps.length r.pc), .v (.slice r.cA r.cm.length r.cc), .v (.int .i64 r.nd), .v (.slice r.gA r.gs.length r.gc)]), .blk 31 (.c [.v (.slice none 0 0), .v (.slice none 0 0), .v (.int .i64 0), .v (.map none)]), .onn 54 2 (.c (pcs r.ps)), .blk 3 (.i64 [])]⟩ := rfl
theorem ggF_6 (r : RfG) : ggF r 6 = ⟨[(1, .x (.a (.p 0 0))), (2, .x (.a (.p 1 0))), (6, .x (.a (.v (.slice r.pA r.ps.length r.pc)))), (10, .x (.a (.v (.slice r.cA r.cm.length r.cc)))), (13, .x (.a (.v (.int .i64 r.nd)))), (7, .x (.a (.o 2))), (14, .x (.a (.o 3)))], [.blk 36 (.c [.v (.slice r.pA r.ps.length r.pc), .v (.slice r.cA r.cm.length r.cc), .v (.int .i64 r.nd), .v (.slice r.gA r.gs.length r.gc)]), .blk 31 (.c [.v (.slice none 0 0), .v (.slice none 0 0), .v (.int .i64 0), .v (.map none)]), .onn 54 2 (.c (pcs r.ps)), .mp .i64 []]⟩ := rfl
theorem ggF_7 (r : RfG) : ggF r 7 = ⟨[(1, .x (.a (.p 0 0))), (2, .x (.a (.p 1 0))), (6, .x (.a (.v (.slice r.pA r.ps.length r.pc)))), (10, .x (.a (.v (.slice r.cA r.cm.length r.cc)))), (13, .x (.a (.v (.int .i64 r.nd)))), (7, .x (.a (.o 2))), (3, .x (.a (.p 3 0)))], [.blk 36 (.c [.v (.slice r.pA r.ps.length r.pc), .v (.slice r.cA r.cm.length r.cc), .v (.int .i64 r.nd), .v (.slice r.gA r.gs.length r.gc)]), .blk 31 (.c [.v (.slice none 0 0), .v (.slice none 0 0), .v (.int .i64 0), .v (.map none)]), .onn 54 2 (.c (pcs r.ps)), .blk 31 (.c [.v (.slice none 0 0), .v (.slice none 0 0), .v (.int .i64 0), .v (.map none)])]⟩ := rfl
theorem ggF_8 (r : RfG) : ggF r 8 = ⟨[(1, .x (.a (.p 0 0))), (2, .x (.a (.p 1 0))), (6, .x (.a (.v (.slice r.pA r.ps.length r.pc)))), (10, .x (.a (.v (.slice r.cA r.cm.length r.cc)))), (13, .x (.a (.v (.int .i64 r.nd)))), (8, .x (.a (.s 2 0 0 0))), (14, .x (.a (.o 3)))], [.blk 36 (.c [.v (.slice r.pA r.ps.length r.pc), .v (.slice r.cA r.cm.length r.cc), .v (.int .i64 r.nd), .v (.slice r.gA r.gs.length r.gc)]), .blk 31 (.c [.v (.slice none 0 0), .v (.slice none 0 0), .v (.int .i64 0), .v (.map none)]), .blk 3 (.i64 []), .mp .i64 []]⟩ := rfl
theorem ggF_9 (r : RfG) : ggF r 9 = ⟨[(1, .x (.a (.p 0 0))), (2, .x (.a (.p 1 0))), (6, .x (.a (.v (.slice r.pA r.ps.length r.pc)))), (10, .x (.a (.v (.slice r.cA r.cm.length r.cc)))), (13, .x (.a (.v (.int .i64 r.nd)))), (8, .x (.a (.s 2 0 0 0))), (3, .x (.a (.p 3 0)))], [.blk 36 (.c [.v (.slice r.pA r.ps.length r.pc), .v (.slice r.cA r.cm.length r.cc), .v (.int .i64 r.nd), .v (.slice r.gA r.gs.length r.gc)]), .blk 31 (.c [.v (.slice none 0 0), .v (.slice none 0 0), .v (.int .i64 0), .v (.map none)]), .blk 3 (.i64 []), .blk 31 (.c [.v (.slice none 0 0), .v (.slice none 0 0), .v (.int .i64 0), .v (.map none)])]⟩ := rfl
theorem ggF_10 (r : RfG) : ggF r 10 = ⟨[(1, .x (.a (.p 0 0))), (2, .x (.a (.p 1 0))), (6, .x (.a (.v (.slice r.pA r.ps.length r.pc)))), (10, .x (.a (.v (.slice r.cA r.cm.length r.cc)))), (13, .x (.a (.v (.int .i64 r.nd)))), (14, .x (.a (.o 2))), (3, .x (.a (.p 3 0)))], [.blk 36 (.c [.v (.slice r.pA r.ps.length r.pc), .v (.slice r.cA r.cm.length r.cc), .v (.int .i64 r.nd), .v (.slice r.gA r.gs.length r.gc)]), .blk 31 (.c [.v (.slice none 0 0), .v (.slice none 0 0), .v (.int .i64 0), .v (.map none)]), .mp .i64 [], .blk 31 (.c [.v (.slice none 0 0), .v (.slice none 0 0), .v (.int .i64 0), .v (.map none)])]⟩ := rfl
theorem ggF_11 (r : RfG) : ggF r 11 = ⟨[(1, .x (.a (.p 0 0))), (2, .x (.a (.p 1 0))), (6, .x (.a (.v (.slice r.pA r.ps.length r.pc)))), (10, .x (.a (.v (.slice r.cA r.cm.length r.cc)))), (13, .x (.a (.v (.int .i64 r.nd)))), (7, .x (.a (.o 2))), (11, .x (.a (.o 3)))], [.blk 36 (.c [.v (.slice r.pA r.ps.length r.pc), .v (.slice r.cA r.cm.length r.cc), .v (.int .i64 r.nd), .v (.slice r.gA r.gs.length r.gc)]), .blk 31 (.c [.v (.slice none 0 0), .v (.slice none 0 0), .v (.int .i64 0), .v (.map none)]), .onn 54 2 (.c (pcs r.ps)), .own 3 (.i64 r.cm)]⟩ := rfl
theorem ggF_12 (r : RfG) : ggF r 12 = ⟨[(1, .x (.a (.p 0 0))), (2, .x (.a (.p 1 0))), (6, .x (.a (.v (.slice r.pA r.ps.length r.pc)))), (10, .x (.a (.v (.slice r.cA r.cm.length r.cc)))), (13, .x (.a (.v (.int .i64 r.nd)))), (7, .x (.a (.o 2))), (8, .x (.a (.s 3 0 0 0))), (14, .x (.a (.o 4)))], [.blk 36 (.c [.v (.slice r.pA r.ps.length r.pc), .v (.slice r.cA r.cm.length r.cc), .v (.int .i64 r.nd), .v (.slice r.gA r.gs.length r.gc)]), .blk 31 (.c [.v (.slice none 0 0), .v (.slice none 0 0), .v (.int .i64 0), .v (.map none)]), .onn 54 2 (.c (pcs r.ps)), .blk 3 (.i64 []), .mp .i64 []]⟩ := rfl
theorem ggF_13 (r : RfG) : ggF r 13 = ⟨[(1, .x (.a (.p 0 0))), (2, .x (.a (.p 1 0))), (6, .x (.a (.v (.slice r.pA r.ps.length r.pc)))), (10, .x (.a (.v (.slice r.cA r.cm.length r.cc)))), (13, .x (.a (.v (.int .i64 r.nd)))), (7, .x (.a (.o 2))), (8, .x (.a (.s 3 0 0 0))), (3, .x (.a (.p 4 0)))], [.blk 36 (.c [.v (.slice r.pA r.ps.length r.pc), .v (.slice r.cA r.cm.length r.cc), .v (.int .i64 r.nd), .v (.slice r.gA r.gs.length r.gc)]), .blk 31 (.c [.v (.slice none 0 0), .v (.slice none 0 0), .v (.int .i64 0), .v (.map none)]), .onn 54 2 (.c (pcs r.ps)), .blk 3 (.i64 []), .blk 31 (.c [.v (.slice none 0 0), .v (.slice none 0 0), .v (.int .i64 0), .v (.map none)])]⟩ := rfl
theorem ggF_14 (r : RfG) : ggF r 14 = ⟨[(1, .x (.a (.p 0 0))), (2, .x (.a (.p 1 0))), (6, .x (.a (.v (.slice r.pA r.ps.length r.pc)))), (10, .x (.a (.v (.slice r.cA r.cm.length r.cc)))), (13, .x (.a (.v (.int .i64 r.nd)))), (7, .x (.a (.o 2))), (14, .x (.a (.o 3))), (3, .x (.a (.p 4 0)))], [.blk 36 (.c [.v (.slice r.pA r.ps.length r.pc), .v (.slice r.cA r.cm.length r.cc), .v (.int .i64 r.nd), .v (.slice r.gA r.gs.length r.gc)]), .blk 31 (.c [.v (.slice none 0 0), .v (.slice none 0 0), .v (.int .i64 0), .v (.map none)]), .onn 54 2 (.c (pcs r.ps)), .mp .i64 [], .blk 31 (.c [.v (.slice none 0 0), .v (.slice none 0 0), .v (.int .i64 0), .v (.map none)])]⟩ := rfl
theorem ggF_15 (r : RfG) : ggF r 15 = ⟨[(1, .x (.a (.p 0 0))), (2, .x (.a (.p 1 0))), (6, .x (.a (.v (.slice r.pA r.ps.length r.pc)))), (10, .x (.a (.v (.slice r.cA r.cm.length r.cc)))), (13, .x (.a (.v (.int .i64 r.nd)))), (8, .x (.a (.s 2 0 0 0))), (14, .x (.a (.o 3))), (3, .x (.a (.p 4 0)))], [.blk 36 (.c [.v (.slice r.pA r.ps.length r.pc), .v (.slice r.cA r.cm.length r.cc), .v (.int .i64 r.nd), .v (.slice r.gA r.gs.length r.gc)]), .blk 31 (.c [.v (.slice none 0 0), .v (.slice none 0 0), .v (.int .i64 0), .v (.map none)]), .blk 3 (.i64 []), .mp .i64 [], .blk 31 (.c [.v (.slice none 0 0), .v (.slice none 0 0), .v (.int .i64 0), .v (.map none)])]⟩ := rfl
theorem ggF_16 (r : RfG) : ggF r 16 = ⟨[(1, .x (.a (.p 0 0))), (2, .x (.a (.p 1 0))), (6, .x (.a (.v (.slice r.pA r.ps.length r.pc)))), (10, .x (.a (.v (.slice r.cA r.cm.length r.cc)))), (13, .x (.a (.v (.int .i64 r.nd)))), (7, .x (.a (.o 2))), (11, .x (.a (.o 3))), (14, .x (.a (.o 4)))], [.blk 36 (.c [.v (.slice r.pA r.ps.length r.pc), .v (.slice r.cA r.cm.length r.cc), .v (.int .i64 r.nd), .v (.slice r.gA r.gs.length r.gc)]), .blk 31 (.c [.v (.slice none 0 0), .v (.slice none 0 0), .v (.int .i64 0), .v (.map none)]), .onn 54 2 (.c (pcs r.ps)), .own 3 (.i64 r.cm), .mp .i64 []]⟩ := rfl
theorem ggF_17 (r : RfG) : ggF r 17 = ⟨[(1, .x (.a (.p 0 0))), (2, .x (.a (.p 1 0))), (6, .x (.a (.v (.slice r.pA r.ps.length r.pc)))), (10, .x (.a (.v (.slice r.cA r.cm.length r.cc)))), (13, .x (.a (.v (.int .i64 r.nd)))), (7, .x (.a (.o 2))), (11, .x (.a (.o 3))), (3, .x (.a (.p 4 0)))], [.blk 36 (.c [.v (.slice r.pA r.ps.length r.pc), .v (.slice r.cA r.cm.length r.cc), .v (.int .i64 r.nd), .v (.slice r.gA r.gs.length r.gc)]), .blk 31 (.c [.v (.slice none 0 0), .v (.slice none 0 0), .v (.int .i64 0), .v (.map none)]), .onn 54 2 (.c (pcs r.ps)), .own 3 (.i64 r.cm), .blk 31 (.c [.v (.slice none 0 0), .v (.slice none 0 0), .v (.int .i64 0), .v (.map none)])]⟩ := rfl
theorem ggF_18 (r : RfG) : ggF r 18 = ⟨[(1, .x (.a (.p 0 0))), (2, .x (.a (.p 1 0))), (6, .x (.a (.v (.slice r.pA r.ps.length r.pc)))), (10, .x (.a (.v (.slice r.cA r.cm.length r.cc)))), (13, .x (.a (.v (.int .i64 r.nd)))), (7, .x (.a (.o 2))), (8, .x (.a (.s 3 0 0 0))), (14, .x (.a (.o 4))), (3, .x (.a (.p 5 0)))], [.blk 36 (.c [.v (.slice r.pA r.ps.length r.pc), .v (.slice r.cA r.cm.length r.cc), .v (.int .i64 r.nd), .v (.slice r.gA r.gs.length r.gc)]), .blk 31 (.c [.v (.slice none 0 0), .v (.slice none 0 0), .v (.int .i64 0), .v (.map none)]), .onn 54 2 (.c (pcs r.ps)), .blk 3 (.i64 []), .mp .i64 [], .blk 31 (.c [.v (.slice none 0 0), .v (.slice none 0 0), .v (.int .i64 0), .v (.map none)])]⟩ := rfl
theorem ggF_19 (r : RfG) : ggF r 19 = ⟨[(1, .x (.a (.p 0 0))), (2, .x (.a (.p 1 0))), (6, .x (.a (.v (.slice r.pA r.ps.length r.pc)))), (10, .x (.a (.v (.slice r.cA r.cm.length r.cc)))), (13, .x (.a (.v (.int .i64 r.nd)))), (7, .x (.a (.o 2))), (11, .x (.a (.o 3))), (14, .x (.a (.o 4))), (15, .x (.g [.o 2, .o 3, .v (.int .i64 r.nd), .o 4]))], [.blk 36 (.c [.v (.slice r.pA r.ps.length r.pc), .v (.slice r.cA r.cm.length r.cc), .v (.int .i64 r.nd), .v (.slice r.gA r.gs.length r.gc)]), .blk 31 (.c [.v (.slice none 0 0), .v (.slice none 0 0), .v (.int .i64 0), .v (.map none)]), .onn 54 2 (.c (pcs r.ps)), .own 3 (.i64 r.cm), .mp .i64 []]⟩ := rfl
theorem ggF_20 (r : RfG) : ggF r 20 = ⟨[(1, .x (.a (.p 0 0))), (2, .x (.a (.p 1 0))), (6, .x (.a (.v (.slice r.pA r.ps.length r.pc)))), (10, .x (.a (.v (.slice r.cA r.cm.length r.cc)))), (13, .x (.a (.v (.int .i64 r.nd)))), (7, .x (.a (.o 2))), (11, .x (.a (.o 3))), (14, .x (.a (.o 4))), (3, .x (.a (.p 5 0)))], [.blk 36 (.c [.v (.slice r.pA r.ps.length r.pc), .v (.slice r.cA r.cm.length r.cc), .v (.int .i64 r.nd), .v (.slice r.gA r.gs.length r.gc)]), .blk 31 (.c [.v (.slice none 0 0), .v (.slice none 0 0), .v (.int .i64 0), .v (.map none)]), .onn 54 2 (.c (pcs r.ps)), .own 3 (.i64 r.cm), .mp .i64 [], .blk 31 (.c [.v (.slice none 0 0), .v (.slice none 0 0), .v (.int .i64 0), .v (.map none)])]⟩ := rfl
theorem ggF_21 (r : RfG) : ggF r 21 = ⟨[(1, .x (.a (.p 0 0))), (2, .x (.a (.p 1 0))), (6, .x (.a (.v (.slice r.pA r.ps.length r.pc)))), (10, .x (.a (.v (.slice r.cA r.cm.length r.cc)))), (13, .x (.a (.v (.int .i64 r.nd)))), (7, .x (.a (.o 2))), (11, .x (.a (.o 3))), (14, .x (.a (.o 4))), (3, .x (.a (.p 5 0))), (15, .x (.g [.o 2, .o 3, .v (.int .i64 r.nd), .o 4]))], [.blk 36 (.c [.v (.slice r.pA r.ps.length r.pc), .v (.slice r.cA r.cm.length r.cc), .v (.int .i64 r.nd), .v (.slice r.gA r.gs.length r.gc)]), .blk 31 (.c [.v (.slice none 0 0), .v (.slice none 0 0), .v (.int .i64 0), .v (.map none)]), .onn 54 2 (.c (pcs r.ps)), .own 3 (.i64 r.cm), .mp .i64 [], .blk 31 (.c [.v (.slice none 0 0), .v (.slice none 0 0), .v (.int .i64 0), .v (.map none)])]⟩ := rfl
attribute [local irreducible] Callable CallOK CallG CallM DrawG LoopG symR symM
attribute [local irreducible] mclE putE ggF
set_option maxRecDepth 100000 in
set_option maxHeartbeats 8000000 in
theorem giveG_any (r : RfG) (w : World) (hr : r.Ok w) (hf : r.few) : Calls Tryz.prog 6 (List.map (Sv.val []) [.x (.g [.v (.slice r.pA r.ps.length r.pc), .v (.slice r.cA r.cm.length r.cc), .v (.int .i64 r.nd), .v (.slice r.gA r.gs.length r.gc)])]).toArray w fun e w' => ∃ (x : Grp × List Fct) (γ1 : List Nm), GivOk x.2 x.1 ∧
      e = .returned ((Sv.x (.g [.v (.slice x.1.pA x.1.ps.length x.1.pc), .v (.slice x.1.cA x.1.cm.length x.1.cc), .v (.int .i64 x.1.nd), .o 0])).val γ1) ∧ Sat w No γ1 [.mp .i64 (mclE x.1.gv), .abs (fctRep x.2)] w' := by
  obtain ⟨f1, f2, f3, f4⟩ := hf
  obtain ⟨e1, k1⟩ := rdI_of (FV.no hr.cR)
  have F := FGf.of hr.gR
  refine calls_ex (n := 40) (ι := Grp × List Fct) (fun x => GivOk x.2 x.1) (fun x => .x (.g [.v (.slice x.1.pA x.1.ps.length x.1.pc), .v (.slice x.1.cA x.1.cm.length x.1.cc), .v (.int .i64 x.1.nd), .o 0])) (fun x => [.mp .i64 (mclE x.1.gv), .abs (fctRep x.2)])
    Tryz.func6 rfl Tryz.ntmps6 [.x (.g [.v (.slice r.pA r.ps.length r.pc), .v (.slice r.cA r.cm.length r.cc), .v (.int .i64 r.nd), .v (.slice r.gA r.gs.length r.gc)])] (Sat.init w No) (by simp) ?_
  simp (config := { maxSteps := 1000000 }) only [push_cast, ↓reduceIte, Nat.reduceLT, Nat.reduceAdd]
  (repeat (refine And.intro (by first | omega | decide) ?_))
  have b1 : r.cm.length * 8 ≤ 140737488355328 := by omega
  have b2 : r.cm.length ≤ 2 ^ 63 - 1 := by omega
  refine drawD_rule 12 [0, 1, 4, 5, 7, 8] ggD 21 [] (ggF r) ⟨[(1, .x (.a (.p 0 0))), (2, .x (.a (.p 1 0))), (6, .x (.a (.v (.slice r.pA r.ps.length r.pc)))), (10, .x (.a (.v (.slice r.cA r.cm.length r.cc)))), (13, .x (.a (.v (.int .i64 r.nd)))), (7, .x (.a (.o 2))), (11, .x (.a (.o 3))), (14, .x (.a (.o 4))), (3, .x (.a (.p 5 0))), (15, .x (.g [.o 2, .o 3, .v (.int .i64 r.nd), .o 4]))], [.blk 36 (.c [.v (.slice r.pA r.ps.length r.pc), .v (.slice r.cA r.cm.length r.cc), .v (.int .i64 r.nd), .v (.slice r.gA r.gs.length r.gc)]), .blk 31 (.c [.v (.slice none 0 0), .v (.slice none 0 0), .v (.int .i64 0), .v (.map none)]), .onn 54 2 (.c (pcs r.ps)), .own 3 (.i64 r.cm), .mp .i64 [], .blk 31 (.c [.v (.slice none 0 0), .v (.slice none 0 0), .v (.int .i64 0), .v (.map none)])]⟩ (by kernel_rfl) (by kernel_rfl) (by simp (config := { maxSteps := 1000000 }) only [push_cast, Nat.reduceAdd]) ?_ ?_ (by decide) ?_ ?_ ?_
  · simp (config := { maxSteps := 1000000 }) only [undef, push_cast, ↓reduceIte, reduceCtorEq, Nat.reduceEqDiff, Nat.reduceLT, Nat.reduceAdd]
    refine ⟨[], ?_⟩
    rw [ggF_0]
    simp (config := { maxSteps := 1000000 }) only [List.append_nil, List.range, List.range.loop, push_cast, ↓reduceIte, reduceCtorEq, Nat.reduceEqDiff, Nat.reduceLT, Nat.reduceAdd]
  · intro v hv
    have hv' : v = 0 ∨ v = 1 ∨ v = 2 ∨ v = 3 ∨ v = 4 ∨ v = 5 ∨ v = 6 ∨ v = 7 ∨ v = 8 ∨ v = 9 ∨ v = 10 ∨ v = 11 ∨ v = 12 ∨ v = 13 ∨ v = 14 ∨ v = 15 ∨ v = 16 ∨ v = 17 ∨ v = 18 ∨ v = 19 ∨ v = 20 ∨ v = 21 := by omega
    rcases hv' with rfl | rfl | rfl | rfl | rfl | rfl | rfl | rfl | rfl | rfl | rfl | rfl | rfl | rfl | rfl | rfl | rfl | rfl | rfl | rfl | rfl | rfl
    · rw [ggF_0]; rfl
    · rw [ggF_1]; rfl
    · rw [ggF_2]; rfl
    · rw [ggF_3]; rfl
    · rw [ggF_4]; rfl
    · rw [ggF_5]; rfl
    · rw [ggF_6]; rfl
    · rw [ggF_7]; rfl
    · rw [ggF_8]; rfl
    · rw [ggF_9]; rfl
    · rw [ggF_10]; rfl
    · rw [ggF_11]; rfl
    · rw [ggF_12]; rfl
    · rw [ggF_13]; rfl
    · rw [ggF_14]; rfl
    · rw [ggF_15]; rfl
    · rw [ggF_16]; rfl
    · rw [ggF_17]; rfl
    · rw [ggF_18]; rfl
    · rw [ggF_19]; rfl
    · rw [ggF_20]; rfl
    · rw [ggF_21]; rfl
  · refine dagSt_all ?_
    refine ⟨?_, ?_, ?_, ?_, ?_, ?_, ?_, ?_, ?_, ?_, ?_, ?_, ?_, ?_, ?_, ?_, ?_, ?_, ?_, ?_, ?_, ?_, trivial⟩
    · intro q hq
      simp only [List.mem_cons, List.not_mem_nil, or_false] at hq
      rcases hq with rfl | rfl | rfl | rfl
      · show stepD _ _ _ _ _ 2 (fun s' => LeA 2 s' (ggF r 1)) (ggF r 0)
        rw [ggF_1, ggF_0]
        simp (config := { maxSteps := 1000000 }) only [push_cast, ↓reduceIte]
        (repeat (refine And.intro (by first | omega | decide) ?_))
        refine callD_rule rfl cb14 rfl (give32K (l := r.ps) (by omega) (showsR_raw hr.pR hr.pl) (by simp (config := { maxSteps := 1000000 }) only [push_cast, Nat.reduceAdd])) (dOk_lt rfl) (fun _ => by simp (config := { maxSteps := 1000000 }) only [push_cast, Nat.reduceLT, Nat.reduceAdd]) ?_
        refine ⟨[2], ?_⟩
        simp (config := { maxSteps := 1000000 }) only [List.range, List.range.loop, List.nil_append, List.cons_append, push_cast, ↓reduceIte, reduceCtorEq, Nat.reduceEqDiff, Nat.reduceLT, Nat.reduceAdd]
      · show stepD _ _ _ _ _ 3 (fun s' => LeA 2 s' (ggF r 2)) (ggF r 0)
        rw [ggF_2, ggF_0]
        simp (config := { maxSteps := 1000000 }) only [push_cast, ↓reduceIte, Nat.reduceLT, Nat.reduceLeDiff, Nat.reduceAdd]
        (repeat (refine And.intro (by first | omega | decide) ?_))
        refine ⟨[2], ?_⟩
        simp (config := { maxSteps := 1000000 }) only [List.range, List.range.loop, List.nil_append, List.cons_append, push_cast, ↓reduceIte, reduceCtorEq, Nat.reduceEqDiff, Nat.reduceLT, Nat.reduceAdd]
      · show stepD _ _ _ _ _ 9 (fun s' => LeA 2 s' (ggF r 3)) (ggF r 0)
        rw [ggF_3, ggF_0]
        simp (config := { maxSteps := 1000000 }) only [push_cast, ↓reduceIte, Nat.reduceLT, Nat.reduceAdd]
        (repeat (refine And.intro (by first | omega | decide) ?_))
        refine ⟨[2], ?_⟩
        simp (config := { maxSteps := 1000000 }) only [List.range, List.range.loop, List.nil_append, List.cons_append, push_cast, ↓reduceIte, reduceCtorEq, Nat.reduceEqDiff, Nat.reduceLT, Nat.reduceAdd]
      · show stepD _ _ _ _ _ 11 (fun s' => LeA 2 s' (ggF r 4)) (ggF r 0)
        rw [ggF_4, ggF_0]
        simp (config := { maxSteps := 1000000 }) only [push_cast, ↓reduceIte, Nat.reduceLT, Nat.reduceAdd]
        (repeat (refine And.intro (by first | omega | decide) ?_))
        refine ⟨[2], ?_⟩
        simp (config := { maxSteps := 1000000 }) only [List.range, List.range.loop, List.nil_append, List.cons_append, push_cast, ↓reduceIte, reduceCtorEq, Nat.reduceEqDiff, Nat.reduceLT, Nat.reduceAdd]
    · intro q hq
      simp only [List.mem_cons, List.not_mem_nil, or_false] at hq
      rcases hq with rfl | rfl | rfl
      · show stepD _ _ _ _ _ 3 (fun s' => LeA 2 s' (ggF r 5)) (ggF r 1)
        rw [ggF_5, ggF_1]
        simp (config := { maxSteps := 1000000 }) only [push_cast, ↓reduceIte, Nat.reduceLT, Nat.reduceLeDiff, Nat.reduceAdd]
        (repeat (refine And.intro (by first | omega | decide) ?_))
        refine ⟨[2, 3], ?_⟩
        simp (config := { maxSteps := 1000000 }) only [List.range, List.range.loop, List.nil_append, List.cons_append, push_cast, ↓reduceIte, reduceCtorEq, Nat.reduceEqDiff, Nat.reduceLT, Nat.reduceAdd]
      · show stepD _ _ _ _ _ 9 (fun s' => LeA 2 s' (ggF r 6)) (ggF r 1)
        rw [ggF_6, ggF_1]
        simp (config := { maxSteps := 1000000 }) only [push_cast, ↓reduceIte, Nat.reduceLT, Nat.reduceAdd]
        (repeat (refine And.intro (by first | omega | decide) ?_))
        refine ⟨[2, 3], ?_⟩
        simp (config := { maxSteps := 1000000 }) only [List.range, List.range.loop, List.nil_append, List.cons_append, push_cast, ↓reduceIte, reduceCtorEq, Nat.reduceEqDiff, Nat.reduceLT, Nat.reduceAdd]
      · show stepD _ _ _ _ _ 11 (fun s' => LeA 2 s' (ggF r 7)) (ggF r 1)
        rw [ggF_7, ggF_1]
        simp (config := { maxSteps := 1000000 }) only [push_cast, ↓reduceIte, Nat.reduceLT, Nat.reduceAdd]
        (repeat (refine And.intro (by first | omega | decide) ?_))
        refine ⟨[2, 3], ?_⟩
        simp (config := { maxSteps := 1000000 }) only [List.range, List.range.loop, List.nil_append, List.cons_append, push_cast, ↓reduceIte, reduceCtorEq, Nat.reduceEqDiff, Nat.reduceLT, Nat.reduceAdd]
    · intro q hq
      simp only [List.mem_cons, List.not_mem_nil, or_false] at hq
      rcases hq with rfl | rfl | rfl
      · show stepD _ _ _ _ _ 2 (fun s' => LeA 2 s' (ggF r 5)) (ggF r 2)
        rw [ggF_5, ggF_2]
        simp (config := { maxSteps := 1000000 }) only [push_cast, ↓reduceIte]
        (repeat (refine And.intro (by first | omega | decide) ?_))
        refine callD_rule rfl cb14 rfl (give32K (l := r.ps) (by omega) (showsR_raw hr.pR hr.pl) (by simp (config := { maxSteps := 1000000 }) only [push_cast, Nat.reduceAdd])) (dOk_lt rfl) (fun _ => by simp (config := { maxSteps := 1000000 }) only [push_cast, Nat.reduceLT, Nat.reduceAdd]) ?_
        refine ⟨[3, 2], ?_⟩
        simp (config := { maxSteps := 1000000 }) only [List.range, List.range.loop, List.nil_append, List.cons_append, push_cast, ↓reduceIte, reduceCtorEq, Nat.reduceEqDiff, Nat.reduceLT, Nat.reduceAdd]
      · show stepD _ _ _ _ _ 9 (fun s' => LeA 2 s' (ggF r 8)) (ggF r 2)
        rw [ggF_8, ggF_2]
        simp (config := { maxSteps := 1000000 }) only [push_cast, ↓reduceIte, Nat.reduceLT, Nat.reduceAdd]
        (repeat (refine And.intro (by first | omega | decide) ?_))
        refine ⟨[2, 3], ?_⟩
        simp (config := { maxSteps := 1000000 }) only [List.range, List.range.loop, List.nil_append, List.cons_append, push_cast, ↓reduceIte, reduceCtorEq, Nat.reduceEqDiff, Nat.reduceLT, Nat.reduceAdd]
      · show stepD _ _ _ _ _ 11 (fun s' => LeA 2 s' (ggF r 9)) (ggF r 2)
        rw [ggF_9, ggF_2]
        simp (config := { maxSteps := 1000000 }) only [push_cast, ↓reduceIte, Nat.reduceLT, Nat.reduceAdd]
        (repeat (refine And.intro (by first | omega | decide) ?_))
        refine ⟨[2, 3], ?_⟩
        simp (config := { maxSteps := 1000000 }) only [List.range, List.range.loop, List.nil_append, List.cons_append, push_cast, ↓reduceIte, reduceCtorEq, Nat.reduceEqDiff, Nat.reduceLT, Nat.reduceAdd]
    · intro q hq
      simp only [List.mem_cons, List.not_mem_nil, or_false] at hq
      rcases hq with rfl | rfl | rfl
      · show stepD _ _ _ _ _ 2 (fun s' => LeA 2 s' (ggF r 6)) (ggF r 3)
        rw [ggF_6, ggF_3]
        simp (config := { maxSteps := 1000000 }) only [push_cast, ↓reduceIte]
        (repeat (refine And.intro (by first | omega | decide) ?_))
        refine callD_rule rfl cb14 rfl (give32K (l := r.ps) (by omega) (showsR_raw hr.pR hr.pl) (by simp (config := { maxSteps := 1000000 }) only [push_cast, Nat.reduceAdd])) (dOk_lt rfl) (fun _ => by simp (config := { maxSteps := 1000000 }) only [push_cast, Nat.reduceLT, Nat.reduceAdd]) ?_
        refine ⟨[3, 2], ?_⟩
        simp (config := { maxSteps := 1000000 }) only [List.range, List.range.loop, List.nil_append, List.cons_append, push_cast, ↓reduceIte, reduceCtorEq, Nat.reduceEqDiff, Nat.reduceLT, Nat.reduceAdd]
      · show stepD _ _ _ _ _ 3 (fun s' => LeA 2 s' (ggF r 8)) (ggF r 3)
        rw [ggF_8, ggF_3]
        simp (config := { maxSteps := 1000000 }) only [push_cast, ↓reduceIte, Nat.reduceLT, Nat.reduceLeDiff, Nat.reduceAdd]
        (repeat (refine And.intro (by first | omega | decide) ?_))
        refine ⟨[3, 2], ?_⟩
        simp (config := { maxSteps := 1000000 }) only [List.range, List.range.loop, List.nil_append, List.cons_append, push_cast, ↓reduceIte, reduceCtorEq, Nat.reduceEqDiff, Nat.reduceLT, Nat.reduceAdd]
      · show stepD _ _ _ _ _ 11 (fun s' => LeA 2 s' (ggF r 10)) (ggF r 3)
        rw [ggF_10, ggF_3]
        simp (config := { maxSteps := 1000000 }) only [push_cast, ↓reduceIte, Nat.reduceLT, Nat.reduceAdd]
        (repeat (refine And.intro (by first | omega | decide) ?_))
        refine ⟨[2, 3], ?_⟩
        simp (config := { maxSteps := 1000000 }) only [List.range, List.range.loop, List.nil_append, List.cons_append, push_cast, ↓reduceIte, reduceCtorEq, Nat.reduceEqDiff, Nat.reduceLT, Nat.reduceAdd]
    · intro q hq
      simp only [List.mem_cons, List.not_mem_nil, or_false] at hq
      rcases hq with rfl | rfl | rfl
      · show stepD _ _ _ _ _ 2 (fun s' => LeA 2 s' (ggF r 7)) (ggF r 4)
        rw [ggF_7, ggF_4]
        simp (config := { maxSteps := 1000000 }) only [push_cast, ↓reduceIte]
        (repeat (refine And.intro (by first | omega | decide) ?_))
        refine callD_rule rfl cb14 rfl (give32K (l := r.ps) (by omega) (showsR_raw hr.pR hr.pl) (by simp (config := { maxSteps := 1000000 }) only [push_cast, Nat.reduceAdd])) (dOk_lt rfl) (fun _ => by simp (config := { maxSteps := 1000000 }) only [push_cast, Nat.reduceLT, Nat.reduceAdd]) ?_
        refine ⟨[3, 2], ?_⟩
        simp (config := { maxSteps := 1000000 }) only [List.range, List.range.loop, List.nil_append, List.cons_append, push_cast, ↓reduceIte, reduceCtorEq, Nat.reduceEqDiff, Nat.reduceLT, Nat.reduceAdd]
      · show stepD _ _ _ _ _ 3 (fun s' => LeA 2 s' (ggF r 9)) (ggF r 4)
        rw [ggF_9, ggF_4]
        simp (config := { maxSteps := 1000000 }) only [push_cast, ↓reduceIte, Nat.reduceLT, Nat.reduceLeDiff, Nat.reduceAdd]
        (repeat (refine And.intro (by first | omega | decide) ?_))
        refine ⟨[3, 2], ?_⟩
        simp (config := { maxSteps := 1000000 }) only [List.range, List.range.loop, List.nil_append, List.cons_append, push_cast, ↓reduceIte, reduceCtorEq, Nat.reduceEqDiff, Nat.reduceLT, Nat.reduceAdd]
      · show stepD _ _ _ _ _ 9 (fun s' => LeA 2 s' (ggF r 10)) (ggF r 4)
        rw [ggF_10, ggF_4]
        simp (config := { maxSteps := 1000000 }) only [push_cast, ↓reduceIte, Nat.reduceLT, Nat.reduceAdd]
        (repeat (refine And.intro (by first | omega | decide) ?_))
        refine ⟨[3, 2], ?_⟩
        simp (config := { maxSteps := 1000000 }) only [List.range, List.range.loop, List.nil_append, List.cons_append, push_cast, ↓reduceIte, reduceCtorEq, Nat.reduceEqDiff, Nat.reduceLT, Nat.reduceAdd]
    · intro q hq
      simp only [List.mem_cons, List.not_mem_nil, or_false] at hq
      rcases hq with rfl | rfl | rfl
      · show stepD _ _ _ _ _ 6 (fun s' => LeA 2 s' (ggF r 11)) (ggF r 5)
        rw [ggF_11, ggF_5]
        simp (config := { maxSteps := 1000000 }) only [e1, k1, b1, b2, push_cast, ↓reduceIte, Nat.reduceEqDiff, Nat.reduceLT, Nat.reduceAdd]
        (repeat (refine And.intro (by first | omega | decide) ?_))
        refine ⟨[2, 4], ?_⟩
        simp (config := { maxSteps := 1000000 }) only [List.range, List.range.loop, List.nil_append, List.cons_append, push_cast, ↓reduceIte, reduceCtorEq, Nat.reduceEqDiff, Nat.reduceLT, Nat.reduceAdd]
      · show stepD _ _ _ _ _ 9 (fun s' => LeA 2 s' (ggF r 12)) (ggF r 5)
        rw [ggF_12, ggF_5]
        simp (config := { maxSteps := 1000000 }) only [push_cast, ↓reduceIte, Nat.reduceLT, Nat.reduceAdd]
        (repeat (refine And.intro (by first | omega | decide) ?_))
        refine ⟨[2, 3, 4], ?_⟩
        simp (config := { maxSteps := 1000000 }) only [List.range, List.range.loop, List.nil_append, List.cons_append, push_cast, ↓reduceIte, reduceCtorEq, Nat.reduceEqDiff, Nat.reduceLT, Nat.reduceAdd]
      · show stepD _ _ _ _ _ 11 (fun s' => LeA 2 s' (ggF r 13)) (ggF r 5)
        rw [ggF_13, ggF_5]
        simp (config := { maxSteps := 1000000 }) only [push_cast, ↓reduceIte, Nat.reduceLT, Nat.reduceAdd]
        (repeat (refine And.intro (by first | omega | decide) ?_))
        refine ⟨[2, 3, 4], ?_⟩
        simp (config := { maxSteps := 1000000 }) only [List.range, List.range.loop, List.nil_append, List.cons_append, push_cast, ↓reduceIte, reduceCtorEq, Nat.reduceEqDiff, Nat.reduceLT, Nat.reduceAdd]
    · intro q hq
      simp only [List.mem_cons, List.not_mem_nil, or_false] at hq
      rcases hq with rfl | rfl
      · show stepD _ _ _ _ _ 3 (fun s' => LeA 2 s' (ggF r 12)) (ggF r 6)
        rw [ggF_12, ggF_6]
        simp (config := { maxSteps := 1000000 }) only [push_cast, ↓reduceIte, Nat.reduceLT, Nat.reduceLeDiff, Nat.reduceAdd]
        (repeat (refine And.intro (by first | omega | decide) ?_))
        refine ⟨[2, 4, 3], ?_⟩
        simp (config := { maxSteps := 1000000 }) only [List.range, List.range.loop, List.nil_append, List.cons_append, push_cast, ↓reduceIte, reduceCtorEq, Nat.reduceEqDiff, Nat.reduceLT, Nat.reduceAdd]
      · show stepD _ _ _ _ _ 11 (fun s' => LeA 2 s' (ggF r 14)) (ggF r 6)
        rw [ggF_14, ggF_6]
        simp (config := { maxSteps := 1000000 }) only [push_cast, ↓reduceIte, Nat.reduceLT, Nat.reduceAdd]
        (repeat (refine And.intro (by first | omega | decide) ?_))
        refine ⟨[2, 3, 4], ?_⟩
        simp (config := { maxSteps := 1000000 }) only [List.range, List.range.loop, List.nil_append, List.cons_append, push_cast, ↓reduceIte, reduceCtorEq, Nat.reduceEqDiff, Nat.reduceLT, Nat.reduceAdd]
    · intro q hq
      simp only [List.mem_cons, List.not_mem_nil, or_false] at hq
      rcases hq with rfl | rfl
      · show stepD _ _ _ _ _ 3 (fun s' => LeA 2 s' (ggF r 13)) (ggF r 7)
        rw [ggF_13, ggF_7]
        simp (config := { maxSteps := 1000000 }) only [push_cast, ↓reduceIte, Nat.reduceLT, Nat.reduceLeDiff, Nat.reduceAdd]
        (repeat (refine And.intro (by first | omega | decide) ?_))
        refine ⟨[2, 4, 3], ?_⟩
        simp (config := { maxSteps := 1000000 }) only [List.range, List.range.loop, List.nil_append, List.cons_append, push_cast, ↓reduceIte, reduceCtorEq, Nat.reduceEqDiff, Nat.reduceLT, Nat.reduceAdd]
      · show stepD _ _ _ _ _ 9 (fun s' => LeA 2 s' (ggF r 14)) (ggF r 7)
        rw [ggF_14, ggF_7]
        simp (config := { maxSteps := 1000000 }) only [push_cast, ↓reduceIte, Nat.reduceLT, Nat.reduceAdd]
        (repeat (refine And.intro (by first | omega | decide) ?_))
        refine ⟨[2, 4, 3], ?_⟩
        simp (config := { maxSteps := 1000000 }) only [List.range, List.range.loop, List.nil_append, List.cons_append, push_cast, ↓reduceIte, reduceCtorEq, Nat.reduceEqDiff, Nat.reduceLT, Nat.reduceAdd]
    · intro q hq
      simp only [List.mem_cons, List.not_mem_nil, or_false] at hq
      rcases hq with rfl | rfl
      · show stepD _ _ _ _ _ 2 (fun s' => LeA 2 s' (ggF r 12)) (ggF r 8)
        rw [ggF_12, ggF_8]
        simp (config := { maxSteps := 1000000 }) only [push_cast, ↓reduceIte]
        (repeat (refine And.intro (by first | omega | decide) ?_))
        refine callD_rule rfl cb14 rfl (give32K (l := r.ps) (by omega) (showsR_raw hr.pR hr.pl) (by simp (config := { maxSteps := 1000000 }) only [push_cast, Nat.reduceAdd])) (dOk_lt rfl) (fun _ => by simp (config := { maxSteps := 1000000 }) only [push_cast, Nat.reduceLT, Nat.reduceAdd]) ?_
        refine ⟨[4, 2, 3], ?_⟩
        simp (config := { maxSteps := 1000000 }) only [List.range, List.range.loop, List.nil_append, List.cons_append, push_cast, ↓reduceIte, reduceCtorEq, Nat.reduceEqDiff, Nat.reduceLT, Nat.reduceAdd]
      · show stepD _ _ _ _ _ 11 (fun s' => LeA 2 s' (ggF r 15)) (ggF r 8)
        rw [ggF_15, ggF_8]
        simp (config := { maxSteps := 1000000 }) only [push_cast, ↓reduceIte, Nat.reduceLT, Nat.reduceAdd]
        (repeat (refine And.intro (by first | omega | decide) ?_))
        refine ⟨[2, 3, 4], ?_⟩
        simp (config := { maxSteps := 1000000 }) only [List.range, List.range.loop, List.nil_append, List.cons_append, push_cast, ↓reduceIte, reduceCtorEq, Nat.reduceEqDiff, Nat.reduceLT, Nat.reduceAdd]
    · intro q hq
      simp only [List.mem_cons, List.not_mem_nil, or_false] at hq
      rcases hq with rfl | rfl
      · show stepD _ _ _ _ _ 2 (fun s' => LeA 2 s' (ggF r 13)) (ggF r 9)
        rw [ggF_13, ggF_9]
        simp (config := { maxSteps := 1000000 }) only [push_cast, ↓reduceIte]
        (repeat (refine And.intro (by first | omega | decide) ?_))
        refine callD_rule rfl cb14 rfl (give32K (l := r.ps) (by omega) (showsR_raw hr.pR hr.pl) (by simp (config := { maxSteps := 1000000 }) only [push_cast, Nat.reduceAdd])) (dOk_lt rfl) (fun _ => by simp (config := { maxSteps := 1000000 }) only [push_cast, Nat.reduceLT, Nat.reduceAdd]) ?_
        refine ⟨[4, 2, 3], ?_⟩
        simp (config := { maxSteps := 1000000 }) only [List.range, List.range.loop, List.nil_append, List.cons_append, push_cast, ↓reduceIte, reduceCtorEq, Nat.reduceEqDiff, Nat.reduceLT, Nat.reduceAdd]
      · show stepD _ _ _ _ _ 9 (fun s' => LeA 2 s' (ggF r 15)) (ggF r 9)
        rw [ggF_15, ggF_9]
        simp (config := { maxSteps := 1000000 }) only [push_cast, ↓reduceIte, Nat.reduceLT, Nat.reduceAdd]
        (repeat (refine And.intro (by first | omega | decide) ?_))
        refine ⟨[2, 4, 3], ?_⟩
        simp (config := { maxSteps := 1000000 }) only [List.range, List.range.loop, List.nil_append, List.cons_append, push_cast, ↓reduceIte, reduceCtorEq, Nat.reduceEqDiff, Nat.reduceLT, Nat.reduceAdd]
    · intro q hq
      simp only [List.mem_cons, List.not_mem_nil, or_false] at hq
      rcases hq with rfl | rfl
      · show stepD _ _ _ _ _ 2 (fun s' => LeA 2 s' (ggF r 14)) (ggF r 10)
        rw [ggF_14, ggF_10]
        simp (config := { maxSteps := 1000000 }) only [push_cast, ↓reduceIte]
        (repeat (refine And.intro (by first | omega | decide) ?_))
        refine callD_rule rfl cb14 rfl (give32K (l := r.ps) (by omega) (showsR_raw hr.pR hr.pl) (by simp (config := { maxSteps := 1000000 }) only [push_cast, Nat.reduceAdd])) (dOk_lt rfl) (fun _ => by simp (config := { maxSteps := 1000000 }) only [push_cast, Nat.reduceLT, Nat.reduceAdd]) ?_
        refine ⟨[4, 2, 3], ?_⟩
        simp (config := { maxSteps := 1000000 }) only [List.range, List.range.loop, List.nil_append, List.cons_append, push_cast, ↓reduceIte, reduceCtorEq, Nat.reduceEqDiff, Nat.reduceLT, Nat.reduceAdd]
      · show stepD _ _ _ _ _ 3 (fun s' => LeA 2 s' (ggF r 15)) (ggF r 10)
        rw [ggF_15, ggF_10]
        simp (config := { maxSteps := 1000000 }) only [push_cast, ↓reduceIte, Nat.reduceLT, Nat.reduceLeDiff, Nat.reduceAdd]
        (repeat (refine And.intro (by first | omega | decide) ?_))
        refine ⟨[4, 2, 3], ?_⟩
        simp (config := { maxSteps := 1000000 }) only [List.range, List.range.loop, List.nil_append, List.cons_append, push_cast, ↓reduceIte, reduceCtorEq, Nat.reduceEqDiff, Nat.reduceLT, Nat.reduceAdd]
    · intro q hq
      simp only [List.mem_cons, List.not_mem_nil, or_false] at hq
      rcases hq with rfl | rfl
      · show stepD _ _ _ _ _ 9 (fun s' => LeA 2 s' (ggF r 16)) (ggF r 11)
        rw [ggF_16, ggF_11]
        simp (config := { maxSteps := 1000000 }) only [push_cast, ↓reduceIte, Nat.reduceLT, Nat.reduceAdd]
        (repeat (refine And.intro (by first | omega | decide) ?_))
        refine ⟨[2, 3, 4], ?_⟩
        simp (config := { maxSteps := 1000000 }) only [List.range, List.range.loop, List.nil_append, List.cons_append, push_cast, ↓reduceIte, reduceCtorEq, Nat.reduceEqDiff, Nat.reduceLT, Nat.reduceAdd]
      · show stepD _ _ _ _ _ 11 (fun s' => LeA 2 s' (ggF r 17)) (ggF r 11)
        rw [ggF_17, ggF_11]
        simp (config := { maxSteps := 1000000 }) only [push_cast, ↓reduceIte, Nat.reduceLT, Nat.reduceAdd]
        (repeat (refine And.intro (by first | omega | decide) ?_))
        refine ⟨[2, 3, 4], ?_⟩
        simp (config := { maxSteps := 1000000 }) only [List.range, List.range.loop, List.nil_append, List.cons_append, push_cast, ↓reduceIte, reduceCtorEq, Nat.reduceEqDiff, Nat.reduceLT, Nat.reduceAdd]
    · intro q hq
      simp only [List.mem_cons, List.not_mem_nil, or_false] at hq
      rcases hq with rfl | rfl
      · show stepD _ _ _ _ _ 6 (fun s' => LeA 2 s' (ggF r 16)) (ggF r 12)
        rw [ggF_16, ggF_12]
        simp (config := { maxSteps := 1000000 }) only [e1, k1, b1, b2, push_cast, ↓reduceIte, Nat.reduceEqDiff, Nat.reduceLT, Nat.reduceAdd]
        (repeat (refine And.intro (by first | omega | decide) ?_))
        refine ⟨[2, 5, 4], ?_⟩
        simp (config := { maxSteps := 1000000 }) only [List.range, List.range.loop, List.nil_append, List.cons_append, push_cast, ↓reduceIte, reduceCtorEq, Nat.reduceEqDiff, Nat.reduceLT, Nat.reduceAdd]
      · show stepD _ _ _ _ _ 11 (fun s' => LeA 2 s' (ggF r 18)) (ggF r 12)
        rw [ggF_18, ggF_12]
        simp (config := { maxSteps := 1000000 }) only [push_cast, ↓reduceIte, Nat.reduceLT, Nat.reduceAdd]
        (repeat (refine And.intro (by first | omega | decide) ?_))
        refine ⟨[2, 3, 4, 5], ?_⟩
        simp (config := { maxSteps := 1000000 }) only [List.range, List.range.loop, List.nil_append, List.cons_append, push_cast, ↓reduceIte, reduceCtorEq, Nat.reduceEqDiff, Nat.reduceLT, Nat.reduceAdd]
    · intro q hq
      simp only [List.mem_cons, List.not_mem_nil, or_false] at hq
      rcases hq with rfl | rfl
      · show stepD _ _ _ _ _ 6 (fun s' => LeA 2 s' (ggF r 17)) (ggF r 13)
        rw [ggF_17, ggF_13]
        simp (config := { maxSteps := 1000000 }) only [e1, k1, b1, b2, push_cast, ↓reduceIte, Nat.reduceEqDiff, Nat.reduceLT, Nat.reduceAdd]
        (repeat (refine And.intro (by first | omega | decide) ?_))
        refine ⟨[2, 5, 4], ?_⟩
        simp (config := { maxSteps := 1000000 }) only [List.range, List.range.loop, List.nil_append, List.cons_append, push_cast, ↓reduceIte, reduceCtorEq, Nat.reduceEqDiff, Nat.reduceLT, Nat.reduceAdd]
      · show stepD _ _ _ _ _ 9 (fun s' => LeA 2 s' (ggF r 18)) (ggF r 13)
        rw [ggF_18, ggF_13]
        simp (config := { maxSteps := 1000000 }) only [push_cast, ↓reduceIte, Nat.reduceLT, Nat.reduceAdd]
        (repeat (refine And.intro (by first | omega | decide) ?_))
        refine ⟨[2, 3, 5, 4], ?_⟩
        simp (config := { maxSteps := 1000000 }) only [List.range, List.range.loop, List.nil_append, List.cons_append, push_cast, ↓reduceIte, reduceCtorEq, Nat.reduceEqDiff, Nat.reduceLT, Nat.reduceAdd]
    · intro q hq
      simp only [List.mem_cons, List.not_mem_nil, or_false] at hq
      rcases hq with rfl
      · show stepD _ _ _ _ _ 3 (fun s' => LeA 2 s' (ggF r 18)) (ggF r 14)
        rw [ggF_18, ggF_14]
        simp (config := { maxSteps := 1000000 }) only [push_cast, ↓reduceIte, Nat.reduceLT, Nat.reduceLeDiff, Nat.reduceAdd]
        (repeat (refine And.intro (by first | omega | decide) ?_))
        refine ⟨[2, 5, 3, 4], ?_⟩
        simp (config := { maxSteps := 1000000 }) only [List.range, List.range.loop, List.nil_append, List.cons_append, push_cast, ↓reduceIte, reduceCtorEq, Nat.reduceEqDiff, Nat.reduceLT, Nat.reduceAdd]
    · intro q hq
      simp only [List.mem_cons, List.not_mem_nil, or_false] at hq
      rcases hq with rfl
      · show stepD _ _ _ _ _ 2 (fun s' => LeA 2 s' (ggF r 18)) (ggF r 15)
        rw [ggF_18, ggF_15]
        simp (config := { maxSteps := 1000000 }) only [push_cast, ↓reduceIte]
        (repeat (refine And.intro (by first | omega | decide) ?_))
        refine callD_rule rfl cb14 rfl (give32K (l := r.ps) (by omega) (showsR_raw hr.pR hr.pl) (by simp (config := { maxSteps := 1000000 }) only [push_cast, Nat.reduceAdd])) (dOk_lt rfl) (fun _ => by simp (config := { maxSteps := 1000000 }) only [push_cast, Nat.reduceLT, Nat.reduceAdd]) ?_
        refine ⟨[5, 2, 3, 4], ?_⟩
        simp (config := { maxSteps := 1000000 }) only [List.range, List.range.loop, List.nil_append, List.cons_append, push_cast, ↓reduceIte, reduceCtorEq, Nat.reduceEqDiff, Nat.reduceLT, Nat.reduceAdd]
    · intro q hq
      simp only [List.mem_cons, List.not_mem_nil, or_false] at hq
      rcases hq with rfl | rfl
      · show stepD _ _ _ _ _ 10 (fun s' => LeA 2 s' (ggF r 19)) (ggF r 16)
        rw [ggF_19, ggF_16]
        simp (config := { maxSteps := 1000000 }) only [push_cast, ↓reduceIte, reduceCtorEq, Nat.reduceEqDiff, Nat.reduceLT, Nat.reduceAdd]
        (repeat (refine And.intro (by first | omega | decide) ?_))
        refine ⟨[2, 3, 4], ?_⟩
        simp (config := { maxSteps := 1000000 }) only [List.range, List.range.loop, List.nil_append, List.cons_append, push_cast, ↓reduceIte, reduceCtorEq, Nat.reduceEqDiff, Nat.reduceLT, Nat.reduceAdd]
      · show stepD _ _ _ _ _ 11 (fun s' => LeA 2 s' (ggF r 20)) (ggF r 16)
        rw [ggF_20, ggF_16]
        simp (config := { maxSteps := 1000000 }) only [push_cast, ↓reduceIte, Nat.reduceLT, Nat.reduceAdd]
        (repeat (refine And.intro (by first | omega | decide) ?_))
        refine ⟨[2, 3, 4, 5], ?_⟩
        simp (config := { maxSteps := 1000000 }) only [List.range, List.range.loop, List.nil_append, List.cons_append, push_cast, ↓reduceIte, reduceCtorEq, Nat.reduceEqDiff, Nat.reduceLT, Nat.reduceAdd]
    · intro q hq
      simp only [List.mem_cons, List.not_mem_nil, or_false] at hq
      rcases hq with rfl
      · show stepD _ _ _ _ _ 9 (fun s' => LeA 2 s' (ggF r 20)) (ggF r 17)
        rw [ggF_20, ggF_17]
        simp (config := { maxSteps := 1000000 }) only [push_cast, ↓reduceIte, Nat.reduceLT, Nat.reduceAdd]
        (repeat (refine And.intro (by first | omega | decide) ?_))
        refine ⟨[2, 3, 5, 4], ?_⟩
        simp (config := { maxSteps := 1000000 }) only [List.range, List.range.loop, List.nil_append, List.cons_append, push_cast, ↓reduceIte, reduceCtorEq, Nat.reduceEqDiff, Nat.reduceLT, Nat.reduceAdd]
    · intro q hq
      simp only [List.mem_cons, List.not_mem_nil, or_false] at hq
      rcases hq with rfl
      · show stepD _ _ _ _ _ 6 (fun s' => LeA 2 s' (ggF r 20)) (ggF r 18)
        rw [ggF_20, ggF_18]
        simp (config := { maxSteps := 1000000 }) only [e1, k1, b1, b2, push_cast, ↓reduceIte, Nat.reduceEqDiff, Nat.reduceLT, Nat.reduceAdd]
        (repeat (refine And.intro (by first | omega | decide) ?_))
        refine ⟨[2, 6, 4, 5], ?_⟩
        simp (config := { maxSteps := 1000000 }) only [List.range, List.range.loop, List.nil_append, List.cons_append, push_cast, ↓reduceIte, reduceCtorEq, Nat.reduceEqDiff, Nat.reduceLT, Nat.reduceAdd]
    · intro q hq
      simp only [List.mem_cons, List.not_mem_nil, or_false] at hq
      rcases hq with rfl
      · show stepD _ _ _ _ _ 11 (fun s' => LeA 2 s' (ggF r 21)) (ggF r 19)
        rw [ggF_21, ggF_19]
        simp (config := { maxSteps := 1000000 }) only [push_cast, ↓reduceIte, Nat.reduceLT, Nat.reduceAdd]
        (repeat (refine And.intro (by first | omega | decide) ?_))
        refine ⟨[2, 3, 4, 5], ?_⟩
        simp (config := { maxSteps := 1000000 }) only [List.range, List.range.loop, List.nil_append, List.cons_append, push_cast, ↓reduceIte, reduceCtorEq, Nat.reduceEqDiff, Nat.reduceLT, Nat.reduceAdd]
    · intro q hq
      simp only [List.mem_cons, List.not_mem_nil, or_false] at hq
      rcases hq with rfl
      · show stepD _ _ _ _ _ 10 (fun s' => LeA 2 s' (ggF r 21)) (ggF r 20)
        rw [ggF_21, ggF_20]
        simp (config := { maxSteps := 1000000 }) only [push_cast, ↓reduceIte, reduceCtorEq, Nat.reduceEqDiff, Nat.reduceLT, Nat.reduceAdd]
        (repeat (refine And.intro (by first | omega | decide) ?_))
        refine ⟨[2, 3, 4, 5], ?_⟩
        simp (config := { maxSteps := 1000000 }) only [List.range, List.range.loop, List.nil_append, List.cons_append, push_cast, ↓reduceIte, reduceCtorEq, Nat.reduceEqDiff, Nat.reduceLT, Nat.reduceAdd]
    · intro q hq
      cases hq
  · rw [ggF_21]
    simp (config := { maxSteps := 1000000 }) only [push_cast]
    refine leads_le [0, 1, 2, 3, 4, 5] ?_
    simp (config := { maxSteps := 1000000 }) only [push_cast, ↓reduceIte, reduceCtorEq, Nat.reduceEqDiff, Nat.reduceLT, Nat.reduceAdd]
  simp (config := { maxSteps := 1000000 }) only [undef, push_cast, ↓reduceIte, Nat.reduceEqDiff, Nat.reduceLT, Nat.reduceAdd]
  (repeat (refine And.intro (by first | omega | decide) ?_))
  refine loop_fct (by simp (config := { maxSteps := 1000000 }) only [push_cast, Nat.reduceLT, Nat.reduceAdd]) ?_
  refine loop_absorbN 2 6 r.ps.length rfl (vs := pvs r.ps) (fun γ => pcs_val γ _) (pvs_len _) rfl (by decide) ?_
  intro A1 cap1
  simp (config := { maxSteps := 1000000 }) only [push_cast, ↓reduceIte, Nat.reduceEqDiff]
  refine loop_absorb 3 6 rfl (vs := r.cm.map vI64) (fun _ => rfl) rfl (by decide) ?_
  intro A2 cap2 _ _
  simp (config := { maxSteps := 1000000 }) only [push_cast, ↓reduceIte, Nat.reduceEqDiff]
  refine loop_rule (ι := Nat × List GvE × List Fct) (fun x => ⟨[(1, .x (.a (.p 0 0))), (2, .x (.a (.p 1 0))), (3, .x (.a (.p 2 0))), (4, .x (.a (.v (.int .i64 x.1))))], [.blk 36 (.c [.v (.slice r.pA r.ps.length r.pc), .v (.slice r.cA r.cm.length r.cc), .v (.int .i64 r.nd), .v (.slice r.gA r.gs.length r.gc)]), .blk 31 (.c [.v (.slice none 0 0), .v (.slice none 0 0), .v (.int .i64 0), .v (.map none)]), .blk 31 (.c [.v (.slice A1 r.ps.length cap1), .v (.slice A2 r.cm.length cap2), .v (.int .i64 r.nd), .o 3]), .mp .i64 (mclE x.2.1), .abs (fctRep x.2.2)]⟩)
    (fun x => x.1 ≤ r.gs.length ∧ (x.2.1.map GvE.id).Nodup ∧ x.2.1.length ≤ x.1 ∧ (∀ e ∈ x.2.1, (⟨e.val, e.l.length, e.l.map vU64⟩ : Fct) ∈ x.2.2 ∧ e.l.length ≤ 40) ∧ (⟨.slice A1 r.ps.length cap1, r.ps.length, pvs r.ps⟩ : Fct) ∈ x.2.2 ∧ (⟨.slice A2 r.cm.length cap2, r.cm.length, r.cm.map vI64⟩ : Fct) ∈ x.2.2) (fun x => r.gs.length - x.1)
    (0, [], [⟨.slice A1 r.ps.length cap1, r.ps.length, pvs r.ps⟩, ⟨.slice A2 r.cm.length cap2, r.cm.length, r.cm.map vI64⟩]) [0, 1, 5, 4, 6] ⟨Nat.zero_le _, List.nodup_nil, Nat.zero_le _, (fun e h => by cases h), by simp, by simp⟩ ?_ ?_
  · have e0 : mclE [] = [] := by unfold mclE; rfl
    simp (config := { maxSteps := 1000000 }) only [e0, push_cast, ↓Int.cast_ofNat_Int, Int.cast_ofNat_Int, ↓reduceIte, reduceCtorEq, Nat.reduceEqDiff, Nat.reduceLT, Nat.reduceAdd]
  rintro ⟨i, L, Fs⟩ ⟨hi, hnd, hlen, hL, hp1, hp2⟩
  dsimp only at hi hnd hlen hL hp1 hp2 ⊢
  by_cases hlt : (i : Int) < r.gs.length
  · have hi' : i < r.gs.length := by omega
    have i0 : (0 : Int) ≤ i := by omega
    have c0 := F.c0 i hi'
    have c1 := F.c1 i hi'
    have o0 := F.o0 i hi'
    have o1 := F.o1 i hi'
    have hA := F.some_ (by omega)
    have f5 := f4 _ (ix_memG hi')
    obtain ⟨e2, k2⟩ := rd64_of (FV.no (hr.e _ (ix_memG hi')).2)
    obtain ⟨e, he⟩ : ∃ e, e = ix r.gs i := ⟨_, rfl⟩
    rw [← he] at c0 c1 f5 e2 k2
    have b3 : e.l.length * 8 ≤ 140737488355328 := by omega
    have b4 : e.l.length ≤ 2 ^ 63 - 1 := by omega
    simp (config := { maxSteps := 1000000 }) only [hlt, undef, push_cast, ↓reduceIte, reduceCtorEq, Nat.reduceEqDiff, Nat.reduceLT, Nat.reduceAdd]
    (repeat (refine And.intro (by first | omega | decide) ?_))
    have bL := fun n => mclE_bnd n L
    have rL := fun ρ => mclE_ren ρ L
    refine drawVT_rule 5 [] 16 (.rd 0 (.rd 1 (.rd 2 (.rd 3 (.rd 4 (.rd 5 (.rd 6 (.rd 7 (.rd 9 (.rd 10 (.rd 11 (.rd 12 (.rd 13 (.rd 14 (.wr 8 (.wr 15 .nil)))))))))))))))) ⟨[(1, .x (.a (.p 0 0))), (2, .x (.a (.p 1 0))), (3, .x (.a (.p 2 0))), (4, .x (.a (.v (.int .i64 i)))), (24, .x (.a (.o 3))), (30, .x (.a (.v (.int .i64 e.id)))), (38, .x (.a (.o 5)))], [.blk 36 (.c [.v (.slice r.pA r.ps.length r.pc), .v (.slice r.cA r.cm.length r.cc), .v (.int .i64 r.nd), .v (.slice r.gA r.gs.length r.gc)]), .blk 31 (.c [.v (.slice none 0 0), .v (.slice none 0 0), .v (.int .i64 0), .v (.map none)]), .blk 31 (.c [.v (.slice A1 r.ps.length cap1), .v (.slice A2 r.cm.length cap2), .v (.int .i64 r.nd), .o 3]), .mp .i64 (mclE L), .abs (fctRep Fs), .own 51 (.u64 e.l)]⟩ (by kernel_rfl) (by kernel_rfl) (by show 5 ≤ 5; omega) ?_ ?_
    · simp (config := { maxSteps := 1000000 }) only [hlt, i0, c0, c1, o0, o1, hA, bL, e2, k2, b3, b4, pAdd_zero, pAdd_add, pAdd_isSome, undef, push_cast, ↓Int.toNat_natCast, ↓reduceIte, reduceCtorEq, Nat.reduceEqDiff, Nat.reduceLT, Nat.reduceLeDiff, Nat.reduceAdd, Nat.reduceSub]
      (repeat (refine And.intro (by first | omega | decide) ?_))
      refine leads_le [0, 1, 2, 3, 4, 6] ?_
      simp (config := { maxSteps := 1000000 }) only [bL, rL, push_cast, ↓reduceIte, reduceCtorEq, Nat.reduceEqDiff, Nat.reduceLT, Nat.reduceAdd]
    simp (config := { maxSteps := 1000000 }) only [undef, push_cast, ↓reduceIte, Nat.reduceEqDiff, Nat.reduceLT, Nat.reduceAdd, Int.reduceNeg]
    (repeat (refine And.intro (by first | omega | decide) ?_))
    have sL := fun j v => mclE_sub j v L
    refine loopK_absorb 5 4 rfl (vs := e.l.map vU64) (fun _ => rfl) rfl (by decide) ?_
    intro A3 cap3 _ _
    have put : putI (mclE L) e.id (.a (.v (.slice A3 e.l.length cap3))) = mclE (putE L ⟨e.id, A3, cap3, e.l⟩) := mclE_put L ⟨e.id, A3, cap3, e.l⟩
    simp (config := { maxSteps := 1000000 }) only [mpSub_putI, sL, List.length_map, put, push_cast, ↓reduceIte, Nat.reduceEqDiff]
    have pl := putE_len L ⟨e.id, A3, cap3, e.l⟩
    refine loopK_normal (i + 1, putE L ⟨e.id, A3, cap3, e.l⟩, Fs ++ [⟨.slice A3 e.l.length cap3, e.l.length, e.l.map vU64⟩]) [0, 1, 2, 3, 4] ⟨by show i + 1 ≤ _; omega, putE_nodup hnd, by show (putE L _).length ≤ i + 1; omega, fun x hx => ?_, List.mem_append_left _ hp1, List.mem_append_left _ hp2⟩ (by show r.gs.length - (i + 1) < r.gs.length - i; omega) ?_
    · rcases putE_mem hx with rfl | hx
      · exact ⟨List.mem_append_right _ (List.mem_singleton.2 rfl), by show e.l.length ≤ 40; omega⟩
      · exact ⟨List.mem_append_left _ (hL x hx).1, (hL x hx).2⟩
    have bP := fun n => mclE_bnd n (putE L ⟨e.id, A3, cap3, e.l⟩)
    have rP := fun ρ => mclE_ren ρ (putE L ⟨e.id, A3, cap3, e.l⟩)
    simp (config := { maxSteps := 1000000 }) only [bP, rP, push_cast, ↓reduceIte, reduceCtorEq, Nat.reduceEqDiff, Nat.reduceLT, Nat.reduceAdd]
  · simp (config := { maxSteps := 1000000 }) only [hlt, undef, push_cast, ↓reduceIte, reduceCtorEq, Nat.reduceEqDiff, Nat.reduceLT, Nat.reduceAdd]
    (repeat (refine And.intro (by first | omega | decide) ?_))
    refine ⟨(⟨A1, cap1, r.ps, A2, cap2, r.cm, r.nd, none, L⟩, Fs), ⟨hp1, hp2, fun e he => (hL e he).1, hnd, by show r.ps.length ≤ 1000; omega, by show r.cm.length ≤ 1000; omega, by show L.length ≤ 1000; omega, fun e he => by have := (hL e he).2; omega⟩, endsAs [3, 4] ?_⟩
    have bL := fun n => mclE_bnd n L
    have rL := fun ρ => mclE_ren ρ L
    simp (config := { maxSteps := 1000000 }) only [bL, rL, push_cast, ↓reduceIte, Nat.reduceEqDiff, Nat.reduceLT, Nat.reduceAdd]
end Go.Proofs.YtombphphaoeeiaaGreatDoor
