import Derived.Test.YtiaeollemmkclaaDoorMgD
/- Law 16's giveMsg. -/
namespace Go.Proofs.YtiaeollemmkclaaDoor
open Go.RowKit
set_option linter.unusedSimpArgs false
set_option linter.unusedVariables false
/-- giveMsg's one region: how it stands, by what is done. -/
def gvF (m : MgR) : Nat → S
  | 0 => ⟨[(2, .x (.a (.p 1 0))), (4, .x (.a (.v (vU8 m.k)))), (6, .x (.a (.v (.int .i64 m.pl)))), (8, .x (.a (.v (.int .i64 m.ot)))), (10, .x (.a (.v (.int .i64 m.cl)))), (12, .x (.a (.v (.int .i64 m.ge)))), (14, .x (.a (.v (vU64 m.nu)))), (16, .x (.a8 m.sm)), (19, .x (.a (.v m.ids.val))), (23, .x (.a (.v m.ns.val))), (26, .x (.a (.v m.ps.val))), (30, .x (.a (.v m.xs.val))), (33, .x (.a (.v (.int .i64 m.re))))], [.blk 83 (.c (mgA m)), .blk 89 (.c (mgA zeroR))]⟩
  | 1 => ⟨[(2, .x (.a (.p 1 0))), (4, .x (.a (.v (vU8 m.k)))), (6, .x (.a (.v (.int .i64 m.pl)))), (8, .x (.a (.v (.int .i64 m.ot)))), (10, .x (.a (.v (.int .i64 m.cl)))), (12, .x (.a (.v (.int .i64 m.ge)))), (14, .x (.a (.v (vU64 m.nu)))), (16, .x (.a8 m.sm)), (19, .x (.a (.v m.ids.val))), (23, .x (.a (.v m.ns.val))), (26, .x (.a (.v m.ps.val))), (30, .x (.a (.v m.xs.val))), (33, .x (.a (.v (.int .i64 m.re)))), (17, .x (.a (.s 2 0 0 0)))], [.blk 83 (.c (mgA m)), .blk 89 (.c (mgA zeroR)), .blk 3 (.i64 [])]⟩
  | 2 => ⟨[(2, .x (.a (.p 1 0))), (4, .x (.a (.v (vU8 m.k)))), (6, .x (.a (.v (.int .i64 m.pl)))), (8, .x (.a (.v (.int .i64 m.ot)))), (10, .x (.a (.v (.int .i64 m.cl)))), (12, .x (.a (.v (.int .i64 m.ge)))), (14, .x (.a (.v (vU64 m.nu)))), (16, .x (.a8 m.sm)), (19, .x (.a (.v m.ids.val))), (23, .x (.a (.v m.ns.val))), (26, .x (.a (.v m.ps.val))), (30, .x (.a (.v m.xs.val))), (33, .x (.a (.v (.int .i64 m.re)))), (21, .x (.a (.s 2 0 0 0)))], [.blk 83 (.c (mgA m)), .blk 89 (.c (mgA zeroR)), .blk 27 (.u64 [])]⟩
  | 3 => ⟨[(2, .x (.a (.p 1 0))), (4, .x (.a (.v (vU8 m.k)))), (6, .x (.a (.v (.int .i64 m.pl)))), (8, .x (.a (.v (.int .i64 m.ot)))), (10, .x (.a (.v (.int .i64 m.cl)))), (12, .x (.a (.v (.int .i64 m.ge)))), (14, .x (.a (.v (vU64 m.nu)))), (16, .x (.a8 m.sm)), (19, .x (.a (.v m.ids.val))), (23, .x (.a (.v m.ns.val))), (26, .x (.a (.v m.ps.val))), (30, .x (.a (.v m.xs.val))), (33, .x (.a (.v (.int .i64 m.re)))), (28, .x (.a (.s 2 0 0 0)))], [.blk 83 (.c (mgA m)), .blk 89 (.c (mgA zeroR)), .blk 136 (.u32 [])]⟩
  | 4 => ⟨[(2, .x (.a (.p 1 0))), (4, .x (.a (.v (vU8 m.k)))), (6, .x (.a (.v (.int .i64 m.pl)))), (8, .x (.a (.v (.int .i64 m.ot)))), (10, .x (.a (.v (.int .i64 m.cl)))), (12, .x (.a (.v (.int .i64 m.ge)))), (14, .x (.a (.v (vU64 m.nu)))), (16, .x (.a8 m.sm)), (19, .x (.a (.v m.ids.val))), (23, .x (.a (.v m.ns.val))), (26, .x (.a (.v m.ps.val))), (30, .x (.a (.v m.xs.val))), (33, .x (.a (.v (.int .i64 m.re)))), (20, .x (.a (.o 2)))], [.blk 83 (.c (mgA m)), .blk 89 (.c (mgA zeroR)), .own 3 (.i64 m.ids.l)]⟩
  | 5 => ⟨[(2, .x (.a (.p 1 0))), (4, .x (.a (.v (vU8 m.k)))), (6, .x (.a (.v (.int .i64 m.pl)))), (8, .x (.a (.v (.int .i64 m.ot)))), (10, .x (.a (.v (.int .i64 m.cl)))), (12, .x (.a (.v (.int .i64 m.ge)))), (14, .x (.a (.v (vU64 m.nu)))), (16, .x (.a8 m.sm)), (19, .x (.a (.v m.ids.val))), (23, .x (.a (.v m.ns.val))), (26, .x (.a (.v m.ps.val))), (30, .x (.a (.v m.xs.val))), (33, .x (.a (.v (.int .i64 m.re)))), (17, .x (.a (.s 2 0 0 0))), (21, .x (.a (.s 3 0 0 0)))], [.blk 83 (.c (mgA m)), .blk 89 (.c (mgA zeroR)), .blk 3 (.i64 []), .blk 27 (.u64 [])]⟩
  | 6 => ⟨[(2, .x (.a (.p 1 0))), (4, .x (.a (.v (vU8 m.k)))), (6, .x (.a (.v (.int .i64 m.pl)))), (8, .x (.a (.v (.int .i64 m.ot)))), (10, .x (.a (.v (.int .i64 m.cl)))), (12, .x (.a (.v (.int .i64 m.ge)))), (14, .x (.a (.v (vU64 m.nu)))), (16, .x (.a8 m.sm)), (19, .x (.a (.v m.ids.val))), (23, .x (.a (.v m.ns.val))), (26, .x (.a (.v m.ps.val))), (30, .x (.a (.v m.xs.val))), (33, .x (.a (.v (.int .i64 m.re)))), (17, .x (.a (.s 2 0 0 0))), (28, .x (.a (.s 3 0 0 0)))], [.blk 83 (.c (mgA m)), .blk 89 (.c (mgA zeroR)), .blk 3 (.i64 []), .blk 136 (.u32 [])]⟩
  | 7 => ⟨[(2, .x (.a (.p 1 0))), (4, .x (.a (.v (vU8 m.k)))), (6, .x (.a (.v (.int .i64 m.pl)))), (8, .x (.a (.v (.int .i64 m.ot)))), (10, .x (.a (.v (.int .i64 m.cl)))), (12, .x (.a (.v (.int .i64 m.ge)))), (14, .x (.a (.v (vU64 m.nu)))), (16, .x (.a8 m.sm)), (19, .x (.a (.v m.ids.val))), (23, .x (.a (.v m.ns.val))), (26, .x (.a (.v m.ps.val))), (30, .x (.a (.v m.xs.val))), (33, .x (.a (.v (.int .i64 m.re)))), (21, .x (.a (.s 2 0 0 0))), (28, .x (.a (.s 3 0 0 0)))], [.blk 83 (.c (mgA m)), .blk 89 (.c (mgA zeroR)), .blk 27 (.u64 []), .blk 136 (.u32 [])]⟩
  | 8 => ⟨[(2, .x (.a (.p 1 0))), (4, .x (.a (.v (vU8 m.k)))), (6, .x (.a (.v (.int .i64 m.pl)))), (8, .x (.a (.v (.int .i64 m.ot)))), (10, .x (.a (.v (.int .i64 m.cl)))), (12, .x (.a (.v (.int .i64 m.ge)))), (14, .x (.a (.v (vU64 m.nu)))), (16, .x (.a8 m.sm)), (19, .x (.a (.v m.ids.val))), (23, .x (.a (.v m.ns.val))), (26, .x (.a (.v m.ps.val))), (30, .x (.a (.v m.xs.val))), (33, .x (.a (.v (.int .i64 m.re)))), (20, .x (.a (.o 2))), (21, .x (.a (.s 3 0 0 0)))], [.blk 83 (.c (mgA m)), .blk 89 (.c (mgA zeroR)), .own 3 (.i64 m.ids.l), .blk 27 (.u64 [])]⟩
  | 9 => ⟨[(2, .x (.a (.p 1 0))), (4, .x (.a (.v (vU8 m.k)))), (6, .x (.a (.v (.int .i64 m.pl)))), (8, .x (.a (.v (.int .i64 m.ot)))), (10, .x (.a (.v (.int .i64 m.cl)))), (12, .x (.a (.v (.int .i64 m.ge)))), (14, .x (.a (.v (vU64 m.nu)))), (16, .x (.a8 m.sm)), (19, .x (.a (.v m.ids.val))), (23, .x (.a (.v m.ns.val))), (26, .x (.a (.v m.ps.val))), (30, .x (.a (.v m.xs.val))), (33, .x (.a (.v (.int .i64 m.re)))), (20, .x (.a (.o 2))), (28, .x (.a (.s 3 0 0 0)))], [.blk 83 (.c (mgA m)), .blk 89 (.c (mgA zeroR)), .own 3 (.i64 m.ids.l), .blk 136 (.u32 [])]⟩
  | 10 => ⟨[(2, .x (.a (.p 1 0))), (4, .x (.a (.v (vU8 m.k)))), (6, .x (.a (.v (.int .i64 m.pl)))), (8, .x (.a (.v (.int .i64 m.ot)))), (10, .x (.a (.v (.int .i64 m.cl)))), (12, .x (.a (.v (.int .i64 m.ge)))), (14, .x (.a (.v (vU64 m.nu)))), (16, .x (.a8 m.sm)), (19, .x (.a (.v m.ids.val))), (23, .x (.a (.v m.ns.val))), (26, .x (.a (.v m.ps.val))), (30, .x (.a (.v m.xs.val))), (33, .x (.a (.v (.int .i64 m.re)))), (17, .x (.a (.s 2 0 0 0))), (21, .x (.a (.s 3 0 0 0))), (28, .x (.a (.s 4 0 0 0)))], [.blk 83 (.c (mgA m)), .blk 89 (.c (mgA zeroR)), .blk 3 (.i64 []), .blk 27 (.u64 []), .blk 136 (.u32 [])]⟩
  | 11 => ⟨[(2, .x (.a (.p 1 0))), (4, .x (.a (.v (vU8 m.k)))), (6, .x (.a (.v (.int .i64 m.pl)))), (8, .x (.a (.v (.int .i64 m.ot)))), (10, .x (.a (.v (.int .i64 m.cl)))), (12, .x (.a (.v (.int .i64 m.ge)))), (14, .x (.a (.v (vU64 m.nu)))), (16, .x (.a8 m.sm)), (19, .x (.a (.v m.ids.val))), (23, .x (.a (.v m.ns.val))), (26, .x (.a (.v m.ps.val))), (30, .x (.a (.v m.xs.val))), (33, .x (.a (.v (.int .i64 m.re)))), (20, .x (.a (.o 2))), (24, .x (.a (.o 3)))], [.blk 83 (.c (mgA m)), .blk 89 (.c (mgA zeroR)), .own 3 (.i64 m.ids.l), .own 27 (.u64 m.ns.l)]⟩
  | 12 => ⟨[(2, .x (.a (.p 1 0))), (4, .x (.a (.v (vU8 m.k)))), (6, .x (.a (.v (.int .i64 m.pl)))), (8, .x (.a (.v (.int .i64 m.ot)))), (10, .x (.a (.v (.int .i64 m.cl)))), (12, .x (.a (.v (.int .i64 m.ge)))), (14, .x (.a (.v (vU64 m.nu)))), (16, .x (.a8 m.sm)), (19, .x (.a (.v m.ids.val))), (23, .x (.a (.v m.ns.val))), (26, .x (.a (.v m.ps.val))), (30, .x (.a (.v m.xs.val))), (33, .x (.a (.v (.int .i64 m.re)))), (20, .x (.a (.o 2))), (21, .x (.a (.s 3 0 0 0))), (28, .x (.a (.s 4 0 0 0)))], [.blk 83 (.c (mgA m)), .blk 89 (.c (mgA zeroR)), .own 3 (.i64 m.ids.l), .blk 27 (.u64 []), .blk 136 (.u32 [])]⟩
  | 13 => ⟨[(2, .x (.a (.p 1 0))), (4, .x (.a (.v (vU8 m.k)))), (6, .x (.a (.v (.int .i64 m.pl)))), (8, .x (.a (.v (.int .i64 m.ot)))), (10, .x (.a (.v (.int .i64 m.cl)))), (12, .x (.a (.v (.int .i64 m.ge)))), (14, .x (.a (.v (vU64 m.nu)))), (16, .x (.a8 m.sm)), (19, .x (.a (.v m.ids.val))), (23, .x (.a (.v m.ns.val))), (26, .x (.a (.v m.ps.val))), (30, .x (.a (.v m.xs.val))), (33, .x (.a (.v (.int .i64 m.re)))), (20, .x (.a (.o 2))), (24, .x (.a (.o 3))), (27, .x (.a (.o 4)))], [.blk 83 (.c (mgA m)), .blk 89 (.c (mgA zeroR)), .own 3 (.i64 m.ids.l), .own 27 (.u64 m.ns.l), .onn 160 2 (.c (pcs m.ps.l))]⟩
  | 14 => ⟨[(2, .x (.a (.p 1 0))), (4, .x (.a (.v (vU8 m.k)))), (6, .x (.a (.v (.int .i64 m.pl)))), (8, .x (.a (.v (.int .i64 m.ot)))), (10, .x (.a (.v (.int .i64 m.cl)))), (12, .x (.a (.v (.int .i64 m.ge)))), (14, .x (.a (.v (vU64 m.nu)))), (16, .x (.a8 m.sm)), (19, .x (.a (.v m.ids.val))), (23, .x (.a (.v m.ns.val))), (26, .x (.a (.v m.ps.val))), (30, .x (.a (.v m.xs.val))), (33, .x (.a (.v (.int .i64 m.re)))), (20, .x (.a (.o 2))), (24, .x (.a (.o 3))), (28, .x (.a (.s 4 0 0 0)))], [.blk 83 (.c (mgA m)), .blk 89 (.c (mgA zeroR)), .own 3 (.i64 m.ids.l), .own 27 (.u64 m.ns.l), .blk 136 (.u32 [])]⟩
  | 15 => ⟨[(2, .x (.a (.p 1 0))), (4, .x (.a (.v (vU8 m.k)))), (6, .x (.a (.v (.int .i64 m.pl)))), (8, .x (.a (.v (.int .i64 m.ot)))), (10, .x (.a (.v (.int .i64 m.cl)))), (12, .x (.a (.v (.int .i64 m.ge)))), (14, .x (.a (.v (vU64 m.nu)))), (16, .x (.a8 m.sm)), (19, .x (.a (.v m.ids.val))), (23, .x (.a (.v m.ns.val))), (26, .x (.a (.v m.ps.val))), (30, .x (.a (.v m.xs.val))), (33, .x (.a (.v (.int .i64 m.re)))), (20, .x (.a (.o 2))), (24, .x (.a (.o 3))), (27, .x (.a (.o 4))), (28, .x (.a (.s 5 0 0 0)))], [.blk 83 (.c (mgA m)), .blk 89 (.c (mgA zeroR)), .own 3 (.i64 m.ids.l), .own 27 (.u64 m.ns.l), .onn 160 2 (.c (pcs m.ps.l)), .blk 136 (.u32 [])]⟩
  | 16 => ⟨[(2, .x (.a (.p 1 0))), (4, .x (.a (.v (vU8 m.k)))), (6, .x (.a (.v (.int .i64 m.pl)))), (8, .x (.a (.v (.int .i64 m.ot)))), (10, .x (.a (.v (.int .i64 m.cl)))), (12, .x (.a (.v (.int .i64 m.ge)))), (14, .x (.a (.v (vU64 m.nu)))), (16, .x (.a8 m.sm)), (19, .x (.a (.v m.ids.val))), (23, .x (.a (.v m.ns.val))), (26, .x (.a (.v m.ps.val))), (30, .x (.a (.v m.xs.val))), (33, .x (.a (.v (.int .i64 m.re)))), (20, .x (.a (.o 2))), (24, .x (.a (.o 3))), (27, .x (.a (.o 4))), (31, .x (.a (.o 5)))], [.blk 83 (.c (mgA m)), .blk 89 (.c (mgA zeroR)), .own 3 (.i64 m.ids.l), .own 27 (.u64 m.ns.l), .onn 160 2 (.c (pcs m.ps.l)), .own 136 (.u32 m.xs.l)]⟩
  | _ => ⟨[], []⟩
def gvD : Dag := [([true, true, true, true, true, true, true, true, true, true, true, true, true, true, false, true, true, false, false, true, true, false, true, true, false, false, true, true, false, true, true, false, false], [(14, 1), (18, 2), (25, 3)]),
  ([true, true, true, true, true, true, true, true, true, true, true, true, true, true, true, true, true, false, false, true, true, false, true, true, false, false, true, true, false, true, true, false, false], [(17, 4), (18, 5), (25, 6)]),
  ([true, true, true, true, true, true, true, true, true, true, true, true, true, true, false, true, true, false, true, true, true, false, true, true, false, false, true, true, false, true, true, false, false], [(14, 5), (25, 7)]),
  ([true, true, true, true, true, true, true, true, true, true, true, true, true, true, false, true, true, false, false, true, true, false, true, true, false, true, true, true, false, true, true, false, false], [(14, 6), (18, 7)]),
  ([true, true, true, true, true, true, true, true, true, true, true, true, true, true, true, true, true, true, false, true, true, false, true, true, false, false, true, true, false, true, true, false, false], [(18, 8), (25, 9)]),
  ([true, true, true, true, true, true, true, true, true, true, true, true, true, true, true, true, true, false, true, true, true, false, true, true, false, false, true, true, false, true, true, false, false], [(17, 8), (25, 10)]),
  ([true, true, true, true, true, true, true, true, true, true, true, true, true, true, true, true, true, false, false, true, true, false, true, true, false, true, true, true, false, true, true, false, false], [(17, 9), (18, 10)]),
  ([true, true, true, true, true, true, true, true, true, true, true, true, true, true, false, true, true, false, true, true, true, false, true, true, false, true, true, true, false, true, true, false, false], [(14, 10)]),
  ([true, true, true, true, true, true, true, true, true, true, true, true, true, true, true, true, true, true, true, true, true, false, true, true, false, false, true, true, false, true, true, false, false], [(21, 11), (25, 12)]),
  ([true, true, true, true, true, true, true, true, true, true, true, true, true, true, true, true, true, true, false, true, true, false, true, true, false, true, true, true, false, true, true, false, false], [(18, 12)]),
  ([true, true, true, true, true, true, true, true, true, true, true, true, true, true, true, true, true, false, true, true, true, false, true, true, false, true, true, true, false, true, true, false, false], [(17, 12)]),
  ([true, true, true, true, true, true, true, true, true, true, true, true, true, true, true, true, true, true, true, true, true, true, true, true, false, false, true, true, false, true, true, false, false], [(24, 13), (25, 14)]),
  ([true, true, true, true, true, true, true, true, true, true, true, true, true, true, true, true, true, true, true, true, true, false, true, true, false, true, true, true, false, true, true, false, false], [(21, 14)]),
  ([true, true, true, true, true, true, true, true, true, true, true, true, true, true, true, true, true, true, true, true, true, true, true, true, true, false, true, true, false, true, true, false, false], [(25, 15)]),
  ([true, true, true, true, true, true, true, true, true, true, true, true, true, true, true, true, true, true, true, true, true, true, true, true, false, true, true, true, false, true, true, false, false], [(24, 15)]),
  ([true, true, true, true, true, true, true, true, true, true, true, true, true, true, true, true, true, true, true, true, true, true, true, true, true, true, true, true, false, true, true, false, false], [(28, 16)]),
  ([true, true, true, true, true, true, true, true, true, true, true, true, true, true, true, true, true, true, true, true, true, true, true, true, true, true, true, true, true, true, true, false, false], [])]
theorem gvF_0 (m : MgR) : gvF m 0 = ⟨[(2, .x (.a (.p 1 0))), (4, .x (.a (.v (vU8 m.k)))), (6, .x (.a (.v (.int .i64 m.pl)))), (8, .x (.a (.v (.int .i64 m.ot)))), (10, .x (.a (.v (.int .i64 m.cl)))), (12, .x (.a (.v (.int .i64 m.ge)))), (14, .x (.a (.v (vU64 m.nu)))), (16, .x (.a8 m.sm)), (19, .x (.a (.v m.ids.val))), (23, .x (.a (.v m.ns.val))), (26, .x (.a (.v m.ps.val))), (30, .x (.a (.v m.xs.val))), (33, .x (.a (.v (.int .i64 m.re))))], [.blk 83 (.c (mgA m)), .blk 89 (.c (mgA zeroR))]⟩ := rfl
theorem gvF_1 (m : MgR) : gvF m 1 = ⟨[(2, .x (.a (.p 1 0))), (4, .x (.a (.v (vU8 m.k)))), (6, .x (.a (.v (.int .i64 m.pl)))), (8, .x (.a (.v (.int .i64 m.ot)))), (10, .x (.a (.v (.int .i64 m.cl)))), (12, .x (.a (.v (.int .i64 m.ge)))), (14, .x (.a (.v (vU64 m.nu)))), (16, .x (.a8 m.sm)), (19, .x (.a (.v m.ids.val))), (23, .x (.a (.v m.ns.val))), (26, .x (.a (.v m.ps.val))), (30, .x (.a (.v m.xs.val))), (33, .x (.a (.v (.int .i64 m.re)))), (17, .x (.a (.s 2 0 0 0)))], [.blk 83 (.c (mgA m)), .blk 89 (.c (mgA zeroR)), .blk 3 (.i64 [])]⟩ := rfl
theorem gvF_2 (m : MgR) : gvF m 2 = ⟨[(2, .x (.a (.p 1 0))), (4, .x (.a (.v (vU8 m.k)))), (6, .x (.a (.v (.int .i64 m.pl)))), (8, .x (.a (.v (.int .i64 m.ot)))), (10, .x (.a (.v (.int .i64 m.cl)))), (12, .x (.a (.v (.int .i64 m.ge)))), (14, .x (.a (.v (vU64 m.nu)))), (16, .x (.a8 m.sm)), (19, .x (.a (.v m.ids.val))), (23, .x (.a (.v m.ns.val))), (26, .x (.a (.v m.ps.val))), (30, .x (.a (.v m.xs.val))), (33, .x (.a (.v (.int .i64 m.re)))), (21, .x (.a (.s 2 0 0 0)))], [.blk 83 (.c (mgA m)), .blk 89 (.c (mgA zeroR)), .blk 27 (.u64 [])]⟩ := rfl
theorem gvF_3 (m : MgR) : gvF m 3 = ⟨[(2, .x (.a (.p 1 0))), (4, .x (.a (.v (vU8 m.k)))), (6, .x (.a (.v (.int .i64 m.pl)))), (8, .x (.a (.v (.int .i64 m.ot)))), (10, .x (.a (.v (.int .i64 m.cl)))), (12, .x (.a (.v (.int .i64 m.ge)))), (14, .x (.a (.v (vU64 m.nu)))), (16, .x (.a8 m.sm)), (19, .x (.a (.v m.ids.val))), (23, .x (.a (.v m.ns.val))), (26, .x (.a (.v m.ps.val))), (30, .x (.a (.v m.xs.val))), (33, .x (.a (.v (.int .i64 m.re)))), (28, .x (.a (.s 2 0 0 0)))], [.blk 83 (.c (mgA m)), .blk 89 (.c (mgA zeroR)), .blk 136 (.u32 [])]⟩ := rfl
theorem gvF_4 (m : MgR) : gvF m 4 = ⟨[(2, .x (.a (.p 1 0))), (4, .x (.a (.v (vU8 m.k)))), (6, .x (.a (.v (.int .i64 m.pl)))), (8, .x (.a (.v (.int .i64 m.ot)))), (10, .x (.a (.v (.int .i64 m.cl)))), (12, .x (.a (.v (.int .i64 m.ge)))), (14, .x (.a (.v (vU64 m.nu)))), (16, .x (.a8 m.sm)), (19, .x (.a (.v m.ids.val))), (23, .x (.a (.v m.ns.val))), (26, .x (.a (.v m.ps.val))), (30, .x (.a (.v m.xs.val))), (33, .x (.a (.v (.int .i64 m.re)))), (20, .x (.a (.o 2)))], [.blk 83 (.c (mgA m)), .blk 89 (.c (mgA zeroR)), .own 3 (.i64 m.ids.l)]⟩ := rfl
theorem gvF_5 (m : MgR) : gvF m 5 = ⟨[(2, .x (.a (.p 1 0))), (4, .x (.a (.v (vU8 m.k)))), (6, .x (.a (.v (.int .i64 m.pl)))), (8, .x (.a (.v (.int .i64 m.ot)))), (10, .x (.a (.v (.int .i64 m.cl)))), (12, .x (.a (.v (.int .i64 m.ge)))), (14, .x (.a (.v (vU64 m.nu)))), (16, .x (.a8 m.sm)), (19, .x (.a (.v m.ids.val))), (23, .x (.a (.v m.ns.val))), (26, .x (.a (.v m.ps.val))), (30, .x (.a (.v m.xs.val))), (33, .x (.a (.v (.int .i64 m.re)))), (17, .x (.a (.s 2 0 0 0))), (21, .x (.a (.s 3 0 0 0)))], [.blk 83 (.c (mgA m)), .blk 89 (.c (mgA zeroR)), .blk 3 (.i64 []), .blk 27 (.u64 [])]⟩ := rfl
theorem gvF_6 (m : MgR) : gvF m 6 = ⟨[(2, .x (.a (.p 1 0))), (4, .x (.a (.v (vU8 m.k)))), (6, .x (.a (.v (.int .i64 m.pl)))), (8, .x (.a (.v (.int .i64 m.ot)))), (10, .x (.a (.v (.int .i64 m.cl)))), (12, .x (.a (.v (.int .i64 m.ge)))), (14, .x (.a (.v (vU64 m.nu)))), (16, .x (.a8 m.sm)), (19, .x (.a (.v m.ids.val))), (23, .x (.a (.v m.ns.val))), (26, .x (.a (.v m.ps.val))), (30, .x (.a (.v m.xs.val))), (33, .x (.a (.v (.int .i64 m.re)))), (17, .x (.a (.s 2 0 0 0))), (28, .x (.a (.s 3 0 0 0)))], [.blk 83 (.c (mgA m)), .blk 89 (.c (mgA zeroR)), .blk 3 (.i64 []), .blk 136 (.u32 [])]⟩ := rfl
theorem gvF_7 (m : MgR) : gvF m 7 = ⟨[(2, .x (.a (.p 1 0))), (4, .x (.a (.v (vU8 m.k)))), (6, .x (.a (.v (.int .i64 m.pl)))), (8, .x (.a (.v (.int .i64 m.ot)))), (10, .x (.a (.v (.int .i64 m.cl)))), (12, .x (.a (.v (.int .i64 m.ge)))), (14, .x (.a (.v (vU64 m.nu)))), (16, .x (.a8 m.sm)), (19, .x (.a (.v m.ids.val))), (23, .x (.a (.v m.ns.val))), (26, .x (.a (.v m.ps.val))), (30, .x (.a (.v m.xs.val))), (33, .x (.a (.v (.int .i64 m.re)))), (21, .x (.a (.s 2 0 0 0))), (28, .x (.a (.s 3 0 0 0)))], [.blk 83 (.c (mgA m)), .blk 89 (.c (mgA zeroR)), .blk 27 (.u64 []), .blk 136 (.u32 [])]⟩ := rfl
theorem gvF_8 (m : MgR) : gvF m 8 = ⟨[(2, .x (.a (.p 1 0))), (4, .x (.a (.v (vU8 m.k)))), (6, .x (.a (.v (.int .i64 m.pl)))), (8, .x (.a (.v (.int .i64 m.ot)))), (10, .x (.a (.v (.int .i64 m.cl)))), (12, .x (.a (.v (.int .i64 m.ge)))), (14, .x (.a (.v (vU64 m.nu)))), (16, .x (.a8 m.sm)), (19, .x (.a (.v m.ids.val))), (23, .x (.a (.v m.ns.val))), (26, .x (.a (.v m.ps.val))), (30, .x (.a (.v m.xs.val))), (33, .x (.a (.v (.int .i64 m.re)))), (20, .x (.a (.o 2))), (21, .x (.a (.s 3 0 0 0)))], [.blk 83 (.c (mgA m)), .blk 89 (.c (mgA zeroR)), .own 3 (.i64 m.ids.l), .blk 27 (.u64 [])]⟩ := rfl
theorem gvF_9 (m : MgR) : gvF m 9 = ⟨[(2, .x (.a (.p 1 0))), (4, .x (.a (.v (vU8 m.k)))), (6, .x (.a (.v (.int .i64 m.pl)))), (8, .x (.a (.v (.int .i64 m.ot)))), (10, .x (.a (.v (.int .i64 m.cl)))), (12, .x (.a (.v (.int .i64 m.ge)))), (14, .x (.a (.v (vU64 m.nu)))), (16, .x (.a8 m.sm)), (19, .x (.a (.v m.ids.val))), (23, .x (.a (.v m.ns.val))), (26, .x (.a (.v m.ps.val))), (30, .x (.a (.v m.xs.val))), (33, .x (.a (.v (.int .i64 m.re)))), (20, .x (.a (.o 2))), (28, .x (.a (.s 3 0 0 0)))], [.blk 83 (.c (mgA m)), .blk 89 (.c (mgA zeroR)), .own 3 (.i64 m.ids.l), .blk 136 (.u32 [])]⟩ := rfl
theorem gvF_10 (m : MgR) : gvF m 10 = ⟨[(2, .x (.a (.p 1 0))), (4, .x (.a (.v (vU8 m.k)))), (6, .x (.a (.v (.int .i64 m.pl)))), (8, .x (.a (.v (.int .i64 m.ot)))), (10, .x (.a (.v (.int .i64 m.cl)))), (12, .x (.a (.v (.int .i64 m.ge)))), (14, .x (.a (.v (vU64 m.nu)))), (16, .x (.a8 m.sm)), (19, .x (.a (.v m.ids.val))), (23, .x (.a (.v m.ns.val))), (26, .x (.a (.v m.ps.val))), (30, .x (.a (.v m.xs.val))), (33, .x (.a (.v (.int .i64 m.re)))), (17, .x (.a (.s 2 0 0 0))), (21, .x (.a (.s 3 0 0 0))), (28, .x (.a (.s 4 0 0 0)))], [.blk 83 (.c (mgA m)), .blk 89 (.c (mgA zeroR)), .blk 3 (.i64 []), .blk 27 (.u64 []), .blk 136 (.u32 [])]⟩ := rfl
theorem gvF_11 (m : MgR) : gvF m 11 = ⟨[(2, .x (.a (.p 1 0))), (4, .x (.a (.v (vU8 m.k)))), (6, .x (.a (.v (.int .i64 m.pl)))), (8, .x (.a (.v (.int .i64 m.ot)))), (10, .x (.a (.v (.int .i64 m.cl)))), (12, .x (.a (.v (.int .i64 m.ge)))), (14, .x (.a (.v (vU64 m.nu)))), (16, .x (.a8 m.sm)), (19, .x (.a (.v m.ids.val))), (23, .x (.a (.v m.ns.val))), (26, .x (.a (.v m.ps.val))), (30, .x (.a (.v m.xs.val))), (33, .x (.a (.v (.int .i64 m.re)))), (20, .x (.a (.o 2))), (24, .x (.a (.o 3)))], [.blk 83 (.c (mgA m)), .blk 89 (.c (mgA zeroR)), .own 3 (.i64 m.ids.l), .own 27 (.u64 m.ns.l)]⟩ := rfl
theorem gvF_12 (m : MgR) : gvF m 12 = ⟨[(2, .x (.a (.p 1 0))), (4, .x (.a (.v (vU8 m.k)))), (6, .x (.a (.v (.int .i64 m.pl)))), (8, .x (.a (.v (.int .i64 m.ot)))), (10, .x (.a (.v (.int .i64 m.cl)))), (12, .x (.a (.v (.int .i64 m.ge)))), (14, .x (.a (.v (vU64 m.nu)))), (16, .x (.a8 m.sm)), (19, .x (.a (.v m.ids.val))), (23, .x (.a (.v m.ns.val))), (26, .x (.a (.v m.ps.val))), (30, .x (.a (.v m.xs.val))), (33, .x (.a (.v (.int .i64 m.re)))), (20, .x (.a (.o 2))), (21, .x (.a (.s 3 0 0 0))), (28, .x (.a (.s 4 0 0 0)))], [.blk 83 (.c (mgA m)), .blk 89 (.c (mgA zeroR)), .own 3 (.i64 m.ids.l), .blk 27 (.u64 []), .blk 136 (.u32 [])]⟩ := rfl
theorem gvF_13 (m : MgR) : gvF m 13 = ⟨[(2, .x (.a (.p 1 0))), (4, .x (.a (.v (vU8 m.k)))), (6, .x (.a (.v (.int .i64 m.pl)))), (8, .x (.a (.v (.int .i64 m.ot)))), (10, .x (.a (.v (.int .i64 m.cl)))), (12, .x (.a (.v (.int .i64 m.ge)))), (14, .x (.a (.v (vU64 m.nu)))), (16, .x (.a8 m.sm)), (19, .x (.a (.v m.ids.val))), (23, .x (.a (.v m.ns.val))), (26, .x (.a (.v m.ps.val))), (30, .x (.a (.v m.xs.val))), (33, .x (.a (.v (.int .i64 m.re)))), (20, .x (.a (.o 2))), (24, .x (.a (.o 3))), (27, .x (.a (.o 4)))], [.blk 83 (.c (mgA m)), .blk 89 (.c (mgA zeroR)), .own 3 (.i64 m.ids.l), .own 27 (.u64 m.ns.l), .onn 160 2 (.c (pcs m.ps.l))]⟩ := rfl
theorem gvF_14 (m : MgR) : gvF m 14 = ⟨[(2, .x (.a (.p 1 0))), (4, .x (.a (.v (vU8 m.k)))), (6, .x (.a (.v (.int .i64 m.pl)))), (8, .x (.a (.v (.int .i64 m.ot)))), (10, .x (.a (.v (.int .i64 m.cl)))), (12, .x (.a (.v (.int .i64 m.ge)))), (14, .x (.a (.v (vU64 m.nu)))), (16, .x (.a8 m.sm)), (19, .x (.a (.v m.ids.val))), (23, .x (.a (.v m.ns.val))), (26, .x (.a (.v m.ps.val))), (30, .x (.a (.v m.xs.val))), (33, .x (.a (.v (.int .i64 m.re)))), (20, .x (.a (.o 2))), (24, .x (.a (.o 3))), (28, .x (.a (.s 4 0 0 0)))], [.blk 83 (.c (mgA m)), .blk 89 (.c (mgA zeroR)), .own 3 (.i64 m.ids.l), .own 27 (.u64 m.ns.l), .blk 136 (.u32 [])]⟩ := rfl
theorem gvF_15 (m : MgR) : gvF m 15 = ⟨[(2, .x (.a (.p 1 0))), (4, .x (.a (.v (vU8 m.k)))), (6, .x (.a (.v (.int .i64 m.pl)))), (8, .x (.a (.v (.int .i64 m.ot)))), (10, .x (.a (.v (.int .i64 m.cl)))), (12, .x (.a (.v (.int .i64 m.ge)))), (14, .x (.a (.v (vU64 m.nu)))), (16, .x (.a8 m.sm)), (19, .x (.a (.v m.ids.val))), (23, .x (.a (.v m.ns.val))), (26, .x (.a (.v m.ps.val))), (30, .x (.a (.v m.xs.val))), (33, .x (.a (.v (.int .i64 m.re)))), (20, .x (.a (.o 2))), (24, .x (.a (.o 3))), (27, .x (.a (.o 4))), (28, .x (.a (.s 5 0 0 0)))], [.blk 83 (.c (mgA m)), .blk 89 (.c (mgA zeroR)), .own 3 (.i64 m.ids.l), .own 27 (.u64 m.ns.l), .onn 160 2 (.c (pcs m.ps.l)), .blk 136 (.u32 [])]⟩ := rfl
theorem gvF_16 (m : MgR) : gvF m 16 = ⟨[(2, .x (.a (.p 1 0))), (4, .x (.a (.v (vU8 m.k)))), (6, .x (.a (.v (.int .i64 m.pl)))), (8, .x (.a (.v (.int .i64 m.ot)))), (10, .x (.a (.v (.int .i64 m.cl)))), (12, .x (.a (.v (.int .i64 m.ge)))), (14, .x (.a (.v (vU64 m.nu)))), (16, .x (.a8 m.sm)), (19, .x (.a (.v m.ids.val))), (23, .x (.a (.v m.ns.val))), (26, .x (.a (.v m.ps.val))), (30, .x (.a (.v m.xs.val))), (33, .x (.a (.v (.int .i64 m.re)))), (20, .x (.a (.o 2))), (24, .x (.a (.o 3))), (27, .x (.a (.o 4))), (31, .x (.a (.o 5)))], [.blk 83 (.c (mgA m)), .blk 89 (.c (mgA zeroR)), .own 3 (.i64 m.ids.l), .own 27 (.u64 m.ns.l), .onn 160 2 (.c (pcs m.ps.l)), .own 136 (.u32 m.xs.l)]⟩ := rfl
/-- A message in the making. -/
def gv6 (m : MgR) : List At := mgL (.v (vU8 m.k)) (.v (.int .i64 m.pl)) (.v (.int .i64 m.ot)) (.v (.int .i64 m.cl)) (.v (.int .i64 m.ge)) (.v (vU64 m.nu)) (List.replicate 32 0) (.v (.slice none 0 0)) (.v (.slice none 0 0)) (.v (.slice none 0 0)) (.v (.slice none 0 0)) (.v (.int .i64 0))
def gv7 (m : MgR) : List At := mgL (.v (vU8 m.k)) (.v (.int .i64 m.pl)) (.v (.int .i64 m.ot)) (.v (.int .i64 m.cl)) (.v (.int .i64 m.ge)) (.v (vU64 m.nu)) m.sm (.v (.slice none 0 0)) (.v (.slice none 0 0)) (.v (.slice none 0 0)) (.v (.slice none 0 0)) (.v (.int .i64 0))
theorem gv6_eq (m : MgR) : ((((((mgA zeroR).set 0 (.v (vU8 m.k))).set 1 (.v (.int .i64 m.pl))).set 2 (.v (.int .i64 m.ot))).set 3 (.v (.int .i64 m.cl))).set 4 (.v (.int .i64 m.ge))).set 5 (.v (vU64 m.nu)) = gv6 m := rfl
theorem gv7_eq (m : MgR) : List.take 6 (gv6 m) ++ (List.map f8 m.sm ++ List.drop 38 (gv6 m)) = gv7 m := rfl
theorem gv6_len (m : MgR) : (gv6 m).length = 43 := mgL_len rfl
theorem gv7_len {m : MgR} (h : m.sm.length = 32) : (gv7 m).length = 43 := mgL_len h
theorem gv8_eq {m : MgR} (h : m.sm.length = 32) (a b c d : Nat) : (((((gv7 m).set 38 (.o a)).set 39 (.o b)).set 40 (.o c)).set 41 (.o d)).set 42 (.v (.int .i64 m.re)) = mgO m.mg a b c d := by
  unfold gv7
  rw [(mgL_set _ _ _ _ _ _ _ _ _ _ _ _ _ h).2.2.2.2.2.2.1, (mgL_set _ _ _ _ _ _ _ _ _ _ _ _ _ h).2.2.2.2.2.2.2.1, (mgL_set _ _ _ _ _ _ _ _ _ _ _ _ _ h).2.2.2.2.2.2.2.2.1, (mgL_set _ _ _ _ _ _ _ _ _ _ _ _ _ h).2.2.2.2.2.2.2.2.2.1, (mgL_set _ _ _ _ _ _ _ _ _ _ _ _ _ h).2.2.2.2.2.2.2.2.2.2]
  rfl
attribute [local irreducible] Callable CallOK CallG CallM DrawG LoopG symR symM
attribute [local irreducible] mgA mgO gvF gv6 gv7
section
set_option maxRecDepth 100000 in
set_option maxHeartbeats 4000000 in
theorem giveMg_any (m : MgR) (w : World) (hm : m.Ok w) : Calls Tryd.prog 39 (List.map (Sv.val []) [.x (.g (mgA m))]).toArray w fun e w' => ∃ γ1, e = .returned ((Sv.x (.g (mgO m.mg 0 1 2 3))).val γ1) ∧ Sat w No γ1 [.own 3 (.i64 m.ids.l), .own 27 (.u64 m.ns.l), .onn 160 2 (.c (pcs m.ps.l)), .own 136 (.u32 m.xs.l)] w' := by
  obtain ⟨f0, f1, f2, f3, f4, f5, f38, f39, f40, f41, f42⟩ := mgA_get hm.s
  have fl := mgA_len hm.s
  have fs := mgA_s hm.s
  have hfs := hm.s
  have fb := fun n => mgA_bnd m n
  have zb := fun n => mgA_bnd zeroR n
  have ob := fun (m : MgS) a b c d n => mgO_bnd m a b c d n
  simp only [At.bnd] at fb zb ob
  obtain ⟨i1, i2⟩ := rdI_of (FV.no hm.ids.rd)
  obtain ⟨n1, n2⟩ := rd64_of (FV.no hm.ns.rd)
  obtain ⟨x1, x2⟩ := rd32_of (FV.no hm.xs.rd)
  have := hm.ids.few
  have := hm.ns.few
  have := hm.xs.few
  have hpf := hm.ps.few
  have bi : m.ids.l.length * 8 ≤ 140737488355328 := by omega
  have bn : m.ns.l.length * 8 ≤ 140737488355328 := by omega
  have bx : m.xs.l.length * 4 ≤ 140737488355328 := by omega
  have ci : m.ids.l.length ≤ 2 ^ 63 - 1 := by omega
  have cn : m.ns.l.length ≤ 2 ^ 63 - 1 := by omega
  have cx : m.xs.l.length ≤ 2 ^ 63 - 1 := by omega
  refine calls_fun (n := 35) Tryd.func39 rfl Tryd.ntmps39 _ (Sat.init w No) (by simp) _ _ ?_
  simp (config := { maxSteps := 1000000 }) only [fb, ↓mgA_cont, zeroArr, zokMg2, mgA_zero, push_cast, ↓reduceIte, Nat.reduceLT, Nat.reduceAdd]
  (repeat (refine And.intro (by first | omega | decide) ?_))
  refine drawD_rule 32 [0, 1, 2, 3, 4, 5, 6, 7, 8, 9, 10, 11, 12, 13, 15, 16, 19, 20, 22, 23, 26, 27, 29, 30] gvD 16 [31] (gvF m) ⟨[(2, .x (.a (.p 1 0))), (34, .x (.g (mgO m.mg 2 3 4 5)))], [.blk 83 (.c (mgA m)), .blk 89 (.c (mgA zeroR)), .own 3 (.i64 m.ids.l), .own 27 (.u64 m.ns.l), .onn 160 2 (.c (pcs m.ps.l)), .own 136 (.u32 m.xs.l)]⟩ (by kernel_rfl) (by kernel_rfl) (by simp (config := { maxSteps := 1000000 }) only [fb, zb, push_cast, Nat.reduceAdd]) ?_ ?_ (by decide) ?_ ?_ ?_
  · simp (config := { maxSteps := 1000000 }) only [fl, f0, f1, f2, f3, f4, f5, f38, f39, f40, f41, f42, fs, undef, push_cast, ↓reduceIte, reduceCtorEq, Nat.reduceEqDiff, Nat.reduceLT, Nat.reduceLeDiff, Nat.reduceAdd]
    refine ⟨[], ?_⟩
    rw [gvF_0]
    simp (config := { maxSteps := 1000000 }) only [fb, zb, ↓mgA_cren, List.append_nil, List.range, List.range.loop, push_cast, ↓reduceIte, reduceCtorEq, Nat.reduceEqDiff, Nat.reduceLT, Nat.reduceAdd]
  · intro v hv
    have hv' : v = 0 ∨ v = 1 ∨ v = 2 ∨ v = 3 ∨ v = 4 ∨ v = 5 ∨ v = 6 ∨ v = 7 ∨ v = 8 ∨ v = 9 ∨ v = 10 ∨ v = 11 ∨ v = 12 ∨ v = 13 ∨ v = 14 ∨ v = 15 ∨ v = 16 := by omega
    rcases hv' with rfl | rfl | rfl | rfl | rfl | rfl | rfl | rfl | rfl | rfl | rfl | rfl | rfl | rfl | rfl | rfl | rfl
    · rw [gvF_0]; rfl
    · rw [gvF_1]; rfl
    · rw [gvF_2]; rfl
    · rw [gvF_3]; rfl
    · rw [gvF_4]; rfl
    · rw [gvF_5]; rfl
    · rw [gvF_6]; rfl
    · rw [gvF_7]; rfl
    · rw [gvF_8]; rfl
    · rw [gvF_9]; rfl
    · rw [gvF_10]; rfl
    · rw [gvF_11]; rfl
    · rw [gvF_12]; rfl
    · rw [gvF_13]; rfl
    · rw [gvF_14]; rfl
    · rw [gvF_15]; rfl
    · rw [gvF_16]; rfl
  · refine dagSt_all ?_
    refine ⟨?_, ?_, ?_, ?_, ?_, ?_, ?_, ?_, ?_, ?_, ?_, ?_, ?_, ?_, ?_, ?_, ?_, trivial⟩
    · intro p hp
      simp only [List.mem_cons, List.not_mem_nil, or_false] at hp
      rcases hp with rfl | rfl | rfl
      · show stepD _ _ _ _ _ 14 (fun s' => LeA 2 s' (gvF m 1)) (gvF m 0)
        rw [gvF_1, gvF_0]
        simp (config := { maxSteps := 1000000 }) only [fb, zb, SlV.val, push_cast, ↓reduceIte, Nat.reduceLT, Nat.reduceLeDiff, Nat.reduceAdd]
        refine ⟨[2], ?_⟩
        simp (config := { maxSteps := 1000000 }) only [fb, zb, ↓mgA_cren, List.range, List.range.loop, List.nil_append, List.cons_append, push_cast, ↓reduceIte, reduceCtorEq, Nat.reduceEqDiff, Nat.reduceLT, Nat.reduceAdd]
      · show stepD _ _ _ _ _ 18 (fun s' => LeA 2 s' (gvF m 2)) (gvF m 0)
        rw [gvF_2, gvF_0]
        simp (config := { maxSteps := 1000000 }) only [fb, zb, SlV.val, push_cast, ↓reduceIte, Nat.reduceLT, Nat.reduceLeDiff, Nat.reduceAdd]
        refine ⟨[2], ?_⟩
        simp (config := { maxSteps := 1000000 }) only [fb, zb, ↓mgA_cren, List.range, List.range.loop, List.nil_append, List.cons_append, push_cast, ↓reduceIte, reduceCtorEq, Nat.reduceEqDiff, Nat.reduceLT, Nat.reduceAdd]
      · show stepD _ _ _ _ _ 25 (fun s' => LeA 2 s' (gvF m 3)) (gvF m 0)
        rw [gvF_3, gvF_0]
        simp (config := { maxSteps := 1000000 }) only [fb, zb, SlV.val, push_cast, ↓reduceIte, Nat.reduceLT, Nat.reduceLeDiff, Nat.reduceAdd]
        refine ⟨[2], ?_⟩
        simp (config := { maxSteps := 1000000 }) only [fb, zb, ↓mgA_cren, List.range, List.range.loop, List.nil_append, List.cons_append, push_cast, ↓reduceIte, reduceCtorEq, Nat.reduceEqDiff, Nat.reduceLT, Nat.reduceAdd]
    · intro p hp
      simp only [List.mem_cons, List.not_mem_nil, or_false] at hp
      rcases hp with rfl | rfl | rfl
      · show stepD _ _ _ _ _ 17 (fun s' => LeA 2 s' (gvF m 4)) (gvF m 1)
        rw [gvF_4, gvF_1]
        simp (config := { maxSteps := 1000000 }) only [fb, zb, SlV.val, i1, i2, bi, ci, push_cast, ↓reduceIte, Nat.reduceEqDiff, Nat.reduceLT, Nat.reduceAdd]
        refine ⟨[3], ?_⟩
        simp (config := { maxSteps := 1000000 }) only [fb, zb, ↓mgA_cren, List.range, List.range.loop, List.nil_append, List.cons_append, push_cast, ↓reduceIte, reduceCtorEq, Nat.reduceEqDiff, Nat.reduceLT, Nat.reduceAdd]
      · show stepD _ _ _ _ _ 18 (fun s' => LeA 2 s' (gvF m 5)) (gvF m 1)
        rw [gvF_5, gvF_1]
        simp (config := { maxSteps := 1000000 }) only [fb, zb, SlV.val, push_cast, ↓reduceIte, Nat.reduceLT, Nat.reduceLeDiff, Nat.reduceAdd]
        refine ⟨[2, 3], ?_⟩
        simp (config := { maxSteps := 1000000 }) only [fb, zb, ↓mgA_cren, List.range, List.range.loop, List.nil_append, List.cons_append, push_cast, ↓reduceIte, reduceCtorEq, Nat.reduceEqDiff, Nat.reduceLT, Nat.reduceAdd]
      · show stepD _ _ _ _ _ 25 (fun s' => LeA 2 s' (gvF m 6)) (gvF m 1)
        rw [gvF_6, gvF_1]
        simp (config := { maxSteps := 1000000 }) only [fb, zb, SlV.val, push_cast, ↓reduceIte, Nat.reduceLT, Nat.reduceLeDiff, Nat.reduceAdd]
        refine ⟨[2, 3], ?_⟩
        simp (config := { maxSteps := 1000000 }) only [fb, zb, ↓mgA_cren, List.range, List.range.loop, List.nil_append, List.cons_append, push_cast, ↓reduceIte, reduceCtorEq, Nat.reduceEqDiff, Nat.reduceLT, Nat.reduceAdd]
    · intro p hp
      simp only [List.mem_cons, List.not_mem_nil, or_false] at hp
      rcases hp with rfl | rfl
      · show stepD _ _ _ _ _ 14 (fun s' => LeA 2 s' (gvF m 5)) (gvF m 2)
        rw [gvF_5, gvF_2]
        simp (config := { maxSteps := 1000000 }) only [fb, zb, SlV.val, push_cast, ↓reduceIte, Nat.reduceLT, Nat.reduceLeDiff, Nat.reduceAdd]
        refine ⟨[3, 2], ?_⟩
        simp (config := { maxSteps := 1000000 }) only [fb, zb, ↓mgA_cren, List.range, List.range.loop, List.nil_append, List.cons_append, push_cast, ↓reduceIte, reduceCtorEq, Nat.reduceEqDiff, Nat.reduceLT, Nat.reduceAdd]
      · show stepD _ _ _ _ _ 25 (fun s' => LeA 2 s' (gvF m 7)) (gvF m 2)
        rw [gvF_7, gvF_2]
        simp (config := { maxSteps := 1000000 }) only [fb, zb, SlV.val, push_cast, ↓reduceIte, Nat.reduceLT, Nat.reduceLeDiff, Nat.reduceAdd]
        refine ⟨[2, 3], ?_⟩
        simp (config := { maxSteps := 1000000 }) only [fb, zb, ↓mgA_cren, List.range, List.range.loop, List.nil_append, List.cons_append, push_cast, ↓reduceIte, reduceCtorEq, Nat.reduceEqDiff, Nat.reduceLT, Nat.reduceAdd]
    · intro p hp
      simp only [List.mem_cons, List.not_mem_nil, or_false] at hp
      rcases hp with rfl | rfl
      · show stepD _ _ _ _ _ 14 (fun s' => LeA 2 s' (gvF m 6)) (gvF m 3)
        rw [gvF_6, gvF_3]
        simp (config := { maxSteps := 1000000 }) only [fb, zb, SlV.val, push_cast, ↓reduceIte, Nat.reduceLT, Nat.reduceLeDiff, Nat.reduceAdd]
        refine ⟨[3, 2], ?_⟩
        simp (config := { maxSteps := 1000000 }) only [fb, zb, ↓mgA_cren, List.range, List.range.loop, List.nil_append, List.cons_append, push_cast, ↓reduceIte, reduceCtorEq, Nat.reduceEqDiff, Nat.reduceLT, Nat.reduceAdd]
      · show stepD _ _ _ _ _ 18 (fun s' => LeA 2 s' (gvF m 7)) (gvF m 3)
        rw [gvF_7, gvF_3]
        simp (config := { maxSteps := 1000000 }) only [fb, zb, SlV.val, push_cast, ↓reduceIte, Nat.reduceLT, Nat.reduceLeDiff, Nat.reduceAdd]
        refine ⟨[3, 2], ?_⟩
        simp (config := { maxSteps := 1000000 }) only [fb, zb, ↓mgA_cren, List.range, List.range.loop, List.nil_append, List.cons_append, push_cast, ↓reduceIte, reduceCtorEq, Nat.reduceEqDiff, Nat.reduceLT, Nat.reduceAdd]
    · intro p hp
      simp only [List.mem_cons, List.not_mem_nil, or_false] at hp
      rcases hp with rfl | rfl
      · show stepD _ _ _ _ _ 18 (fun s' => LeA 2 s' (gvF m 8)) (gvF m 4)
        rw [gvF_8, gvF_4]
        simp (config := { maxSteps := 1000000 }) only [fb, zb, SlV.val, push_cast, ↓reduceIte, Nat.reduceLT, Nat.reduceLeDiff, Nat.reduceAdd]
        refine ⟨[2, 3], ?_⟩
        simp (config := { maxSteps := 1000000 }) only [fb, zb, ↓mgA_cren, List.range, List.range.loop, List.nil_append, List.cons_append, push_cast, ↓reduceIte, reduceCtorEq, Nat.reduceEqDiff, Nat.reduceLT, Nat.reduceAdd]
      · show stepD _ _ _ _ _ 25 (fun s' => LeA 2 s' (gvF m 9)) (gvF m 4)
        rw [gvF_9, gvF_4]
        simp (config := { maxSteps := 1000000 }) only [fb, zb, SlV.val, push_cast, ↓reduceIte, Nat.reduceLT, Nat.reduceLeDiff, Nat.reduceAdd]
        refine ⟨[2, 3], ?_⟩
        simp (config := { maxSteps := 1000000 }) only [fb, zb, ↓mgA_cren, List.range, List.range.loop, List.nil_append, List.cons_append, push_cast, ↓reduceIte, reduceCtorEq, Nat.reduceEqDiff, Nat.reduceLT, Nat.reduceAdd]
    · intro p hp
      simp only [List.mem_cons, List.not_mem_nil, or_false] at hp
      rcases hp with rfl | rfl
      · show stepD _ _ _ _ _ 17 (fun s' => LeA 2 s' (gvF m 8)) (gvF m 5)
        rw [gvF_8, gvF_5]
        simp (config := { maxSteps := 1000000 }) only [fb, zb, SlV.val, i1, i2, bi, ci, push_cast, ↓reduceIte, Nat.reduceEqDiff, Nat.reduceLT, Nat.reduceAdd]
        refine ⟨[4, 3], ?_⟩
        simp (config := { maxSteps := 1000000 }) only [fb, zb, ↓mgA_cren, List.range, List.range.loop, List.nil_append, List.cons_append, push_cast, ↓reduceIte, reduceCtorEq, Nat.reduceEqDiff, Nat.reduceLT, Nat.reduceAdd]
      · show stepD _ _ _ _ _ 25 (fun s' => LeA 2 s' (gvF m 10)) (gvF m 5)
        rw [gvF_10, gvF_5]
        simp (config := { maxSteps := 1000000 }) only [fb, zb, SlV.val, push_cast, ↓reduceIte, Nat.reduceLT, Nat.reduceLeDiff, Nat.reduceAdd]
        refine ⟨[2, 3, 4], ?_⟩
        simp (config := { maxSteps := 1000000 }) only [fb, zb, ↓mgA_cren, List.range, List.range.loop, List.nil_append, List.cons_append, push_cast, ↓reduceIte, reduceCtorEq, Nat.reduceEqDiff, Nat.reduceLT, Nat.reduceAdd]
    · intro p hp
      simp only [List.mem_cons, List.not_mem_nil, or_false] at hp
      rcases hp with rfl | rfl
      · show stepD _ _ _ _ _ 17 (fun s' => LeA 2 s' (gvF m 9)) (gvF m 6)
        rw [gvF_9, gvF_6]
        simp (config := { maxSteps := 1000000 }) only [fb, zb, SlV.val, i1, i2, bi, ci, push_cast, ↓reduceIte, Nat.reduceEqDiff, Nat.reduceLT, Nat.reduceAdd]
        refine ⟨[4, 3], ?_⟩
        simp (config := { maxSteps := 1000000 }) only [fb, zb, ↓mgA_cren, List.range, List.range.loop, List.nil_append, List.cons_append, push_cast, ↓reduceIte, reduceCtorEq, Nat.reduceEqDiff, Nat.reduceLT, Nat.reduceAdd]
      · show stepD _ _ _ _ _ 18 (fun s' => LeA 2 s' (gvF m 10)) (gvF m 6)
        rw [gvF_10, gvF_6]
        simp (config := { maxSteps := 1000000 }) only [fb, zb, SlV.val, push_cast, ↓reduceIte, Nat.reduceLT, Nat.reduceLeDiff, Nat.reduceAdd]
        refine ⟨[2, 4, 3], ?_⟩
        simp (config := { maxSteps := 1000000 }) only [fb, zb, ↓mgA_cren, List.range, List.range.loop, List.nil_append, List.cons_append, push_cast, ↓reduceIte, reduceCtorEq, Nat.reduceEqDiff, Nat.reduceLT, Nat.reduceAdd]
    · intro p hp
      simp only [List.mem_cons, List.not_mem_nil, or_false] at hp
      rcases hp with rfl
      · show stepD _ _ _ _ _ 14 (fun s' => LeA 2 s' (gvF m 10)) (gvF m 7)
        rw [gvF_10, gvF_7]
        simp (config := { maxSteps := 1000000 }) only [fb, zb, SlV.val, push_cast, ↓reduceIte, Nat.reduceLT, Nat.reduceLeDiff, Nat.reduceAdd]
        refine ⟨[4, 2, 3], ?_⟩
        simp (config := { maxSteps := 1000000 }) only [fb, zb, ↓mgA_cren, List.range, List.range.loop, List.nil_append, List.cons_append, push_cast, ↓reduceIte, reduceCtorEq, Nat.reduceEqDiff, Nat.reduceLT, Nat.reduceAdd]
    · intro p hp
      simp only [List.mem_cons, List.not_mem_nil, or_false] at hp
      rcases hp with rfl | rfl
      · show stepD _ _ _ _ _ 21 (fun s' => LeA 2 s' (gvF m 11)) (gvF m 8)
        rw [gvF_11, gvF_8]
        simp (config := { maxSteps := 1000000 }) only [fb, zb, SlV.val, n1, n2, bn, cn, push_cast, ↓reduceIte, Nat.reduceEqDiff, Nat.reduceLT, Nat.reduceAdd]
        refine ⟨[2, 4], ?_⟩
        simp (config := { maxSteps := 1000000 }) only [fb, zb, ↓mgA_cren, List.range, List.range.loop, List.nil_append, List.cons_append, push_cast, ↓reduceIte, reduceCtorEq, Nat.reduceEqDiff, Nat.reduceLT, Nat.reduceAdd]
      · show stepD _ _ _ _ _ 25 (fun s' => LeA 2 s' (gvF m 12)) (gvF m 8)
        rw [gvF_12, gvF_8]
        simp (config := { maxSteps := 1000000 }) only [fb, zb, SlV.val, push_cast, ↓reduceIte, Nat.reduceLT, Nat.reduceLeDiff, Nat.reduceAdd]
        refine ⟨[2, 3, 4], ?_⟩
        simp (config := { maxSteps := 1000000 }) only [fb, zb, ↓mgA_cren, List.range, List.range.loop, List.nil_append, List.cons_append, push_cast, ↓reduceIte, reduceCtorEq, Nat.reduceEqDiff, Nat.reduceLT, Nat.reduceAdd]
    · intro p hp
      simp only [List.mem_cons, List.not_mem_nil, or_false] at hp
      rcases hp with rfl
      · show stepD _ _ _ _ _ 18 (fun s' => LeA 2 s' (gvF m 12)) (gvF m 9)
        rw [gvF_12, gvF_9]
        simp (config := { maxSteps := 1000000 }) only [fb, zb, SlV.val, push_cast, ↓reduceIte, Nat.reduceLT, Nat.reduceLeDiff, Nat.reduceAdd]
        refine ⟨[2, 4, 3], ?_⟩
        simp (config := { maxSteps := 1000000 }) only [fb, zb, ↓mgA_cren, List.range, List.range.loop, List.nil_append, List.cons_append, push_cast, ↓reduceIte, reduceCtorEq, Nat.reduceEqDiff, Nat.reduceLT, Nat.reduceAdd]
    · intro p hp
      simp only [List.mem_cons, List.not_mem_nil, or_false] at hp
      rcases hp with rfl
      · show stepD _ _ _ _ _ 17 (fun s' => LeA 2 s' (gvF m 12)) (gvF m 10)
        rw [gvF_12, gvF_10]
        simp (config := { maxSteps := 1000000 }) only [fb, zb, SlV.val, i1, i2, bi, ci, push_cast, ↓reduceIte, Nat.reduceEqDiff, Nat.reduceLT, Nat.reduceAdd]
        refine ⟨[5, 3, 4], ?_⟩
        simp (config := { maxSteps := 1000000 }) only [fb, zb, ↓mgA_cren, List.range, List.range.loop, List.nil_append, List.cons_append, push_cast, ↓reduceIte, reduceCtorEq, Nat.reduceEqDiff, Nat.reduceLT, Nat.reduceAdd]
    · intro p hp
      simp only [List.mem_cons, List.not_mem_nil, or_false] at hp
      rcases hp with rfl | rfl
      · show stepD _ _ _ _ _ 24 (fun s' => LeA 2 s' (gvF m 13)) (gvF m 11)
        rw [gvF_13, gvF_11]
        simp (config := { maxSteps := 1000000 }) only [SlV.val, push_cast, ↓reduceIte]
        (repeat (refine And.intro (by first | omega | decide) ?_))
        refine callD_rule rfl cb90 rfl (give16OK (l := m.ps.l) hpf (showsR_raw hm.ps.rd hm.ps.len) (by simp (config := { maxSteps := 1000000 }) only [fb, zb, push_cast, Nat.reduceAdd])) (dOk_lt rfl) (fun _ => by simp (config := { maxSteps := 1000000 }) only [fb, zb, push_cast, Nat.reduceLT, Nat.reduceAdd]) ?_
        refine ⟨[2, 3, 4], ?_⟩
        simp (config := { maxSteps := 1000000 }) only [fb, zb, pcs_ren, pcs_forall, ↓mgA_cren, List.range, List.range.loop, List.nil_append, List.cons_append, push_cast, ↓reduceIte, reduceCtorEq, Nat.reduceEqDiff, Nat.reduceLT, Nat.reduceAdd]
      · show stepD _ _ _ _ _ 25 (fun s' => LeA 2 s' (gvF m 14)) (gvF m 11)
        rw [gvF_14, gvF_11]
        simp (config := { maxSteps := 1000000 }) only [fb, zb, SlV.val, push_cast, ↓reduceIte, Nat.reduceLT, Nat.reduceLeDiff, Nat.reduceAdd]
        refine ⟨[2, 3, 4], ?_⟩
        simp (config := { maxSteps := 1000000 }) only [fb, zb, ↓mgA_cren, List.range, List.range.loop, List.nil_append, List.cons_append, push_cast, ↓reduceIte, reduceCtorEq, Nat.reduceEqDiff, Nat.reduceLT, Nat.reduceAdd]
    · intro p hp
      simp only [List.mem_cons, List.not_mem_nil, or_false] at hp
      rcases hp with rfl
      · show stepD _ _ _ _ _ 21 (fun s' => LeA 2 s' (gvF m 14)) (gvF m 12)
        rw [gvF_14, gvF_12]
        simp (config := { maxSteps := 1000000 }) only [fb, zb, SlV.val, n1, n2, bn, cn, push_cast, ↓reduceIte, Nat.reduceEqDiff, Nat.reduceLT, Nat.reduceAdd]
        refine ⟨[2, 5, 4], ?_⟩
        simp (config := { maxSteps := 1000000 }) only [fb, zb, ↓mgA_cren, List.range, List.range.loop, List.nil_append, List.cons_append, push_cast, ↓reduceIte, reduceCtorEq, Nat.reduceEqDiff, Nat.reduceLT, Nat.reduceAdd]
    · intro p hp
      simp only [List.mem_cons, List.not_mem_nil, or_false] at hp
      rcases hp with rfl
      · show stepD _ _ _ _ _ 25 (fun s' => LeA 2 s' (gvF m 15)) (gvF m 13)
        rw [gvF_15, gvF_13]
        simp (config := { maxSteps := 1000000 }) only [fb, zb, pcs_forall, SlV.val, push_cast, ↓reduceIte, Nat.reduceLT, Nat.reduceLeDiff, Nat.reduceAdd]
        refine ⟨[2, 3, 4, 5], ?_⟩
        simp (config := { maxSteps := 1000000 }) only [fb, zb, pcs_ren, pcs_forall, ↓mgA_cren, List.range, List.range.loop, List.nil_append, List.cons_append, push_cast, ↓reduceIte, reduceCtorEq, Nat.reduceEqDiff, Nat.reduceLT, Nat.reduceAdd]
    · intro p hp
      simp only [List.mem_cons, List.not_mem_nil, or_false] at hp
      rcases hp with rfl
      · show stepD _ _ _ _ _ 24 (fun s' => LeA 2 s' (gvF m 15)) (gvF m 14)
        rw [gvF_15, gvF_14]
        simp (config := { maxSteps := 1000000 }) only [SlV.val, push_cast, ↓reduceIte]
        (repeat (refine And.intro (by first | omega | decide) ?_))
        refine callD_rule rfl cb90 rfl (give16OK (l := m.ps.l) hpf (showsR_raw hm.ps.rd hm.ps.len) (by simp (config := { maxSteps := 1000000 }) only [fb, zb, push_cast, Nat.reduceAdd])) (dOk_lt rfl) (fun _ => by simp (config := { maxSteps := 1000000 }) only [fb, zb, push_cast, Nat.reduceLT, Nat.reduceAdd]) ?_
        refine ⟨[2, 3, 5, 4], ?_⟩
        simp (config := { maxSteps := 1000000 }) only [fb, zb, pcs_ren, pcs_forall, ↓mgA_cren, List.range, List.range.loop, List.nil_append, List.cons_append, push_cast, ↓reduceIte, reduceCtorEq, Nat.reduceEqDiff, Nat.reduceLT, Nat.reduceAdd]
    · intro p hp
      simp only [List.mem_cons, List.not_mem_nil, or_false] at hp
      rcases hp with rfl
      · show stepD _ _ _ _ _ 28 (fun s' => LeA 2 s' (gvF m 16)) (gvF m 15)
        rw [gvF_16, gvF_15]
        simp (config := { maxSteps := 1000000 }) only [fb, zb, pcs_forall, SlV.val, x1, x2, bx, cx, push_cast, ↓reduceIte, Nat.reduceEqDiff, Nat.reduceLT, Nat.reduceAdd]
        refine ⟨[2, 3, 4, 6], ?_⟩
        simp (config := { maxSteps := 1000000 }) only [fb, zb, pcs_ren, pcs_forall, ↓mgA_cren, List.range, List.range.loop, List.nil_append, List.cons_append, push_cast, ↓reduceIte, reduceCtorEq, Nat.reduceEqDiff, Nat.reduceLT, Nat.reduceAdd]
    · intro p hp
      cases hp
  · rw [gvF_16]
    have l6 := gv6_len m
    have l7 := gv7_len hm.s
    have t6 : (List.take 6 (gv6 m)).length = 6 := by rw [List.length_take, l6]; rfl
    have d6 : (List.drop 38 (gv6 m)).length = 5 := by rw [List.length_drop, l6]
    have e6 := gv6_eq m
    have e7 := gv7_eq m
    have e8 := gv8_eq hm.s
    simp (config := { maxSteps := 1000000 }) only [hfs, zeroArr, zokMg2, mgA_zero, zeroR_len, e6, e7, e8, l6, l7, List.length_set, push_cast, ↓reduceIte, reduceCtorEq, Nat.reduceEqDiff, Nat.reduceLT, Nat.reduceLeDiff, Nat.reduceAdd]
    refine leads_le [0, 1, 2, 3, 4, 5] ?_
    simp (config := { maxSteps := 1000000 }) only [fb, zb, ob, pcs_ren, pcs_forall, ↓mgA_cren, ↓mgO_vren, push_cast, ↓reduceIte, reduceCtorEq, Nat.reduceEqDiff, Nat.reduceLT, Nat.reduceAdd]
    done
  · have ol := mgO_len (m := m.mg) (a := 2) (b := 3) (c := 4) (d := 5) hm.s
    simp (config := { maxSteps := 1000000 }) only [zeroR_len, ol, undef, push_cast, ↓reduceIte, Nat.reduceEqDiff, Nat.reduceLT, Nat.reduceAdd]
    refine ⟨cast (mgO_one m.mg 2 3 4 5 _).symm ⟨rfl, rfl, rfl, rfl⟩, endsAs [2, 3, 4, 5] ?_⟩
    simp (config := { maxSteps := 1000000 }) only [ob, pcs_ren, pcs_forall, ↓mgO_vren, push_cast, ↓reduceIte, Nat.reduceEqDiff, Nat.reduceLT, Nat.reduceAdd]
    done
theorem giveK16 {w0 : World} {hp : List Res} {m : MgR} (hm : m.Ok w0) (hbr : ∀ r ∈ hp, Res.bnd hp.length r) :
    CallOK Tryd.prog w0 No 39 [.x (.g (mgA m))] hp (.x (.g (mgO m.mg hp.length (hp.length + 1) (hp.length + 2) (hp.length + 3)))) (hp ++ [.own 3 (.i64 m.ids.l), .own 27 (.u64 m.ns.l), .onn 160 2 (.c (pcs m.ps.l)), .own 136 (.u32 m.xs.l)]) := by
  have ob := fun (m : MgS) a b c d n => mgO_bnd m a b c d n
  simp only [At.bnd] at ob
  have := callOK_take (P := Tryd.prog) (w0 := w0) (ow := No) (f := 39) (svs := [.x (.g (mgA m))]) (hp := hp) (sv1 := .x (.g (mgO m.mg 0 1 2 3))) (hp1 := [.own 3 (.i64 m.ids.l), .own 27 (.u64 m.ns.l), .onn 160 2 (.c (pcs m.ps.l)), .own 136 (.u32 m.xs.l)]) [] hbr (by simp (config := { maxSteps := 1000000 }) only [pcs_forall, push_cast, Nat.reduceAdd])
    (by rw [mgO_vbnd]; show 0 < 4 ∧ 1 < 4 ∧ 2 < 4 ∧ 3 < 4; decide) fun γ w hS => ⟨No, fun b h => h.elim, by
      have := giveMg_any m w (hm.later hS)
      rw [show List.map (Sv.val γ) [.x (.g (mgA m))] = List.map (Sv.val []) [.x (.g (mgA m))] from by simp only [List.map_cons, List.map_nil]; rw [mgA_same m γ []]]
      exact this⟩
  have r0 := fun i (h : i < 4) => shiftL_rn (a := hp.length) (n := 4) h
  have e : Sv.ren (shiftL hp.length 4) (.x (.g (mgO m.mg 0 1 2 3))) = .x (.g (mgO m.mg hp.length (hp.length + 1) (hp.length + 2) (hp.length + 3))) := by
    rw [mgO_vren, r0 0 (by decide), r0 1 (by decide), r0 2 (by decide), r0 3 (by decide)]
    rfl
  have e2 : goneAll [] hp ++ List.map (Res.ren (shiftL hp.length 4)) [.own 3 (.i64 m.ids.l), .own 27 (.u64 m.ns.l), .onn 160 2 (.c (pcs m.ps.l)), .own 136 (.u32 m.xs.l)] = hp ++ [.own 3 (.i64 m.ids.l), .own 27 (.u64 m.ns.l), .onn 160 2 (.c (pcs m.ps.l)), .own 136 (.u32 m.xs.l)] := by
    show hp ++ [_, _, Res.onn _ 2 (.c ((pcs m.ps.l).map _)), _] = _
    rw [pcs_ren]
    rfl
  rw [show ([.own 3 (.i64 m.ids.l), .own 27 (.u64 m.ns.l), .onn 160 2 (.c (pcs m.ps.l)), .own 136 (.u32 m.xs.l)] : List Res).length = 4 from rfl, e, e2] at this
  exact this
end
end Go.Proofs.YtiaeollemmkclaaDoor
