/- caucusref05: words, bytes, what stands behind, by the engine. -/
import Derived.Test.YteiifdpikcnbgaaDoorEn3
import Derived.Test.YteiifdpikcnbgaaDoorTy
import Derived.Test.YteiifdpikcnbgaaDoorRefW
namespace Go.Proofs.YteiifdpikcnbgaaDoor
open Go.RowKit
set_option linter.unusedSimpArgs false
set_option maxRecDepth 100000 in
theorem refWords_any (b : List UInt8) (q : Nat) (hq : b.length = 4 * q) (hl : b.length ≤ 100000) (A : Option Addr) (c : Nat) (w : World) (hR : RdV w w.heap.size A (b.map vU8)) :
    Calls Tryd.prog 137 #[.slice A b.length c] w fun e w' => ∃ v, e = .returned v ∧ Own w' w.heap.size 50 v ((wordsTo b q).map vU32) ∧ Below w.heap.size w w' := by
  have F := F8.of (FV.no hR)
  refine calls_own (n := 45) Tryd.func137 rfl Tryd.ntmps137 [.x (.a (.v (.slice A b.length c)))] (by simp) 50 (.u32 (wordsTo b q)) (fun _ => rfl) ?_
  simp only [undef, push_cast, ↓Int.toNat_natCast, ↓Int.cast_ofNat_Int, Int.cast_ofNat_Int, ↓reduceIte, reduceCtorEq, Nat.reduceEqDiff, Nat.reduceLT, Nat.reduceLeDiff, Nat.reduceAdd, Nat.reduceSub, Nat.reduceMul, Int.reduceNeg, Int.reduceLE, Int.reduceLT, Int.reduceToNat, Int.reduceAdd, Int.reduceSub, Int.reduceMul, Int.reduceEq]
  refine loop_ghost 3 50 (.u32 []) rfl rfl trivial (by simp only [push_cast, ↓Int.toNat_natCast, ↓Int.cast_ofNat_Int, Int.cast_ofNat_Int, ↓reduceIte, reduceCtorEq, Nat.reduceEqDiff, Nat.reduceLT, Nat.reduceLeDiff, Nat.reduceAdd, Nat.reduceSub, Nat.reduceMul, Int.reduceNeg, Int.reduceLE, Int.reduceLT, Int.reduceToNat, Int.reduceAdd, Int.reduceSub, Int.reduceMul, Int.reduceEq]) ?_
  refine loop_rule (ι := Nat) (fun k => ⟨[(0, .x (.a (.v (.slice A b.length c)))), (3, .x (.a (.o 0))), (4, .x (.a (.v (.int .i64 (4 * k : Int)))))], [.own 50 (.u32 (wordsTo b k))]⟩) (fun k => k ≤ q) (fun k => q - k) 0 [0] (by omega) ?_ ?_
  · simp only [wordsTo, push_cast, ↓Int.toNat_natCast, ↓Int.cast_ofNat_Int, Int.cast_ofNat_Int, ↓reduceIte, reduceCtorEq, Nat.reduceEqDiff, Nat.reduceLT, Nat.reduceLeDiff, Nat.reduceAdd, Nat.reduceSub, Nat.reduceMul, Int.reduceNeg, Int.reduceLE, Int.reduceLT, Int.reduceToNat, Int.reduceAdd, Int.reduceSub, Int.reduceMul, Int.reduceEq]
    try rfl
  · intro k hk
    have hkl := wordsTo_length b k
    simp only [undef, push_cast, ↓Int.toNat_natCast, ↓Int.cast_ofNat_Int, Int.cast_ofNat_Int, ↓reduceIte, reduceCtorEq, Nat.reduceEqDiff, Nat.reduceLT, Nat.reduceLeDiff, Nat.reduceAdd, Nat.reduceSub, Nat.reduceMul, Int.reduceNeg, Int.reduceLE, Int.reduceLT, Int.reduceToNat, Int.reduceAdd, Int.reduceSub, Int.reduceMul, Int.reduceEq]
    (repeat (refine And.intro (by first | omega | decide) ?_))
    split
    · rename_i h
      have h : k < q := by simp at h; omega
      refine drawT_rule 31 [(0, true), (1, true), (2, true), (3, true), (4, true), (5, true), (6, true), (7, true), (8, true), (9, true), (10, true), (11, true), (12, true), (13, true), (14, true), (15, true), (16, true), (17, true), (18, true), (19, true), (20, true), (21, true), (22, true), (23, true), (24, true), (25, true), (26, true), (27, true), (28, true), (29, true), (30, false)] (by kernel_rfl) (by kernel_rfl) ?_
      have t0 : (4 * (k : Int)).toNat = 4 * k := by omega
      have t1 : (4 * (k : Int) + 1).toNat = 4 * k + 1 := by omega
      have t2 : (4 * (k : Int) + 2).toNat = 4 * k + 2 := by omega
      have t3 : (4 * (k : Int) + 3).toNat = 4 * k + 3 := by omega
      have c0 := F.cell (4 * k) (by omega)
      have c1 := F.cell (4 * k + 1) (by omega)
      have c2 := F.cell (4 * k + 2) (by omega)
      have c3 := F.cell (4 * k + 3) (by omega)
      have o0 := F.ok (4 * k) (by omega)
      have o1 := F.ok (4 * k + 1) (by omega)
      have o2 := F.ok (4 * k + 2) (by omega)
      have o3 := F.ok (4 * k + 3) (by omega)
      have hA := F.some_ (by omega)
      simp only [t0, t1, t2, t3, c0, c1, c2, c3, o0, o1, o2, o3, hA, undef, push_cast, ↓Int.toNat_natCast, ↓Int.cast_ofNat_Int, Int.cast_ofNat_Int, ↓reduceIte, reduceCtorEq, Nat.reduceEqDiff, Nat.reduceLT, Nat.reduceLeDiff, Nat.reduceAdd, Nat.reduceSub, Nat.reduceMul, Int.reduceNeg, Int.reduceLE, Int.reduceLT, Int.reduceToNat, Int.reduceAdd, Int.reduceSub, Int.reduceMul, Int.reduceEq]
      (repeat (refine And.intro (by first | omega | decide) ?_))
      refine loopK_normal (k + 1) [2] (by omega) (by omega) ?_
      simp only [wordsTo_succ, be4_eq, push_cast, ↓Int.toNat_natCast, ↓Int.cast_ofNat_Int, Int.cast_ofNat_Int, ↓reduceIte, reduceCtorEq, Nat.reduceEqDiff, Nat.reduceLT, Nat.reduceLeDiff, Nat.reduceAdd, Nat.reduceSub, Nat.reduceMul, Int.reduceNeg, Int.reduceLE, Int.reduceLT, Int.reduceToNat, Int.reduceAdd, Int.reduceSub, Int.reduceMul, Int.reduceEq]
      try omega
    · rename_i h
      have h : k = q := by simp at h; omega
      rw [h]
set_option maxRecDepth 100000 in
theorem refBytes_any (l : List UInt32) (hl : l.length ≤ 1000) (A : Option Addr) (c : Nat) (w : World) (hR : RdV w w.heap.size A (l.map vU32)) :
    Calls Tryd.prog 140 #[.slice A l.length c] w fun e w' => ∃ v, e = .returned v ∧ Own w' w.heap.size 5 v ((bytesTo l l.length).map vU8) ∧ Below w.heap.size w w' := by
  have F := F32.of (FV.no hR)
  refine calls_own (n := 41) Tryd.func140 rfl Tryd.ntmps140 [.x (.a (.v (.slice A l.length c)))] (by simp) 5 (.u8 (bytesTo l l.length)) (fun _ => rfl) ?_
  simp only [undef, push_cast, ↓Int.toNat_natCast, ↓Int.cast_ofNat_Int, Int.cast_ofNat_Int, ↓reduceIte, reduceCtorEq, Nat.reduceEqDiff, Nat.reduceLT, Nat.reduceLeDiff, Nat.reduceAdd, Nat.reduceSub, Nat.reduceMul, Int.reduceNeg, Int.reduceLE, Int.reduceLT, Int.reduceToNat, Int.reduceAdd, Int.reduceSub, Int.reduceMul, Int.reduceEq]
  refine loop_ghost 3 5 (.u8 []) rfl rfl trivial (by simp only [push_cast, ↓Int.toNat_natCast, ↓Int.cast_ofNat_Int, Int.cast_ofNat_Int, ↓reduceIte, reduceCtorEq, Nat.reduceEqDiff, Nat.reduceLT, Nat.reduceLeDiff, Nat.reduceAdd, Nat.reduceSub, Nat.reduceMul, Int.reduceNeg, Int.reduceLE, Int.reduceLT, Int.reduceToNat, Int.reduceAdd, Int.reduceSub, Int.reduceMul, Int.reduceEq]) ?_
  refine loop_rule (ι := Nat) (fun k => ⟨[(0, .x (.a (.v (.slice A l.length c)))), (3, .x (.a (.o 0))), (4, .x (.a (.v (.int .i64 k))))], [.own 5 (.u8 (bytesTo l k))]⟩) (fun k => k ≤ l.length) (fun k => l.length - k) 0 [0] (by omega) ?_ ?_
  · simp only [bytesTo, push_cast, ↓Int.toNat_natCast, ↓Int.cast_ofNat_Int, Int.cast_ofNat_Int, ↓reduceIte, reduceCtorEq, Nat.reduceEqDiff, Nat.reduceLT, Nat.reduceLeDiff, Nat.reduceAdd, Nat.reduceSub, Nat.reduceMul, Int.reduceNeg, Int.reduceLE, Int.reduceLT, Int.reduceToNat, Int.reduceAdd, Int.reduceSub, Int.reduceMul, Int.reduceEq]
    try rfl
  · intro k hk
    have hkl := bytesTo_length l k
    simp only [undef, push_cast, ↓Int.toNat_natCast, ↓Int.cast_ofNat_Int, Int.cast_ofNat_Int, ↓reduceIte, reduceCtorEq, Nat.reduceEqDiff, Nat.reduceLT, Nat.reduceLeDiff, Nat.reduceAdd, Nat.reduceSub, Nat.reduceMul, Int.reduceNeg, Int.reduceLE, Int.reduceLT, Int.reduceToNat, Int.reduceAdd, Int.reduceSub, Int.reduceMul, Int.reduceEq]
    split
    · rename_i h
      have h : k < l.length := by simp at h; omega
      refine drawT_rule 28 [(0, true), (1, true), (2, true), (3, true), (4, true), (5, true), (6, true), (7, true), (8, true), (9, true), (10, true), (11, true), (12, true), (13, true), (14, true), (15, true), (16, true), (17, true), (18, true), (19, true), (20, true), (21, true), (22, true), (23, true), (24, true), (25, true), (26, true), (27, false)] (by kernel_rfl) (by kernel_rfl) ?_
      have c0 := F.cell k h
      have o0 := F.ok k h
      have hA := F.some_ (by omega)
      simp only [c0, o0, hA, undef, push_cast, ↓Int.toNat_natCast, ↓Int.cast_ofNat_Int, Int.cast_ofNat_Int, ↓reduceIte, reduceCtorEq, Nat.reduceEqDiff, Nat.reduceLT, Nat.reduceLeDiff, Nat.reduceAdd, Nat.reduceSub, Nat.reduceMul, Int.reduceNeg, Int.reduceLE, Int.reduceLT, Int.reduceToNat, Int.reduceAdd, Int.reduceSub, Int.reduceMul, Int.reduceEq]
      (repeat (refine And.intro (by first | omega | decide) ?_))
      refine loopK_normal (k + 1) [2] (by omega) (by omega) ?_
      simp only [bytesTo_succ, byte4_eq, push_cast, ↓Int.toNat_natCast, ↓Int.cast_ofNat_Int, Int.cast_ofNat_Int, ↓reduceIte, reduceCtorEq, Nat.reduceEqDiff, Nat.reduceLT, Nat.reduceLeDiff, Nat.reduceAdd, Nat.reduceSub, Nat.reduceMul, Int.reduceNeg, Int.reduceLE, Int.reduceLT, Int.reduceToNat, Int.reduceAdd, Int.reduceSub, Int.reduceMul, Int.reduceEq]
      try omega
    · rename_i h
      have h : k = l.length := by simp at h; omega
      rw [h]
end Go.Proofs.YteiifdpikcnbgaaDoor
