/- caucusref05.Padded, by the engine. -/
import Derived.Test.YteiifdpikcnbgaaDoorTy
import Derived.Test.YteiifdpikcnbgaaDoorRef5
import Derived.Test.YteiifdpikcnbgaaDoorRefW
namespace Go.Proofs.YteiifdpikcnbgaaDoor
open Go.RowKit
set_option linter.unusedSimpArgs false
set_option maxRecDepth 100000 in
theorem refPadded_any (b : List UInt8) (hl : b.length ≤ 90000) (A : Option Addr) (c : Nat) (w : World) (hR : RdV w w.heap.size A (b.map vU8)) :
    Calls Tryd.prog 136 #[.slice A b.length c] w fun e w' => ∃ v, e = .returned v ∧ Own w' w.heap.size 5 v ((padded b).map vU8) ∧ Below w.heap.size w w' := by
  have F := F8.of (FV.no hR)
  have f1 := F.rd
  have f2 := F.rdOk
  refine calls_own (n := 32) Tryd.func136 rfl Tryd.ntmps136 [.x (.a (.v (.slice A b.length c)))] (by simp) 5 (.u8 (padded b)) (fun _ => rfl) ?_
  simp only [f1, f2, undef, push_cast, ↓Int.toNat_natCast, ↓Int.cast_ofNat_Int, Int.cast_ofNat_Int, ↓reduceIte, reduceCtorEq, Nat.reduceEqDiff, Nat.reduceLT, Nat.reduceLeDiff, Nat.reduceAdd, Nat.reduceSub, Nat.reduceMul, Int.reduceNeg, Int.reduceLE, Int.reduceLT, Int.reduceToNat, Int.reduceAdd, Int.reduceSub, Int.reduceMul, Int.reduceEq]
  (repeat (refine And.intro (by first | omega | decide) ?_))
  refine loop_rule (ι := Nat) (fun k => ⟨[(0, .x (.a (.v (.slice A b.length c)))), (3, .x (.a (.o 0)))], [.own 5 (.u8 (padTo b k))]⟩) (fun k => k ≤ padN b.length) (fun k => padN b.length - k) 0 [2] (by omega) ?_ ?_
  · simp only [padTo, List.replicate_zero, push_cast, ↓Int.toNat_natCast, ↓Int.cast_ofNat_Int, Int.cast_ofNat_Int, ↓reduceIte, reduceCtorEq, Nat.reduceEqDiff, Nat.reduceLT, Nat.reduceLeDiff, Nat.reduceAdd, Nat.reduceSub, Nat.reduceMul, Int.reduceNeg, Int.reduceLE, Int.reduceLT, Int.reduceToNat, Int.reduceAdd, Int.reduceSub, Int.reduceMul, Int.reduceEq]
  · intro k hk
    have hkl := padTo_length b k
    have hpn : padN b.length < 64 := by unfold padN; omega
    simp only [hkl, undef, push_cast, ↓Int.toNat_natCast, ↓Int.cast_ofNat_Int, Int.cast_ofNat_Int, ↓reduceIte, reduceCtorEq, Nat.reduceEqDiff, Nat.reduceLT, Nat.reduceLeDiff, Nat.reduceAdd, Nat.reduceSub, Nat.reduceMul, Int.reduceNeg, Int.reduceLE, Int.reduceLT, Int.reduceToNat, Int.reduceAdd, Int.reduceSub, Int.reduceMul, Int.reduceEq]
    (repeat (refine And.intro (by first | omega | decide) ?_))
    have ht : ((b.length : Int) + 1 + (k : Int) + 8).tmod 64 = ((b.length + 9 + k) % 64 : Nat) := by
      rw [Int.tmod_eq_emod_of_nonneg (by omega)]; omega
    simp only [ht]
    split
    · rename_i h
      have h : k < padN b.length := by simp at h; unfold padN at *; omega
      (repeat (refine And.intro (by first | omega | decide) ?_))
      refine loopK_normal (k + 1) [2] (by omega) (by omega) ?_
      simp only [padTo_succ, push_cast, ↓Int.toNat_natCast, ↓Int.cast_ofNat_Int, Int.cast_ofNat_Int, ↓reduceIte, reduceCtorEq, Nat.reduceEqDiff, Nat.reduceLT, Nat.reduceLeDiff, Nat.reduceAdd, Nat.reduceSub, Nat.reduceMul, Int.reduceNeg, Int.reduceLE, Int.reduceLT, Int.reduceToNat, Int.reduceAdd, Int.reduceSub, Int.reduceMul, Int.reduceEq]
    · rename_i h
      have h : k = padN b.length := by simp at h; unfold padN at *; omega
      (repeat (refine And.intro (by first | omega | decide) ?_))
      refine callG_rule rfl cb140 (by simp only [push_cast, ↓Int.toNat_natCast, ↓Int.cast_ofNat_Int, Int.cast_ofNat_Int, ↓reduceIte, reduceCtorEq, Nat.reduceEqDiff, Nat.reduceLT, Nat.reduceLeDiff, Nat.reduceAdd, Nat.reduceSub, Nat.reduceMul, Int.reduceNeg, Int.reduceLE, Int.reduceLT, Int.reduceToNat, Int.reduceAdd, Int.reduceSub, Int.reduceMul, Int.reduceEq]; rfl) (callOK_own (c := .u8 (bytesTo (lenWords b.length) 2)) (e := 5) (by simp only [push_cast, ↓Int.toNat_natCast, ↓Int.cast_ofNat_Int, Int.cast_ofNat_Int, ↓reduceIte, reduceCtorEq, Nat.reduceEqDiff, Nat.reduceLT, Nat.reduceLeDiff, Nat.reduceAdd, Nat.reduceSub, Nat.reduceMul, Int.reduceNeg, Int.reduceLE, Int.reduceLT, Int.reduceToNat, Int.reduceAdd, Int.reduceSub, Int.reduceMul, Int.reduceEq]) trivial ?_) (by simp only [push_cast, ↓Int.toNat_natCast, ↓Int.cast_ofNat_Int, Int.cast_ofNat_Int, ↓reduceIte, reduceCtorEq, Nat.reduceEqDiff, Nat.reduceLT, Nat.reduceLeDiff, Nat.reduceAdd, Nat.reduceSub, Nat.reduceMul, Int.reduceNeg, Int.reduceLE, Int.reduceLT, Int.reduceToNat, Int.reduceAdd, Int.reduceSub, Int.reduceMul, Int.reduceEq]) (by simp only [push_cast, ↓Int.toNat_natCast, ↓Int.cast_ofNat_Int, Int.cast_ofNat_Int, ↓reduceIte, reduceCtorEq, Nat.reduceEqDiff, Nat.reduceLT, Nat.reduceLeDiff, Nat.reduceAdd, Nat.reduceSub, Nat.reduceMul, Int.reduceNeg, Int.reduceLE, Int.reduceLT, Int.reduceToNat, Int.reduceAdd, Int.reduceSub, Int.reduceMul, Int.reduceEq]) ?_
      · intro γ w' hS
        have := refBytes_any (lenWords b.length) (by simp [lenWords]) _ 2 w' (hS.rdBlk (k := 1) rfl 0)
        exact this
      · simp only [undef, push_cast, ↓Int.toNat_natCast, ↓Int.cast_ofNat_Int, Int.cast_ofNat_Int, ↓reduceIte, reduceCtorEq, Nat.reduceEqDiff, Nat.reduceLT, Nat.reduceLeDiff, Nat.reduceAdd, Nat.reduceSub, Nat.reduceMul, Int.reduceNeg, Int.reduceLE, Int.reduceLT, Int.reduceToNat, Int.reduceAdd, Int.reduceSub, Int.reduceMul, Int.reduceEq]
        have hb := bytesTo_length (lenWords b.length) 2
        (repeat (refine And.intro (by first | omega | decide) ?_))
        rw [h]
        rfl
end Go.Proofs.YteiifdpikcnbgaaDoor
