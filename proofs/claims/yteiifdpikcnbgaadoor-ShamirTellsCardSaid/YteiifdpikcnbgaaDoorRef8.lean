/- The reference's block and mac, by the engine. -/
import Derived.Test.YteiifdpikcnbgaaDoorTy
import Derived.Test.YteiifdpikcnbgaaDoorCom
import Derived.Test.YteiifdpikcnbgaaDoorMac0
namespace Go.Proofs.YteiifdpikcnbgaaDoor
open Go.RowKit
set_option linter.unusedSimpArgs false
/-- The first i of c, noughts behind, 64 in all. -/
def zt (c : List UInt8) (i : Nat) : List UInt8 := c.take i ++ List.replicate (64 - i) 0
theorem zt_set (c : List UInt8) (i : Nat) (hc : i < c.length) (hi : i < 64) : (zt c i).set i (ix c i) = zt c (i + 1) := by
  unfold zt
  have e : List.replicate (64 - i) (0 : UInt8) = 0 :: List.replicate (64 - (i + 1)) 0 := by rw [← List.replicate_succ]; congr 1; omega
  rw [List.set_append_right _ _ (by simp; omega), List.length_take, Nat.min_eq_left (by omega), Nat.sub_self, e, List.set_cons_zero]
  have e2 : c.take (i + 1) = c.take i ++ [ix c i] := by
    rw [List.take_add_one, List.getElem?_eq_getElem (by omega)]
    simp [ix, List.getD_eq_getElem?_getD, List.getElem?_eq_getElem hc]
  rw [e2, List.append_assoc]
  rfl
theorem zt_length (c : List UInt8) (i : Nat) (hc : i ≤ c.length) (hi : i ≤ 64) : (zt c i).length = 64 := by simp [zt]; omega
theorem zt_zero (c : List UInt8) : zt c 0 = List.replicate 64 0 := by simp [zt]
theorem zt_all (c : List UInt8) : zt c c.length = c ++ List.replicate (64 - c.length) 0 := by simp [zt]
attribute [local irreducible] shaOf blockOf zt keyOf
set_option maxRecDepth 100000 in
theorem refBlock_any (key : List UInt8) (hl : key.length ≤ 90000) (A : Option Addr) (c : Nat) (w : World) (hR : RdV w w.heap.size A (key.map vU8)) :
    Calls Tryd.prog 115 #[.slice A key.length c] w fun e w' => e = .returned (.agg (arr8 (blockOf key))) ∧ Below w.heap.size w w' := by
  have F := F8.of (FV.no hR)
  refine calls_v (n := 27) Tryd.func115 rfl Tryd.ntmps115 [.x (.a (.v (.slice A key.length c)))] (by simp) (.x (.a8 (blockOf key))) (fun _ => rfl) ?_
  simp only [undef, push_cast, ↓Int.toNat_natCast, ↓Int.cast_ofNat_Int, Int.cast_ofNat_Int, ↓reduceIte, reduceCtorEq, Nat.reduceEqDiff, Nat.reduceLT, Nat.reduceLeDiff, Nat.reduceAdd, Nat.reduceSub, Nat.reduceMul, Int.reduceNeg, Int.reduceLE, Int.reduceLT, Int.reduceToNat, Int.reduceAdd, Int.reduceSub, Int.reduceMul, Int.reduceEq]
  (repeat (refine And.intro (by first | omega | decide) ?_))
  split
  · rename_i h
    have h : 64 < key.length := by simp at h; omega
    have hkl := shaOf_length key
    have hcl := hkl
    refine callG_v rfl cb116 rfl (sv := .x (.a8 (shaOf key))) (callOK_v ?_) (dOk_lt rfl) ?_
    · intro γ w' hS
      exact refSum_any key (by omega) A c w' ((hR.below (keeps_below hS.keeps)).more (keeps_below hS.keeps).size)
    simp only [hkl, hcl, undef, push_cast, ↓Int.toNat_natCast, ↓Int.cast_ofNat_Int, Int.cast_ofNat_Int, ↓reduceIte, reduceCtorEq, Nat.reduceEqDiff, Nat.reduceLT, Nat.reduceLeDiff, Nat.reduceAdd, Nat.reduceSub, Nat.reduceMul, Int.reduceNeg, Int.reduceLE, Int.reduceLT, Int.reduceToNat, Int.reduceAdd, Int.reduceSub, Int.reduceMul, Int.reduceEq]
    (repeat (refine And.intro (by first | omega | decide) ?_))
    refine loop_rule (ι := Nat) (fun i => ⟨[(2, .x (.a (.p 0 0))), (3, .x (.a (.p 1 0))), (4, .x (.a (.s 2 0 32 32))), (6, .x (.a (.v (.int .i64 i))))],
      [.blk 179 (.u8 (List.replicate 64 0)), .blk 179 (.u8 (zt (shaOf key) i)), .blk 116 (.u8 (shaOf key))]⟩) (fun i => i ≤ 32) (fun i => 32 - i) 0 [0, 1, 2] (by omega) ?_ ?_
    · simp only [zt_zero, push_cast, ↓Int.toNat_natCast, ↓Int.cast_ofNat_Int, Int.cast_ofNat_Int, ↓reduceIte, reduceCtorEq, Nat.reduceEqDiff, Nat.reduceLT, Nat.reduceLeDiff, Nat.reduceAdd, Nat.reduceSub, Nat.reduceMul, Int.reduceNeg, Int.reduceLE, Int.reduceLT, Int.reduceToNat, Int.reduceAdd, Int.reduceSub, Int.reduceMul, Int.reduceEq]
      try omega
    · intro i hi
      have hzt := zt_length (shaOf key) i (by omega) (by omega)
      simp only [hzt, hkl, undef, push_cast, ↓Int.toNat_natCast, ↓Int.cast_ofNat_Int, Int.cast_ofNat_Int, ↓reduceIte, reduceCtorEq, Nat.reduceEqDiff, Nat.reduceLT, Nat.reduceLeDiff, Nat.reduceAdd, Nat.reduceSub, Nat.reduceMul, Int.reduceNeg, Int.reduceLE, Int.reduceLT, Int.reduceToNat, Int.reduceAdd, Int.reduceSub, Int.reduceMul, Int.reduceEq]
      split
      · rename_i h
        have h : i < 32 := by simp at h; omega
        (repeat (refine And.intro (by first | omega | decide) ?_))
        refine loopK_normal (i + 1) [0, 1, 2] (by omega) (by omega) ?_
        simp only [push_cast, ↓Int.toNat_natCast, ↓Int.cast_ofNat_Int, Int.cast_ofNat_Int, ↓reduceIte, reduceCtorEq, Nat.reduceEqDiff, Nat.reduceLT, Nat.reduceLeDiff, Nat.reduceAdd, Nat.reduceSub, Nat.reduceMul, Int.reduceNeg, Int.reduceLE, Int.reduceLT, Int.reduceToNat, Int.reduceAdd, Int.reduceSub, Int.reduceMul, Int.reduceEq]
        first | exact zt_set _ i (by omega) (by omega) | exact ⟨by omega, zt_set _ i (by omega) (by omega)⟩
      · rename_i h
        have h : i = 32 := by simp at h; omega
        subst h
        have e : zt (shaOf key) 32 = blockOf key := by rw [blockOf_long _ (by omega), ← hkl, zt_all, hkl]
        rw [e]
        done
  · rename_i h
    have h : key.length ≤ 64 := by simp at h; omega
    refine loop_rule (ι := Nat) (fun i => ⟨[(2, .x (.a (.p 0 0))), (3, .x (.a (.p 1 0))), (4, .x (.a (.v (.slice A key.length c)))), (6, .x (.a (.v (.int .i64 i))))],
      [.blk 179 (.u8 (List.replicate 64 0)), .blk 179 (.u8 (zt key i))]⟩) (fun i => i ≤ key.length) (fun i => key.length - i) 0 [0, 1] (by omega) ?_ ?_
    · simp only [zt_zero, push_cast, ↓Int.toNat_natCast, ↓Int.cast_ofNat_Int, Int.cast_ofNat_Int, ↓reduceIte, reduceCtorEq, Nat.reduceEqDiff, Nat.reduceLT, Nat.reduceLeDiff, Nat.reduceAdd, Nat.reduceSub, Nat.reduceMul, Int.reduceNeg, Int.reduceLE, Int.reduceLT, Int.reduceToNat, Int.reduceAdd, Int.reduceSub, Int.reduceMul, Int.reduceEq]
      try omega
    · intro i hi
      have hzt := zt_length key i (by omega) (by omega)
      simp only [hzt, undef, push_cast, ↓Int.toNat_natCast, ↓Int.cast_ofNat_Int, Int.cast_ofNat_Int, ↓reduceIte, reduceCtorEq, Nat.reduceEqDiff, Nat.reduceLT, Nat.reduceLeDiff, Nat.reduceAdd, Nat.reduceSub, Nat.reduceMul, Int.reduceNeg, Int.reduceLE, Int.reduceLT, Int.reduceToNat, Int.reduceAdd, Int.reduceSub, Int.reduceMul, Int.reduceEq]
      split
      · rename_i h
        have h : i < key.length := by simp at h; omega
        have c0 := F.cell i h
        have o0 := F.ok i h
        have hA := F.some_ (by omega)
        simp only [c0, o0, hA, hzt, undef, push_cast, ↓Int.toNat_natCast, ↓Int.cast_ofNat_Int, Int.cast_ofNat_Int, ↓reduceIte, reduceCtorEq, Nat.reduceEqDiff, Nat.reduceLT, Nat.reduceLeDiff, Nat.reduceAdd, Nat.reduceSub, Nat.reduceMul, Int.reduceNeg, Int.reduceLE, Int.reduceLT, Int.reduceToNat, Int.reduceAdd, Int.reduceSub, Int.reduceMul, Int.reduceEq]
        (repeat (refine And.intro (by first | omega | decide) ?_))
        refine loopK_normal (i + 1) [0, 1] (by omega) (by omega) ?_
        simp only [push_cast, ↓Int.toNat_natCast, ↓Int.cast_ofNat_Int, Int.cast_ofNat_Int, ↓reduceIte, reduceCtorEq, Nat.reduceEqDiff, Nat.reduceLT, Nat.reduceLeDiff, Nat.reduceAdd, Nat.reduceSub, Nat.reduceMul, Int.reduceNeg, Int.reduceLE, Int.reduceLT, Int.reduceToNat, Int.reduceAdd, Int.reduceSub, Int.reduceMul, Int.reduceEq]
        first | exact zt_set _ i (by omega) (by omega) | exact ⟨by omega, zt_set _ i (by omega) (by omega)⟩
      · rename_i h
        have h : i = key.length := by simp at h; omega
        subst h
        have e : zt key key.length = blockOf key := by rw [blockOf_short _ (by omega), zt_all]
        rw [e]
        done
attribute [local irreducible] maskTo macOf keyedOf
set_option maxRecDepth 100000 in
theorem refMac_any (key : List UInt8) (hk : key.length ≤ 80000) (A : Option Addr) (c : Nat) (l : List UInt8) (hl : l.length ≤ 80000) (A2 : Option Addr) (c2 : Nat) (w : World) (hR : RdV w w.heap.size A (key.map vU8)) (hR2 : RdV w w.heap.size A2 (l.map vU8)) :
    Calls Tryd.prog 89 #[.slice A key.length c, .slice A2 l.length c2] w fun e w' => e = .returned (.agg (arr8 (macOf key l))) ∧ Below w.heap.size w w' := by
  have F := F8.of (FV.no hR2)
  have hbl := blockOf_length key
  have hml : ∀ m k, (maskTo (blockOf key) m k).length = k := fun m k => maskTo_length _ _ _
  refine calls_v (n := 38) Tryd.func89 rfl Tryd.ntmps89 [.x (.a (.v (.slice A key.length c))), .x (.a (.v (.slice A2 l.length c2)))] (by simp) (.x (.a8 (macOf key l))) (fun _ => rfl) ?_
  simp only [undef, push_cast, ↓Int.toNat_natCast, ↓Int.cast_ofNat_Int, Int.cast_ofNat_Int, ↓reduceIte, reduceCtorEq, Nat.reduceEqDiff, Nat.reduceLT, Nat.reduceLeDiff, Nat.reduceAdd, Nat.reduceSub, Nat.reduceMul, Int.reduceNeg, Int.reduceLE, Int.reduceLT, Int.reduceToNat, Int.reduceAdd, Int.reduceSub, Int.reduceMul, Int.reduceEq]
  (repeat (refine And.intro (by first | omega | decide) ?_))
  refine callG_v rfl cb115 rfl (sv := .x (.a8 (blockOf key))) (callOK_v ?_) (dOk_lt rfl) ?_
  · intro γ w' hS
    exact refBlock_any key (by omega) A c w' ((hR.below (keeps_below hS.keeps)).more (keeps_below hS.keeps).size)
  simp only [hbl, hml, undef, push_cast, ↓Int.toNat_natCast, ↓Int.cast_ofNat_Int, Int.cast_ofNat_Int, ↓reduceIte, reduceCtorEq, Nat.reduceEqDiff, Nat.reduceLT, Nat.reduceLeDiff, Nat.reduceAdd, Nat.reduceSub, Nat.reduceMul, Int.reduceNeg, Int.reduceLE, Int.reduceLT, Int.reduceToNat, Int.reduceAdd, Int.reduceSub, Int.reduceMul, Int.reduceEq]
  (repeat (refine And.intro (by first | omega | decide) ?_))
  refine loop_ghost 6 5 (.u8 []) rfl rfl trivial (by simp only [push_cast, ↓Int.toNat_natCast, ↓Int.cast_ofNat_Int, Int.cast_ofNat_Int, ↓reduceIte, reduceCtorEq, Nat.reduceEqDiff, Nat.reduceLT, Nat.reduceLeDiff, Nat.reduceAdd, Nat.reduceSub, Nat.reduceMul, Int.reduceNeg, Int.reduceLE, Int.reduceLT, Int.reduceToNat, Int.reduceAdd, Int.reduceSub, Int.reduceMul, Int.reduceEq]) ?_
  refine loop_ghost 7 5 (.u8 []) rfl rfl trivial (by simp only [push_cast, ↓Int.toNat_natCast, ↓Int.cast_ofNat_Int, Int.cast_ofNat_Int, ↓reduceIte, reduceCtorEq, Nat.reduceEqDiff, Nat.reduceLT, Nat.reduceLeDiff, Nat.reduceAdd, Nat.reduceSub, Nat.reduceMul, Int.reduceNeg, Int.reduceLE, Int.reduceLT, Int.reduceToNat, Int.reduceAdd, Int.reduceSub, Int.reduceMul, Int.reduceEq]) ?_
  refine loop_rule (ι := Nat) (fun i => ⟨[(1, .x (.a (.v (.slice A2 l.length c2)))), (4, .x (.a (.p 0 0))), (5, .x (.a (.p 1 0))), (6, .x (.a (.o 2))), (7, .x (.a (.o 3))), (8, .x (.a (.v (.int .i64 i))))],
    [.blk 116 (.u8 (List.replicate 32 0)), .blk 179 (.u8 (blockOf key)), .own 5 (.u8 (maskTo (blockOf key) 54 i)), .own 5 (.u8 (maskTo (blockOf key) 92 i))]⟩) (fun i => i ≤ 64) (fun i => 64 - i) 0 [0, 1, 2, 3] (by omega) ?_ ?_
  · simp only [maskTo_zero, push_cast, ↓Int.toNat_natCast, ↓Int.cast_ofNat_Int, Int.cast_ofNat_Int, ↓reduceIte, reduceCtorEq, Nat.reduceEqDiff, Nat.reduceLT, Nat.reduceLeDiff, Nat.reduceAdd, Nat.reduceSub, Nat.reduceMul, Int.reduceNeg, Int.reduceLE, Int.reduceLT, Int.reduceToNat, Int.reduceAdd, Int.reduceSub, Int.reduceMul, Int.reduceEq]
    try omega
  · intro i hi
    simp only [hbl, hml, undef, push_cast, ↓Int.toNat_natCast, ↓Int.cast_ofNat_Int, Int.cast_ofNat_Int, ↓reduceIte, reduceCtorEq, Nat.reduceEqDiff, Nat.reduceLT, Nat.reduceLeDiff, Nat.reduceAdd, Nat.reduceSub, Nat.reduceMul, Int.reduceNeg, Int.reduceLE, Int.reduceLT, Int.reduceToNat, Int.reduceAdd, Int.reduceSub, Int.reduceMul, Int.reduceEq]
    split
    · rename_i h
      have h : i < 64 := by simp at h; omega
      (repeat (refine And.intro (by first | omega | decide) ?_))
      refine loopK_normal (i + 1) [0, 1, 5, 7] (by omega) (by omega) ?_
      simp only [maskTo_succ, push_cast, ↓Int.toNat_natCast, ↓Int.cast_ofNat_Int, Int.cast_ofNat_Int, ↓reduceIte, reduceCtorEq, Nat.reduceEqDiff, Nat.reduceLT, Nat.reduceLeDiff, Nat.reduceAdd, Nat.reduceSub, Nat.reduceMul, Int.reduceNeg, Int.reduceLE, Int.reduceLT, Int.reduceToNat, Int.reduceAdd, Int.reduceSub, Int.reduceMul, Int.reduceEq]
      try omega
    · rename_i h
      have h : i = 64 := by simp at h; omega
      subst h
      have hrd := F.rd
      have hrdo := F.rdOk
      simp only [hrd, hrdo, hbl, hml, undef, push_cast, ↓Int.toNat_natCast, ↓Int.cast_ofNat_Int, Int.cast_ofNat_Int, ↓reduceIte, reduceCtorEq, Nat.reduceEqDiff, Nat.reduceLT, Nat.reduceLeDiff, Nat.reduceAdd, Nat.reduceSub, Nat.reduceMul, Int.reduceNeg, Int.reduceLE, Int.reduceLT, Int.reduceToNat, Int.reduceAdd, Int.reduceSub, Int.reduceMul, Int.reduceEq]
      (repeat (refine And.intro (by first | omega | decide) ?_))
      refine callG_v rfl cb116 rfl (refSumOK_own 4 _ rfl (by simp; omega)) (dOk_lt rfl) ?_
      have hsl := shaOf_length (maskTo (blockOf key) 54 64 ++ l)
      simp only [hsl, hrd, hrdo, hbl, hml, undef, push_cast, ↓Int.toNat_natCast, ↓Int.cast_ofNat_Int, Int.cast_ofNat_Int, ↓reduceIte, reduceCtorEq, Nat.reduceEqDiff, Nat.reduceLT, Nat.reduceLeDiff, Nat.reduceAdd, Nat.reduceSub, Nat.reduceMul, Int.reduceNeg, Int.reduceLE, Int.reduceLT, Int.reduceToNat, Int.reduceAdd, Int.reduceSub, Int.reduceMul, Int.reduceEq]
      (repeat (refine And.intro (by first | omega | decide) ?_))
      refine callG_v rfl cb116 rfl (refSumOK_own 6 _ rfl (by simp)) (dOk_lt rfl) ?_
      simp only [hsl, hrd, hrdo, hbl, hml, undef, push_cast, ↓Int.toNat_natCast, ↓Int.cast_ofNat_Int, Int.cast_ofNat_Int, ↓reduceIte, reduceCtorEq, Nat.reduceEqDiff, Nat.reduceLT, Nat.reduceLeDiff, Nat.reduceAdd, Nat.reduceSub, Nat.reduceMul, Int.reduceNeg, Int.reduceLE, Int.reduceLT, Int.reduceToNat, Int.reduceAdd, Int.reduceSub, Int.reduceMul, Int.reduceEq]
      rw [macOf_eq, keyedOf_eq, keyedOf_eq]
      simp only [shaOf_length, undef, push_cast, ↓Int.toNat_natCast, ↓Int.cast_ofNat_Int, Int.cast_ofNat_Int, ↓reduceIte, reduceCtorEq, Nat.reduceEqDiff, Nat.reduceLT, Nat.reduceLeDiff, Nat.reduceAdd, Nat.reduceSub, Nat.reduceMul, Int.reduceNeg, Int.reduceLE, Int.reduceLT, Int.reduceToNat, Int.reduceAdd, Int.reduceSub, Int.reduceMul, Int.reduceEq]
      done
end Go.Proofs.YteiifdpikcnbgaaDoor
