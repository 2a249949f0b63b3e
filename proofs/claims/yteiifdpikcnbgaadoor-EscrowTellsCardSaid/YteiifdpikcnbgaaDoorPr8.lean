/- The sum of rows (vec.Sum). -/
import Derived.Test.YteiifdpikcnbgaaDoorPrA
import Derived.Test.YteiifdpikcnbgaaDoorVs
import Derived.Test.YteiifdpikcnbgaaDoorShA
namespace Go.Proofs.YteiifdpikcnbgaaDoor
open Go.RowKit
set_option linter.unusedSimpArgs false
/-- The sum of the first so many rows. -/
def sumR (n : Nat) (L : List (List UInt32)) : Nat → List UInt32
  | 0 => List.replicate n 0
  | i + 1 => opTo (· + ·) (sumR n L i) (ix L i) n
theorem sumR_zero (n : Nat) (L : List (List UInt32)) : sumR n L 0 = List.replicate n 0 := rfl
theorem sumR_succ (n : Nat) (L : List (List UInt32)) (i : Nat) : sumR n L (i + 1) = opTo (· + ·) (sumR n L i) (ix L i) n := rfl
theorem sumR_length (n : Nat) (L : List (List UInt32)) (i : Nat) : (sumR n L i).length = n := by
  cases i with
  | zero => simp [sumR]
  | succ i => rw [sumR_succ, opTo_length]
/-- A sum that is made in place, so far. -/
def mixTo (a b : List UInt32) (j : Nat) : List UInt32 := opTo (· + ·) a b j ++ a.drop j
theorem mixTo_zero (a b : List UInt32) : mixTo a b 0 = a := by simp [mixTo, opTo_zero]
theorem mixTo_all (a b : List UInt32) (n : Nat) (h : a.length = n) : mixTo a b n = opTo (· + ·) a b n := by simp [mixTo, ← h]
theorem mixTo_length (a b : List UInt32) (j : Nat) (h : j ≤ a.length) : (mixTo a b j).length = a.length := by
  unfold mixTo
  rw [List.length_append, opTo_length, List.length_drop]; omega
theorem mixTo_get (a b : List UInt32) (j : Nat) (_h : j < a.length) : ix (mixTo a b j) j = ix a j := by
  unfold mixTo ix
  rw [List.getD_eq_getElem?_getD, List.getElem?_append_right (by rw [opTo_length]; omega), opTo_length, Nat.sub_self, List.getElem?_drop, Nat.add_zero, List.getD_eq_getElem?_getD]
theorem mixTo_set (a b : List UInt32) (j : Nat) (h : j < a.length) : (mixTo a b j).set j (ix a j + ix b j) = mixTo a b (j + 1) := by
  unfold mixTo
  rw [List.set_append_right _ _ (by rw [opTo_length]; omega), opTo_length, Nat.sub_self, opTo_succ, List.append_assoc]
  congr 1
  rw [List.drop_eq_getElem_cons h]
  rfl
attribute [local irreducible] opTo mixTo sumR
attribute [local irreducible] Callable CallOK CallG CallM DrawG LoopG symR symM
set_option maxRecDepth 100000 in
set_option maxHeartbeats 4000000 in
theorem vecSum_any (R : List Rw) (n : Nat) (hn : n ≤ 32) (hRl : R.length ≤ 1000) (A : Option Addr) (c : Nat) (w : World) (hR : RdV w w.heap.size A (R.map Rw.val)) (hr : ∀ i, i < R.length → (ix R i).l.length = n ∧ RdV w w.heap.size (ix R i).A ((ix R i).l.map vU32)) :
    Calls Tryd.prog 21 #[.slice A R.length c, .int .i64 n] w fun e w' => ∃ v, e = .returned (.tuple #[v, .nilIface]) ∧ Own w' w.heap.size 50 v ((sumR n (R.map (·.l)) R.length).map vU32) ∧ Below w.heap.size w w' := by
  have F := FM.of hR
  have h0 := fun h => calls_own2 (P := Tryd.prog) (w := w) (n := 48) Tryd.func21 rfl Tryd.ntmps21 [.x (.a (.v (.slice A R.length c))), .x (.a (.v (.int .i64 n)))] (by simp) 50 (.u32 (sumR n (R.map (·.l)) R.length)) .nilIface (vs := (sumR n (R.map (·.l)) R.length).map vU32) (fun _ => rfl) h
  refine h0 ?_
  clear h0
  have ez : zOut n = sumR n (R.map (·.l)) 0 := by unfold zOut; rw [zOk_yes (by omega) (by omega), Int.toNat_natCast, sumR_zero]; rfl
  have eze : zErr n = .nilIface := by unfold zErr; rw [zOk_yes (by omega) (by omega)]; rfl
  simp only [push_cast, ↓Int.toNat_natCast, ↓Int.cast_ofNat_Int, Int.cast_ofNat_Int, ↓reduceIte, reduceCtorEq, Nat.reduceEqDiff, Nat.reduceLT, Nat.reduceLeDiff, Nat.reduceAdd, Nat.reduceSub, Nat.reduceMul, Int.reduceNeg, Int.reduceLE, Int.reduceLT, Int.reduceToNat, Int.reduceAdd, Int.reduceSub, Int.reduceMul, Int.reduceEq]
  refine callG_x rfl cb54 rfl (zero02OK n (by simp only [push_cast, ↓Int.toNat_natCast, ↓Int.cast_ofNat_Int, Int.cast_ofNat_Int, ↓reduceIte, reduceCtorEq, Nat.reduceEqDiff, Nat.reduceLT, Nat.reduceLeDiff, Nat.reduceAdd, Nat.reduceSub, Nat.reduceMul, Int.reduceNeg, Int.reduceLE, Int.reduceLT, Int.reduceToNat, Int.reduceAdd, Int.reduceSub, Int.reduceMul, Int.reduceEq])) (dOk_lt rfl) (by simp only [push_cast, ↓Int.toNat_natCast, ↓Int.cast_ofNat_Int, Int.cast_ofNat_Int, ↓reduceIte, reduceCtorEq, Nat.reduceEqDiff, Nat.reduceLT, Nat.reduceLeDiff, Nat.reduceAdd, Nat.reduceSub, Nat.reduceMul, Int.reduceNeg, Int.reduceLE, Int.reduceLT, Int.reduceToNat, Int.reduceAdd, Int.reduceSub, Int.reduceMul, Int.reduceEq]) ?_
  simp only [ez, eze, undef, push_cast, ↓Int.toNat_natCast, ↓Int.cast_ofNat_Int, Int.cast_ofNat_Int, ↓reduceIte, reduceCtorEq, Nat.reduceEqDiff, Nat.reduceLT, Nat.reduceLeDiff, Nat.reduceAdd, Nat.reduceSub, Nat.reduceMul, Int.reduceNeg, Int.reduceLE, Int.reduceLT, Int.reduceToNat, Int.reduceAdd, Int.reduceSub, Int.reduceMul, Int.reduceEq]
  refine loop_rule (ι := Nat) (fun i => ⟨[(1, .x (.a (.v (.int .i64 n)))), (6, .x (.a (.o 0))), (20, .x (.a (.v (.slice A R.length c)))), (21, .x (.a (.v (.int .i64 R.length)))), (22, .x (.a (.v (.int .i64 i))))], [.own 50 (.u32 (sumR n (R.map (·.l)) i))]⟩) (fun i => i ≤ R.length) (fun i => R.length - i) 0 [0] (by omega) ?_ ?_
  · simp only [push_cast, ↓Int.toNat_natCast, ↓Int.cast_ofNat_Int, Int.cast_ofNat_Int, ↓reduceIte, reduceCtorEq, Nat.reduceEqDiff, Nat.reduceLT, Nat.reduceLeDiff, Nat.reduceAdd, Nat.reduceSub, Nat.reduceMul, Int.reduceNeg, Int.reduceLE, Int.reduceLT, Int.reduceToNat, Int.reduceAdd, Int.reduceSub, Int.reduceMul, Int.reduceEq]
  · intro i hi
    by_cases hlt : (i : Int) < R.length
    · have hlt' : i < R.length := by omega
      have i0 : (0 : Int) ≤ i := by omega
      have c0 : cellOf w (pAdd A i) = .slice (ix R i).A (ix R i).l.length (ix R i).c := F.cell i hlt'
      have o0 := F.ok i hlt'
      have hA := F.some_ (by omega)
      obtain ⟨hl, hRi⟩ := hr i hlt'
      have G := FM.of hRi
      have hs := sumR_length n (R.map (·.l)) i
      have hsi := sumR_succ n (R.map (·.l)) i
      have hix : ix (R.map (·.l)) i = (ix R i).l := by simp [ix, List.getD_eq_getElem?_getD, hlt']
      rw [hix] at hsi
      rw [hl] at c0
      simp only [hlt, i0, c0, o0, hA, undef, push_cast, ↓Int.toNat_natCast, ↓Int.cast_ofNat_Int, Int.cast_ofNat_Int, ↓reduceIte, reduceCtorEq, Nat.reduceEqDiff, Nat.reduceLT, Nat.reduceLeDiff, Nat.reduceAdd, Nat.reduceSub, Nat.reduceMul, Int.reduceNeg, Int.reduceLE, Int.reduceLT, Int.reduceToNat, Int.reduceAdd, Int.reduceSub, Int.reduceMul, Int.reduceEq]
      (repeat (refine And.intro (by first | omega | decide) ?_))
      refine loop_rule (ι := Nat) (fun j => ⟨[(1, .x (.a (.v (.int .i64 n)))), (6, .x (.a (.o 0))), (20, .x (.a (.v (.slice A R.length c)))), (21, .x (.a (.v (.int .i64 R.length)))), (22, .x (.a (.v (.int .i64 i)))), (31, .x (.a (.v (.slice (ix R i).A n (ix R i).c)))), (32, .x (.a (.v (.int .i64 n)))), (33, .x (.a (.v (.int .i64 j))))], [.own 50 (.u32 (mixTo (sumR n (R.map (·.l)) i) (ix R i).l j))]⟩) (fun j => j ≤ n) (fun j => n - j) 0 [0] (by omega) ?_ ?_
      · simp only [mixTo_zero, push_cast, ↓Int.toNat_natCast, ↓Int.cast_ofNat_Int, Int.cast_ofNat_Int, ↓reduceIte, reduceCtorEq, Nat.reduceEqDiff, Nat.reduceLT, Nat.reduceLeDiff, Nat.reduceAdd, Nat.reduceSub, Nat.reduceMul, Int.reduceNeg, Int.reduceLE, Int.reduceLT, Int.reduceToNat, Int.reduceAdd, Int.reduceSub, Int.reduceMul, Int.reduceEq]
      · intro j hj
        by_cases hjt : (j : Int) < n
        · have j0 : (0 : Int) ≤ j := by omega
          have d0 := G.cell j (by omega)
          have p0 := G.ok j (by omega)
          have hA2 := G.some_ (by omega)
          have hml := mixTo_length (sumR n (R.map (·.l)) i) (ix R i).l j (by omega)
          have hmg := mixTo_get (sumR n (R.map (·.l)) i) (ix R i).l j (by omega)
          have hms := mixTo_set (sumR n (R.map (·.l)) i) (ix R i).l j (by omega)
          simp only [hjt, j0, d0, p0, hA2, hml, hs, hmg, hms, undef, push_cast, ↓Int.toNat_natCast, ↓Int.cast_ofNat_Int, Int.cast_ofNat_Int, ↓reduceIte, reduceCtorEq, Nat.reduceEqDiff, Nat.reduceLT, Nat.reduceLeDiff, Nat.reduceAdd, Nat.reduceSub, Nat.reduceMul, Int.reduceNeg, Int.reduceLE, Int.reduceLT, Int.reduceToNat, Int.reduceAdd, Int.reduceSub, Int.reduceMul, Int.reduceEq]
          (repeat (refine And.intro (by first | omega | decide) ?_))
          refine loopK_normal (j + 1) [0] (by omega) (by omega) ?_
          simp only [push_cast, ↓Int.toNat_natCast, ↓Int.cast_ofNat_Int, Int.cast_ofNat_Int, ↓reduceIte, reduceCtorEq, Nat.reduceEqDiff, Nat.reduceLT, Nat.reduceLeDiff, Nat.reduceAdd, Nat.reduceSub, Nat.reduceMul, Int.reduceNeg, Int.reduceLE, Int.reduceLT, Int.reduceToNat, Int.reduceAdd, Int.reduceSub, Int.reduceMul, Int.reduceEq]
        · have e : j = n := by omega
          subst e
          have hma := (mixTo_all (sumR j (R.map (·.l)) i) (ix R i).l j (by omega)).trans hsi.symm
          simp only [hjt, hma, undef, push_cast, ↓Int.toNat_natCast, ↓Int.cast_ofNat_Int, Int.cast_ofNat_Int, ↓reduceIte, reduceCtorEq, Nat.reduceEqDiff, Nat.reduceLT, Nat.reduceLeDiff, Nat.reduceAdd, Nat.reduceSub, Nat.reduceMul, Int.reduceNeg, Int.reduceLE, Int.reduceLT, Int.reduceToNat, Int.reduceAdd, Int.reduceSub, Int.reduceMul, Int.reduceEq]
          (repeat (refine And.intro (by first | omega | decide) ?_))
          refine loopK_normal (i + 1) [0] (by omega) (by omega) ?_
          simp only [push_cast, ↓Int.toNat_natCast, ↓Int.cast_ofNat_Int, Int.cast_ofNat_Int, ↓reduceIte, reduceCtorEq, Nat.reduceEqDiff, Nat.reduceLT, Nat.reduceLeDiff, Nat.reduceAdd, Nat.reduceSub, Nat.reduceMul, Int.reduceNeg, Int.reduceLE, Int.reduceLT, Int.reduceToNat, Int.reduceAdd, Int.reduceSub, Int.reduceMul, Int.reduceEq]
    · have e : i = R.length := by omega
      subst e
      simp only [hlt, undef, ownT2, ownT, push_cast, ↓Int.toNat_natCast, ↓Int.cast_ofNat_Int, Int.cast_ofNat_Int, ↓reduceIte, reduceCtorEq, Nat.reduceEqDiff, Nat.reduceLT, Nat.reduceLeDiff, Nat.reduceAdd, Nat.reduceSub, Nat.reduceMul, Int.reduceNeg, Int.reduceLE, Int.reduceLT, Int.reduceToNat, Int.reduceAdd, Int.reduceSub, Int.reduceMul, Int.reduceEq]
/-- Rows that a slice of the call's own holds, and facts on them. -/
theorem vecSumOK {w0 : World} {hp : List Res} {k kf : Nat} {e : TypeId} (R : List Rw) (n : Nat) (hn : n ≤ 32) (hRl : R.length ≤ 1000) (hr : hp[k]? = some (.own e (.c (R.map fun r => .v r.val)))) (hF : hp[kf]? = some (.abs (fctRep (R.map Rw.fct)))) (hl : ∀ i, i < R.length → (ix R i).l.length = n) (hbr : ∀ r ∈ hp, Res.bnd hp.length r) :
    CallOK Tryd.prog w0 No 21 [.x (.a (.o k)), .x (.a (.v (.int .i64 n)))] hp (.t [.a (.o hp.length), .a (.v .nilIface)]) (hp ++ [.own 50 (.u32 (sumR n (R.map (·.l)) R.length))]) := callOK_own2 hbr trivial fun γ w hS => by
  obtain ⟨A, c, h1, h2, h3, h4⟩ := hS.rdOwn hr
  have e1 : (Cont.c (R.map fun r => At.v r.val)).vals γ = R.map Rw.val := by
    simp only [Cont.vals, List.map_map]
    rfl
  have e2 : (Cont.c (R.map fun r => At.v r.val)).len = R.length := by simp [Cont.len]
  rw [e1] at h4
  rw [e2] at h1 h2
  show Calls _ _ #[nmS γ k, .int .i64 n] w _
  rw [h1]
  refine vecSum_any R n hn hRl A c w h4 fun i hi => ⟨hl i hi, ?_⟩
  have hm : (ix R i).fct ∈ R.map Rw.fct := List.mem_map.2 ⟨_, by simp [ix, List.getD_eq_getElem?_getD, hi], rfl⟩
  obtain ⟨A', c', g1, g2, g3, g4⟩ := fct_rd hS hF hm
  cases g1
  exact g4
end Go.Proofs.YteiifdpikcnbgaaDoor
