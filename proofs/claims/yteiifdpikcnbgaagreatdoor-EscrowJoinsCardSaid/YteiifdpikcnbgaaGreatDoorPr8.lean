/- The sum of rows (vec.Sum). -/
import Derived.Test.YteiifdpikcnbgaaGreatDoorPrA
import Derived.Test.YteiifdpikcnbgaaGreatDoorVs
import Derived.Test.YteiifdpikcnbgaaGreatDoorShA
namespace Go.Proofs.YteiifdpikcnbgaaGreatDoor
open Go.RowKit
set_option linter.unusedSimpArgs false
/-- The sum of the first so many rows. -/
def sumR (n : Nat) (L : List (List UInt32)) : Nat → List UInt32
  | 0 => List.replicate n 0
  | i + 1 => opTo (· + ·) (sumR n L i) (ix L i) n
theorem sumR_zero (n : Nat) (L : List (List UInt32)) : sumR n L 0 = List.replicate n 0 := rfl
theorem sumR_succ (n : Nat) (L : List (List UInt32)) (i : Nat) : sumR n L (i + 1) = opTo (· + ·) (sumR n L i) (ix L i) n := rfl
theorem sumR_length (n : Nat) (L : List (List UInt32)) (i : Nat) : (sumR n L i).length = n := by
  cases i with
  | zero => simp [sumR]
  | succ i => rw [sumR_succ, opTo_length]
/-- A sum that is made in place, so far. -/
def mixTo (a b : List UInt32) (j : Nat) : List UInt32 := opTo (· + ·) a b j ++ a.drop j
theorem mixTo_zero (a b : List UInt32) : mixTo a b 0 = a := by simp [mixTo, opTo_zero]
theorem mixTo_all (a b : List UInt32) (n : Nat) (h : a.length = n) : mixTo a b n = opTo (· + ·) a b n := by simp [mixTo, ← h]
theorem mixTo_length (a b : List UInt32) (j : Nat) (h : j ≤ a.length) : (mixTo a b j).length = a.length := by
  unfold mixTo
  rw [List.length_append, opTo_length, List.length_drop]; omega
theorem mixTo_get (a b : List UInt32) (j : Nat) (_h : j < a.length) : ix (mixTo a b j) j = ix a j := by
  unfold mixTo ix
  rw [List.getD_eq_getElem?_getD, List.getElem?_append_right (by rw [opTo_length]; omega), opTo_length, Nat.sub_self, List.getElem?_drop, Nat.add_zero, List.getD_eq_getElem?_getD]
theorem mixTo_set (a b : List UInt32) (j : Nat) (h : j < a.length) : (mixTo a b j).set j (ix a j + ix b j) = mixTo a b (j + 1) := by
  unfold mixTo
  rw [List.set_append_right _ _ (by rw [opTo_length]; omega), opTo_length, Nat.sub_self, opTo_succ, List.append_assoc]
  congr 1
  rw [List.drop_eq_getElem_cons h]
  rfl
attribute [local irreducible] opTo mixTo sumR
attribute [local irreducible] Callable CallOK CallG CallM DrawG LoopG symR symM
end Go.Proofs.YteiifdpikcnbgaaGreatDoor
