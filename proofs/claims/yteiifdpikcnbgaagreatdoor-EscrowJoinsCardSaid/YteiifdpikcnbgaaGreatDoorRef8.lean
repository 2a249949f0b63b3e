/- The reference's block and mac, by the engine. -/
import Derived.Test.YteiifdpikcnbgaaGreatDoorTy
import Derived.Test.YteiifdpikcnbgaaGreatDoorCom
import Derived.Test.YteiifdpikcnbgaaGreatDoorMac0
namespace Go.Proofs.YteiifdpikcnbgaaGreatDoor
open Go.RowKit
set_option linter.unusedSimpArgs false
/-- The first i of c, noughts behind, 64 in all. -/
def zt (c : List UInt8) (i : Nat) : List UInt8 := c.take i ++ List.replicate (64 - i) 0
theorem zt_set (c : List UInt8) (i : Nat) (hc : i < c.length) (hi : i < 64) : (zt c i).set i (ix c i) = zt c (i + 1) := by
  unfold zt
  have e : List.replicate (64 - i) (0 : UInt8) = 0 :: List.replicate (64 - (i + 1)) 0 := by rw [← List.replicate_succ]; congr 1; omega
  rw [List.set_append_right _ _ (by simp; omega), List.length_take, Nat.min_eq_left (by omega), Nat.sub_self, e, List.set_cons_zero]
  have e2 : c.take (i + 1) = c.take i ++ [ix c i] := by
    rw [List.take_add_one, List.getElem?_eq_getElem (by omega)]
    simp [ix, List.getD_eq_getElem?_getD, List.getElem?_eq_getElem hc]
  rw [e2, List.append_assoc]
  rfl
theorem zt_length (c : List UInt8) (i : Nat) (hc : i ≤ c.length) (hi : i ≤ 64) : (zt c i).length = 64 := by simp [zt]; omega
theorem zt_zero (c : List UInt8) : zt c 0 = List.replicate 64 0 := by simp [zt]
theorem zt_all (c : List UInt8) : zt c c.length = c ++ List.replicate (64 - c.length) 0 := by simp [zt]
attribute [local irreducible] shaOf blockOf zt keyOf
attribute [local irreducible] maskTo macOf keyedOf
end Go.Proofs.YteiifdpikcnbgaaGreatDoor
