/- A number of 64 bits, as bytes. -/
import Derived.Test.YteiifdpikcnbgaaGreatDoorEn3
namespace Go.Proofs.YteiifdpikcnbgaaGreatDoor
open Go.RowKit
def beTo (x : UInt64) : Nat → List UInt8
  | 0 => []
  | k + 1 => beTo x k ++ [(shr64 x (56 - 8 * k)).toUInt8]
theorem beTo_length (x : UInt64) (k : Nat) : (beTo x k).length = k := by induction k <;> simp_all [beTo]
end Go.Proofs.YteiifdpikcnbgaaGreatDoor
