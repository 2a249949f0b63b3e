/- The sums that law 6's 'sure' looks at. -/
import Derived.Test.YtkchdhkpjnnliaaDoorMac1
import Derived.Test.YtkchdhkpjnnliaaDoorText
namespace Go.Proofs.YtkchdhkpjnnliaaDoor
open Go.RowKit
def jefe : List UInt8 := [74, 101, 102, 101]
def what : List UInt8 := [119, 104, 97, 116, 32, 100, 111, 32, 121, 97, 32, 119, 97, 110, 116, 32, 102, 111, 114, 32, 110, 111, 116, 104, 105, 110, 103, 63]
theorem jefe_sum : textTo (macOf jefe what) 32 = [53, 98, 100, 99, 99, 49, 52, 54, 98, 102, 54, 48, 55, 53, 52, 101, 54, 97, 48, 52, 50, 52, 50, 54, 48, 56, 57, 53, 55, 53, 99, 55, 53, 97, 48, 48, 51, 102, 48, 56, 57, 100, 50, 55, 51, 57, 56, 51, 57, 100, 101, 99, 53, 56, 98, 57, 54, 52, 101, 99, 51, 56, 52, 51] := by decide +kernel
theorem none_sum : (decide (macOf [] [] = zb 32)) = false := by decide +kernel
end Go.Proofs.YtkchdhkpjnnliaaDoor
