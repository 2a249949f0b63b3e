import Derived.Test.YtiaeollemmkclaaDoorTn0
import Derived.Test.YtiaeollemmkclaaDoorShA
import Derived.Test.YtiaeollemmkclaaDoorSetA
/- Layer 15: sets (set.can, Bits, From, Either, Both, Less, Has, Check). -/
namespace Go.Proofs.YtiaeollemmkclaaDoor
open Go.RowKit
set_option linter.unusedSimpArgs false
set_option linter.unusedVariables false
def canF (n : Int) : Bool := decide (0 ≤ n ∧ n < 64)
attribute [local irreducible] Callable CallOK CallG CallM DrawG LoopG symR symM
attribute [local irreducible] bitsF fromF bitStep canF
section
variable {w0 : World} {ow : Nat → Prop} {hp : List Res}
def fromTo (v : UInt64) (n : Nat) : List Int := ((List.range n).filter (bitT v)).map Int.ofNat
attribute [local irreducible] fromTo
end
end Go.Proofs.YtiaeollemmkclaaDoor
/- Layer 15: sets out of two, what is in, what may be. -/
namespace Go.Proofs.YtiaeollemmkclaaDoor
open Go.RowKit
set_option linter.unusedSimpArgs false
set_option linter.unusedVariables false
attribute [local irreducible] Callable CallOK CallG CallM DrawG LoopG symR symM
attribute [local irreducible] bitsF fromF canF hasF chkS
section
variable {w0 : World} {ow : Nat → Prop} {hp : List Res} {a b : List Int} {s1 s2 : Sv}
/-- An error, or none. -/
def okV (b : Bool) (n : Int) : Value := if b = true then .nilIface else .iface 137 (.int .i64 n)
attribute [local irreducible] okV
end
end Go.Proofs.YtiaeollemmkclaaDoor
