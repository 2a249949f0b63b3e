import Derived.Test.YtiaeollemmkclaaDoorTr1
import Derived.Test.YtiaeollemmkclaaDoorShA
import Derived.Test.YtiaeollemmkclaaDoorTy
/- slices.Index, Contains of numbers; layer 22: tree.Under, Group, Below, Nodes. -/
namespace Go.Proofs.YtiaeollemmkclaaDoor
open Go.RowKit
set_option linter.unusedSimpArgs false
set_option linter.unusedVariables false
/-- The place of a number in a list; below 0: it is none of it. -/
def idxN (n : Int) : List Int → Nat → Int
  | [], _ => -1
  | x :: r, k => if n = x then (k : Int) else idxN n r (k + 1)
def memB (n : Int) (l : List Int) : Bool := decide (n ∈ l)
def undF (l : List PlS) (p : Int) (k : Nat) : List Int := ((List.range k).filter fun q => decide ((ix l q).parent = p)).map Int.ofNat
def beloStep (l : List PlS) (p : Int) (s : List Int) (g : GrS) : List Int := if g.place = p ∨ p ∈ abF l g.place.toNat then eitherF s g.ids else s
def beloTo (c : CfS) (p : Int) (k : Nat) : List Int := (c.groups.take k).foldl (beloStep c.places p) []
attribute [local irreducible] Callable CallOK CallG CallM DrawG LoopG symR symM
attribute [local irreducible] cfF okV tcF isP ofP abF idxN memB idxP
section
attribute [local irreducible] undF beloTo
/-- The number of the group at a place. -/
def grpF (c : CfS) (p : Int) : Int := if isP c p = true then idxP p c.groups 0 else 0
attribute [local irreducible] grpF
end
end Go.Proofs.YtiaeollemmkclaaDoor
/- Are two rows of numbers the same: by the library, the program and the document. -/
namespace Go.Proofs.YtiaeollemmkclaaDoor
open Go.RowKit
set_option linter.unusedSimpArgs false
section
variable (a b : List UInt32) (A : Option Addr) (c : Nat) (A2 : Option Addr) (c2 : Nat) (w : World) (hm : a.length ≤ 100000) (hR : RdV w w.heap.size A (a.map vU32)) (hR2 : RdV w w.heap.size A2 (b.map vU32))
include hm hR hR2
end
section
variable {w0 : World} {hp : List Res} {s1 s2 : Sv} {a b : List UInt32}
end
end Go.Proofs.YtiaeollemmkclaaDoor
/- Layer 22: tree.Nodes; law 22's ints. -/
namespace Go.Proofs.YtiaeollemmkclaaDoor
open Go.RowKit
set_option linter.unusedSimpArgs false
set_option linter.unusedVariables false
/-- The nodes at so many places, and so many of the next one. -/
def spTo (l : List PlS) (k : Nat) : List Int := ((List.range k).flatMap (stepsF l)).map nodeN
def stTo (k s : Nat) : List Int := (List.range s).map fun (t : Nat) => 64 + 4 * (k : Int) + (t : Int)
attribute [local irreducible] Callable CallOK CallG CallM DrawG LoopG symR symM
attribute [local irreducible] cfF okV clientsF spTo stTo
section
end
section
variable (a b : List Int) (A : Option Addr) (c : Nat) (A2 : Option Addr) (c2 : Nat) (w : World) (hm : a.length ≤ 100000) (hR : RdV w w.heap.size A (a.map (Value.int .i64))) (hR2 : RdV w w.heap.size A2 (b.map (Value.int .i64)))
include hm hR hR2
end
end Go.Proofs.YtiaeollemmkclaaDoor
