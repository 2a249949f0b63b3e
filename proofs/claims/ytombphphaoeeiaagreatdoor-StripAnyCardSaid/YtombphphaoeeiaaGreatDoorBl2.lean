import Derived.Test.YtombphphaoeeiaaGreatDoorBl1
/- The law of hidden rows: whoever came, what hides them goes off. No program in sight. -/
namespace Go.Proofs.YtombphphaoeeiaaGreatDoor
open Go.RowKit
set_option linter.unusedSimpArgs false
/-- What a peer adds to the row of another one, at a place. -/
def tm (me : Int) (key : UInt64) (d j : Nat) (p : Pr) : UInt32 := if p.1 = me then 0 else if me < p.1 then ix (pairW p.2 key d) j else 0 - ix (pairW p.2 key d) j
/-! ### Numbers as lists -/
def findL (l : List Pr) (k : Int) : Option UInt64 := findTo l k l.length
def numL (l : List Pr) : List (Int × Sc) := numTo l l.length
/-! ### Clients at every third number -/
section
variable (key seed : Nat → UInt64) (c : Nat → Bool) (x : Nat → List UInt32)
def bP (i : Nat) : Pr := (3 * (i : Int), powU 3 (key i))
def bL (n : Nat) : List Pr := (List.range n).map (bP key)
def bC (n : Nat) : List Int := ((List.range n).filter c).map fun (i : Nat) => 3 * (i : Int)
def bS (n : Nat) : List Pr := ((List.range n).filter c).map fun (i : Nat) => (3 * (i : Int), seed i)
def bK (n : Nat) : List Pr := ((List.range n).filter fun i => !c i).map fun (i : Nat) => (3 * (i : Int), key i)
def bO (n : Nat) : List UInt32 := opnVal (bC c n) (bL key n) (findL (bS seed c n)) (findL (bK key c n)) 4
def bR (n i : Nat) : List UInt32 := sumR 4 [x i, ownW (seed i) 4, prOut (3 * (i : Int)) (key i) (bL key n) 4] 3
/-- What m adds to i's row, at a place. -/
def bA (j i m : Nat) : UInt32 := tm (3 * (i : Int)) (key i) 4 j (bP key m)
end
end Go.Proofs.YtombphphaoeeiaaGreatDoor
