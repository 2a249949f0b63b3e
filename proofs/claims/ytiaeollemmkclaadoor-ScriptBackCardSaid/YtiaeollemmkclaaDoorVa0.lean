import Derived.Test.YtiaeollemmkclaaDoorEn3
/- Numbers as few bytes (layer 11), in plain words: what is written, what is read, and that one undoes the other. No program in sight. -/
namespace Go.Proofs.YtiaeollemmkclaaDoor

/-- The last k digits of a number, base 256, the greatest first. -/
def dgV : Nat → Nat → List UInt8
  | 0, _ => []
  | k + 1, v => dgV k (v / 256) ++ [UInt8.ofNat (v % 256)]
/-- The number that digits stand for. -/
def fbV (l : List UInt8) : Nat := l.foldl (fun v x => 256 * v + x.toNat) 0
/-- How many digits a number has. -/
def nbV : Nat → Nat → Nat
  | 0, _ => 1
  | k + 1, v => if v < 256 then 1 else 1 + nbV k (v / 256)
def nb8 (v : UInt64) : Nat := nbV 7 v.toNat
/-- VA1: a number as bytes. -/
def putV (v : UInt64) : List UInt8 := if v < 248 then [v.toUInt8] else UInt8.ofNat (247 + nb8 v) :: dgV (nb8 v) v.toNat
/-- A number at the beginning of bytes, and how many it has. -/
def getV : List UInt8 → Option (UInt64 × Nat)
  | [] => none
  | x :: t => if x < 248 then some (x.toUInt64, 1)
    else if t.length < x.toNat - 247 ∨ ix t 0 = 0 then none
    else if fbV (t.take (x.toNat - 247)) < 248 then none
    else some (UInt64.ofNat (fbV (t.take (x.toNat - 247))), x.toNat - 246)
end Go.Proofs.YtiaeollemmkclaaDoor
