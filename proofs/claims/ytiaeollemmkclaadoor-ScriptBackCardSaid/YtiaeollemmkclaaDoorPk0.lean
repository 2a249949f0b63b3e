import Derived.Test.YtiaeollemmkclaaDoorVa0
/- Fields as bytes (layer 13), in plain words: what is written, what is read of it, and what is read of a part of it. No program in sight. -/
namespace Go.Proofs.YtiaeollemmkclaaDoor

/-- A field: 0 a number, 1 numbers, 2 bytes, 3 a sum, else a row. -/
structure Fd where
  k : UInt8
  n : UInt64
  l : List UInt64
  b : List UInt8
  s : List UInt8
  x : List UInt32
  many : Int
  most : UInt64
def w4 (a b c d : UInt8) : UInt32 := a.toUInt32 <<< 24 ||| b.toUInt32 <<< 16 ||| c.toUInt32 <<< 8 ||| d.toUInt32
def b4 (v : UInt32) : List UInt8 := [(v >>> 24).toUInt8, (v >>> 16).toUInt8, (v >>> 8).toUInt8, v.toUInt8]
def rowB (x : List UInt32) : List UInt8 := x.flatMap b4
def numsB (l : List UInt64) : List UInt8 := l.flatMap putV
def lenV {α : Type} (l : List α) : List UInt8 := putV (UInt64.ofNat l.length)
/-- PK1: a field as bytes. -/
def putF (f : Fd) : List UInt8 :=
  if f.k = 0 then putV f.n else if f.k = 1 then lenV f.l ++ numsB f.l else if f.k = 2 then lenV f.b ++ f.b else if f.k = 3 then f.s else lenV f.x ++ rowB f.x
def putFs (l : List Fd) : List UInt8 := l.flatMap putF
/-- What is left of what is read, and whether something was wrong. -/
abbrev Rs := List UInt8 × Bool
def badR : Rs := ([], true)
/-- A number off, at most so great. -/
def numR (most : UInt64) (st : Rs) : UInt64 × Bool × Rs := match getV st.1 with
  | some (v, n) => if v ≤ most then (v, true, (st.1.drop n, st.2)) else (0, false, badR)
  | none => (0, false, badR)
def manyU (many : Int) : UInt64 := UInt64.ofNat (max many 0).toNat
/-- How many there are, each of at least so many bytes. -/
def cntR (many : Int) (each : Nat) (st : Rs) : Nat × Bool × Rs :=
  if (numR (manyU many) st).2.1 = true then
    (if (numR (manyU many) st).1.toNat ≤ (numR (manyU many) st).2.2.1.length / each then ((numR (manyU many) st).1.toNat, true, (numR (manyU many) st).2.2) else (0, false, badR))
  else (0, false, badR)
/-- So many numbers more. -/
def numsR (most : UInt64) : Nat → List UInt64 → Rs → List UInt64 × Rs
  | 0, acc, st => (acc, st)
  | n + 1, acc, st => if (numR most st).2.1 = true then numsR most n (acc ++ [(numR most st).1]) (numR most st).2.2 else ([], badR)
def fours : List UInt8 → List UInt32
  | a :: b :: c :: d :: r => w4 a b c d :: fours r
  | _ => []
def numsOf (many : Int) (most : UInt64) (st : Rs) : List UInt64 × Rs :=
  if (cntR many 1 st).2.1 = true then numsR most (cntR many 1 st).1 [] (cntR many 1 st).2.2 else ([], badR)
def bytesOf (many : Int) (st : Rs) : List UInt8 × Rs :=
  if (cntR many 1 st).2.1 = true then ((cntR many 1 st).2.2.1.take (cntR many 1 st).1, ((cntR many 1 st).2.2.1.drop (cntR many 1 st).1, (cntR many 1 st).2.2.2)) else ([], badR)
def sumOf (st : Rs) : List UInt8 × Rs := if st.1.length < 32 then (List.replicate 32 0, badR) else (st.1.take 32, (st.1.drop 32, st.2))
def rowOf (many : Int) (st : Rs) : List UInt32 × Rs :=
  if (cntR many 4 st).2.1 = true then (fours ((cntR many 4 st).2.2.1.take (4 * (cntR many 4 st).1)), ((cntR many 4 st).2.2.1.drop (4 * (cntR many 4 st).1), (cntR many 4 st).2.2.2)) else ([], badR)
def zeroF (k : UInt8) : Fd := ⟨k, 0, [], [], List.replicate 32 0, [], 0, 0⟩
/-- PK2: what is read, and what is left. -/
def takeF (f : Fd) (st : Rs) : Fd × Rs :=
  if f.k = 0 then ({ zeroF f.k with n := (numR f.most st).1 }, (numR f.most st).2.2)
  else if f.k = 1 then ({ zeroF f.k with l := (numsOf f.many f.most st).1 }, (numsOf f.many f.most st).2)
  else if f.k = 2 then ({ zeroF f.k with b := (bytesOf f.many st).1 }, (bytesOf f.many st).2)
  else if f.k = 3 then ({ zeroF f.k with s := (sumOf st).1 }, (sumOf st).2)
  else ({ zeroF f.k with x := (rowOf f.many st).1 }, (rowOf f.many st).2)

/-! ### What is wrong once stays so -/
/-! ### What was written is read; of a part of it, it is read, or something is wrong -/
def pre (c : Nat) (l : List UInt8) : Rs := (l.take c, false)
/-- The field that is asked for, for one that was written. -/
def askF (f : Fd) : Fd := { f with many := 300, most := 18446744073709551615 }
def kindF (f : Fd) : Fd := if f.k = 0 then { zeroF f.k with n := f.n } else if f.k = 1 then { zeroF f.k with l := f.l } else if f.k = 2 then { zeroF f.k with b := f.b } else if f.k = 3 then { zeroF f.k with s := f.s } else { zeroF f.k with x := f.x }
/-! ### All of it -/
end Go.Proofs.YtiaeollemmkclaaDoor
