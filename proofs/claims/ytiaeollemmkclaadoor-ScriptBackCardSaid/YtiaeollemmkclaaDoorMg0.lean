import Derived.Test.YtiaeollemmkclaaDoorPk0
import Derived.Test.YtiaeollemmkclaaDoorTn0
import Derived.Test.YtiaeollemmkclaaDoorPc
/- The plain law of layer 16: messages, their forms, as bytes, of bytes. No program in sight. -/
namespace Go.Proofs.YtiaeollemmkclaaDoor
/-! ### What is said -/
structure MgS where
  k : UInt8
  pl : Int
  ot : Int
  cl : Int
  ge : Int
  nu : UInt64
  sm : List UInt8
  ids : List Int
  ns : List UInt64
  ps : List Pr
  xs : List UInt32
  re : Int
deriving DecidableEq
def zeroM : MgS := ⟨0, 0, 0, 0, 0, 0, List.replicate 32 0, [], [], [], [], 0⟩
instance : Inhabited MgS := ⟨zeroM⟩
/-- A kind's name, and its form. -/
def kindM (k : UInt8) : List UInt8 × List UInt8 :=
  if k = 1 then ([106, 111, 105, 110], [99, 103, 110, 115]) else if k = 2 then ([114, 111, 115, 116, 101, 114], [103, 112])
  else if k = 3 then ([98, 111, 120], [99, 103, 118]) else if k = 4 then ([98, 111, 120, 101, 115], [103, 105, 118])
  else if k = 5 then ([109, 97, 115, 107, 101, 100], [99, 103, 120]) else if k = 6 then ([112, 97, 114, 116, 105, 97, 108], [97, 103, 105, 120, 112, 118])
  else if k = 7 then ([116, 97, 107, 101, 110], [97, 103]) else if k = 8 then ([97, 115, 107], [97, 103, 105])
  else if k = 9 then ([103, 105, 118, 101], [99, 103, 118]) else if k = 10 then ([103, 105, 118, 101, 110], [97, 99, 103, 118])
  else if k = 11 then ([97, 98, 111, 114, 116], [114]) else if k = 12 then ([100, 111, 110, 101], [105, 120])
  else if k = 13 then ([112, 105, 110, 103], [97, 103]) else if k = 14 then ([112, 111, 110, 103], [97, 103])
  else if k = 15 then ([115, 116, 101, 112], [97, 103]) else if k = 16 then ([109, 111, 118, 101], [97, 111, 103])
  else if k = 17 then ([108, 111, 115, 116], [103, 105]) else if k = 18 then ([108, 97, 116, 101], [99, 103])
  else if k = 19 then ([113, 117, 105, 116], [114]) else ([], [])
def formL (k : UInt8) : List UInt8 := (kindM k).2
def wiM (n most : Int) : Bool := decide (0 ≤ n ∧ n ≤ most)
def pm1 : UInt64 := 2305843009213693950
def mayF (m : MgS) (c : UInt8) : Bool :=
  if c = 97 then wiM m.pl 15 else if c = 111 then wiM m.ot 15 else if c = 99 then wiM m.cl 63 else if c = 103 then wiM m.ge 1073741824
  else if c = 110 then decide (m.nu ≤ pm1) else if c = 115 then true else if c = 105 then chkS (-1) m.ids
  else if c = 118 then decide (m.ns.length ≤ 128) && !(m.ns.any fun v => decide (pm1 < v)) else if c = 112 then may m.ps
  else if c = 120 then decide (m.xs.length ≤ 32) else if c = 114 then wiM m.re 255 else false
def withoutF (m : MgS) (c : UInt8) : MgS :=
  if c = 97 then { m with pl := 0 } else if c = 111 then { m with ot := 0 } else if c = 99 then { m with cl := 0 } else if c = 103 then { m with ge := 0 }
  else if c = 110 then { m with nu := 0 } else if c = 115 then { m with sm := List.replicate 32 0 } else if c = 105 then { m with ids := [] }
  else if c = 118 then { m with ns := [] } else if c = 112 then { m with ps := [] } else if c = 120 then { m with xs := [] } else if c = 114 then { m with re := 0 } else m
def chkGo (m : MgS) : List UInt8 → MgS → Bool
  | [], r => decide (r = zeroM)
  | c :: f, r => if mayF m c = true then chkGo m f (withoutF r c) else false
def chkM (m : MgS) : Bool := if formL m.k = [] then false else chkGo m (formL m.k) { m with k := 0 }
/-! As bytes. -/
def numsI (l : List Int) : List UInt64 := l.map UInt64.ofInt
def intsU (l : List UInt64) : List Int := l.map fun v => (v.toNat : Int)
/-- What is written of a field: blocks, the first one first. -/
def blkF (m : MgS) (c : UInt8) : List (List UInt8) :=
  if c = 97 then [putV (UInt64.ofInt m.pl)] else if c = 111 then [putV (UInt64.ofInt m.ot)] else if c = 99 then [putV (UInt64.ofInt m.cl)] else if c = 103 then [putV (UInt64.ofInt m.ge)]
  else if c = 110 then [putV m.nu] else if c = 115 then [m.sm] else if c = 105 then [lenV (numsI m.ids) ++ numsB (numsI m.ids)]
  else if c = 118 then [lenV m.ns ++ numsB m.ns] else if c = 112 then [lenV (numsI (m.ps.map (·.1))) ++ numsB (numsI (m.ps.map (·.1))), lenV (m.ps.map (·.2)) ++ numsB (m.ps.map (·.2))]
  else if c = 120 then [lenV m.xs ++ rowB m.xs] else if c = 114 then [putV (UInt64.ofInt m.re)] else []
def fbM (m : MgS) (c : UInt8) : List UInt8 := (blkF m c).flatten
def encM (m : MgS) : List UInt8 := putV m.k.toUInt64 ++ (formL m.k).flatMap (fbM m)
/-! Of bytes. -/
def stepM (c : UInt8) (st : Rs) (m : MgS) : Option (MgS × Rs) :=
  if c = 97 then some ({ m with pl := ((numR 15 st).1.toNat : Int) }, (numR 15 st).2.2)
  else if c = 111 then some ({ m with ot := ((numR 15 st).1.toNat : Int) }, (numR 15 st).2.2)
  else if c = 99 then some ({ m with cl := ((numR 63 st).1.toNat : Int) }, (numR 63 st).2.2)
  else if c = 103 then some ({ m with ge := ((numR 1073741824 st).1.toNat : Int) }, (numR 1073741824 st).2.2)
  else if c = 110 then some ({ m with nu := (numR pm1 st).1 }, (numR pm1 st).2.2)
  else if c = 115 then some ({ m with sm := (sumOf st).1 }, (sumOf st).2)
  else if c = 105 then some ({ m with ids := intsU (numsOf 64 63 st).1 }, (numsOf 64 63 st).2)
  else if c = 118 then some ({ m with ns := (numsOf 128 pm1 st).1 }, (numsOf 128 pm1 st).2)
  else if c = 112 then (if (numsOf 64 63 st).1.length = (numsOf 64 pm1 (numsOf 64 63 st).2).1.length then some ({ m with ps := m.ps ++ (intsU (numsOf 64 63 st).1).zip (numsOf 64 pm1 (numsOf 64 63 st).2).1 }, (numsOf 64 pm1 (numsOf 64 63 st).2).2) else none)
  else if c = 120 then some ({ m with xs := (rowOf 32 st).1 }, (rowOf 32 st).2)
  else if c = 114 then some ({ m with re := ((numR 255 st).1.toNat : Int) }, (numR 255 st).2.2) else some (m, st)
def decGo : List UInt8 → MgS → Rs → Option (MgS × Rs)
  | [], m, st => some (m, st)
  | c :: f, m, st => match stepM c st m with
    | none => none
    | some (m', st') => decGo f m' st'
def endD : Option (MgS × Rs) → Option MgS
  | none => none
  | some (m, st) => if st = ([], false) ∧ chkM m = true then some m else none
def decM (b : List UInt8) : Option MgS := endD (decGo (formL (numR 255 (b, false)).1.toUInt8) { zeroM with k := (numR 255 (b, false)).1.toUInt8 } (numR 255 (b, false)).2.2)
/-! ### What was written is read -/
/-- A field copied. -/
def copyF (m' : MgS) (c : UInt8) (m : MgS) : MgS :=
  if c = 97 then { m' with pl := m.pl } else if c = 111 then { m' with ot := m.ot } else if c = 99 then { m' with cl := m.cl } else if c = 103 then { m' with ge := m.ge }
  else if c = 110 then { m' with nu := m.nu } else if c = 115 then { m' with sm := m.sm } else if c = 105 then { m' with ids := m.ids }
  else if c = 118 then { m' with ns := m.ns } else if c = 112 then { m' with ps := m'.ps ++ m.ps } else if c = 120 then { m' with xs := m.xs } else if c = 114 then { m' with re := m.re } else m'
/-- Bad once, bad for good. -/
def isBad (r : Option (MgS × Rs)) : Prop := r = none ∨ ∃ m, r = some (m, badR)
/-! ### Back -/
/-- What was copied so far, and what is left. -/
structure Jn (m m' r : MgS) : Prop where
  pl : m'.pl = m.pl ∨ m'.pl = 0 ∧ r.pl = m.pl
  ot : m'.ot = m.ot ∨ m'.ot = 0 ∧ r.ot = m.ot
  cl : m'.cl = m.cl ∨ m'.cl = 0 ∧ r.cl = m.cl
  ge : m'.ge = m.ge ∨ m'.ge = 0 ∧ r.ge = m.ge
  nu : m'.nu = m.nu ∨ m'.nu = 0 ∧ r.nu = m.nu
  sm : m'.sm = m.sm ∨ m'.sm = List.replicate 32 0 ∧ r.sm = m.sm
  ids : m'.ids = m.ids ∨ m'.ids = [] ∧ r.ids = m.ids
  ns : m'.ns = m.ns ∨ m'.ns = [] ∧ r.ns = m.ns
  xs : m'.xs = m.xs ∨ m'.xs = [] ∧ r.xs = m.xs
  re : m'.re = m.re ∨ m'.re = 0 ∧ r.re = m.re
  k : m'.k = m.k
theorem Jn.step {m m' r : MgS} (h : Jn m m' r) (c : UInt8) : Jn m (copyF m' c m) (withoutF r c) := by
  unfold copyF withoutF
  by_cases h1 : c = 97
  · simp only [if_pos h1]; exact ⟨.inl rfl, h.ot, h.cl, h.ge, h.nu, h.sm, h.ids, h.ns, h.xs, h.re, h.k⟩
  simp only [if_neg h1]
  by_cases h1 : c = 111
  · simp only [if_pos h1]; exact ⟨h.pl, .inl rfl, h.cl, h.ge, h.nu, h.sm, h.ids, h.ns, h.xs, h.re, h.k⟩
  simp only [if_neg h1]
  by_cases h1 : c = 99
  · simp only [if_pos h1]; exact ⟨h.pl, h.ot, .inl rfl, h.ge, h.nu, h.sm, h.ids, h.ns, h.xs, h.re, h.k⟩
  simp only [if_neg h1]
  by_cases h1 : c = 103
  · simp only [if_pos h1]; exact ⟨h.pl, h.ot, h.cl, .inl rfl, h.nu, h.sm, h.ids, h.ns, h.xs, h.re, h.k⟩
  simp only [if_neg h1]
  by_cases h1 : c = 110
  · simp only [if_pos h1]; exact ⟨h.pl, h.ot, h.cl, h.ge, .inl rfl, h.sm, h.ids, h.ns, h.xs, h.re, h.k⟩
  simp only [if_neg h1]
  by_cases h1 : c = 115
  · simp only [if_pos h1]; exact ⟨h.pl, h.ot, h.cl, h.ge, h.nu, .inl rfl, h.ids, h.ns, h.xs, h.re, h.k⟩
  simp only [if_neg h1]
  by_cases h1 : c = 105
  · simp only [if_pos h1]; exact ⟨h.pl, h.ot, h.cl, h.ge, h.nu, h.sm, .inl rfl, h.ns, h.xs, h.re, h.k⟩
  simp only [if_neg h1]
  by_cases h1 : c = 118
  · simp only [if_pos h1]; exact ⟨h.pl, h.ot, h.cl, h.ge, h.nu, h.sm, h.ids, .inl rfl, h.xs, h.re, h.k⟩
  simp only [if_neg h1]
  by_cases h1 : c = 112
  · simp only [if_pos h1]; exact ⟨h.pl, h.ot, h.cl, h.ge, h.nu, h.sm, h.ids, h.ns, h.xs, h.re, h.k⟩
  simp only [if_neg h1]
  by_cases h1 : c = 120
  · simp only [if_pos h1]; exact ⟨h.pl, h.ot, h.cl, h.ge, h.nu, h.sm, h.ids, h.ns, .inl rfl, h.re, h.k⟩
  simp only [if_neg h1]
  by_cases h1 : c = 114
  · simp only [if_pos h1]; exact ⟨h.pl, h.ot, h.cl, h.ge, h.nu, h.sm, h.ids, h.ns, h.xs, .inl rfl, h.k⟩
  simp only [if_neg h1]
  exact h
end Go.Proofs.YtiaeollemmkclaaDoor
