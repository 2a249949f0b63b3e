import Derived.Test.YtiaeollemmkclaaDoorEn1
/- The plain law of layers 15, 21, 22: sets as bits, who there is, places above one another, nodes. No program in sight. -/
namespace Go.Proofs.YtiaeollemmkclaaDoor
/-! ### Sets -/
/-- Is a bit set? -/
def bitT (v : UInt64) (n : Nat) : Bool := decide (shr64 v n &&& 1 = 1)
def bitStep (s : UInt64) (n : Int) : UInt64 := if 0 ≤ n ∧ n < 64 then s ||| shl64 1 n.toNat else s
def bitsF (l : List Int) : UInt64 := l.foldl bitStep 0
def fromF (v : UInt64) : List Int := ((List.range 64).filter (bitT v)).map Int.ofNat
def hasF (l : List Int) (n : Int) : Bool := decide (0 ≤ n ∧ n < 64) && bitT (bitsF l) n.toNat
def eitherF (a b : List Int) : List Int := fromF (bitsF a ||| bitsF b)
def bothF (a b : List Int) : List Int := fromF (bitsF a &&& bitsF b)
def lessF (a b : List Int) : List Int := fromF (bitsF a &&& ~~~ bitsF b)
def chkS : Int → List Int → Bool
  | _, [] => true
  | last, n :: r => if n ≤ last ∨ ¬ (0 ≤ n ∧ n < 64) then false else chkS n r
/-! ### Who there is -/
structure PlS where
  parent : Int
  spare : Int
  need : Int
deriving Inhabited, DecidableEq
structure GrS where
  place : Int
  ids : List Int
  need : Int
deriving Inhabited, DecidableEq
structure CfS where
  dim : Int
  places : List PlS
  groups : List GrS
  least : Int
  term : Int
deriving Inhabited, DecidableEq
def wiF (n least most : Int) : Bool := decide (least ≤ n ∧ n ≤ most)
/-- Places one above the other, from a place on: how many stand above each so far. -/
def stGo (l : List PlS) : Nat → Nat → List Int → Bool
  | 0, _, _ => true
  | k + 1, i, ab =>
    if wiF (ix l i).parent 0 (i - 1) = true ∧ wiF (ix l i).spare 0 2 = true then
      (if ix ab (ix l i).parent.toNat + 1 ≥ 4 then false else stGo l k (i + 1) (ab.set i (ix ab (ix l i).parent.toNat + 1)))
    else false
def stF (l : List PlS) : Bool :=
  if wiF l.length 2 16 = true ∧ (ix l 0).parent = -1 ∧ (ix l 0).spare = 0 then stGo l (l.length - 1) 1 (List.replicate l.length 0) else false
def fitF (n : Int) (g : GrS) (last : Int) (seen : List Int) : Bool :=
  decide (last < g.place ∧ g.place < n) && wiF g.ids.length 1 12 && chkS (-1) g.ids && decide ((bothF seen g.ids).length = 0) && wiF g.need ((g.ids.length : Int) / 2 + 1) g.ids.length
def grGo (n : Int) : List GrS → Int → List Int → Option (List Int)
  | [], _, seen => some seen
  | g :: r, last, seen => if fitF n g last seen = true then grGo n r g.place (eitherF seen g.ids) else none
def grF (c : CfS) : Bool :=
  if 1 ≤ c.groups.length ∧ c.groups.length < c.places.length then
    (match grGo c.places.length c.groups 0 [] with
      | some seen => wiF c.least 1 seen.length
      | none => false)
  else false
def beStep (b : List Int) (p : PlS) : List Int := b.set p.parent.toNat (ix b p.parent.toNat + 1)
def beF (l : List PlS) : List Int := (l.drop 1).foldl beStep (List.replicate l.length 0)
def atF (gs : List GrS) (i : Int) : Bool := gs.any fun g => decide (g.place = i)
def neGo (c : CfS) (b : List Int) : Nat → Nat → Bool
  | 0, _ => true
  | k + 1, i => if atF c.groups i = decide (0 < ix b i) then false
    else if wiF (ix c.places i).need 1 (if atF c.groups i = true then 1 else ix b i) = true then neGo c b k (i + 1) else false
def neF (c : CfS) : Bool := neGo c (beF c.places) c.places.length 0
def cfF (c : CfS) : Bool := wiF c.dim 1 32 && wiF c.term 1 1000 && stF c.places && grF c && neF c
def allF (gs : List GrS) : List Int := gs.foldl (fun s g => eitherF s g.ids) []
def clientsF (c : CfS) : List Int := if cfF c = true then allF c.groups else []
def abGo (l : List PlS) : Nat → Int → List Int → List Int
  | 0, _, acc => acc
  | k + 1, q, acc => if 0 ≤ q then abGo l k (ix l q.toNat).parent (acc ++ [q]) else acc
def abF (l : List PlS) (p : Nat) : List Int := abGo l (p + 1) (ix l p).parent []
/-- What stands at places. -/
def stepsF (l : List PlS) (p : Nat) : List (Nat × Nat) := (List.range ((ix l p).spare + 1).toNat).map fun s => (p, s)
def spotsF (l : List PlS) : List (Nat × Nat) := (List.range l.length).flatMap (stepsF l)
def nodeN (x : Nat × Nat) : Int := 64 + 4 * (x.1 : Int) + (x.2 : Int)
def nodesF (c : CfS) : List Int := clientsF c ++ (spotsF c.places).map nodeN
/-! What may be, as facts. -/
structure StOk (l : List PlS) : Prop where
  least : 2 ≤ l.length
  most : l.length ≤ 16
  root : (ix l 0).parent = -1
  root0 : (ix l 0).spare = 0
  up : ∀ j, 1 ≤ j → j < l.length → 0 ≤ (ix l j).parent ∧ (ix l j).parent < j
  spare : ∀ j, j < l.length → 0 ≤ (ix l j).spare ∧ (ix l j).spare ≤ 2
/-! Above. -/
/-! Nodes. -/
/-- How many there are. -/
def wantGo (l : List PlS) : Nat → Int
  | 0 => 0
  | n + 1 => wantGo l n + 1 + (ix l n).spare
end Go.Proofs.YtiaeollemmkclaaDoor
