import Derived.Test.YtiaeollemmkclaaDoorEn1
import Derived.Test.YtiaeollemmkclaaDoorShA
import Derived.Test.YtiaeollemmkclaaDoorTy
/- The plain law of layers 15, 21, 22: sets as bits, who there is, places above one another, nodes. No program in sight. -/
namespace Go.Proofs.YtiaeollemmkclaaDoor
/-! ### Sets -/
/-- Is a bit set? -/
def bitT (v : UInt64) (n : Nat) : Bool := decide (shr64 v n &&& 1 = 1)
def bitStep (s : UInt64) (n : Int) : UInt64 := if 0 ≤ n ∧ n < 64 then s ||| shl64 1 n.toNat else s
def bitsF (l : List Int) : UInt64 := l.foldl bitStep 0
def fromF (v : UInt64) : List Int := ((List.range 64).filter (bitT v)).map Int.ofNat
def hasF (l : List Int) (n : Int) : Bool := decide (0 ≤ n ∧ n < 64) && bitT (bitsF l) n.toNat
def eitherF (a b : List Int) : List Int := fromF (bitsF a ||| bitsF b)
def bothF (a b : List Int) : List Int := fromF (bitsF a &&& bitsF b)
def lessF (a b : List Int) : List Int := fromF (bitsF a &&& ~~~ bitsF b)
def chkS : Int → List Int → Bool
  | _, [] => true
  | last, n :: r => if n ≤ last ∨ ¬ (0 ≤ n ∧ n < 64) then false else chkS n r
theorem bitT_eq {v : UInt64} {n : Nat} (h : n < 64) : bitT v n = v.toNat.testBit n := by
  unfold bitT shr64
  rw [if_pos h]
  have e : ((v >>> UInt64.ofNat n) &&& 1).toNat = (v.toNat >>> n) &&& 1 := by
    rw [UInt64.toNat_and, UInt64.toNat_shiftRight, UInt64.toNat_ofNat']
    rw [Nat.mod_eq_of_lt (show n < 2 ^ 64 by omega), Nat.mod_eq_of_lt h]
    rfl
  have e1 : ((v >>> UInt64.ofNat n) &&& 1 = 1) ↔ (v.toNat >>> n) &&& 1 = 1 := by
    rw [← UInt64.toNat_inj, e]
    rfl
  rw [Nat.testBit, Nat.and_comm]
  by_cases hb : (v.toNat >>> n) &&& 1 = 1
  · rw [decide_eq_true (e1.2 hb), hb]; rfl
  · rw [decide_eq_false fun h => hb (e1.1 h)]
    have : (v.toNat >>> n) &&& 1 = 0 := by
      have := Nat.and_one_is_mod (v.toNat >>> n)
      omega
    rw [this]; rfl
theorem bitT_or (a b : UInt64) {n : Nat} (h : n < 64) : bitT (a ||| b) n = (bitT a n || bitT b n) := by
  rw [bitT_eq h, bitT_eq h, bitT_eq h, UInt64.toNat_or, Nat.testBit_or]
theorem bitT_one {m n : Nat} (hm : m < 64) (hn : n < 64) : bitT (shl64 1 m) n = decide (m = n) := by
  rw [bitT_eq hn]
  unfold shl64
  rw [if_pos hm]
  have e : ((1 : UInt64) <<< UInt64.ofNat m).toNat = 2 ^ m := by
    rw [UInt64.toNat_shiftLeft, UInt64.toNat_ofNat', Nat.mod_eq_of_lt (show m < 2 ^ 64 by omega), Nat.mod_eq_of_lt hm]
    show 1 <<< m % 2 ^ 64 = _
    rw [Nat.shiftLeft_eq, Nat.one_mul, Nat.mod_eq_of_lt (Nat.pow_lt_pow_right (by omega) hm)]
  rw [e, Nat.testBit_two_pow]
theorem bitT_zero (n : Nat) : bitT 0 n = false := by
  unfold bitT shr64
  split
  · rename_i h
    have : (0 : UInt64) >>> UInt64.ofNat n = 0 := by
      apply UInt64.toNat_inj.1
      rw [UInt64.toNat_shiftRight]
      exact Nat.zero_shiftRight _
    rw [this]; rfl
  · rfl
theorem bits_fold (l : List Int) : ∀ (s : UInt64) {n : Nat}, n < 64 → bitT (l.foldl bitStep s) n = (bitT s n || decide ((n : Int) ∈ l)) := by
  induction l with
  | nil => intro s n _; simp
  | cons x l ih =>
    intro s n h
    rw [List.foldl_cons, ih _ h]
    unfold bitStep
    by_cases hx : 0 ≤ x ∧ x < 64
    · rw [if_pos hx, bitT_or _ _ h, bitT_one (by omega) h]
      have : decide (x.toNat = n) = decide ((n : Int) = x) := by
        by_cases e : x.toNat = n
        · rw [decide_eq_true e, decide_eq_true (by omega)]
        · rw [decide_eq_false e, decide_eq_false (by omega)]
      rw [this, Bool.or_assoc]
      congr 1
      simp
    · rw [if_neg hx]
      congr 1
      have : ¬ (n : Int) = x := by omega
      simp [this]
theorem bitT_bits (l : List Int) {n : Nat} (h : n < 64) : bitT (bitsF l) n = decide ((n : Int) ∈ l) := by
  unfold bitsF
  rw [bits_fold l 0 h, bitT_zero, Bool.false_or]
theorem mem_from {v : UInt64} {x : Int} : x ∈ fromF v ↔ 0 ≤ x ∧ x < 64 ∧ bitT v x.toNat = true := by
  unfold fromF
  rw [List.mem_map]
  constructor
  · rintro ⟨n, hn, rfl⟩
    rw [List.mem_filter, List.mem_range] at hn
    refine ⟨by show (0 : Int) ≤ (n : Int); omega, ?_, hn.2⟩
    have := hn.1
    show (n : Int) < 64
    omega
  · rintro ⟨h1, h2, h3⟩
    refine ⟨x.toNat, ?_, by show ((x.toNat : Nat) : Int) = x; omega⟩
    rw [List.mem_filter, List.mem_range]
    exact ⟨by omega, h3⟩
theorem from_asc (v : UInt64) : (fromF v).Pairwise (· < ·) := by
  unfold fromF
  rw [List.pairwise_map]
  exact (List.pairwise_lt_range.filter _).imp fun h => Int.ofNat_lt.2 h
/-- Two ascending lists with the same numbers are one. -/
theorem asc_ext : ∀ {a b : List Int}, a.Pairwise (· < ·) → b.Pairwise (· < ·) → (∀ x, x ∈ a ↔ x ∈ b) → a = b
  | [], [], _, _, _ => rfl
  | [], y :: b, _, _, h => absurd ((h y).2 (List.mem_cons_self ..)) (by simp)
  | x :: a, [], _, _, h => absurd ((h x).1 (List.mem_cons_self ..)) (by simp)
  | x :: a, y :: b, ha, hb, h => by
    rw [List.pairwise_cons] at ha hb
    have e : x = y := by
      have h1 := (h x).1 (List.mem_cons_self ..)
      have h2 := (h y).2 (List.mem_cons_self ..)
      rcases List.mem_cons.1 h1 with h1 | h1
      · exact h1
      · rcases List.mem_cons.1 h2 with h2 | h2
        · exact h2.symm
        · have := hb.1 x h1
          have := ha.1 y h2
          omega
    subst e
    refine congrArg (x :: ·) (asc_ext ha.2 hb.2 fun z => ⟨fun hz => ?_, fun hz => ?_⟩)
    · rcases List.mem_cons.1 ((h z).1 (List.mem_cons_of_mem _ hz)) with rfl | h1
      · exact absurd (ha.1 z hz) (Int.lt_irrefl z)
      · exact h1
    · rcases List.mem_cons.1 ((h z).2 (List.mem_cons_of_mem _ hz)) with rfl | h1
      · exact absurd (hb.1 z hz) (Int.lt_irrefl z)
      · exact h1
theorem chkS_iff : ∀ {l : List Int} {last : Int}, chkS last l = true ↔ (∀ x ∈ l, last < x ∧ 0 ≤ x ∧ x < 64) ∧ l.Pairwise (· < ·)
  | [], last => by simp [chkS]
  | n :: r, last => by
    rw [chkS]
    by_cases h : n ≤ last ∨ ¬ (0 ≤ n ∧ n < 64)
    · rw [if_pos h]
      refine ⟨(fun e => nomatch e), fun ⟨e, _⟩ => ?_⟩
      have := e n (List.mem_cons_self ..)
      omega
    · rw [if_neg h, chkS_iff, List.pairwise_cons]
      constructor
      · rintro ⟨h1, h2⟩
        refine ⟨fun x hx => ?_, fun x hx => (h1 x hx).1, h2⟩
        rcases List.mem_cons.1 hx with rfl | hx
        · omega
        · have := h1 x hx; omega
      · rintro ⟨h1, h2, h3⟩
        exact ⟨fun x hx => ⟨h2 x hx, (h1 x (List.mem_cons_of_mem _ hx)).2⟩, h3⟩
/-- What may be a set comes back from its bits. -/
theorem from_bits {l : List Int} {last : Int} (h : chkS last l = true) : fromF (bitsF l) = l := by
  obtain ⟨h1, h2⟩ := chkS_iff.1 h
  refine asc_ext (from_asc _) h2 fun x => ?_
  rw [mem_from]
  constructor
  · rintro ⟨a, b, c⟩
    rw [bitT_bits _ (by omega), show ((x.toNat : Nat) : Int) = x by omega] at c
    simpa using c
  · intro hx
    have := h1 x hx
    refine ⟨by omega, by omega, ?_⟩
    rw [bitT_bits _ (by omega), show ((x.toNat : Nat) : Int) = x by omega]
    simpa using hx
theorem from_len (v : UInt64) : (fromF v).length ≤ 64 := by
  unfold fromF
  rw [List.length_map]
  have := List.length_filter_le (bitT v) (List.range 64)
  simpa using this
/-! ### Who there is -/
structure PlS where
  parent : Int
  spare : Int
  need : Int
deriving Inhabited, DecidableEq
structure GrS where
  place : Int
  ids : List Int
  need : Int
deriving Inhabited, DecidableEq
structure CfS where
  dim : Int
  places : List PlS
  groups : List GrS
  least : Int
  term : Int
deriving Inhabited, DecidableEq
def wiF (n least most : Int) : Bool := decide (least ≤ n ∧ n ≤ most)
/-- Places one above the other, from a place on: how many stand above each so far. -/
def stGo (l : List PlS) : Nat → Nat → List Int → Bool
  | 0, _, _ => true
  | k + 1, i, ab =>
    if wiF (ix l i).parent 0 (i - 1) = true ∧ wiF (ix l i).spare 0 2 = true then
      (if ix ab (ix l i).parent.toNat + 1 ≥ 4 then false else stGo l k (i + 1) (ab.set i (ix ab (ix l i).parent.toNat + 1)))
    else false
def stF (l : List PlS) : Bool :=
  if wiF l.length 2 16 = true ∧ (ix l 0).parent = -1 ∧ (ix l 0).spare = 0 then stGo l (l.length - 1) 1 (List.replicate l.length 0) else false
def fitF (n : Int) (g : GrS) (last : Int) (seen : List Int) : Bool :=
  decide (last < g.place ∧ g.place < n) && wiF g.ids.length 1 12 && chkS (-1) g.ids && decide ((bothF seen g.ids).length = 0) && wiF g.need ((g.ids.length : Int) / 2 + 1) g.ids.length
def grGo (n : Int) : List GrS → Int → List Int → Option (List Int)
  | [], _, seen => some seen
  | g :: r, last, seen => if fitF n g last seen = true then grGo n r g.place (eitherF seen g.ids) else none
def grF (c : CfS) : Bool :=
  if 1 ≤ c.groups.length ∧ c.groups.length < c.places.length then
    (match grGo c.places.length c.groups 0 [] with
      | some seen => wiF c.least 1 seen.length
      | none => false)
  else false
def beStep (b : List Int) (p : PlS) : List Int := b.set p.parent.toNat (ix b p.parent.toNat + 1)
def beF (l : List PlS) : List Int := (l.drop 1).foldl beStep (List.replicate l.length 0)
def atF (gs : List GrS) (i : Int) : Bool := gs.any fun g => decide (g.place = i)
def neGo (c : CfS) (b : List Int) : Nat → Nat → Bool
  | 0, _ => true
  | k + 1, i => if atF c.groups i = decide (0 < ix b i) then false
    else if wiF (ix c.places i).need 1 (if atF c.groups i = true then 1 else ix b i) = true then neGo c b k (i + 1) else false
def neF (c : CfS) : Bool := neGo c (beF c.places) c.places.length 0
def cfF (c : CfS) : Bool := wiF c.dim 1 32 && wiF c.term 1 1000 && stF c.places && grF c && neF c
def allF (gs : List GrS) : List Int := gs.foldl (fun s g => eitherF s g.ids) []
def clientsF (c : CfS) : List Int := if cfF c = true then allF c.groups else []
def abGo (l : List PlS) : Nat → Int → List Int → List Int
  | 0, _, acc => acc
  | k + 1, q, acc => if 0 ≤ q then abGo l k (ix l q.toNat).parent (acc ++ [q]) else acc
def abF (l : List PlS) (p : Nat) : List Int := abGo l (p + 1) (ix l p).parent []
/-- What stands at places. -/
def stepsF (l : List PlS) (p : Nat) : List (Nat × Nat) := (List.range ((ix l p).spare + 1).toNat).map fun s => (p, s)
def spotsF (l : List PlS) : List (Nat × Nat) := (List.range l.length).flatMap (stepsF l)
def nodeN (x : Nat × Nat) : Int := 64 + 4 * (x.1 : Int) + (x.2 : Int)
def nodesF (c : CfS) : List Int := clientsF c ++ (spotsF c.places).map nodeN
/-! What may be, as facts. -/
structure StOk (l : List PlS) : Prop where
  least : 2 ≤ l.length
  most : l.length ≤ 16
  root : (ix l 0).parent = -1
  root0 : (ix l 0).spare = 0
  up : ∀ j, 1 ≤ j → j < l.length → 0 ≤ (ix l j).parent ∧ (ix l j).parent < j
  spare : ∀ j, j < l.length → 0 ≤ (ix l j).spare ∧ (ix l j).spare ≤ 2
/-! Above. -/
/-! Nodes. -/
/-- How many there are. -/
def wantGo (l : List PlS) : Nat → Int
  | 0 => 0
  | n + 1 => wantGo l n + 1 + (ix l n).spare
end Go.Proofs.YtiaeollemmkclaaDoor
/- What came in reads as it did later on. No program in sight. -/
namespace Go.Proofs.YtiaeollemmkclaaDoor
open Go.RowKit
set_option linter.unusedSimpArgs false
section
variable {w0 : World} {hp : List Res}
theorem rd_later {γ : List Nm} {w : World} {A : Option Addr} {vs : List Value} (h : RdV w0 w0.heap.size A vs) (hS : Sat w0 No γ hp w) : RdV w w.heap.size A vs := (h.below (keeps_below hS.keeps)).more (keeps_below hS.keeps).size
end
attribute [push_cast] beq_self_eq_true
end Go.Proofs.YtiaeollemmkclaaDoor
/- SetA: Bl0, Set0, joined. -/
/- Where something is first in a list. No program in sight. -/
namespace Go.Proofs.YtiaeollemmkclaaDoor
open Go.RowKit
set_option linter.unusedSimpArgs false
abbrev vI64 (n : Int) : Value := .int .i64 n
theorem ix_mem {α : Type} [Inhabited α] {l : List α} {i : Nat} (h : i < l.length) : ix l i ∈ l := by
  simp only [ix, List.getD_eq_getElem?_getD, List.getElem?_eq_getElem h, Option.getD_some]
  exact List.getElem_mem h
/-- The first place below n where F is. -/
def firstI (F : Nat → Bool) (n : Nat) : Int := match (List.range n).find? F with | some k => k | none => -1
def isIn (l : List Int) (n : Int) : Bool := l.any fun x => decide (x = n)
def posI (l : List Int) (n : Int) : Int := firstI (fun i => decide (ix l i = n)) l.length
end Go.Proofs.YtiaeollemmkclaaDoor
/- slices.Index, slices.Contains on whole numbers: where a number is first, and whether. -/
namespace Go.Proofs.YtiaeollemmkclaaDoor
open Go.RowKit
set_option linter.unusedSimpArgs false
attribute [local irreducible] Callable CallOK CallG CallM DrawG LoopG symR symM
end Go.Proofs.YtiaeollemmkclaaDoor
