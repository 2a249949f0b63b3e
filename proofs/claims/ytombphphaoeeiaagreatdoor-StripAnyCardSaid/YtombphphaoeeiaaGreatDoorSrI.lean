import Derived.Test.YtombphphaoeeiaaGreatDoorEn1
import Derived.Test.YtombphphaoeeiaaGreatDoorBl1
/- The plain law of layers 15, 21, 22: sets as bits, who there is, places above one another, nodes. No program in sight. -/
namespace Go.Proofs.YtombphphaoeeiaaGreatDoor
/-! ### Sets -/
/-- Is a bit set? -/
def bitT (v : UInt64) (n : Nat) : Bool := decide (shr64 v n &&& 1 = 1)
def bitStep (s : UInt64) (n : Int) : UInt64 := if 0 ≤ n ∧ n < 64 then s ||| shl64 1 n.toNat else s
def bitsF (l : List Int) : UInt64 := l.foldl bitStep 0
def fromF (v : UInt64) : List Int := ((List.range 64).filter (bitT v)).map Int.ofNat
def hasF (l : List Int) (n : Int) : Bool := decide (0 ≤ n ∧ n < 64) && bitT (bitsF l) n.toNat
def eitherF (a b : List Int) : List Int := fromF (bitsF a ||| bitsF b)
def bothF (a b : List Int) : List Int := fromF (bitsF a &&& bitsF b)
def lessF (a b : List Int) : List Int := fromF (bitsF a &&& ~~~ bitsF b)
def chkS : Int → List Int → Bool
  | _, [] => true
  | last, n :: r => if n ≤ last ∨ ¬ (0 ≤ n ∧ n < 64) then false else chkS n r
/-! ### Who there is -/
structure PlS where
  parent : Int
  spare : Int
  need : Int
deriving Inhabited, DecidableEq
structure GrS where
  place : Int
  ids : List Int
  need : Int
deriving Inhabited, DecidableEq
structure CfS where
  dim : Int
  places : List PlS
  groups : List GrS
  least : Int
  term : Int
deriving Inhabited, DecidableEq
def wiF (n least most : Int) : Bool := decide (least ≤ n ∧ n ≤ most)
/-- Places one above the other, from a place on: how many stand above each so far. -/
def stGo (l : List PlS) : Nat → Nat → List Int → Bool
  | 0, _, _ => true
  | k + 1, i, ab =>
    if wiF (ix l i).parent 0 (i - 1) = true ∧ wiF (ix l i).spare 0 2 = true then
      (if ix ab (ix l i).parent.toNat + 1 ≥ 4 then false else stGo l k (i + 1) (ab.set i (ix ab (ix l i).parent.toNat + 1)))
    else false
def stF (l : List PlS) : Bool :=
  if wiF l.length 2 16 = true ∧ (ix l 0).parent = -1 ∧ (ix l 0).spare = 0 then stGo l (l.length - 1) 1 (List.replicate l.length 0) else false
def fitF (n : Int) (g : GrS) (last : Int) (seen : List Int) : Bool :=
  decide (last < g.place ∧ g.place < n) && wiF g.ids.length 1 12 && chkS (-1) g.ids && decide ((bothF seen g.ids).length = 0) && wiF g.need ((g.ids.length : Int) / 2 + 1) g.ids.length
def grGo (n : Int) : List GrS → Int → List Int → Option (List Int)
  | [], _, seen => some seen
  | g :: r, last, seen => if fitF n g last seen = true then grGo n r g.place (eitherF seen g.ids) else none
def grF (c : CfS) : Bool :=
  if 1 ≤ c.groups.length ∧ c.groups.length < c.places.length then
    (match grGo c.places.length c.groups 0 [] with
      | some seen => wiF c.least 1 seen.length
      | none => false)
  else false
def beStep (b : List Int) (p : PlS) : List Int := b.set p.parent.toNat (ix b p.parent.toNat + 1)
def beF (l : List PlS) : List Int := (l.drop 1).foldl beStep (List.replicate l.length 0)
def atF (gs : List GrS) (i : Int) : Bool := gs.any fun g => decide (g.place = i)
def neGo (c : CfS) (b : List Int) : Nat → Nat → Bool
  | 0, _ => true
  | k + 1, i => if atF c.groups i = decide (0 < ix b i) then false
    else if wiF (ix c.places i).need 1 (if atF c.groups i = true then 1 else ix b i) = true then neGo c b k (i + 1) else false
def neF (c : CfS) : Bool := neGo c (beF c.places) c.places.length 0
def cfF (c : CfS) : Bool := wiF c.dim 1 32 && wiF c.term 1 1000 && stF c.places && grF c && neF c
def allF (gs : List GrS) : List Int := gs.foldl (fun s g => eitherF s g.ids) []
def clientsF (c : CfS) : List Int := if cfF c = true then allF c.groups else []
def abGo (l : List PlS) : Nat → Int → List Int → List Int
  | 0, _, acc => acc
  | k + 1, q, acc => if 0 ≤ q then abGo l k (ix l q.toNat).parent (acc ++ [q]) else acc
def abF (l : List PlS) (p : Nat) : List Int := abGo l (p + 1) (ix l p).parent []
/-- What stands at places. -/
def stepsF (l : List PlS) (p : Nat) : List (Nat × Nat) := (List.range ((ix l p).spare + 1).toNat).map fun s => (p, s)
def spotsF (l : List PlS) : List (Nat × Nat) := (List.range l.length).flatMap (stepsF l)
def nodeN (x : Nat × Nat) : Int := 64 + 4 * (x.1 : Int) + (x.2 : Int)
def nodesF (c : CfS) : List Int := clientsF c ++ (spotsF c.places).map nodeN
/-! What may be, as facts. -/
structure StOk (l : List PlS) : Prop where
  least : 2 ≤ l.length
  most : l.length ≤ 16
  root : (ix l 0).parent = -1
  root0 : (ix l 0).spare = 0
  up : ∀ j, 1 ≤ j → j < l.length → 0 ≤ (ix l j).parent ∧ (ix l j).parent < j
  spare : ∀ j, j < l.length → 0 ≤ (ix l j).spare ∧ (ix l j).spare ≤ 2
/-! Above. -/
/-! Nodes. -/
/-- How many there are. -/
def wantGo (l : List PlS) : Nat → Int
  | 0 => 0
  | n + 1 => wantGo l n + 1 + (ix l n).spare
end Go.Proofs.YtombphphaoeeiaaGreatDoor
/- Groups, and whether one may be. No program in sight. -/
namespace Go.Proofs.YtombphphaoeeiaaGreatDoor
set_option linter.unusedSimpArgs false
set_option linter.unusedVariables false
theorem ix_getG {α : Type} [Inhabited α] {l : List α} {i : Nat} (h : i < l.length) : ix l i = l[i] := by simp [ix, List.getD_eq_getElem?_getD, List.getElem?_eq_getElem h]
theorem ix_memG {α : Type} [Inhabited α] {l : List α} {i : Nat} (h : i < l.length) : ix l i ∈ l := by rw [ix_getG h]; exact List.getElem_mem h
theorem nodup_fewG : ∀ {n : Nat} {l : List Nat}, l.Nodup → (∀ i ∈ l, i < n) → l.length ≤ n
  | 0, l, _, h => by
    cases l with
    | nil => exact Nat.le_refl _
    | cons a l => exact absurd (h a (List.mem_cons_self ..)) (Nat.not_lt_zero _)
  | n + 1, l, hd, h => by
    have h2 := nodup_fewG (n := n) (l := l.erase n) (hd.erase n) fun i hi => by
      have h3 := h i (List.mem_of_mem_erase hi)
      have h4 : i ≠ n := fun e => by
        subst e
        exact (List.Nodup.not_mem_erase hd) hi
      omega
    have := List.length_erase_le (a := n) (l := l)
    by_cases hn : n ∈ l
    · have := List.length_erase_of_mem hn
      omega
    · rw [List.erase_of_not_mem hn] at h2
      omega
theorem nodup_snoc {seen : List Nat} {i : Nat} (nd : seen.Nodup) (h : i ∉ seen) : (seen ++ [i]).Nodup := by
  rw [List.nodup_append]
  exact ⟨nd, List.nodup_cons.2 ⟨by simp, List.nodup_nil⟩, fun a ha b hb e => h (by rw [← List.mem_singleton.1 hb, ← e]; exact ha)⟩
theorem len_lt {n i : Nat} {seen : List Nat} (nd : seen.Nodup) (h : ∀ i ∈ seen, i < n) (hi : i < n) (hns : i ∉ seen) : seen.length < n := by
  have := nodup_fewG (n := n) (l := seen ++ [i]) (nodup_snoc nd hns) fun j hj => by
    rcases List.mem_append.1 hj with hj | hj
    · exact h j hj
    · rw [List.mem_singleton.1 hj]; exact hi
  simp at this
  omega
/-- A group: its peers, who came, how many are needed, what they gave. -/
structure Gr where
  ps : List Pr
  cm : List Int
  nd : Int
  gv : List (Int × List UInt64)
deriving Inhabited
def idsG (l : List Pr) : List Int := l.map (·.1)
def numsOk (l : List UInt64) (n : Nat) : Bool := decide (l.length = n) && l.all fun v => decide (v < fpP)
def gvOk (ids : List Int) (e : Int × List UInt64) : Bool := isIn ids e.1 && numsOk e.2 ids.length
def Gr.mayB (g : Gr) : Bool := may g.ps && (decide (1 ≤ g.nd ∧ g.nd ≤ g.ps.length) && (chkS (-1) g.cm && ((lessF g.cm (idsG g.ps)).isEmpty && g.gv.all (gvOk (idsG g.ps)))))
def atU (n : Int) : UInt64 := UInt64.ofInt n + 1
theorem least {p : Nat → Prop} (h : ∃ n, p n) : ∃ n, p n ∧ ∀ c, c < n → ¬ p c := by
  obtain ⟨n, h⟩ := h
  induction n using Nat.strongRecOn with
  | _ n ih =>
    by_cases hc : ∃ c, c < n ∧ p c
    · obtain ⟨c, h1, h2⟩ := hc
      exact ih c h1 h2
    · exact ⟨n, h, fun c h1 h2 => hc ⟨c, h1, h2⟩⟩
/-- Which group had an ID first. -/
def fsJ (i : Nat) (ps : List Pr) (m : List (Int × Sc)) : Nat → List (Int × Sc)
  | 0 => m
  | j + 1 => putI (fsJ i ps m j) (ix ps j).1 (.a (.v (.int .i64 i)))
def fsI (l : List Gr) : Nat → List (Int × Sc)
  | 0 => []
  | i + 1 => fsJ i (ix l i).ps (fsI l i) (ix l i).ps.length
def apI (l : List Gr) (i : Nat) : Bool := (List.range (ix l i).ps.length).all fun j => match lookI (fsJ i (ix l i).ps (fsI l i) j) (ix (ix l i).ps j).1 with
  | some (.a (.v (.int _ a))) => decide (a = i)
  | _ => true
def apartG (l : List Gr) : Bool := (List.range l.length).all (apI l)
theorem fsJ_look (i : Nat) (ps : List Pr) (m : List (Int × Sc)) (k : Int) : ∀ j, j ≤ ps.length → (∀ a, a < j → (ix ps a).1 ≠ k) → lookI (fsJ i ps m j) k = lookI m k
  | 0, _, _ => rfl
  | j + 1, hj, h => by
    show lookI (putI _ _ _) k = _
    rw [lookI_putI, if_neg (h j (by omega)), fsJ_look i ps m k j (by omega) fun a ha => h a (by omega)]
theorem fsJ_in (i : Nat) (ps : List Pr) (m : List (Int × Sc)) (k : Int) : ∀ j, (∃ a, a < j ∧ (ix ps a).1 = k) → lookI (fsJ i ps m j) k = some (.a (.v (.int .i64 i)))
  | 0, h => by obtain ⟨a, h, _⟩ := h; omega
  | j + 1, h => by
    show lookI (putI _ _ _) k = _
    rw [lookI_putI]
    by_cases e : (ix ps j).1 = k
    · rw [if_pos e]
    · rw [if_neg e]
      refine fsJ_in i ps m k j ?_
      obtain ⟨a, h1, h2⟩ := h
      exact ⟨a, by
        by_cases ea : a = j
        · subst ea; exact absurd h2 e
        · omega, h2⟩
theorem apart_two (a b : Gr) : apartG [a, b] = true ↔ ∀ i j, i < a.ps.length → j < b.ps.length → (ix a.ps i).1 ≠ (ix b.ps j).1 := by
  have z : apI [a, b] 0 = true := by
    unfold apI
    rw [List.all_eq_true]
    intro j hj
    rw [List.mem_range] at hj
    by_cases h : ∃ c, c < j ∧ (ix (ix [a, b] 0).ps c).1 = (ix (ix [a, b] 0).ps j).1
    · rw [fsJ_in 0 _ _ _ j h]
      rfl
    · rw [fsJ_look 0 _ _ _ j (by omega) fun c hc e => h ⟨c, hc, e⟩]
      rfl
  have e : apartG [a, b] = apI [a, b] 1 := by
    unfold apartG
    show (apI [a, b] 0 && (apI [a, b] 1 && true)) = _
    rw [z, Bool.true_and, Bool.and_true]
  rw [e]
  unfold apI
  rw [List.all_eq_true]
  have f1 : fsI [a, b] 1 = fsJ 0 a.ps [] a.ps.length := rfl
  constructor
  · intro h i j hi hj he
    obtain ⟨j0, hj0, hjm⟩ : ∃ j0, j0 < b.ps.length ∧ ((ix b.ps j0).1 = (ix a.ps i).1 ∧ ∀ c, c < j0 → (ix b.ps c).1 ≠ (ix a.ps i).1) := by
      have : ∃ n, n < b.ps.length ∧ (ix b.ps n).1 = (ix a.ps i).1 := ⟨j, hj, he.symm⟩
      obtain ⟨n, ⟨h1, h2⟩, h3⟩ := least this
      exact ⟨n, h1, h2, fun c hc e => h3 c hc ⟨by omega, e⟩⟩
    have := h j0 (List.mem_range.2 hj0)
    have e2 : lookI (fsJ 1 b.ps (fsI [a, b] 1) j0) (ix b.ps j0).1 = some (.a (.v (.int .i64 0))) := by
      rw [fsJ_look 1 _ _ _ j0 (by omega) fun c hc => by rw [hjm.1]; exact hjm.2 c hc, f1, hjm.1]
      exact fsJ_in 0 _ _ _ _ ⟨i, hi, rfl⟩
    have this : (match lookI (fsJ 1 b.ps (fsI [a, b] 1) j0) (ix b.ps j0).1 with | some (.a (.v (.int _ a))) => decide (a = ((1 : Nat) : Int)) | _ => true) = true := this
    rw [e2] at this
    exact absurd this (by decide)
  · intro h j hj
    have hj : j < b.ps.length := List.mem_range.1 hj
    show (match lookI (fsJ 1 b.ps (fsI [a, b] 1) j) (ix b.ps j).1 with | some (.a (.v (.int _ a))) => decide (a = ((1 : Nat) : Int)) | _ => true) = true
    by_cases hb : ∃ c, c < j ∧ (ix b.ps c).1 = (ix b.ps j).1
    · rw [fsJ_in 1 _ _ _ j hb]
      rfl
    · rw [fsJ_look 1 _ _ _ j (by omega) fun c hc e => hb ⟨c, hc, e⟩, f1, fsJ_look 0 _ _ _ _ (Nat.le_refl _) fun c hc => h c j hc hj]
      rfl
theorem apart_swap (a b : Gr) : apartG [a, b] = apartG [b, a] := by
  rw [Bool.eq_iff_iff, apart_two, apart_two]
  exact ⟨fun h i j hi hj e => h j i hj hi e.symm, fun h i j hi hj e => h j i hj hi e.symm⟩
end Go.Proofs.YtombphphaoeeiaaGreatDoor
