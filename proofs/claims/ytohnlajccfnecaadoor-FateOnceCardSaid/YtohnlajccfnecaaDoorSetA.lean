/- SetA: Bl0, Set0, joined. -/
import Derived.Test.YtohnlajccfnecaaDoorShA
import Derived.Test.YtohnlajccfnecaaDoorCom
/- Where something is first in a list. No program in sight. -/
namespace Go.Proofs.YtohnlajccfnecaaDoor
open Go.RowKit
set_option linter.unusedSimpArgs false
abbrev vI64 (n : Int) : Value := .int .i64 n
theorem ix_mem {α : Type} [Inhabited α] {l : List α} {i : Nat} (h : i < l.length) : ix l i ∈ l := by
  simp only [ix, List.getD_eq_getElem?_getD, List.getElem?_eq_getElem h, Option.getD_some]
  exact List.getElem_mem h
theorem mem_ix {α : Type} [Inhabited α] {l : List α} {x : α} (h : x ∈ l) : ∃ i, i < l.length ∧ ix l i = x := by
  obtain ⟨i, hi, e⟩ := List.getElem_of_mem h
  exact ⟨i, hi, by simp only [ix, List.getD_eq_getElem?_getD, List.getElem?_eq_getElem hi, Option.getD_some, e]⟩
/-- The first place below n where F is. -/
def firstI (F : Nat → Bool) (n : Nat) : Int := match (List.range n).find? F with | some k => k | none => -1
theorem firstI_at {F : Nat → Bool} {n i : Nat} (hi : i < n) (h : F i = true) (hj : ∀ j, j < i → F j = false) : firstI F n = i := by
  have : (List.range n).find? F = some i := by
    rw [List.find?_range_eq_some]
    exact ⟨h, List.mem_range.2 hi, fun j hji => by rw [hj j hji]; rfl⟩
  unfold firstI
  rw [this]
theorem firstI_no {F : Nat → Bool} {n : Nat} (hj : ∀ j, j < n → F j = false) : firstI F n = -1 := by
  have : (List.range n).find? F = none := by
    rw [List.find?_eq_none]
    intro j hjn
    rw [hj j (List.mem_range.1 hjn)]; simp
  unfold firstI
  rw [this]
theorem firstI_ge {F : Nat → Bool} {n : Nat} : (0 : Int) ≤ firstI F n ↔ ∃ i, i < n ∧ F i = true := by
  unfold firstI
  cases h : (List.range n).find? F with
  | some k =>
    rw [List.find?_range_eq_some] at h
    exact ⟨fun _ => ⟨k, List.mem_range.1 h.2.1, h.1⟩, fun _ => by simp⟩
  | none =>
    rw [List.find?_eq_none] at h
    exact ⟨fun h => by simp at h, fun ⟨i, hi, hF⟩ => absurd hF (h i (List.mem_range.2 hi))⟩
def isIn (l : List Int) (n : Int) : Bool := l.any fun x => decide (x = n)
theorem isIn_iff {l : List Int} {n : Int} : isIn l n = true ↔ n ∈ l := by
  unfold isIn
  rw [List.any_eq_true]
  constructor
  · rintro ⟨x, hx, h⟩
    rw [← of_decide_eq_true h]; exact hx
  · intro h
    exact ⟨n, h, decide_eq_true rfl⟩
theorem isIn_yes {l : List Int} {n : Int} {i : Nat} (hi : i < l.length) (h : ix l i = n) : isIn l n = true := isIn_iff.2 (h ▸ ix_mem hi)
theorem isIn_no {l : List Int} {n : Int} (h : ∀ j, j < l.length → ¬ ix l j = n) : isIn l n = false := by
  cases e : isIn l n
  · rfl
  · obtain ⟨i, hi, hx⟩ := mem_ix (isIn_iff.1 e)
    exact absurd hx (h i hi)
def posI (l : List Int) (n : Int) : Int := firstI (fun i => decide (ix l i = n)) l.length
theorem posI_at {l : List Int} {n : Int} {i : Nat} (hi : i < l.length) (h : ix l i = n) (hj : ∀ j, j < i → ¬ ix l j = n) : posI l n = i := firstI_at hi (decide_eq_true h) fun j h => decide_eq_false (hj j h)
theorem posI_no {l : List Int} {n : Int} (hj : ∀ j, j < l.length → ¬ ix l j = n) : posI l n = -1 := firstI_no fun j h => decide_eq_false (hj j h)
theorem posI_in (l : List Int) (n : Int) : decide (0 ≤ posI l n) = isIn l n := by
  rw [Bool.eq_iff_iff, decide_eq_true_eq, isIn_iff]
  unfold posI
  rw [firstI_ge]
  constructor
  · rintro ⟨i, hi, h⟩
    rw [← of_decide_eq_true h]; exact ix_mem hi
  · intro h
    obtain ⟨i, hi, e⟩ := mem_ix h
    exact ⟨i, hi, decide_eq_true e⟩
end Go.Proofs.YtohnlajccfnecaaDoor
/- slices.Index, slices.Contains on whole numbers: where a number is first, and whether. -/
namespace Go.Proofs.YtohnlajccfnecaaDoor
open Go.RowKit
set_option linter.unusedSimpArgs false
attribute [local irreducible] Callable CallOK CallG CallM DrawG LoopG symR symM
end Go.Proofs.YtohnlajccfnecaaDoor
