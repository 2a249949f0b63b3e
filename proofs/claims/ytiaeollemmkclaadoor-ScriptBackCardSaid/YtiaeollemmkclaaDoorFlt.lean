import Derived.Test.YtiaeollemmkclaaDoorShA
/- Rows of elements of some cells each, wherever they lie. No program in sight. -/
namespace Go.Proofs.YtiaeollemmkclaaDoor
open Go.RowKit
set_option linter.unusedSimpArgs false
/-! ### Rows of elements of m cells each -/
theorem flat_get {α : Type} [Inhabited α] {enc : α → List Value} {m : Nat} (hm : ∀ x, (enc x).length = m) (l : List α) (i j : Nat) (hi : i < l.length) (hj : j < m) : (l.flatMap enc)[i * m + j]? = (enc (ix l i))[j]? := by
  induction l generalizing i with
  | nil => simp at hi
  | cons x l ih =>
    cases i with
    | zero =>
      rw [List.flatMap_cons, Nat.zero_mul, Nat.zero_add, List.getElem?_append_left (by rw [hm]; exact hj)]
      rfl
    | succ i =>
      have e : (i + 1) * m + j = m + (i * m + j) := by rw [Nat.add_mul]; omega
      rw [List.flatMap_cons, e, List.getElem?_append_right (by rw [hm]; omega), hm, Nat.add_sub_cancel_left, ih i (by simpa using hi)]
      rfl
theorem flat_len {α : Type} {enc : α → List Value} {m : Nat} (hm : ∀ x, (enc x).length = m) (l : List α) : (l.flatMap enc).length = l.length * m := by
  induction l with
  | nil => simp
  | cons x l ih => rw [List.flatMap_cons, List.length_append, hm, ih, List.length_cons, Nat.add_mul]; omega
/-- In every world that fits, sv is a slice of n elements that shows these cells. -/
def ShowsR (w0 : World) (ow : Nat → Prop) (hp : List Res) (sv : Sv) (n : Nat) (vs : List Value) : Prop :=
  ∀ γ w, Sat w0 ow γ hp w → ∃ A c, sv.val γ = .slice A n c ∧ n ≤ c ∧ RdV w w.heap.size A vs
end Go.Proofs.YtiaeollemmkclaaDoor
