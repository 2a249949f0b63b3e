/- Rows of elements of some cells each, wherever they lie. No program in sight. -/
import Derived.Test.YtiaeollemmkclaaDoorShA
namespace Go.Proofs.YtiaeollemmkclaaDoor
open Go.RowKit
set_option linter.unusedSimpArgs false
/-! ### Rows of elements of m cells each -/
theorem flat_get {α : Type} [Inhabited α] {enc : α → List Value} {m : Nat} (hm : ∀ x, (enc x).length = m) (l : List α) (i j : Nat) (hi : i < l.length) (hj : j < m) : (l.flatMap enc)[i * m + j]? = (enc (ix l i))[j]? := by
  induction l generalizing i with
  | nil => simp at hi
  | cons x l ih =>
    cases i with
    | zero =>
      rw [List.flatMap_cons, Nat.zero_mul, Nat.zero_add, List.getElem?_append_left (by rw [hm]; exact hj)]
      rfl
    | succ i =>
      have e : (i + 1) * m + j = m + (i * m + j) := by rw [Nat.add_mul]; omega
      rw [List.flatMap_cons, e, List.getElem?_append_right (by rw [hm]; omega), hm, Nat.add_sub_cancel_left, ih i (by simpa using hi)]
      rfl
theorem flat_len {α : Type} {enc : α → List Value} {m : Nat} (hm : ∀ x, (enc x).length = m) (l : List α) : (l.flatMap enc).length = l.length * m := by
  induction l with
  | nil => simp
  | cons x l ih => rw [List.flatMap_cons, List.length_append, hm, ih, List.length_cons, Nat.add_mul]; omega
/-- In every world that fits, sv is a slice of n elements that shows these cells. -/
def ShowsR (w0 : World) (ow : Nat → Prop) (hp : List Res) (sv : Sv) (n : Nat) (vs : List Value) : Prop :=
  ∀ γ w, Sat w0 ow γ hp w → ∃ A c, sv.val γ = .slice A n c ∧ n ≤ c ∧ RdV w w.heap.size A vs
theorem showsR_onn {w0 : World} {ow : Nat → Prop} {hp : List Res} {k m n : Nat} {e : TypeId} {c : Cont} {vs : List Value} (hr : hp[k]? = some (.onn e m c)) (hv : ∀ γ, c.vals γ = vs) (hn : vs.length = n * m) : ShowsR w0 ow hp (.x (.a (.o k))) n vs := fun γ w hS => by
  have h := (hS.holds k _ hr).2
  have hm := h.1
  obtain ⟨A, n', cp, h1, h2, h3, h4, h5, h6⟩ := OwnN.rd h
  rw [hv γ] at h2 h5
  have : n' = n := Nat.eq_of_mul_eq_mul_right hm (by rw [← h2, hn])
  subst this
  exact ⟨A, cp, h1, h3, h5⟩
theorem rdv_drop {w : World} {B : Nat} {A : Option Addr} {xs : List Value} (h : RdV w B A xs) (n : Nat) : RdV w B (pAdd A n) (xs.drop n) := fun hp => by
  rw [List.length_drop] at hp
  obtain ⟨b, off, rfl, h2, h3⟩ := h (by omega)
  refine ⟨b, off + n, by simp [pAdd, add_plain], h2, fun j u hu => ?_⟩
  rw [List.getElem?_drop] at hu
  rw [Nat.add_assoc]
  exact h3 _ _ hu
theorem showsR_y {w0 : World} {ow : Nat → Prop} {hp : List Res} {k m : Nat} {e : TypeId} {c : Cont} {vs : List Value} (l n : Nat) (hr : hp[k]? = some (.onn e m c)) (hv : ∀ γ, c.vals γ = vs) (hn : (l + n) * m ≤ vs.length) : ShowsR w0 ow hp (.x (.a (.y k m l n))) n ((vs.drop (l * m)).take (n * m)) := fun γ w hS => by
  have h := (hS.holds k _ hr).2
  have hm := h.1
  obtain ⟨A, n', cp, h1, h2, h3, h4, h5, h6⟩ := OwnN.rd h
  rw [hv γ] at h2 h5
  have hle : l + n ≤ n' := by
    rw [h2] at hn
    exact Nat.le_of_mul_le_mul_right hn hm
  refine ⟨if cp = l then A else pAdd A (l * m), cp - l, by simp [Sv.val, Sc.val, At.val, h1], by omega, ?_⟩
  split
  · rename_i hcl
    have hn0 : n = 0 := by omega
    rw [hn0, Nat.zero_mul, List.take_zero]
    exact RdV.nil_
  · exact rdv_take (rdv_drop h5 _) _
theorem showsR_raw {w0 : World} {hp : List Res} {A : Option Addr} {n c : Nat} {vs : List Value} (hR : RdV w0 w0.heap.size A vs) (hc : n ≤ c) : ShowsR w0 No hp (.x (.a (.v (.slice A n c)))) n vs := fun _ _ hS =>
  ⟨A, c, rfl, hc, (hR.below (keeps_below hS.keeps)).more (keeps_below hS.keeps).size⟩
end Go.Proofs.YtiaeollemmkclaaDoor
