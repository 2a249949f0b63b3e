import Derived.Test.YtiaeollemmkclaaDoorLfG
/- What is known of slices that are facts. No program in sight. -/
namespace Go.Proofs.YtiaeollemmkclaaDoor
open Go.RowKit
set_option linter.unusedSimpArgs false
set_option linter.unusedVariables false
/-- What facts say of a slice. -/
def SlF {α : Type} (Fs : List Fct) (s : SlV α) (vs : List Value) : Prop := s = ⟨none, 0, []⟩ ∨ (⟨s.val, s.l.length, vs⟩ : Fct) ∈ Fs
theorem SlF.more {α : Type} {Fs Gs : List Fct} {s : SlV α} {vs : List Value} (h : SlF Fs s vs) (hg : ∀ f ∈ Fs, f ∈ Gs) : SlF Gs s vs := h.imp id (hg _)
theorem SlF.left {α : Type} {Fs Gs : List Fct} {s : SlV α} {vs : List Value} (h : SlF Fs s vs) : SlF (Fs ++ Gs) s vs := h.more fun f hf => List.mem_append_left _ hf
theorem SlF.new {α : Type} {Fs : List Fct} {A : Option Addr} {c : Nat} {l : List α} {vs : List Value} {n : Nat} (hn : n = l.length) (h : (⟨.slice A n c, n, vs⟩ : Fct) ∈ Fs) : SlF Fs ⟨A, c, l⟩ vs := by subst hn; exact .inr h
/-- What is known of slices that nobody turns: whom is called may turn what B names. -/
def Known (w : World) (B : Nat → Prop) (Fs : List Fct) : Prop := ∀ f ∈ Fs, ∃ A c, f.v = .slice A f.n c ∧ f.n ≤ c ∧ FW w B A f.vs
theorem Known.mono {w : World} {B : Nat → Prop} {Fs Gs : List Fct} (h : Known w B Fs) (hg : ∀ f ∈ Gs, f ∈ Fs) : Known w B Gs := fun f hf => h f (hg f hf)
theorem known_fct {w0 w : World} {ow B : Nat → Prop} {γ : List Nm} {hp : List Res} {k : Nat} {Fs : List Fct} (hS : Sat w0 ow γ hp w) (hk : hp[k]? = some (.abs (fctRep Fs))) (ks : List Nat) (hn : k ∉ ks) (hB : ∀ b, B b → ∃ (k : Nat) (r : Res), k ∈ ks ∧ hp[k]? = some r ∧ r.has γ k b) : Known w B Fs := fun f hf => by
  obtain ⟨_, _, _, hall⟩ := hS.holds k _ hk
  obtain ⟨A, c, h1, h2, h3, _⟩ := hall f hf
  refine ⟨A, c, h1, h2, fct_fw (n := f.n) (c := c) (vs := f.vs) hS hk ?_ (Sub.refl _ _) ks hn hB⟩
  obtain ⟨v, n, vs⟩ := f
  dsimp only at h1
  rw [← h1]
  exact hf
theorem Known.fw {α : Type} {w : World} {B : Nat → Prop} {Fs : List Fct} {s : SlV α} {vs : List Value} (hk : Known w B Fs) (h : SlF Fs s vs) (hn : s = ⟨none, 0, []⟩ → vs = []) : s.l.length ≤ s.c ∧ FW w B s.A vs := by
  rcases h with e | e
  · rw [hn e, e]; exact ⟨Nat.le_refl _, RdV.nil_, fun h => absurd h (by simp)⟩
  · obtain ⟨A, c, h1, h2, h3⟩ := hk _ e
    have h1 : Value.slice s.A s.l.length s.c = .slice A s.l.length c := h1
    injection h1 with e1 _ e3
    rw [← e3] at h2
    rw [← e1] at h3
    exact ⟨h2, h3⟩
/-- What stands in front is known by its names. -/
theorem lf_B {γ : List Nm} {A : List Res} (b : Nat) (h : ∃ (k : Nat) (r : Res), A[k]? = some r ∧ r.has γ k b) (M : List Res) : ∃ (k : Nat) (r : Res), k ∈ List.range A.length ∧ (A ++ M)[k]? = some r ∧ r.has γ k b := by
  obtain ⟨k, r, h1, h2⟩ := h
  exact ⟨k, r, List.mem_range.2 (lt_of_get h1), by rw [List.getElem?_append_left (lt_of_get h1)]; exact h1, h2⟩
theorem known_M {w0 w : World} {ow : Nat → Prop} {γ : List Nm} {A M : List Res} {k : Nat} {Gs : List Fct} (hS : Sat w0 ow γ (A ++ M) w) (hk : M[k]? = some (.abs (fctRep Gs))) : Known w (fun b => ∃ (k : Nat) (r : Res), A[k]? = some r ∧ r.has γ k b) Gs :=
  known_fct (k := A.length + k) hS (by rw [List.getElem?_append_right (Nat.le_add_right _ _), Nat.add_sub_cancel_left]; exact hk) (List.range A.length) (by simp) fun b hb => lf_B b hb M
end Go.Proofs.YtiaeollemmkclaaDoor
