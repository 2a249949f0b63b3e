import Derived.Test.YtiaeollemmkclaaDoorAbs
/- An object of several variables, slices and maps, told as one thing: put into a box, and taken out of it again. No program in sight. -/
namespace Go.Proofs.YtiaeollemmkclaaDoor
open Go.RowKit
set_option linter.unusedSimpArgs false
set_option linter.unusedVariables false
/-- All that stands for itself: what is owned, seen from where it lies. -/
theorem Sat.self {w0 w : World} {ow : Nat → Prop} {γ : List Nm} {hp : List Res} (hS : Sat w0 ow γ hp w) : Sat w (fun b => ∃ (k : Nat) (r : Res), hp[k]? = some r ∧ r.has γ k b) γ hp w :=
  ⟨Keeps.refl _ _, hS.len, hS.holds, fun k r b hr hb => ⟨.inl ⟨k, r, hr, hb⟩, (hS.mine k r b hr hb).2⟩, hS.apart⟩
theorem Sat.in_ {w : World} {B : Nat → Prop} {γ : List Nm} {hp : List Res} (hS : Sat w B γ hp w) {k : Nat} {r : Res} {b : Nat} (hr : hp[k]? = some r) (hb : r.has γ k b) : B b := by
  obtain ⟨h1, h2⟩ := hS.mine k r b hr hb
  rcases h1 with h | h
  · exact h
  · omega
/-- A box: one of several states, whatever its names are. -/
def BoxH {ι : Type} (P : ι → Prop) (hb : ι → List Res) (v : Value) (B : Nat → Prop) (w : World) : Prop := v = .bool true ∧ ∃ (i : ι) (γ : List Nm), P i ∧ Sat w B γ (hb i) w
def BoxR {ι : Type} (P : ι → Prop) (hb : ι → List Res) : Rep where
  H := BoxH P hb
  one := fun ⟨h, _⟩ => by subst h; exact ⟨rfl, trivial⟩
  keep := fun {v B own w w'} ⟨h, i, γ, hp, hS⟩ hlt hk hn => by
    refine ⟨h, i, γ, hp, Keeps.refl _ _, hS.len, fun k r hr => Res.holds_keep (hS.holds k r hr) hk (fun b hb => hn b (hS.in_ hr hb)), fun k r b hr hb => ⟨.inl (hS.in_ hr hb), Nat.lt_of_lt_of_le (hS.mine k r b hr hb).2 hk.size⟩, hS.apart⟩
section
variable {w0 w : World} {ow : Nat → Prop} {γ : List Nm} {hp : List Res} {ι : Type} {P : ι → Prop} {hb : ι → List Res}
/-- Some of what is owned, put into a box. -/
theorem Sat.box (hS : Sat w0 ow γ hp w) (ks : List Nat) (hbr : ∀ r ∈ hp, Res.bnd hp.length r) {ρ : List Nat} {i : ι} (hle : leHp ρ hp ρ (hb i)) (hn : ndup ρ) (hbb : ∀ r ∈ hb i, Res.bnd (hb i).length r) (hks : ∀ k, k ∈ ks ↔ k ∈ ρ) (hP : P i) :
    ∃ B, Sat w0 ow (γ ++ [.m (.bool true) B]) (goneAll ks hp ++ [.abs (BoxR P hb)]) w := by
  obtain ⟨h1, h2⟩ := hS.sel hle hn hbb
  have h3 := h1.self
  refine ⟨fun b => ∃ (k : Nat) (r : Res), (hb i)[k]? = some r ∧ r.has (reγ ρ γ) k b, ?_⟩
  refine hS.pack ks hbr (R := BoxR P hb) (x := .bool true) (B := fun b => ∃ (k : Nat) (r : Res), (hb i)[k]? = some r ∧ r.has (reγ ρ γ) k b) (fun b ⟨k, r, hr, hbk⟩ => ?_) ⟨rfl, i, _, hP, h3⟩
  obtain ⟨hlen, hget⟩ := leHp_get hle
  have hkl : k < ρ.length := by rw [hlen]; exact lt_of_get hr
  rw [Res.ren_has h2 hkl] at hbk
  have e : rn ρ k = ρ[k] := by simp [rn, List.getD_eq_getElem?_getD, List.getElem?_eq_getElem hkl]
  exact ⟨rn ρ k, _, (hks _).2 (by rw [e]; exact List.getElem_mem hkl), hget k r hr, hbk⟩
end
end Go.Proofs.YtiaeollemmkclaaDoor
