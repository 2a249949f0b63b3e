import Derived.Test.YtiaeollemmkclaaDoorAbs
import Derived.Test.YtiaeollemmkclaaDoorPk0
/- What is written, as it lies there: fields, each behind the one ahead of it; a slice that shows bytes, and what is left of it. No program in sight. -/
namespace Go.Proofs.YtiaeollemmkclaaDoor
open Go.RowKit
set_option linter.unusedSimpArgs false
theorem getD_range (f : Nat → Nat) (n i d : Nat) : ((List.range n).map f).getD i d = if i < n then f i else d := by
  by_cases h : i < n
  · simp [List.getD_eq_getElem?_getD, h]
  · simp [List.getD_eq_getElem?_getD, h]
attribute [push_cast] getD_range beq_self_eq_true
/-- The fields written, the last one first, each in a variable with the one ahead of it and its bytes. -/
def ChW (t : TypeId) : List (List UInt8) → Value → (Nat → Prop) → World → Prop
  | [], v, _, _ => v = .pointer none
  | b :: r, v, B, w => ∃ g u s, v = .pointer (some ⟨g, 0, none⟩) ∧ B g ∧ Blk w g t #[u, s] ∧ ShV (b.map vU8) s B w ∧ ChW t r u B w
theorem ChW.keep {t : TypeId} {B own : Nat → Prop} {w w' : World} (hlt : ∀ b, B b → b < w.heap.size) (hk : Keeps own w w') (hn : ∀ b, B b → ¬ own b) : ∀ {r : List (List UInt8)} {v : Value}, ChW t r v B w → ChW t r v B w'
  | [], _, h => h
  | _ :: _, _, ⟨g, u, s, h1, h2, h3, h4, h5⟩ => ⟨g, u, s, h1, h2, hk.blk h3 (hn g h2), h4.keep hlt hk hn, ChW.keep hlt hk hn h5⟩
theorem ChW.more {t : TypeId} {B B' : Nat → Prop} {w : World} (hB : ∀ b, B b → B' b) : ∀ {r : List (List UInt8)} {v : Value}, ChW t r v B w → ChW t r v B' w
  | [], _, h => h
  | _ :: _, _, ⟨g, u, s, h1, h2, h3, h4, h5⟩ => ⟨g, u, s, h1, hB g h2, h3, h4.more hB, ChW.more hB h5⟩
def ChR (t : TypeId) (r : List (List UInt8)) : Rep where
  H v B w := ChW t r v B w
  one := fun {v B w} h => by
    cases r with
    | nil => obtain rfl : v = .pointer none := h; exact ⟨rfl, trivial⟩
    | cons b r => obtain ⟨g, u, s, rfl, _⟩ := h; exact ⟨rfl, trivial⟩
  keep := fun h hlt hk hn => h.keep hlt hk hn
/-- How many bytes there are. -/
def totB (r : List (List UInt8)) : Nat := r.flatten.length
/-- All bytes, in the order in which they were written. -/
def allB (r : List (List UInt8)) : List UInt8 := r.reverse.flatten
section
variable {w0 w : World} {ow : Nat → Prop} {γ : List Nm}
end
/-! ### What a slice shows, seen from another one that it was cut out of -/
/-- Wherever the one shows its values, the other one shows these. -/
def Sub (A : Option Addr) (vs : List Value) (A' : Option Addr) (vs' : List Value) : Prop := ∀ (Q : Nat → Prop) (w : World),
  (0 < vs.length → ∃ b off, A = some ⟨b, off, none⟩ ∧ Q b ∧ ∀ j u, vs[j]? = some u → w.cell? ⟨b, off + j, none⟩ = some u) →
  (0 < vs'.length → ∃ b off, A' = some ⟨b, off, none⟩ ∧ Q b ∧ ∀ j u, vs'[j]? = some u → w.cell? ⟨b, off + j, none⟩ = some u)
theorem Sub.refl (A : Option Addr) (vs : List Value) : Sub A vs A vs := fun _ _ h => h
theorem Sub.trans {A A' A'' : Option Addr} {vs vs' vs'' : List Value} (h : Sub A vs A' vs') (k : Sub A' vs' A'' vs'') : Sub A vs A'' vs'' := fun Q w g => k Q w (h Q w g)
theorem Sub.nil_ (A : Option Addr) (vs : List Value) : Sub A vs none [] := fun _ _ _ h => absurd h (by simp)
/-- From a place on. -/
theorem Sub.drop (A : Option Addr) (vs : List Value) (n cap : Nat) (h : vs.length ≤ cap) : Sub A vs (pCut A n cap) (vs.drop n) := fun Q w g hp => by
  have hl : 0 < vs.length := by simp at hp; omega
  have hn : n < vs.length := by simp at hp; omega
  obtain ⟨b, off, rfl, h1, h2⟩ := g hl
  refine ⟨b, off + n, ?_, h1, fun j u hu => ?_⟩
  · unfold pCut
    rw [if_neg (by omega)]
    simp [pAdd, add_plain]
  · rw [List.getElem?_drop] at hu
    have := h2 (n + j) u hu
    rwa [← Nat.add_assoc] at this
theorem Sub.take (A : Option Addr) (vs : List Value) (n : Nat) : Sub A vs A (vs.take n) := fun Q w g hp => by
  obtain ⟨b, off, rfl, h1, h2⟩ := g (by simp at hp; omega)
  exact ⟨b, off, rfl, h1, fun j u hu => h2 j u (by
    rw [List.getElem?_take] at hu
    split at hu
    · exact hu
    · cases hu)⟩
/-- Where a slice shows values that the call does not own; an empty one shows nothing. -/
structure FW (w0 : World) (ow : Nat → Prop) (A : Option Addr) (vs : List Value) : Prop where
  rd : RdV w0 w0.heap.size A vs
  far : 0 < vs.length → ∀ a, A = some a → ¬ ow a.block
theorem FW.no {w0 : World} {A : Option Addr} {vs : List Value} (h : RdV w0 w0.heap.size A vs) : FW w0 No A vs := ⟨h, fun _ _ _ h => h.elim⟩
theorem FW.fv {w0 : World} {ow : Nat → Prop} {A : Option Addr} {vs : List Value} (h : FW w0 ow A vs) : FV w0 ow A vs := ⟨h.rd, h.far⟩
theorem FM.fw {α : Type} [Inhabited α] {f : α → Value} {w0 : World} {ow : Nat → Prop} {A : Option Addr} {l : List α} (h : FW w0 ow A (l.map f)) : FM f w0 ow A l :=
  ⟨fun hp => h.fv.some_ (by simpa using hp), fun i hi => (h.fv.cell (ix_map f l i hi)).1, fun i hi => (h.fv.cell (ix_map f l i hi)).2⟩
theorem Sub.fw {w0 : World} {ow : Nat → Prop} {A A' : Option Addr} {vs vs' : List Value} (h : Sub A vs A' vs') (k : FW w0 ow A vs) : FW w0 ow A' vs' := by
  have := h (fun b => b < w0.heap.size ∧ ¬ ow b) w0 fun hp => by
    obtain ⟨b, off, h1, h2, h3⟩ := k.rd hp
    exact ⟨b, off, h1, ⟨h2, k.far hp _ h1⟩, h3⟩
  refine ⟨fun hp => ?_, fun hp a ha => ?_⟩
  · obtain ⟨b, off, h1, h2, h3⟩ := this hp
    exact ⟨b, off, h1, h2.1, h3⟩
  · obtain ⟨b, off, h1, h2, h3⟩ := this hp
    rw [h1] at ha
    cases ha
    exact h2.2
/-- What a fact says of a part of its slice to whom is called, and may turn what these name. -/
theorem fct_fw {w0 w : World} {ow : Nat → Prop} {γ : List Nm} {hp : List Res} {k : Nat} {l : List Fct} {A A' : Option Addr} {n c : Nat} {vs vs' : List Value} (hS : Sat w0 ow γ hp w) (hk : hp[k]? = some (.abs (fctRep l))) (hf : ⟨.slice A n c, n, vs⟩ ∈ l) (hs : Sub A vs A' vs') (ks : List Nat) (hn : k ∉ ks)
    {X : Nat → Prop} (hX : ∀ b, X b → ∃ (k : Nat) (r : Res), k ∈ ks ∧ hp[k]? = some r ∧ r.has γ k b) : FW w X A' vs' := by
  obtain ⟨_, hlt, _, hall⟩ := hS.holds k _ hk
  obtain ⟨A0, c0, h1, _, _, h4⟩ := hall _ hf
  injection h1 with h1 _ _
  subst h1
  have := hs (nmM γ k) w h4
  refine ⟨fun hp => ?_, fun hp a ha hx => ?_⟩
  · obtain ⟨b, off, h1, h2, h3⟩ := this hp
    exact ⟨b, off, h1, hlt b h2, h3⟩
  · obtain ⟨b, off, h1, h2, h3⟩ := this hp
    rw [h1] at ha
    cases ha
    obtain ⟨k', r, hk', hr, hb⟩ := hX _ hx
    exact hS.apart k' k r _ _ hr hk (fun e => hn (e ▸ hk')) hb h2
/-- A slice that lies apart from what these name. -/
def ShowsF (w0 : World) (ow : Nat → Prop) (hp : List Res) (ks : List Nat) (sv : Sv) (vs : List Value) : Prop :=
  ∀ γ w, Sat w0 ow γ hp w → ∃ A c, sv.val γ = .slice A vs.length c ∧ vs.length ≤ c ∧ ∀ X : Nat → Prop, (∀ b, X b → ∃ (k : Nat) (r : Res), k ∈ ks ∧ hp[k]? = some r ∧ r.has γ k b) → FW w X A vs
end Go.Proofs.YtiaeollemmkclaaDoor
