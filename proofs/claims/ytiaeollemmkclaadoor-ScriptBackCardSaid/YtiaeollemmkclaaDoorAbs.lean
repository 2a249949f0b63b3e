import Derived.Test.YtiaeollemmkclaaDoorCp
/- What a value stands for, put together of what the call owns; a variable that leads to such a thing, handed over and come back. No program in sight. -/
namespace Go.Proofs.YtiaeollemmkclaaDoor
open Go.RowKit
set_option linter.unusedSimpArgs false
section
variable {P : Program} {w0 w w' : World} {ow : Nat → Prop} {γ : List Nm} {hp : List Res} {k : Nat}
/-- Some of what is owned, told as one thing. -/
theorem Sat.pack (hS : Sat w0 ow γ hp w) (ks : List Nat) (hbr : ∀ r ∈ hp, Res.bnd hp.length r) {R : Rep} {x : Value} {B : Nat → Prop} (hB : ∀ b, B b → ∃ (k : Nat) (r : Res), k ∈ ks ∧ hp[k]? = some r ∧ r.has γ k b) (hH : R.H x B w) :
    Sat w0 ow (γ ++ [.m x B]) (goneAll ks hp ++ [.abs R]) w := by
  have hl := hS.len
  have hgl := goneAll_length ks hp
  have hgb : ∀ r ∈ goneAll ks hp, Res.bnd (goneAll ks hp).length r := fun r hr => by
    obtain ⟨i, hi⟩ := List.getElem?_of_mem hr
    rcases goneAll_get hi with rfl | ⟨_, h⟩
    · trivial
    · rw [hgl]; exact hbr r (List.mem_of_getElem? h)
  have hS' : Sat w0 ow γ (goneAll ks hp) w := by
    refine ⟨hS.keeps, by rw [hgl]; exact hl, fun i r hr => ?_, fun i r b hr hb => ?_, fun i j r r' b hr hr' hij hb hb' => ?_⟩
    · rcases goneAll_get hr with rfl | ⟨_, h⟩
      · trivial
      · exact hS.holds i r h
    · rcases goneAll_get hr with rfl | ⟨_, h⟩
      · cases hb
      · exact hS.mine i r b h hb
    · rcases goneAll_get hr with rfl | ⟨_, h⟩
      · cases hb
      · rcases goneAll_get hr' with rfl | ⟨_, h'⟩
        · cases hb'
        · exact hS.apart i j r r' b h h' hij hb hb'
  have hnm : (γ ++ [Nm.m x B])[hp.length]? = some (.m x B) := by rw [← hl]; simp
  have e1 : nmS (γ ++ [Nm.m x B]) hp.length = x := by simp [nmS, hnm]
  have e2 : nmM (γ ++ [Nm.m x B]) hp.length = B := by simp [nmM, hnm]
  have hlt : ∀ b, B b → b < w.heap.size := fun b hb => by
    obtain ⟨k, r, _, hr, h⟩ := hB b hb
    exact (hS.mine k r b hr h).2
  refine hS'.push (X := B) (Keeps.refl _ _) (fun b hb => ?_) hgb ?_ ?_
  · obtain ⟨k, r, hk, hr, h⟩ := hB b hb
    refine ⟨(hS.mine k r b hr h).1, fun j q hq hqb => ?_⟩
    rcases goneAll_get hq with rfl | ⟨h1, h2⟩
    · cases hqb
    · exact hS.apart k j r q b hr h2 (fun e => h1 (e ▸ hk)) h hqb
  · rw [hgl]
    show _ ∧ _
    rw [e1, e2]
    exact ⟨hnm, hlt, hH⟩
  · intro b hb
    rw [hgl] at hb
    have hb' : nmM (γ ++ [Nm.m x B]) hp.length b := hb
    rw [e2] at hb'
    exact ⟨.inl hb', hlt b hb'⟩
end
/-! ### A slice, as a thing of its own -/
/-- It shows these values, that lie in these blocks. -/
def ShV (vs : List Value) (v : Value) (B : Nat → Prop) (w : World) : Prop := ∃ A c, v = .slice A vs.length c ∧ vs.length ≤ c ∧ c ≤ maxLen ∧ RdV w w.heap.size A vs ∧ ∀ a, A = some a → B a.block
theorem ShV.keep {vs : List Value} {v : Value} {B own : Nat → Prop} {w w' : World} (h : ShV vs v B w) (_hlt : ∀ b, B b → b < w.heap.size) (hk : Keeps own w w') (hn : ∀ b, B b → ¬ own b) : ShV vs v B w' := by
  obtain ⟨A, c, h1, h2, h3, h4, h5⟩ := h
  refine ⟨A, c, h1, h2, h3, fun hp => ?_, h5⟩
  obtain ⟨b, off, hA, hb, hc⟩ := h4 hp
  have hB := h5 _ hA
  exact ⟨b, off, hA, Nat.lt_of_lt_of_le hb hk.size, fun j u hu => (World.cell?_of_block (hk.block b hb (hn b hB))).trans (hc j u hu)⟩
def ShR (vs : List Value) : Rep where
  H v B w := ShV vs v B w
  one := fun {v B w} h => by obtain ⟨A, c, rfl, _⟩ := h; exact ⟨rfl, trivial⟩
  keep := fun h hlt hk hn => h.keep hlt hk hn
theorem ShV.nil_ (B : Nat → Prop) (w : World) : ShV [] (.slice none 0 0) B w := ⟨none, 0, rfl, Nat.le_refl _, Nat.zero_le _, RdV.nil_, fun a h => by cases h⟩
theorem ShV.more {vs : List Value} {v : Value} {B B' : Nat → Prop} {w : World} (h : ShV vs v B w) (hB : ∀ b, B b → B' b) : ShV vs v B' w := by
  obtain ⟨A, c, h1, h2, h3, h4, h5⟩ := h
  exact ⟨A, c, h1, h2, h3, h4, fun a ha => hB _ (h5 a ha)⟩
section
variable {P : Program} {w0 : World} {ow : Nat → Prop} {n : Nat} {s s' : S}
end
end Go.Proofs.YtiaeollemmkclaaDoor
