import Derived.Test.YtiaeollemmkclaaDoorCp
/- What a value stands for, put together of what the call owns; a variable that leads to such a thing, handed over and come back. No program in sight. -/
namespace Go.Proofs.YtiaeollemmkclaaDoor
open Go.RowKit
set_option linter.unusedSimpArgs false
section
variable {P : Program} {w0 w w' : World} {ow : Nat → Prop} {γ : List Nm} {hp : List Res} {k : Nat}
/-- Some of what is owned, told as one thing. -/
theorem Sat.pack (hS : Sat w0 ow γ hp w) (ks : List Nat) (hbr : ∀ r ∈ hp, Res.bnd hp.length r) {R : Rep} {x : Value} {B : Nat → Prop} (hB : ∀ b, B b → ∃ (k : Nat) (r : Res), k ∈ ks ∧ hp[k]? = some r ∧ r.has γ k b) (hH : R.H x B w) :
    Sat w0 ow (γ ++ [.m x B]) (goneAll ks hp ++ [.abs R]) w := by
  have hl := hS.len
  have hgl := goneAll_length ks hp
  have hgb : ∀ r ∈ goneAll ks hp, Res.bnd (goneAll ks hp).length r := fun r hr => by
    obtain ⟨i, hi⟩ := List.getElem?_of_mem hr
    rcases goneAll_get hi with rfl | ⟨_, h⟩
    · trivial
    · rw [hgl]; exact hbr r (List.mem_of_getElem? h)
  have hS' : Sat w0 ow γ (goneAll ks hp) w := by
    refine ⟨hS.keeps, by rw [hgl]; exact hl, fun i r hr => ?_, fun i r b hr hb => ?_, fun i j r r' b hr hr' hij hb hb' => ?_⟩
    · rcases goneAll_get hr with rfl | ⟨_, h⟩
      · trivial
      · exact hS.holds i r h
    · rcases goneAll_get hr with rfl | ⟨_, h⟩
      · cases hb
      · exact hS.mine i r b h hb
    · rcases goneAll_get hr with rfl | ⟨_, h⟩
      · cases hb
      · rcases goneAll_get hr' with rfl | ⟨_, h'⟩
        · cases hb'
        · exact hS.apart i j r r' b h h' hij hb hb'
  have hnm : (γ ++ [Nm.m x B])[hp.length]? = some (.m x B) := by rw [← hl]; simp
  have e1 : nmS (γ ++ [Nm.m x B]) hp.length = x := by simp [nmS, hnm]
  have e2 : nmM (γ ++ [Nm.m x B]) hp.length = B := by simp [nmM, hnm]
  have hlt : ∀ b, B b → b < w.heap.size := fun b hb => by
    obtain ⟨k, r, _, hr, h⟩ := hB b hb
    exact (hS.mine k r b hr h).2
  refine hS'.push (X := B) (Keeps.refl _ _) (fun b hb => ?_) hgb ?_ ?_
  · obtain ⟨k, r, hk, hr, h⟩ := hB b hb
    refine ⟨(hS.mine k r b hr h).1, fun j q hq hqb => ?_⟩
    rcases goneAll_get hq with rfl | ⟨h1, h2⟩
    · cases hqb
    · exact hS.apart k j r q b hr h2 (fun e => h1 (e ▸ hk)) h hqb
  · rw [hgl]
    show _ ∧ _
    rw [e1, e2]
    exact ⟨hnm, hlt, hH⟩
  · intro b hb
    rw [hgl] at hb
    have hb' : nmM (γ ++ [Nm.m x B]) hp.length b := hb
    rw [e2] at hb'
    exact ⟨.inl hb', hlt b hb'⟩
/-- The same thing, spelled in other words. -/
theorem Sat.respell (hS : Sat w0 ow γ hp w) {r r' : Res} (hr : hp[k]? = some r) (hh : r'.holds γ k w) (hb : r'.has γ k = r.has γ k) : Sat w0 ow γ (hp.set k r') w := by
  have hk := lt_of_get hr
  have at_ : ∀ (i : Nat) (q : Res), (hp.set k r')[i]? = some q → (i = k ∧ q = r') ∨ (i ≠ k ∧ hp[i]? = some q) := fun i q hq => by
    by_cases e : k = i
    · subst e
      rw [List.getElem?_set_self hk] at hq
      cases hq
      exact .inl ⟨rfl, rfl⟩
    · rw [List.getElem?_set_ne e] at hq
      exact .inr ⟨fun h => e h.symm, hq⟩
  have has_ : ∀ (i : Nat) (q : Res) (b : Nat), (hp.set k r')[i]? = some q → q.has γ i b → ∃ q', hp[i]? = some q' ∧ q'.has γ i b := fun i q b hq hqb => by
    rcases at_ i q hq with ⟨rfl, rfl⟩ | ⟨_, h⟩
    · exact ⟨r, hr, by rw [← hb]; exact hqb⟩
    · exact ⟨q, h, hqb⟩
  refine ⟨hS.keeps, by simp [hS.len], fun i q hq => ?_, fun i q b hq hqb => ?_, fun i j q q' b hq hq' hij hqb hqb' => ?_⟩
  · rcases at_ i q hq with ⟨rfl, rfl⟩ | ⟨_, h⟩
    · exact hh
    · exact hS.holds i q h
  · obtain ⟨q', h1, h2⟩ := has_ i q b hq hqb
    exact hS.mine i q' b h1 h2
  · obtain ⟨p1, h1, h2⟩ := has_ i q b hq hqb
    obtain ⟨p2, h3, h4⟩ := has_ j q' b hq' hqb'
    exact hS.apart i j p1 p2 b h1 h3 hij h2 h4
/-- A variable's cells, spelled in other words. -/
theorem Sat.recell (hS : Sat w0 ow γ hp w) {t : TypeId} {c c' : Cont} (hr : bview hp[k]? = some (t, c)) (hv : c'.vals γ = c.vals γ) : Sat w0 ow γ (hp.set k (bput hp[k]? t c')) w := by
  obtain ⟨h1, h2, r0, hr0, hbl, hbl2, hput⟩ := hS.bv hr
  exact hS.respell hr0 (hput w c' (by rw [hv]; exact h2)) (hbl2 c')
end
/-! ### A slice, as a thing of its own -/
/-- It shows these values, that lie in these blocks. -/
def ShV (vs : List Value) (v : Value) (B : Nat → Prop) (w : World) : Prop := ∃ A c, v = .slice A vs.length c ∧ vs.length ≤ c ∧ c ≤ maxLen ∧ RdV w w.heap.size A vs ∧ ∀ a, A = some a → B a.block
theorem ShV.keep {vs : List Value} {v : Value} {B own : Nat → Prop} {w w' : World} (h : ShV vs v B w) (_hlt : ∀ b, B b → b < w.heap.size) (hk : Keeps own w w') (hn : ∀ b, B b → ¬ own b) : ShV vs v B w' := by
  obtain ⟨A, c, h1, h2, h3, h4, h5⟩ := h
  refine ⟨A, c, h1, h2, h3, fun hp => ?_, h5⟩
  obtain ⟨b, off, hA, hb, hc⟩ := h4 hp
  have hB := h5 _ hA
  exact ⟨b, off, hA, Nat.lt_of_lt_of_le hb hk.size, fun j u hu => (World.cell?_of_block (hk.block b hb (hn b hB))).trans (hc j u hu)⟩
def ShR (vs : List Value) : Rep where
  H v B w := ShV vs v B w
  one := fun {v B w} h => by obtain ⟨A, c, rfl, _⟩ := h; exact ⟨rfl, trivial⟩
  keep := fun h hlt hk hn => h.keep hlt hk hn
theorem ShV.nil_ (B : Nat → Prop) (w : World) : ShV [] (.slice none 0 0) B w := ⟨none, 0, rfl, Nat.le_refl _, Nat.zero_le _, RdV.nil_, fun a h => by cases h⟩
theorem ShV.more {vs : List Value} {v : Value} {B B' : Nat → Prop} {w : World} (h : ShV vs v B w) (hB : ∀ b, B b → B' b) : ShV vs v B' w := by
  obtain ⟨A, c, h1, h2, h3, h4, h5⟩ := h
  exact ⟨A, c, h1, h2, h3, h4, fun a ha => hB _ (h5 a ha)⟩
/-- What a slice of the call's own shows. -/
theorem Sat.shOwn {w0 w : World} {ow : Nat → Prop} {γ : List Nm} {hp : List Res} {k : Nat} {e : TypeId} {c : Cont} {vs : List Value} (hS : Sat w0 ow γ hp w) (hr : hp[k]? = some (.own e c)) (hv : c.vals γ = vs) : ShV vs (nmS γ k) ((Res.own e c).has γ k) w := by
  obtain ⟨A, cap, h1, h2, h3, h4⟩ := hS.rdOwn hr
  obtain ⟨A', c', e1, _, _, _, h5⟩ := (hS.own hr).2.rd
  have hl : c.len = vs.length := by rw [← hv, Cont.len_vals]
  rw [hv] at h4
  rw [hl] at h1 h2
  refine ⟨A, cap, h1, h2, h3, h4, fun a ha => ?_⟩
  rw [h1] at e1
  injection e1 with e1 _ _
  subst e1
  exact (h5 a ha).2.2.2
section
variable {P : Program} {w0 : World} {ow : Nat → Prop} {n : Nat} {s s' : S}
theorem callG_leads {ops : List Oper} {o : Oper} {rest : List Oper} {K : S → Prop} (hl : Leads w0 ow n s s') (h : CallG P w0 ow n ops o rest s' K) : CallG P w0 ow n ops o rest s K := fun a w hf hw => h a w (hl a w hf) hw
/-- A value in a variable's cell, told as a thing that has no blocks. -/
theorem leads_abs (k i : Nat) (t : TypeId) (l : List At) (x : Value) (R : Rep) (hr : bview s.hp[k]? = some (t, .c l)) (hi : l[i]? = some (.v x)) (hR : ∀ w, R.H x (fun _ => False) w) (hb : s.bnd) :
    Leads w0 ow n s ⟨s.fr, s.hp.set k (bput s.hp[k]? t (.c (l.set i (.o s.hp.length)))) ++ [.abs R]⟩ := fun a w ⟨γ, hf⟩ => by
  have hl := hf.sat.len
  have h1 := hf.sat.pack [] hb.2 (R := R) (x := x) (B := fun _ => False) (fun b h => h.elim) (hR w)
  have hk : k < s.hp.length := by
    cases h : s.hp[k]? with
    | none => rw [h] at hr; cases hr
    | some r => exact lt_of_get h
  have hr2 : bview (goneAll [] s.hp ++ [Res.abs R])[k]? = some (t, .c l) := by
    show bview (s.hp ++ [Res.abs R])[k]? = _
    rw [List.getElem?_append_left hk]
    exact hr
  have hcb : (Cont.c l).bnd s.hp.length := by
    cases h : s.hp[k]? with
    | none => rw [h] at hr; cases hr
    | some r =>
      have := hb.2 r (List.mem_of_getElem? h)
      rw [h] at hr
      cases r <;> simp only [bview, Option.some.injEq, Prod.mk.injEq, reduceCtorEq] at hr <;> obtain ⟨rfl, rfl⟩ := hr <;> exact this
  have h2 := h1.recell (c' := .c (l.set i (.o s.hp.length))) hr2 (by
    simp only [Cont.vals, List.map_set]
    have e : (At.o s.hp.length).val (γ ++ [Nm.m x fun _ => False]) = x := by
      show nmS _ _ = _
      unfold nmS
      rw [← hl]
      simp
    rw [e]
    have e2 : (l.map (At.val (γ ++ [Nm.m x fun _ => False])))[i]? = some x := by
      rw [List.getElem?_map, hi]
      rfl
    exact set_same e2)
  have e3 : (goneAll [] s.hp ++ [Res.abs R]).set k (bput (goneAll [] s.hp ++ [Res.abs R])[k]? t (.c (l.set i (.o s.hp.length)))) = s.hp.set k (bput s.hp[k]? t (.c (l.set i (.o s.hp.length)))) ++ [.abs R] := by
    show (s.hp ++ [Res.abs R]).set k (bput (s.hp ++ [Res.abs R])[k]? t _) = _
    rw [List.getElem?_append_left hk, List.set_append_left _ _ hk]
  rw [e3] at h2
  exact ⟨_, h2, hf.defers, hf.size, fun u sv hu => by
    rw [hf.at_ u sv hu]
    exact (Sv.ext (by rw [hf.sat.len]; exact hb.1 _ (Fr.get_mem hu))).symm⟩
end
end Go.Proofs.YtiaeollemmkclaaDoor
