/- The engine: code does what its term says. No program in sight. -/
import Derived.Test.YtkchdhkpjnnliaaDoorEc
namespace Go.Proofs.YtkchdhkpjnnliaaDoor
open Go.RowKit
set_option linter.unusedSimpArgs false
section
variable {P : Program} {w0 : World} {ow : Nat → Prop} {n : Nat}
theorem Oper.wp_mono3 {o : Oper} {a : Act} {w : World} {K K' : Act → World → Prop} {Q Q' : Exit → Act → World → Prop} (h : ∀ a w, K a w → K' a w) (hq : ∀ e a w, Q e a w → Q' e a w) (hh : o.wp P a w K Q) : o.wp P a w K' Q' := by
  unfold Oper.wp at *
  generalize (execOp a.eval o).run P w = r at *
  cases r with
  | ok n w' =>
    cases n <;> simp only [Oper.upon] at hh ⊢ <;>
      first
        | exact h _ _ hh
        | exact Calls.mono hh (fun e w'' he => by
            cases e with
            | returned v => exact h _ _ he
            | panicked c => exact hq _ _ _ he
            | outgrown => obtain ⟨a', w', h1⟩ := he; exact ⟨a', w', hq _ _ _ h1⟩)
        | exact Rows.mono hh (fun _ _ he => h _ _ he)
  | halt x w' => cases x <;> simp only [Oper.upon] at hh ⊢ <;> first | exact hq _ _ _ hh | exact hh
theorem wpList_mono {ops : Array Oper} {Q Q' : Exit → Act → World → Prop} (hq : ∀ e a w, Q e a w → Q' e a w) : ∀ (l : List Oper) (a : Act) (w : World), wpList P ops Q l a w → wpList P ops Q' l a w
  | [], a, w, h => hq _ _ _ h
  | o :: rest, a, w, h => by
    unfold wpList at h ⊢
    split
    · rename_i hw
      rw [if_pos hw] at h
      rcases h with h | ⟨h1, a', w', h2⟩
      · exact .inl (Oper.wp_mono3 (wpList_mono hq rest) hq h)
      · exact .inr ⟨h1, a', w', hq _ _ _ h2⟩
    · rename_i hw
      rw [if_neg hw] at h
      exact wpList_mono hq rest _ _ h
theorem Fr.get_put (fr : Fr) (d t : Nat) (v : Sv) : Fr.get (Fr.put fr d v) t = if d = t then some v else Fr.get fr t := by
  induction fr with
  | nil => simp [Fr.put, Fr.get]
  | cons p r ih =>
    obtain ⟨k, x⟩ := p
    simp only [Fr.put]
    by_cases hk : k = d
    · subst hk
      simp only [if_true, Fr.get]
      split <;> rfl
    · simp only [hk, if_false, Fr.get, ih]
      by_cases h1 : k = t
      · have : ¬ d = t := fun e => hk (h1.trans e.symm)
        simp [h1, this]
      · simp [h1]
theorem Fr.get_mem {fr : Fr} {t : Nat} {v : Sv} (h : Fr.get fr t = some v) : (t, v) ∈ fr := by
  induction fr with
  | nil => cases h
  | cons p r ih =>
    obtain ⟨k, x⟩ := p
    simp only [Fr.get] at h
    split at h
    · rename_i hk
      cases h
      subst hk
      simp
    · exact List.mem_cons_of_mem _ (ih h)
section
variable {γ : List Nm} {s s' : S} {a : Act} {w : World}
theorem FitsAt.ev (h : FitsAt w0 ow n γ s a w) {x : Operand} {sv : Sv} (hx : Fr.ev s.fr x = some sv) : a.eval x = sv.val γ := by
  cases x with
  | tmp t => exact h.at_ t sv hx
  | const v => simp only [Fr.ev, Option.some.injEq] at hx; subst hx; rfl
  | global g => simp only [Fr.ev, Option.some.injEq] at hx; subst hx; rfl
  | func f => simp only [Fr.ev, Option.some.injEq] at hx; subst hx; rfl
theorem ev_bnd {m : Nat} (h : ∀ x ∈ s.fr, Sv.bnd m x.2) {x : Operand} {sv : Sv} (hx : Fr.ev s.fr x = some sv) : sv.bnd m := by
  cases x with
  | tmp t => exact h _ (Fr.get_mem hx)
  | const v => simp only [Fr.ev, Option.some.injEq] at hx; subst hx; trivial
  | global g => simp only [Fr.ev, Option.some.injEq] at hx; subst hx; trivial
  | func f => simp only [Fr.ev, Option.some.injEq] at hx; subst hx; trivial
/-- A slot written. -/
theorem FitsAt.put {γ' : List Nm} {hp' : List Res} {w' : World} (h : FitsAt w0 ow n γ s a w) (hS : Sat w0 ow γ' hp' w') (hg : ∀ t sv, Fr.get s.fr t = some sv → sv.val γ' = sv.val γ) {d : Option Tmp} (hd : dOk n d) {v : Sv} {x : Value} (hx : x = v.val γ') :
    FitsAt w0 ow n γ' (S.put ⟨s.fr, hp'⟩ d v) (a.put d x) w' := by
  cases d with
  | none => exact ⟨hS, h.defers, h.size, fun t sv ht => (h.at_ t sv ht).trans (hg t sv ht).symm⟩
  | some d =>
    refine ⟨hS, h.defers, ?_, fun t sv ht => ?_⟩
    · simp [Act.put, h.size]
    · simp only [S.put, Fr.get_put] at ht
      have hlt : d < a.tmps.size := by rw [h.size]; exact hd
      show (a.tmps.setIfInBounds d x).getD t undef = _
      split at ht
      · rename_i hdt
        subst hdt
        cases ht
        rw [hx]
        simp [Array.getElem?_setIfInBounds, hlt]
      · rename_i hdt
        rw [hg t sv ht, ← h.at_ t sv ht]
        simp [Array.getElem?_setIfInBounds, hdt]
theorem stepO_sound {o : Oper} {c : Prop} (h : FitsAt w0 ow n γ s a w) (hs : stepO P w0 ow n o s = some (c, s')) (hc : c) {K : Act → World → Prop} {Q : Exit → Act → World → Prop}
    (hK : ∀ a' w', Fits w0 ow n s' a' w' → K a' w') : o.wp P a w K Q := by
  unfold stepO at hs
  split at hs
  · rename_i d v hp' hop
    simp only [Option.some.injEq, Prod.mk.injEq] at hs
    obtain ⟨rfl, rfl⟩ := hs
    obtain ⟨⟨h1, h2⟩, h3⟩ := hc
    obtain ⟨γ', w', hS', hγ, hr⟩ := op1_sound (P := P) (ρ := a.eval) (o := o) h.sat (fun x sv hx => h.ev hx) hop h1 (fun hlt => ⟨fun x sv hx => ev_bnd (h3 hlt).1 hx, (h3 hlt).2⟩)
    have hg : ∀ t sv, Fr.get s.fr t = some sv → sv.val γ' = sv.val γ := by
      intro t sv ht
      rcases hγ with rfl | ⟨hlt, nm, rfl⟩
      · rfl
      · exact Sv.ext (by rw [h.sat.len]; exact (h3 hlt).1 _ (Fr.get_mem ht))
    unfold Oper.wp
    rcases hr with hr | ⟨hr, hv⟩
    · rw [hr]
      exact hK _ _ ⟨γ', h.put hS' hg h2 rfl⟩
    · rw [hr]
      subst hv
      exact hK _ _ ⟨γ', h.put hS' hg h2 rfl⟩
  · cases hs
theorem yield_of {ops : List Oper} {j : Nat} {b : Bool} (h : FitsAt w0 ow n γ s a w) (hy : yieldS ops s.fr j = some b) : yielded ops.toArray a.tmps j = some b := by
  unfold yieldS at hy
  split at hy
  · rename_i o ho
    split at hy
    · rename_i d hd
      split at hy
      · rename_i b' hb
        simp only [Option.some.injEq] at hy
        subst hy
        have h1 := h.at_ d _ hb
        have h2 : a.tmps[d]? = some (.bool b') := by
          cases hq : a.tmps[d]? with
          | none => simp [hq, Sv.val, Sc.val, At.val, undef] at h1
          | some z =>
            simp [hq, Sv.val, Sc.val, At.val] at h1
            rw [h1]
        unfold yielded
        simp [ho, hd, h2]
      · cases hy
    · cases hy
  · cases hy
/-- The post of a region. -/
def QR (w0 : World) (ow : Nat → Prop) (n : Nat) (K : S → Prop) : Exit → Act → World → Prop := fun e a' w' => e = .normal ∧ ∃ s', Fits w0 ow n s' a' w' ∧ K s'
theorem symR_sound {ops : List Oper} {K : S → Prop} : ∀ (l : List Oper) (s : S) (a : Act) (w : World), symR P w0 ow n ops l s K → Fits w0 ow n s a w → wpList P ops.toArray (QR w0 ow n K) l a w
  | [], s, a, w, h, hf => ⟨rfl, s, hf, h⟩
  | o :: rest, s, a, w, h, hf => by
    unfold symR at h
    split at h
    · split at h
      · rename_i hg
        exact h a w hf (by simp [Region.wanted, hg])
      · rename_i j b hg
        obtain ⟨γ, hfit⟩ := hf
        split at h
        · rename_i c hy
          have hyy := yield_of hfit hy
          split at h
          · rename_i hcb
            subst hcb
            exact h a w ⟨γ, hfit⟩ (by simp [Region.wanted, hg, hyy])
          · rename_i hcb
            unfold wpList
            rw [if_neg (by simp [Region.wanted, hg, hyy, hcb])]
            exact symR_sound rest _ _ _ h.2 ⟨γ, hfit.put hfit.sat (fun _ _ _ => rfl) h.1 rfl⟩
        · exact h.elim
    · obtain ⟨γ, hfit⟩ := hf
      split at h
      · rename_i hg
        split at h
        · rename_i c s' hs
          unfold wpList
          rw [if_pos (by simp [Region.wanted, hg])]
          exact .inl (stepO_sound hfit hs h.1 fun a' w' hf' => symR_sound rest s' a' w' h.2 hf')
        · exact h.elim
      · rename_i j b hg
        split at h
        · rename_i c hy
          have hyy := yield_of hfit hy
          split at h
          · rename_i hcb
            subst hcb
            split at h
            · rename_i c' s' hs
              unfold wpList
              rw [if_pos (by simp [Region.wanted, hg, hyy])]
              exact .inl (stepO_sound hfit hs h.1 fun a' w' hf' => symR_sound rest s' a' w' h.2 hf')
            · exact h.elim
          · rename_i hcb
            unfold wpList
            rw [if_neg (by simp [Region.wanted, hg, hyy, hcb])]
            exact symR_sound rest _ _ _ h.2 ⟨γ, hfit.put hfit.sat (fun _ _ _ => rfl) h.1 rfl⟩
        · exact h.elim
theorem symC_sound : ∀ (c : Code) (s : S) (K : Exit → S → Prop) (a : Act) (w : World), symC P w0 ow n c s K → Fits w0 ow n s a w → c.wp P (den w0 ow n K) a w
  | .skip, s, K, a, w, h, hf => wp_skip ⟨s, hf, h⟩
  | .region id ops draw, s, K, a, w, h, hf => by
    unfold symC at h
    split at h
    · rename_i hd
      subst hd
      have := h a w hf
      rwa [Array.toArray_toList] at this
    · rename_i hd
      have hd' : draw = false := by simpa using hd
      subst hd'
      refine wp_region_list ?_
      have := symR_sound _ s a w h hf
      rw [Array.toArray_toList] at this
      refine wpList_mono (fun e a' w' hq => ?_) _ _ _ this
      obtain ⟨rfl, s', h1, h2⟩ := hq
      exact ⟨s', h1, h2⟩
  | .seq x y, s, K, a, w, h, hf => by
    refine wp_seq (wp_mono (symC_sound x s _ a w h hf) fun e a' w' hq => ?_)
    obtain ⟨s', h1, h2⟩ := hq
    cases e with
    | normal => exact symC_sound y s' K a' w' h2 h1
    | exit id => exact ⟨s', h1, h2⟩
    | goto l => exact ⟨s', h1, h2⟩
    | ret => exact ⟨s', h1, h2⟩
    | panic ch => exact ⟨s', h1, h2⟩
    | outgrown => exact ⟨s', h1, h2⟩
  | .cond c x y, s, K, a, w, h, hf => by
    obtain ⟨γ, hfit⟩ := hf
    unfold symC at h
    split at h
    · rename_i b hb
      refine wp_cond (t := b) (hfit.ev hb) ?_
      cases b
      · exact symC_sound y s K a w h ⟨γ, hfit⟩
      · exact symC_sound x s K a w h ⟨γ, hfit⟩
    · exact h.elim
  | .block id c, s, K, a, w, h, hf => by
    refine wp_block (wp_mono (symC_sound c s _ a w h hf) fun e a' w' hq => ?_)
    obtain ⟨s', h1, h2⟩ := hq
    cases e with
    | normal => exact ⟨s', h1, h2⟩
    | exit i =>
      simp only [InB] at h2
      simp only [Exit.inBlock]
      split at h2
      · rename_i hi; rw [if_pos hi]; exact ⟨s', h1, h2⟩
      · rename_i hi; rw [if_neg hi]; exact ⟨s', h1, h2⟩
    | goto l => exact ⟨s', h1, h2⟩
    | ret => exact ⟨s', h1, h2⟩
    | panic ch => exact ⟨s', h1, h2⟩
    | outgrown => exact ⟨s', h1, h2⟩
  | .loop c, s, K, a, w, h, hf => h a w hf
  | .exit id, s, K, a, w, h, hf => wp_exit ⟨s, hf, h⟩
  | .ret, s, K, a, w, h, hf => wp_ret ⟨s, hf, h⟩
  | .rangeFunc _ _ _ _, _, _, _, _, h, _ => h.elim
  | .scope _, _, _, _, _, h, _ => h.elim
  | .label _, _, _, _, _, h, _ => h.elim
  | .goto _, _, _, _, _, h, _ => h.elim
  | .refuse _, _, _, _, _, h, _ => h.elim
end
end
end Go.Proofs.YtkchdhkpjnnliaaDoor
