/- A region that draws its order, in which what reads looks at nothing that is owned: writers may turn whatever they like, in forks. No program in sight. -/
import Derived.Test.YteiifdpikcnbgaaDoorShA
namespace Go.Proofs.YteiifdpikcnbgaaDoor
open Go.RowKit
set_option linter.unusedSimpArgs false
def gones (m : Nat) : List Res := List.replicate m .gone
section
variable {P : Program} {w0 : World} {ow : Nat → Prop} {n : Nat}
theorem gones_get {m k : Nat} {r : Res} (h : (gones m)[k]? = some r) : r = .gone := by
  unfold gones at h
  rw [List.getElem?_replicate] at h
  split at h
  · exact (Option.some.inj h).symm
  · cases h
theorem Sat.gones {γ : List Nm} {hp : List Res} {w : World} (h : Sat w0 ow γ hp w) : Sat w0 ow γ (gones hp.length) w := by
  refine ⟨h.keeps, by unfold Go.Proofs.YteiifdpikcnbgaaDoor.gones; rw [List.length_replicate]; exact h.len, fun k r hr => ?_, fun k r b hr hb => ?_, fun j k r r' b hr _ _ hb => ?_⟩
  · rw [gones_get hr]; trivial
  · rw [gones_get hr] at hb; exact hb.elim
  · rw [gones_get hr] at hb; exact hb.elim
theorem Sat.gones_le {γ γ' : List Nm} {m m' : Nat} {w : World} (h : Sat w0 ow γ' (Go.Proofs.YteiifdpikcnbgaaDoor.gones m') w) (hl : γ.length = m) : Sat w0 ow γ (Go.Proofs.YteiifdpikcnbgaaDoor.gones m) w := by
  refine ⟨h.keeps, by unfold Go.Proofs.YteiifdpikcnbgaaDoor.gones; rw [List.length_replicate]; exact hl, fun k r hr => ?_, fun k r b hr hb => ?_, fun j k r r' b hr _ _ hb => ?_⟩
  · rw [gones_get hr]; trivial
  · rw [gones_get hr] at hb; exact hb.elim
  · rw [gones_get hr] at hb; exact hb.elim
def stepQ (P : Program) (w0 : World) (ow : Nat → Prop) (n : Nat) (ops : List Oper) (rd : Bool) (i : Nat) (G : S → Prop) (s : S) : Prop :=
  match ops[i]? with
  | none => False
  | some o => match wantS ops s.fr o with
    | none => False
    | some false => dOk n o.dst ∧ G (s.put o.dst nil1)
    | some true => if isCall o.op = true then False
      else if rd = true then (if isRead o.op = true then (match op1 P w0 ow (Fr.ev s.fr) (gones s.hp.length) o.op with
        | some (c, v, hp') => ((c ∧ hp' = gones s.hp.length) ∧ dOk n o.dst) ∧ G (S.put ⟨s.fr, s.hp⟩ o.dst v)
        | none => False) else False)
      else match stepO P w0 ow n o s with
        | some (c, s') => c ∧ G s'
        | none => False
def symQ (P : Program) (w0 : World) (ow : Nat → Prop) (n : Nat) (ops : List Oper) (K : S → Prop) : Pl → S → Prop
  | .nil, s => K s
  | .rd i p, s => stepQ P w0 ow n ops true i (symQ P w0 ow n ops K p) s
  | .wr i p, s => stepQ P w0 ow n ops false i (symQ P w0 ow n ops K p) s
  | .fk i p j q, s => stepQ P w0 ow n ops false i (symQ P w0 ow n ops K p) s ∧ stepQ P w0 ow n ops false j (symQ P w0 ow n ops K q) s
  | .f3 i p j q k r, s => stepQ P w0 ow n ops false i (symQ P w0 ow n ops K p) s ∧ stepQ P w0 ow n ops false j (symQ P w0 ow n ops K q) s ∧ stepQ P w0 ow n ops false k (symQ P w0 ow n ops K r) s
theorem symQ_nil {ops : List Oper} {s : S} {K : S → Prop} : symQ P w0 ow n ops K .nil s = K s := Eq.trans rfl rfl
theorem symQ_rd {ops : List Oper} {i : Nat} {p : Pl} {s : S} {K : S → Prop} : symQ P w0 ow n ops K (.rd i p) s = stepQ P w0 ow n ops true i (symQ P w0 ow n ops K p) s := Eq.trans rfl rfl
theorem symQ_wr {ops : List Oper} {i : Nat} {p : Pl} {s : S} {K : S → Prop} : symQ P w0 ow n ops K (.wr i p) s = stepQ P w0 ow n ops false i (symQ P w0 ow n ops K p) s := Eq.trans rfl rfl
theorem symQ_fk {ops : List Oper} {i j : Nat} {p q : Pl} {s : S} {K : S → Prop} : symQ P w0 ow n ops K (.fk i p j q) s = (stepQ P w0 ow n ops false i (symQ P w0 ow n ops K p) s ∧ stepQ P w0 ow n ops false j (symQ P w0 ow n ops K q) s) := Eq.trans rfl rfl
theorem symQ_f3 {ops : List Oper} {i j k : Nat} {p q r : Pl} {s : S} {K : S → Prop} : symQ P w0 ow n ops K (.f3 i p j q k r) s = (stepQ P w0 ow n ops false i (symQ P w0 ow n ops K p) s ∧ stepQ P w0 ow n ops false j (symQ P w0 ow n ops K q) s ∧ stepQ P w0 ow n ops false k (symQ P w0 ow n ops K r) s) := Eq.trans rfl rfl
theorem stepO_wrQ {o : Oper} {c : Prop} {s s' : S} {γ : List Nm} {a : Act} {w : World} {W : (World → Prop) → Act → World → Prop} (h : FitsAt w0 ow n γ s a w) (hs : stepO P w0 ow n o s = some (c, s')) (hc : c)
    (hK : ∀ γ' a' w', FitsAt w0 ow n γ' s' a' w' → W (fun x => Sat w0 ow γ' (gones s'.hp.length) x) a' w') : o.wp P a w (fun a' w' => ∃ C2 : World → Prop, C2 w' ∧ (∀ x, C2 x → Sat w0 ow γ (gones s.hp.length) x) ∧ W C2 a' w') NoQ := by
  unfold stepO at hs
  split at hs
  · rename_i d v hp' hop
    simp only [Option.some.injEq, Prod.mk.injEq] at hs
    obtain ⟨rfl, rfl⟩ := hs
    obtain ⟨⟨h1, h2⟩, h3⟩ := hc
    obtain ⟨γ', w', hS', hγ, hr⟩ := op1_sound (P := P) (ρ := a.eval) (o := o) h.sat (fun x sv hx => h.ev hx) hop h1 (fun hlt => ⟨fun x sv hx => ev_bnd (h3 hlt).1 hx, (h3 hlt).2⟩)
    have hhp : (S.put ⟨s.fr, hp'⟩ o.dst v).hp = hp' := by cases o.dst <;> rfl
    have hg : ∀ t sv, Fr.get s.fr t = some sv → sv.val γ' = sv.val γ := by
      intro t sv ht
      rcases hγ with rfl | ⟨hlt, nm, rfl⟩
      · rfl
      · exact Sv.ext (by rw [h.sat.len]; exact (h3 hlt).1 _ (Fr.get_mem ht))
    have hback : ∀ x, Sat w0 ow γ' (gones hp'.length) x → Sat w0 ow γ (gones s.hp.length) x := fun x hx => hx.gones_le h.sat.len
    have hfin : ∀ x, x = v.val γ' → W (fun x => Sat w0 ow γ' (gones hp'.length) x) (a.put o.dst x) w' := fun x hx => by
      have := hK γ' _ w' (h.put hS' hg h2 hx)
      rw [hhp] at this
      exact this
    unfold Oper.wp
    rcases hr with hr | ⟨hr, hv⟩
    · rw [hr]
      exact ⟨_, hS'.gones, hback, hfin _ rfl⟩
    · rw [hr]
      subst hv
      exact ⟨_, hS'.gones, hback, hfin _ rfl⟩
  · cases hs
theorem stepQ_wr {ops : List Oper} {i : Nat} {p : Pl} {s : S} {K : S → Prop} {γ : List Nm} {a : Act} {w : World} (ih : ∀ s γ a w, symQ P w0 ow n ops K p s → FitsAt w0 ow n γ s a w → wpPl P ops.toArray (fun a' w' => ∃ s', Fits w0 ow n s' a' w' ∧ K s') p (fun x => Sat w0 ow γ (gones s.hp.length) x) a w)
    (h : stepQ P w0 ow n ops false i (symQ P w0 ow n ops K p) s) (hf : FitsAt w0 ow n γ s a w) :
    wrStep P ops.toArray i (wpPl P ops.toArray (fun a' w' => ∃ s', Fits w0 ow n s' a' w' ∧ K s') p) (fun x => Sat w0 ow γ (gones s.hp.length) x) a w := by
  unfold stepQ at h
  unfold wrStep
  simp only [List.getElem?_toArray]
  split at h
  · exact h.elim
  · rename_i o hi
    try simp only [hi]
    split at h
    · exact h.elim
    · rename_i hw
      have hww := wantS_spec hf hw
      rw [if_neg (by rw [hww]; decide)]
      have := ih _ γ _ _ h.2 (hf.put hf.sat (fun _ _ _ => rfl) h.1 rfl)
      have hhp : (S.put ⟨s.fr, s.hp⟩ o.dst nil1).hp = s.hp := by cases o.dst <;> rfl
      rw [hhp] at this
      exact this
    · rename_i hw
      have hww := wantS_spec hf hw
      rw [if_pos hww]
      split at h
      · exact h.elim
      · split at h
        · rename_i hb; cases hb
        · split at h
          · rename_i c s' hs
            exact stepO_wrQ hf hs h.1 fun γ' a' w' hf' => ih s' γ' a' w' h.2 hf'
          · exact h.elim
theorem symQ_sound {ops : List Oper} {K : S → Prop} : ∀ (p : Pl) (s : S) (γ : List Nm) (a : Act) (w : World), symQ P w0 ow n ops K p s → FitsAt w0 ow n γ s a w →
    wpPl P ops.toArray (fun a' w' => ∃ s', Fits w0 ow n s' a' w' ∧ K s') p (fun x => Sat w0 ow γ (gones s.hp.length) x) a w
  | .nil, s, γ, a, w, h, hf => ⟨s, ⟨γ, hf⟩, h⟩
  | .wr i p, s, γ, a, w, h, hf => stepQ_wr (symQ_sound p) h hf
  | .fk i p j q, s, γ, a, w, h, hf => ⟨stepQ_wr (symQ_sound p) h.1 hf, stepQ_wr (symQ_sound q) h.2 hf⟩
  | .f3 i p j q k r, s, γ, a, w, h, hf => ⟨stepQ_wr (symQ_sound p) h.1 hf, stepQ_wr (symQ_sound q) h.2.1 hf, stepQ_wr (symQ_sound r) h.2.2 hf⟩
  | .rd i p, s, γ, a, w, h, hf => by
    rw [symQ_rd] at h
    unfold stepQ at h
    simp only [wpPl, List.getElem?_toArray]
    split at h
    · exact h.elim
    · rename_i o hi
      try simp only [hi]
      split at h
      · exact h.elim
      · rename_i hw
        have hww := wantS_spec hf hw
        rw [if_neg (by rw [hww]; decide)]
        have := symQ_sound p _ γ _ w h.2 (hf.put hf.sat (fun _ _ _ => rfl) h.1 rfl)
        have hhp : (S.put ⟨s.fr, s.hp⟩ o.dst nil1).hp = s.hp := by cases o.dst <;> rfl
        rw [hhp] at this
        exact this
      · rename_i hw
        have hww := wantS_spec hf hw
        rw [if_pos hww]
        split at h
        · exact h.elim
        · rw [if_pos rfl] at h
          split at h
          · rename_i hir
            split at h
            · rename_i c v hp' hop
              obtain ⟨⟨⟨h1, hsame⟩, h2⟩, h3⟩ := h
              refine ⟨v.val γ, fun x hx => ?_, ?_⟩
              · obtain ⟨_, hr⟩ := op1_read (P := P) (w := x) (ρ := a.eval) (o := o) hir hsame hx (fun x sv hx => hf.ev hx) hop h1
                unfold readAt
                rw [hr]
                exact ⟨rfl, rfl⟩
              · have := symQ_sound p _ γ _ w h3 (hf.put hf.sat (fun _ _ _ => rfl) h2 rfl)
                have hhp : (S.put ⟨s.fr, s.hp⟩ o.dst v).hp = s.hp := by cases o.dst <;> rfl
                rw [hhp] at this
                exact this
            · exact h.elim
          · exact h.elim
theorem drawQ_rule {id : Nat} {ops : List Oper} {s : S} {K : Exit → S → Prop} (p : Pl) (s1 : S) (hm : P.follows .mixedOrders = true) (hs : Region.noSelect ops.toArray = true) (hB : plB .any ops.toArray ops.length p (Array.replicate ops.length false) = true)
    (h : symQ P w0 ow n ops (fun s' => Leads w0 ow n s' s1) p s) (hk : K .normal s1) : DrawG P w0 ow n id ops s K := by
  rintro a w ⟨γ, hf⟩
  refine wp_region_pl p hm hs hB (fun x => Sat w0 ow γ (gones s.hp.length) x) fun w2 hd => ?_
  have hf2 := Fits.drawn hf hd.out
  refine ⟨hf2.sat.gones, ?_⟩
  have := symQ_sound p s γ a w2 h hf2
  have mono : ∀ (p : Pl) (C : World → Prop) (a : Act) (w : World), wpPl P ops.toArray (fun a' w' => ∃ s', Fits w0 ow n s' a' w' ∧ Leads w0 ow n s' s1) p C a w → wpPl P ops.toArray (fun a' w' => den w0 ow n K .normal a' w') p C a w := by
    intro p
    have wr : ∀ (i : Nat) (W W' : (World → Prop) → Act → World → Prop), (∀ C a w, W C a w → W' C a w) → ∀ C a w, wrStep P ops.toArray i W C a w → wrStep P ops.toArray i W' C a w := by
      intro i W W' hW C a w h
      unfold wrStep at h ⊢
      split
      · rename_i ho; simp only [ho] at h
      · rename_i o ho
        simp only [ho] at h
        split
        · rename_i hw; simp only [hw, if_true] at h; exact wp_mono2 (fun a w ⟨C2, h1, h2, h3⟩ => ⟨C2, h1, h2, hW _ _ _ h3⟩) h
        · rename_i hw; simp only [hw] at h; exact hW _ _ _ h
    induction p with
    | nil => exact fun C a w ⟨s', h1, h2⟩ => ⟨s1, h2 _ _ h1, hk⟩
    | rd i p ih =>
      intro C a w h
      unfold wpPl at h ⊢
      split
      · rename_i ho; simp only [ho] at h
      · rename_i o ho
        simp only [ho] at h
        split
        · rename_i hw; simp only [hw, if_true] at h; obtain ⟨v, h1, h2⟩ := h; exact ⟨v, h1, ih _ _ _ h2⟩
        · rename_i hw; simp only [hw] at h; exact ih _ _ _ h
    | wr i p ih => exact fun C a w h => wr i _ _ ih C a w h
    | fk i p j q ih1 ih2 => exact fun C a w h => ⟨wr i _ _ ih1 C a w h.1, wr j _ _ ih2 C a w h.2⟩
    | f3 i p j q k r ih1 ih2 ih3 => exact fun C a w h => ⟨wr i _ _ ih1 C a w h.1, wr j _ _ ih2 C a w h.2.1, wr k _ _ ih3 C a w h.2.2⟩
  exact mono p _ _ _ this
end
attribute [push_cast] symQ_nil symQ_rd symQ_wr symQ_fk symQ_f3 stepQ wantS
end Go.Proofs.YteiifdpikcnbgaaDoor
