/- The engine: a region in which two that make memory, or call, may come in either order: both are walked, and meet again. No program in sight. -/
import Derived.Test.YtkchdhkpjnnliaaDoorEg
namespace Go.Proofs.YtkchdhkpjnnliaaDoor
open Go.RowKit
set_option linter.unusedSimpArgs false
/-- An order, with forks. -/
inductive Pl where
  | nil
  | rd (i : Nat) (p : Pl)
  | wr (i : Nat) (p : Pl)
  | fk (i : Nat) (p : Pl) (j : Nat) (q : Pl)
def plB (md : Region.Mode) (ops : Array Oper) : Nat → Pl → Array Bool → Bool
  | 0, .nil, listed => (Region.ready md ops listed).isEmpty
  | f + 1, .rd i p, listed => (Region.ready md ops listed).contains i && Region.free md ops listed i && plB md ops f p (listed.setIfInBounds i true)
  | f + 1, .wr i p, listed => decide (Region.ready md ops listed = [i]) && plB md ops f p (listed.setIfInBounds i true)
  | f + 1, .fk i p j q, listed => decide (Region.ready md ops listed = [i, j]) && plB md ops f p (listed.setIfInBounds i true) && plB md ops f q (listed.setIfInBounds j true)
  | _, _, _ => false
section
variable {P : Program} {ops : Array Oper} {md : Region.Mode}
def wrStep (P : Program) (ops : Array Oper) (i : Nat) (W : (World → Prop) → Act → World → Prop) (C : World → Prop) (a : Act) (w : World) : Prop :=
  match ops[i]? with
  | none => False
  | some o =>
    if Region.wanted o (yielded ops a.tmps) then o.wp P a w (fun a' w' => ∃ C2 : World → Prop, C2 w' ∧ (∀ x, C2 x → C x) ∧ W C2 a' w') NoQ
    else W C (a.put o.dst undef) w
def wpPl (P : Program) (ops : Array Oper) (Q : Act → World → Prop) : Pl → (World → Prop) → Act → World → Prop
  | .nil, _, a, w => Q a w
  | .rd i p, C, a, w =>
    match ops[i]? with
    | none => False
    | some o =>
      if Region.wanted o (yielded ops a.tmps) then ∃ v, (∀ x, C x → readAt P o a x v) ∧ wpPl P ops Q p C (a.put o.dst v) w
      else wpPl P ops Q p C (a.put o.dst undef) w
  | .wr i p, C, a, w => wrStep P ops i (wpPl P ops Q p) C a w
  | .fk i p j q, C, a, w => wrStep P ops i (wpPl P ops Q p) C a w ∧ wrStep P ops j (wpPl P ops Q q) C a w
theorem mOp_wr {i : Nat} {W W' : (World → Prop) → Act → World → Prop} {C : World → Prop} {a : Act} {w : World} (hC : C w) (hW : ∀ C a w, C w → W C a w → W' C a w) (h : wrStep P ops i W C a w) : mOp P ops i C W' a w := by
  unfold mOp
  unfold wrStep at h
  split
  · rename_i ho; simp only [ho] at h
  · rename_i o ho
    simp only [ho] at h
    split
    · rename_i hw; simp only [hw, if_true] at h; exact wp_mono2 (fun a w ⟨C2, h1, h2, h3⟩ => ⟨C2, h1, h2, hW _ _ _ h1 h3⟩) h
    · rename_i hw; simp only [hw] at h; exact hW _ _ _ hC h
theorem wpAnyM_pl {Q : Act → World → Prop} (hs : Region.noSelect ops = true) : ∀ (f : Nat) (p : Pl) (listed : Array Bool) (C : World → Prop) (a : Act) (w : World), C w →
    plB md ops f p listed = true → wpPl P ops Q p C a w → wpAnyM P md ops Q f listed C a w
  | 0, .nil, _, _, _, _, _, hB, h => ⟨by simpa [plB] using hB, h⟩
  | f + 1, .rd i p, listed, C, a, w, hC, hB, h => by
    simp only [plB, Bool.and_eq_true] at hB
    obtain ⟨⟨hr, hf⟩, hB'⟩ := hB
    have hr' : i ∈ Region.ready md ops listed := by simpa using hr
    obtain ⟨_, o, ho, _⟩ := mem_ready.1 hr'
    simp only [wpPl, ho] at h
    have hv : ∃ v, YieldsR P ops C o v a ∧ wpPl P ops Q p C (a.put o.dst v) w := by
      by_cases hw : Region.wanted o (yielded ops a.tmps) = true
      · simp only [hw, if_true] at h
        obtain ⟨v, h1, h2⟩ := h
        exact ⟨v, .inl ⟨hw, h1⟩, h2⟩
      · simp only [hw] at h
        exact ⟨undef, .inr ⟨by simpa using hw, rfl⟩, h⟩
    obtain ⟨v, hy, hK⟩ := hv
    exact wpAnyM_first ho (Region.noSelect_spec hs) f listed C a w (Region.free_spec ho hf) hr' hC hy (wpAnyM_pl hs f p _ C _ w hC hB' hK)
  | f + 1, .wr i p, listed, C, a, w, hC, hB, h => by
    simp only [plB, Bool.and_eq_true, decide_eq_true_eq] at hB
    refine ⟨fun h0 => (by rw [hB.1] at h0; cases h0), fun j hj => ?_⟩
    rw [hB.1] at hj
    have hji : j = i := by simpa using hj
    subst hji
    exact mOp_wr hC (fun C2 a' w' hC2 hw => wpAnyM_pl hs f p _ C2 a' w' hC2 hB.2 hw) h
  | f + 1, .fk i p j q, listed, C, a, w, hC, hB, h => by
    simp only [plB, Bool.and_eq_true, decide_eq_true_eq] at hB
    refine ⟨fun h0 => (by rw [hB.1.1] at h0; cases h0), fun k hk => ?_⟩
    rw [hB.1.1] at hk
    simp only [List.mem_cons, List.not_mem_nil, or_false] at hk
    rcases hk with rfl | rfl
    · exact mOp_wr hC (fun C2 a' w' hC2 hw => wpAnyM_pl hs f p _ C2 a' w' hC2 hB.1.2 hw) h.1
    · exact mOp_wr hC (fun C2 a' w' hC2 hw => wpAnyM_pl hs f q _ C2 a' w' hC2 hB.2 hw) h.2
  | 0, .rd _ _, _, _, _, _, _, hB, _ => by simp [plB] at hB
  | 0, .wr _ _, _, _, _, _, _, hB, _ => by simp [plB] at hB
  | 0, .fk _ _ _ _, _, _, _, _, _, hB, _ => by simp [plB] at hB
  | _ + 1, .nil, _, _, _, _, _, hB, _ => by simp [plB] at hB
theorem wp_region_pl {id : Nat} {Q : Exit → Act → World → Prop} {a : Act} {w : World} {l : List Oper} (p : Pl) (hm : P.follows .mixedOrders = true) (hs : Region.noSelect l.toArray = true)
    (hB : plB .any l.toArray l.length p (Array.replicate l.length false) = true) (C : World → Prop)
    (h : ∀ w2 : World, Hid (Drawn w w2) → C w2 ∧ wpPl P l.toArray (fun a' w' => Q .normal a' w') p C a w2) : (Code.region id l.toArray true).wp P Q a w := by
  refine wp_region_any hm ?_
  obtain ⟨h1, h2⟩ := h { w with drawn := w.drawn + 1 } (Lib.hid ⟨1, rfl⟩)
  have := wpAny_of_M (Q' := Q) (fun _ _ h => h) _ _ _ _ _ (wpAnyM_pl (md := .any) hs l.length p _ C a _ h1 hB h2)
  simpa using this
end
section
variable {P : Program} {w0 : World} {ow : Nat → Prop} {n : Nat}
def CallP (P : Program) (w0 : World) (ow : Nat → Prop) (n : Nat) (ops : List Oper) (o : Oper) (p : Pl) (s : S) (K : S → Prop) : Prop :=
  ∀ γ a w, FitsAt w0 ow n γ s a w → o.wp P a w (fun a' w' => ∃ C2 : World → Prop, C2 w' ∧ (∀ x, C2 x → Sat w0 ow γ s.hp x) ∧ wpPl P ops.toArray (fun a' w' => ∃ s', Fits w0 ow n s' a' w' ∧ K s') p C2 a' w') NoQ
/-- One step of an order; what comes behind it, as a function of the state. -/
def stepP (P : Program) (w0 : World) (ow : Nat → Prop) (n : Nat) (ops : List Oper) (rd : Bool) (i : Nat) (G : S → Prop) (call : Oper → Prop) (s : S) : Prop :=
  match ops[i]? with
  | none => False
  | some o =>
    if isCall o.op = true then (match o.guard with
      | none => rd = false ∧ call o
      | some (j, b) => match yieldS ops s.fr j with
        | some c => if c = b then rd = false ∧ call o else dOk n o.dst ∧ G (s.put o.dst nil1)
        | none => False)
    else match o.guard with
    | none => match stepO P w0 ow n o s with
      | some (c, s') => c ∧ takes rd o.op s s' ∧ G s'
      | none => False
    | some (j, b) => match yieldS ops s.fr j with
      | some c => if c = b then (match stepO P w0 ow n o s with | some (c, s') => c ∧ takes rd o.op s s' ∧ G s' | none => False) else dOk n o.dst ∧ G (s.put o.dst nil1)
      | none => False
def symP (P : Program) (w0 : World) (ow : Nat → Prop) (n : Nat) (ops : List Oper) (K : S → Prop) : Pl → S → Prop
  | .nil, s => K s
  | .rd i p, s => stepP P w0 ow n ops true i (symP P w0 ow n ops K p) (fun o => CallP P w0 ow n ops o p s K) s
  | .wr i p, s => stepP P w0 ow n ops false i (symP P w0 ow n ops K p) (fun o => CallP P w0 ow n ops o p s K) s
  | .fk i p j q, s => stepP P w0 ow n ops false i (symP P w0 ow n ops K p) (fun o => CallP P w0 ow n ops o p s K) s ∧ stepP P w0 ow n ops false j (symP P w0 ow n ops K q) (fun o => CallP P w0 ow n ops o q s K) s
theorem symP_nil {ops : List Oper} {s : S} {K : S → Prop} : symP P w0 ow n ops K .nil s = K s := rfl
theorem symP_rd {ops : List Oper} {i : Nat} {p : Pl} {s : S} {K : S → Prop} : symP P w0 ow n ops K (.rd i p) s = stepP P w0 ow n ops true i (symP P w0 ow n ops K p) (fun o => CallP P w0 ow n ops o p s K) s := rfl
theorem symP_wr {ops : List Oper} {i : Nat} {p : Pl} {s : S} {K : S → Prop} : symP P w0 ow n ops K (.wr i p) s = stepP P w0 ow n ops false i (symP P w0 ow n ops K p) (fun o => CallP P w0 ow n ops o p s K) s := rfl
theorem symP_fk {ops : List Oper} {i j : Nat} {p q : Pl} {s : S} {K : S → Prop} : symP P w0 ow n ops K (.fk i p j q) s = (stepP P w0 ow n ops false i (symP P w0 ow n ops K p) (fun o => CallP P w0 ow n ops o p s K) s ∧ stepP P w0 ow n ops false j (symP P w0 ow n ops K q) (fun o => CallP P w0 ow n ops o q s K) s) := rfl
/-- What an operation does, as a step among others: whoever comes behind sees at least what stood. -/
theorem stepO_wr {o : Oper} {c : Prop} {s s' : S} {γ : List Nm} {a : Act} {w : World} {W : (World → Prop) → Act → World → Prop} (h : FitsAt w0 ow n γ s a w) (hs : stepO P w0 ow n o s = some (c, s')) (hc : c) (ht : takes false o.op s s')
    (hK : ∀ γ' a' w', FitsAt w0 ow n γ' s' a' w' → W (fun x => Sat w0 ow γ' s'.hp x) a' w') : o.wp P a w (fun a' w' => ∃ C2 : World → Prop, C2 w' ∧ (∀ x, C2 x → Sat w0 ow γ s.hp x) ∧ W C2 a' w') NoQ := by
  unfold stepO at hs
  split at hs
  · rename_i d v hp' hop
    simp only [Option.some.injEq, Prod.mk.injEq] at hs
    obtain ⟨rfl, rfl⟩ := hs
    obtain ⟨⟨h1, h2⟩, h3⟩ := hc
    simp only [takes, Bool.false_eq_true, if_false] at ht
    obtain ⟨γ', w', hS', hγ, hr⟩ := op1_sound (P := P) (ρ := a.eval) (o := o) h.sat (fun x sv hx => h.ev hx) hop h1 (fun hlt => ⟨fun x sv hx => ev_bnd (h3 hlt).1 hx, (h3 hlt).2⟩)
    have hhp : (S.put ⟨s.fr, hp'⟩ o.dst v).hp = hp' := by cases o.dst <;> rfl
    rw [hhp] at ht
    have hg : ∀ t sv, Fr.get s.fr t = some sv → sv.val γ' = sv.val γ := by
      intro t sv ht
      rcases hγ with rfl | ⟨hlt, nm, rfl⟩
      · rfl
      · exact Sv.ext (by rw [h.sat.len]; exact (h3 hlt).1 _ (Fr.get_mem ht))
    have hback : ∀ x, Sat w0 ow γ' hp' x → Sat w0 ow γ s.hp x := by
      intro x hx
      rcases hγ with rfl | ⟨hlt, nm, rfl⟩
      · have hl1 := h.sat.len
        have hl2 := hS'.len
        have : hp' = s.hp := by rw [← ht, List.take_of_length_le (by omega)]
        rw [← this]; exact hx
      · rw [← List.take_append_drop s.hp.length hp', ht] at hx
        exact hx.front h.sat.len (h3 hlt).2
    have hfin : ∀ x, x = v.val γ' → W (fun x => Sat w0 ow γ' hp' x) (a.put o.dst x) w' := fun x hx => by
      have := hK γ' _ w' (h.put hS' hg h2 hx)
      rw [hhp] at this
      exact this
    unfold Oper.wp
    rcases hr with hr | ⟨hr, hv⟩
    · rw [hr]
      exact ⟨_, hS', hback, hfin _ rfl⟩
    · rw [hr]
      subst hv
      exact ⟨_, hS', hback, hfin _ rfl⟩
  · cases hs
theorem stepP_wr {ops : List Oper} {i : Nat} {p : Pl} {s : S} {K : S → Prop} {γ : List Nm} {a : Act} {w : World} (ih : ∀ s γ a w, symP P w0 ow n ops K p s → FitsAt w0 ow n γ s a w → wpPl P ops.toArray (fun a' w' => ∃ s', Fits w0 ow n s' a' w' ∧ K s') p (fun x => Sat w0 ow γ s.hp x) a w)
    (h : stepP P w0 ow n ops false i (symP P w0 ow n ops K p) (fun o => CallP P w0 ow n ops o p s K) s) (hf : FitsAt w0 ow n γ s a w) :
    wrStep P ops.toArray i (wpPl P ops.toArray (fun a' w' => ∃ s', Fits w0 ow n s' a' w' ∧ K s') p) (fun x => Sat w0 ow γ s.hp x) a w := by
  unfold stepP at h
  unfold wrStep
  simp only [List.getElem?_toArray]
  split at h
  · exact h.elim
  · rename_i o hi
    try simp only [hi]
    split at h
    · split at h
      · rename_i hg
        rw [if_pos (by simp [Region.wanted, hg])]
        exact h.2 γ a w hf
      · rename_i j b hg
        split at h
        · rename_i c hy
          have hyy := yield_of hf hy
          split at h
          · rename_i hcb
            subst hcb
            rw [if_pos (by simp [Region.wanted, hg, hyy])]
            exact h.2 γ a w hf
          · rename_i hcb
            rw [if_neg (by simp [Region.wanted, hg, hyy, hcb])]
            have := ih _ γ _ _ h.2 (hf.put hf.sat (fun _ _ _ => rfl) h.1 rfl)
            have hhp : (S.put ⟨s.fr, s.hp⟩ o.dst nil1).hp = s.hp := by cases o.dst <;> rfl
            rw [hhp] at this
            exact this
        · exact h.elim
    · split at h
      · rename_i hg
        split at h
        · rename_i c s' hs
          rw [if_pos (by simp [Region.wanted, hg])]
          exact stepO_wr hf hs h.1 h.2.1 fun γ' a' w' hf' => ih s' γ' a' w' h.2.2 hf'
        · exact h.elim
      · rename_i j b hg
        split at h
        · rename_i c hy
          have hyy := yield_of hf hy
          split at h
          · rename_i hcb
            subst hcb
            split at h
            · rename_i c' s' hs
              rw [if_pos (by simp [Region.wanted, hg, hyy])]
              exact stepO_wr hf hs h.1 h.2.1 fun γ' a' w' hf' => ih s' γ' a' w' h.2.2 hf'
            · exact h.elim
          · rename_i hcb
            rw [if_neg (by simp [Region.wanted, hg, hyy, hcb])]
            have := ih _ γ _ _ h.2 (hf.put hf.sat (fun _ _ _ => rfl) h.1 rfl)
            have hhp : (S.put ⟨s.fr, s.hp⟩ o.dst nil1).hp = s.hp := by cases o.dst <;> rfl
            rw [hhp] at this
            exact this
        · exact h.elim
theorem symP_sound {ops : List Oper} {K : S → Prop} : ∀ (p : Pl) (s : S) (γ : List Nm) (a : Act) (w : World), symP P w0 ow n ops K p s → FitsAt w0 ow n γ s a w →
    wpPl P ops.toArray (fun a' w' => ∃ s', Fits w0 ow n s' a' w' ∧ K s') p (fun x => Sat w0 ow γ s.hp x) a w
  | .nil, s, γ, a, w, h, hf => ⟨s, ⟨γ, hf⟩, h⟩
  | .wr i p, s, γ, a, w, h, hf => stepP_wr (symP_sound p) h hf
  | .fk i p j q, s, γ, a, w, h, hf => ⟨stepP_wr (symP_sound p) h.1 hf, stepP_wr (symP_sound q) h.2 hf⟩
  | .rd i p, s, γ, a, w, h, hf => by
    rw [symP_rd] at h
    unfold stepP at h
    simp only [wpPl, List.getElem?_toArray]
    have one : ∀ (o : Oper) (c : Prop) (s' : S), stepO P w0 ow n o s = some (c, s') → c → takes true o.op s s' → symP P w0 ow n ops K p s' → ∃ v, (∀ x, Sat w0 ow γ s.hp x → readAt P o a x v) ∧ wpPl P ops.toArray (fun a' w' => ∃ s', Fits w0 ow n s' a' w' ∧ K s') p (fun x => Sat w0 ow γ s.hp x) (a.put o.dst v) w := by
      intro o c s' hs hc ht hsy
      unfold stepO at hs
      split at hs
      · rename_i d v hp' hop
        simp only [Option.some.injEq, Prod.mk.injEq] at hs
        obtain ⟨rfl, rfl⟩ := hs
        obtain ⟨⟨h1, h2⟩, h3⟩ := hc
        simp only [takes, if_true] at ht
        obtain ⟨rfl, _⟩ := op1_read (P := P) (ρ := a.eval) (o := o) ht hf.sat (fun x sv hx => hf.ev hx) hop h1
        have hhp : (S.put ⟨s.fr, s.hp⟩ o.dst v).hp = s.hp := by cases o.dst <;> rfl
        refine ⟨v.val γ, fun x hx => ?_, ?_⟩
        · obtain ⟨_, hr⟩ := op1_read (P := P) (w := x) (ρ := a.eval) (o := o) ht hx (fun x sv hx => hf.ev hx) hop h1
          unfold readAt
          rw [hr]
          exact ⟨rfl, rfl⟩
        · have := symP_sound p _ γ _ w hsy (hf.put hf.sat (fun _ _ _ => rfl) h2 rfl)
          rw [hhp] at this
          exact this
      · cases hs
    split at h
    · exact h.elim
    · rename_i o hi
      try simp only [hi]
      split at h
      · split at h
        · cases h.1
        · rename_i j b hg
          split at h
          · rename_i c hy
            have hyy := yield_of hf hy
            split at h
            · cases h.1
            · rename_i hcb
              rw [if_neg (by simp [Region.wanted, hg, hyy, hcb])]
              have := symP_sound p _ γ _ w h.2 (hf.put hf.sat (fun _ _ _ => rfl) h.1 rfl)
              have hhp : (S.put ⟨s.fr, s.hp⟩ o.dst nil1).hp = s.hp := by cases o.dst <;> rfl
              rw [hhp] at this
              exact this
          · exact h.elim
      · split at h
        · rename_i hg
          split at h
          · rename_i c s' hs
            rw [if_pos (by simp [Region.wanted, hg])]
            exact one o c s' hs h.1 h.2.1 h.2.2
          · exact h.elim
        · rename_i j b hg
          split at h
          · rename_i c hy
            have hyy := yield_of hf hy
            split at h
            · rename_i hcb
              subst hcb
              split at h
              · rename_i c' s' hs
                rw [if_pos (by simp [Region.wanted, hg, hyy])]
                exact one o c' s' hs h.1 h.2.1 h.2.2
              · exact h.elim
            · rename_i hcb
              rw [if_neg (by simp [Region.wanted, hg, hyy, hcb])]
              have := symP_sound p _ γ _ w h.2 (hf.put hf.sat (fun _ _ _ => rfl) h.1 rfl)
              have hhp : (S.put ⟨s.fr, s.hp⟩ o.dst nil1).hp = s.hp := by cases o.dst <;> rfl
              rw [hhp] at this
              exact this
          · exact h.elim
theorem callP_rule {ops : List Oper} {o : Oper} {p : Pl} {f : FuncId} {xs : List Operand} {tys : Array TypeId} {s : S} {svs : List Sv} {K : S → Prop} (ho : o.op = .call { callee := .value (.func f), args := xs.toArray, argTypes := tys })
    (hcb : Callable P f) (hev : evs s.fr xs = some svs) {sv : Sv} {hp' : List Res} (hc : CallOK P w0 ow f svs s.hp sv hp') (hd : dOk n o.dst) (hb : s.hp.length < hp'.length → s.bnd) (he : hp'.take s.hp.length = s.hp)
    (h : symP P w0 ow n ops K p (S.put ⟨s.fr, hp'⟩ o.dst sv)) : CallP P w0 ow n ops o p s K := by
  intro γ a w hf
  refine call_wp hf ho hcb hev hc hd hb fun δ a' w' hf' => ?_
  have hhp : (S.put ⟨s.fr, hp'⟩ o.dst sv).hp = hp' := by cases o.dst <;> rfl
  have hsat := hf'.sat
  rw [hhp] at hsat
  have h2 := symP_sound p _ _ _ _ h hf'
  rw [hhp] at h2
  refine ⟨_, hsat, fun x hx => ?_, h2⟩
  have hl := hf.sat.len
  have hl' := hsat.len
  rw [List.length_append] at hl'
  rw [← List.take_append_drop s.hp.length hp', he] at hx
  cases δ with
  | nil =>
    have : hp'.drop s.hp.length = [] := by rw [List.drop_eq_nil_iff]; simp at hl'; omega
    rw [this, List.append_nil, List.append_nil] at hx
    exact hx
  | cons m r => exact hx.front hl (hb (by simp at hl'; omega)).2
theorem callP_v {ops : List Oper} {o : Oper} {p : Pl} {f : FuncId} {xs : List Operand} {tys : Array TypeId} {s : S} {svs : List Sv} {K : S → Prop} {sv : Sv} (ho : o.op = .call { callee := .value (.func f), args := xs.toArray, argTypes := tys }) (hcb : Callable P f) (hev : evs s.fr xs = some svs) (hc : CallOK P w0 ow f svs s.hp sv s.hp) (hd : dOk n o.dst)
    (h : symP P w0 ow n ops K p (S.put ⟨s.fr, s.hp⟩ o.dst sv)) : CallP P w0 ow n ops o p s K := callP_rule ho hcb hev hc hd (fun h => absurd h (Nat.lt_irrefl _)) (List.take_length) h
theorem callP_x {ops : List Oper} {o : Oper} {p : Pl} {f : FuncId} {xs : List Operand} {tys : Array TypeId} {s : S} {svs : List Sv} {K : S → Prop} {sv : Sv} {r : Res} (ho : o.op = .call { callee := .value (.func f), args := xs.toArray, argTypes := tys }) (hcb : Callable P f) (hev : evs s.fr xs = some svs) (hc : CallOK P w0 ow f svs s.hp sv (s.hp ++ [r])) (hd : dOk n o.dst) (hb : s.bnd)
    (h : symP P w0 ow n ops K p (S.put ⟨s.fr, s.hp ++ [r]⟩ o.dst sv)) : CallP P w0 ow n ops o p s K := callP_rule ho hcb hev hc hd (fun _ => hb) (List.take_left' rfl) h
theorem leads_le {s s' : S} (ρ : List Nat) (h : Le ρ s s') : Leads w0 ow n s s' := fun _ _ hf => h.fits hf
/-- A region that draws its order, with forks; all orders meet in s1. -/
theorem drawP_rule {id : Nat} {ops : List Oper} {s : S} {K : Exit → S → Prop} (p : Pl) (s1 : S) (hm : P.follows .mixedOrders = true) (hs : Region.noSelect ops.toArray = true) (hB : plB .any ops.toArray ops.length p (Array.replicate ops.length false) = true)
    (h : symP P w0 ow n ops (fun s' => Leads w0 ow n s' s1) p s) (hk : K .normal s1) : DrawG P w0 ow n id ops s K := by
  rintro a w ⟨γ, hf⟩
  refine wp_region_pl p hm hs hB (fun x => Sat w0 ow γ s.hp x) fun w2 hd => ?_
  have hf2 := Fits.drawn hf hd.out
  refine ⟨hf2.sat, ?_⟩
  have := symP_sound p s γ a w2 h hf2
  have mono : ∀ (p : Pl) (C : World → Prop) (a : Act) (w : World), wpPl P ops.toArray (fun a' w' => ∃ s', Fits w0 ow n s' a' w' ∧ Leads w0 ow n s' s1) p C a w → wpPl P ops.toArray (fun a' w' => den w0 ow n K .normal a' w') p C a w := by
    intro p
    have wr : ∀ (i : Nat) (W W' : (World → Prop) → Act → World → Prop), (∀ C a w, W C a w → W' C a w) → ∀ C a w, wrStep P ops.toArray i W C a w → wrStep P ops.toArray i W' C a w := by
      intro i W W' hW C a w h
      unfold wrStep at h ⊢
      split
      · rename_i ho; simp only [ho] at h
      · rename_i o ho
        simp only [ho] at h
        split
        · rename_i hw; simp only [hw, if_true] at h; exact wp_mono2 (fun a w ⟨C2, h1, h2, h3⟩ => ⟨C2, h1, h2, hW _ _ _ h3⟩) h
        · rename_i hw; simp only [hw] at h; exact hW _ _ _ h
    induction p with
    | nil => exact fun C a w ⟨s', h1, h2⟩ => ⟨s1, h2 _ _ h1, hk⟩
    | rd i p ih =>
      intro C a w h
      unfold wpPl at h ⊢
      split
      · rename_i ho; simp only [ho] at h
      · rename_i o ho
        simp only [ho] at h
        split
        · rename_i hw; simp only [hw, if_true] at h; obtain ⟨v, h1, h2⟩ := h; exact ⟨v, h1, ih _ _ _ h2⟩
        · rename_i hw; simp only [hw] at h; exact ih _ _ _ h
    | wr i p ih => exact fun C a w h => wr i _ _ ih C a w h
    | fk i p j q ih1 ih2 => exact fun C a w h => ⟨wr i _ _ ih1 C a w h.1, wr j _ _ ih2 C a w h.2⟩
  exact mono p _ _ _ this
end
end Go.Proofs.YtkchdhkpjnnliaaDoor
