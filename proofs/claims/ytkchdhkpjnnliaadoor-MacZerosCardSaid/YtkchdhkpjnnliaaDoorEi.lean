/- The engine: regions that draw their order and use up what they made: what is used up is hidden from the readers from the start. No program in sight. -/
import Derived.Test.YtkchdhkpjnnliaaDoorEh
namespace Go.Proofs.YtkchdhkpjnnliaaDoor
open Go.RowKit
set_option linter.unusedSimpArgs false
def maskR : List Nat → List Res → List Res
  | [], hp => hp
  | k :: G, hp => (maskR G hp).set k .gone
theorem maskR_nil {hp : List Res} : maskR [] hp = hp := rfl
theorem maskR_cons {k : Nat} {G : List Nat} {hp : List Res} : maskR (k :: G) hp = (maskR G hp).set k .gone := rfl
theorem maskR_length {G : List Nat} {hp : List Res} : (maskR G hp).length = hp.length := by
  induction G with
  | nil => rfl
  | cons k G ih => rw [maskR_cons, List.length_set, ih]
theorem maskR_bnd {G : List Nat} {hp : List Res} {m : Nat} (h : ∀ r ∈ hp, Res.bnd m r) : ∀ r ∈ maskR G hp, Res.bnd m r := by
  induction G with
  | nil => exact h
  | cons k G ih =>
    intro r hr
    rcases List.mem_or_eq_of_mem_set hr with hr | rfl
    · exact ih r hr
    · trivial
section
variable {P : Program} {w0 : World} {ow : Nat → Prop} {n : Nat}
theorem Sat.mask {γ : List Nm} {hp : List Res} {w : World} (G : List Nat) (h : Sat w0 ow γ hp w) : Sat w0 ow γ (maskR G hp) w := by
  induction G with
  | nil => exact h
  | cons k G ih => exact ih.drop k
def wantS (ops : List Oper) (fr : Fr) (o : Oper) : Option Bool := match o.guard with
  | none => some true
  | some (j, b) => match yieldS ops fr j with
    | some c => if c = b then some true else some false
    | none => none
theorem wantS_spec {ops : List Oper} {o : Oper} {b : Bool} {s : S} {γ : List Nm} {a : Act} {w : World} (h : FitsAt w0 ow n γ s a w) (hw : wantS ops s.fr o = some b) : Region.wanted o (yielded ops.toArray a.tmps) = b := by
  unfold wantS at hw
  split at hw
  · rename_i hg
    cases hw
    simp [Region.wanted, hg]
  · rename_i j c hg
    split at hw
    · rename_i d hy
      have hyy := yield_of h hy
      split at hw
      · rename_i hcb
        cases hw
        subst hcb
        simp [Region.wanted, hg, hyy]
      · rename_i hcb
        cases hw
        simp [Region.wanted, hg, hyy, hcb]
    · cases hw
def CallK (P : Program) (w0 : World) (ow : Nat → Prop) (n : Nat) (G : List Nat) (ops : List Oper) (o : Oper) (p : List (Nat × Bool)) (s : S) (K : S → Prop) : Prop :=
  ∀ γ a w, FitsAt w0 ow n γ s a w → o.wp P a w (fun a' w' => ∃ C2 : World → Prop, C2 w' ∧ (∀ x, C2 x → Sat w0 ow γ (maskR G s.hp) x) ∧ wpMix P ops.toArray (fun a' w' => ∃ s', Fits w0 ow n s' a' w' ∧ K s') p C2 a' w') NoQ
def stepRd (P : Program) (w0 : World) (ow : Nat → Prop) (n : Nat) (G : List Nat) (o : Oper) (s : S) : Option (Prop × S) :=
  match op1 P w0 ow (Fr.ev s.fr) (maskR G s.hp) o.op with
  | some (c, v, _) => some (c ∧ dOk n o.dst, S.put ⟨s.fr, s.hp⟩ o.dst v)
  | none => none
def symK (P : Program) (w0 : World) (ow : Nat → Prop) (n : Nat) (G : List Nat) (ops : List Oper) : List (Nat × Bool) → S → (S → Prop) → Prop
  | [], s, K => K s
  | (i, rd) :: p, s, K => match ops[i]? with
    | none => False
    | some o => match wantS ops s.fr o with
      | none => False
      | some false => dOk n o.dst ∧ symK P w0 ow n G ops p (s.put o.dst nil1) K
      | some true =>
        if isCall o.op = true then rd = false ∧ CallK P w0 ow n G ops o p s K
        else if rd = true then isRead o.op = true ∧ (match stepRd P w0 ow n G o s with
          | some (c, s') => c ∧ symK P w0 ow n G ops p s' K
          | none => False)
        else match stepO P w0 ow n o s with
          | some (c, s') => c ∧ (maskR G s'.hp).take s.hp.length = maskR G s.hp ∧ symK P w0 ow n G ops p s' K
          | none => False
theorem symK_nil {G : List Nat} {ops : List Oper} {s : S} {K : S → Prop} : symK P w0 ow n G ops [] s K = K s := rfl
theorem symK_cons {G : List Nat} {ops : List Oper} {i : Nat} {rd : Bool} {p : List (Nat × Bool)} {s : S} {K : S → Prop} : symK P w0 ow n G ops ((i, rd) :: p) s K = (match ops[i]? with
    | none => False
    | some o => match wantS ops s.fr o with
      | none => False
      | some false => dOk n o.dst ∧ symK P w0 ow n G ops p (s.put o.dst nil1) K
      | some true =>
        if isCall o.op = true then rd = false ∧ CallK P w0 ow n G ops o p s K
        else if rd = true then isRead o.op = true ∧ (match stepRd P w0 ow n G o s with
          | some (c, s') => c ∧ symK P w0 ow n G ops p s' K
          | none => False)
        else match stepO P w0 ow n o s with
          | some (c, s') => c ∧ (maskR G s'.hp).take s.hp.length = maskR G s.hp ∧ symK P w0 ow n G ops p s' K
          | none => False) := rfl
theorem stepO_wrK {o : Oper} {c : Prop} {s s' : S} {γ : List Nm} {a : Act} {w : World} {W : (World → Prop) → Act → World → Prop} (G : List Nat) (h : FitsAt w0 ow n γ s a w) (hs : stepO P w0 ow n o s = some (c, s')) (hc : c) (ht : (maskR G s'.hp).take s.hp.length = maskR G s.hp)
    (hK : ∀ γ' a' w', FitsAt w0 ow n γ' s' a' w' → W (fun x => Sat w0 ow γ' (maskR G s'.hp) x) a' w') : o.wp P a w (fun a' w' => ∃ C2 : World → Prop, C2 w' ∧ (∀ x, C2 x → Sat w0 ow γ (maskR G s.hp) x) ∧ W C2 a' w') NoQ := by
  unfold stepO at hs
  split at hs
  · rename_i d v hp' hop
    simp only [Option.some.injEq, Prod.mk.injEq] at hs
    obtain ⟨rfl, rfl⟩ := hs
    obtain ⟨⟨h1, h2⟩, h3⟩ := hc
    obtain ⟨γ', w', hS', hγ, hr⟩ := op1_sound (P := P) (ρ := a.eval) (o := o) h.sat (fun x sv hx => h.ev hx) hop h1 (fun hlt => ⟨fun x sv hx => ev_bnd (h3 hlt).1 hx, (h3 hlt).2⟩)
    have hhp : (S.put ⟨s.fr, hp'⟩ o.dst v).hp = hp' := by cases o.dst <;> rfl
    rw [hhp] at ht
    have hg : ∀ t sv, Fr.get s.fr t = some sv → sv.val γ' = sv.val γ := by
      intro t sv ht
      rcases hγ with rfl | ⟨hlt, nm, rfl⟩
      · rfl
      · exact Sv.ext (by rw [h.sat.len]; exact (h3 hlt).1 _ (Fr.get_mem ht))
    have hback : ∀ x, Sat w0 ow γ' (maskR G hp') x → Sat w0 ow γ (maskR G s.hp) x := by
      intro x hx
      rcases hγ with rfl | ⟨hlt, nm, rfl⟩
      · have hl1 := h.sat.len
        have hl2 := hS'.len
        have : maskR G hp' = maskR G s.hp := by rw [← ht, List.take_of_length_le (by rw [maskR_length]; omega)]
        rw [← this]; exact hx
      · rw [← List.take_append_drop s.hp.length (maskR G hp'), ht] at hx
        exact hx.front (by rw [maskR_length]; exact h.sat.len) (by rw [maskR_length]; exact maskR_bnd (h3 hlt).2)
    have hfin : ∀ x, x = v.val γ' → W (fun x => Sat w0 ow γ' (maskR G hp') x) (a.put o.dst x) w' := fun x hx => by
      have := hK γ' _ w' (h.put hS' hg h2 hx)
      rw [hhp] at this
      exact this
    unfold Oper.wp
    rcases hr with hr | ⟨hr, hv⟩
    · rw [hr]
      exact ⟨_, hS'.mask G, hback, hfin _ rfl⟩
    · rw [hr]
      subst hv
      exact ⟨_, hS'.mask G, hback, hfin _ rfl⟩
  · cases hs
theorem symK_sound {G : List Nat} {ops : List Oper} {K : S → Prop} : ∀ (p : List (Nat × Bool)) (s : S) (γ : List Nm) (a : Act) (w : World), symK P w0 ow n G ops p s K → FitsAt w0 ow n γ s a w →
    wpMix P ops.toArray (fun a' w' => ∃ s', Fits w0 ow n s' a' w' ∧ K s') p (fun x => Sat w0 ow γ (maskR G s.hp) x) a w
  | [], s, γ, a, w, h, hf => ⟨s, ⟨γ, hf⟩, h⟩
  | (i, rd) :: p, s, γ, a, w, h, hf => by
    unfold symK at h
    split at h
    · exact h.elim
    · rename_i o hi
      split at h
      · exact h.elim
      · rename_i hw
        have hww := wantS_spec hf hw
        simp only [wpMix, List.getElem?_toArray, hi]
        rw [if_neg (by rw [hww]; decide)]
        have := symK_sound p _ γ _ _ h.2 (hf.put hf.sat (fun _ _ _ => rfl) h.1 rfl)
        have hhp : (S.put ⟨s.fr, s.hp⟩ o.dst nil1).hp = s.hp := by cases o.dst <;> rfl
        rw [hhp] at this
        exact this
      · rename_i hw
        have hww := wantS_spec hf hw
        simp only [wpMix, List.getElem?_toArray, hi]
        rw [if_pos hww]
        split at h
        · obtain ⟨rfl, hm⟩ := h
          simpa using hm γ a w hf
        · split at h
          · rename_i hrd
            subst hrd
            obtain ⟨hir, h⟩ := h
            split at h
            · rename_i c s' hs
              unfold stepRd at hs
              split at hs
              · rename_i d v hp' hop
                simp only [Option.some.injEq, Prod.mk.injEq] at hs
                obtain ⟨rfl, rfl⟩ := hs
                obtain ⟨⟨h1, h2⟩, h3⟩ := h
                simp only [if_true]
                refine ⟨v.val γ, fun x hx => ?_, ?_⟩
                · obtain ⟨_, hr⟩ := op1_read (P := P) (w := x) (ρ := a.eval) (o := o) hir hx (fun x sv hx => hf.ev hx) hop h1
                  unfold readAt
                  rw [hr]
                  exact ⟨rfl, rfl⟩
                · have := symK_sound p _ γ _ w h3 (hf.put hf.sat (fun _ _ _ => rfl) h2 rfl)
                  have hhp : (S.put ⟨s.fr, s.hp⟩ o.dst v).hp = s.hp := by cases o.dst <;> rfl
                  rw [hhp] at this
                  exact this
              · cases hs
            · exact h.elim
          · rename_i hrd
            split at h
            · rename_i c s' hs
              rw [if_neg hrd]
              exact stepO_wrK G hf hs h.1 h.2.1 fun γ' a' w' hf' => symK_sound p s' γ' a' w' h.2.2 hf'
            · exact h.elim
theorem callK_rule {G : List Nat} {ops : List Oper} {o : Oper} {p : List (Nat × Bool)} {f : FuncId} {xs : List Operand} {tys : Array TypeId} {s : S} {svs : List Sv} {K : S → Prop} (ho : o.op = .call { callee := .value (.func f), args := xs.toArray, argTypes := tys })
    (hcb : Callable P f) (hev : evs s.fr xs = some svs) {sv : Sv} {hp' : List Res} (hc : CallOK P w0 ow f svs s.hp sv hp') (hd : dOk n o.dst) (hb : s.hp.length < hp'.length → s.bnd) (he : (maskR G hp').take s.hp.length = maskR G s.hp)
    (h : symK P w0 ow n G ops p (S.put ⟨s.fr, hp'⟩ o.dst sv) K) : CallK P w0 ow n G ops o p s K := by
  intro γ a w hf
  refine call_wp hf ho hcb hev hc hd hb fun δ a' w' hf' => ?_
  have hhp : (S.put ⟨s.fr, hp'⟩ o.dst sv).hp = hp' := by cases o.dst <;> rfl
  have hsat := hf'.sat
  rw [hhp] at hsat
  have h2 := symK_sound p _ _ _ _ h hf'
  rw [hhp] at h2
  refine ⟨_, hsat.mask G, fun x hx => ?_, h2⟩
  have hl := hf.sat.len
  have hl' := hsat.len
  rw [List.length_append] at hl'
  rw [← List.take_append_drop s.hp.length (maskR G hp'), he] at hx
  cases δ with
  | nil =>
    have : (maskR G hp').drop s.hp.length = [] := by rw [List.drop_eq_nil_iff, maskR_length]; simp at hl'; omega
    rw [this, List.append_nil, List.append_nil] at hx
    exact hx
  | cons m r => exact hx.front (by rw [maskR_length]; exact hl) (by rw [maskR_length]; exact maskR_bnd (hb (by simp at hl'; omega)).2)
theorem callK_v {G : List Nat} {ops : List Oper} {o : Oper} {p : List (Nat × Bool)} {f : FuncId} {xs : List Operand} {tys : Array TypeId} {s : S} {svs : List Sv} {K : S → Prop} {sv : Sv} (ho : o.op = .call { callee := .value (.func f), args := xs.toArray, argTypes := tys })
    (hcb : Callable P f) (hev : evs s.fr xs = some svs) (hc : CallOK P w0 ow f svs s.hp sv s.hp) (hd : dOk n o.dst) (h : symK P w0 ow n G ops p (S.put ⟨s.fr, s.hp⟩ o.dst sv) K) : CallK P w0 ow n G ops o p s K :=
  callK_rule ho hcb hev hc hd (fun h => absurd h (Nat.lt_irrefl _)) (by rw [List.take_of_length_le (by rw [maskR_length]; omega)]) h
/-- A region that draws its order, and uses up what G names. -/
theorem drawK_rule {id : Nat} {ops : List Oper} {s : S} {K : Exit → S → Prop} (G : List Nat) (p : List (Nat × Bool)) (hm : P.follows .mixedOrders = true) (hs : Region.noSelect ops.toArray = true) (hp : p.length = ops.length) (hB : mixB .any ops.toArray p (Array.replicate ops.length false) = true)
    (h : symK P w0 ow n G ops p s (K .normal)) : DrawG P w0 ow n id ops s K := by
  rintro a w ⟨γ, hf⟩
  refine wp_region_mix p hm hs hp hB (fun x => Sat w0 ow γ (maskR G s.hp) x) fun w2 hd => ?_
  have hf2 := Fits.drawn hf hd.out
  exact ⟨hf2.sat.mask G, symK_sound p s γ a w2 h hf2⟩
end
end Go.Proofs.YtkchdhkpjnnliaaDoor
