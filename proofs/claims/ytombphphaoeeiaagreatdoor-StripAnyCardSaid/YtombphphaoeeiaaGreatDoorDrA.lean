import Derived.Test.YtombphphaoeeiaaGreatDoorShA
/- A region that draws its order, in which what reads looks at nothing that is turned in it (only at the first m resources, but for those in G): writers may turn the others as they like, in forks. No program in sight. -/
namespace Go.Proofs.YtombphphaoeeiaaGreatDoor
open Go.RowKit
set_option linter.unusedSimpArgs false
def gones (m : Nat) : List Res := List.replicate m .gone
def visR (m : Nat) (G : List Nat) (hp : List Res) : List Res := (maskR G hp).take m ++ gones (hp.length - m)
theorem take_none (l : List Res) : l.take 0 = [] := List.take_zero
theorem take_next (k : Nat) (r : Res) (l : List Res) : (r :: l).take (k + 1) = r :: l.take k := rfl
theorem visR_length (m : Nat) (G : List Nat) (hp : List Res) (h : m ≤ hp.length) : (visR m G hp).length = hp.length := by
  unfold visR gones
  rw [List.length_append, List.length_take, maskR_length, List.length_replicate]
  omega
theorem visR_bnd {m : Nat} {G : List Nat} {hp : List Res} {q : Nat} (h : ∀ r ∈ hp, Res.bnd q r) : ∀ r ∈ visR m G hp, Res.bnd q r := by
  intro r hr
  rcases List.mem_append.1 hr with hr | hr
  · exact maskR_bnd h r (List.mem_of_mem_take hr)
  · rw [List.eq_of_mem_replicate hr]; trivial
section
variable {P : Program} {w0 : World} {ow : Nat → Prop} {n : Nat} {m : Nat} {G : List Nat}
theorem visR_get {hp : List Res} {k : Nat} {r : Res} (h : (visR m G hp)[k]? = some r) : r = .gone ∨ (maskR G hp)[k]? = some r := by
  unfold visR gones at h
  rw [List.getElem?_append] at h
  split at h
  · right
    rw [List.getElem?_take] at h
    split at h
    · exact h
    · cases h
  · left
    rw [List.getElem?_replicate] at h
    split at h
    · exact (Option.some.inj h).symm
    · cases h
theorem Sat.vis {γ : List Nm} {hp : List Res} {w : World} (h : Sat w0 ow γ hp w) (hm : m ≤ hp.length) : Sat w0 ow γ (visR m G hp) w := by
  have h := h.mask G
  refine ⟨h.keeps, by rw [visR_length m G hp hm]; simpa only [maskR_length] using h.len, fun k r hr => ?_, fun k r b hr hb => ?_, fun j k r r' b hr hr' hjk hb hb' => ?_⟩
  · rcases visR_get hr with rfl | hr
    · trivial
    · exact h.holds k r hr
  · rcases visR_get hr with rfl | hr
    · exact hb.elim
    · exact h.mine k r b hr hb
  · rcases visR_get hr with rfl | hr
    · exact hb.elim
    · rcases visR_get hr' with rfl | hr'
      · exact hb'.elim
      · exact h.apart j k r r' b hr hr' hjk hb hb'
def CallQ (P : Program) (w0 : World) (ow : Nat → Prop) (n m : Nat) (G : List Nat) (ops : List Oper) (o : Oper) (p : Pl) (s : S) (K : S → Prop) : Prop :=
  ∀ γ a w, FitsAt w0 ow n γ s a w → m ≤ s.hp.length → o.wp P a w (fun a' w' => ∃ C2 : World → Prop, C2 w' ∧ (∀ x, C2 x → Sat w0 ow γ (visR m G s.hp) x) ∧ wpPl P ops.toArray (fun a' w' => ∃ s', Fits w0 ow n s' a' w' ∧ K s') p C2 a' w') NoQ
def stepQ (P : Program) (w0 : World) (ow : Nat → Prop) (n m : Nat) (G : List Nat) (ops : List Oper) (rd : Bool) (i : Nat) (K : S → Prop) (call : Oper → Prop) (s : S) : Prop :=
  match ops[i]? with
  | none => False
  | some o => match wantS ops s.fr o with
    | none => False
    | some false => dOk n o.dst ∧ K (s.put o.dst nil1)
    | some true => if isCall o.op = true then rd = false ∧ call o
      else if rd = true then (if isRead o.op = true then (match op1 P w0 ow (Fr.ev s.fr) (visR m G s.hp) o.op with
        | some (c, v, hp') => ((c ∧ hp' = visR m G s.hp) ∧ dOk n o.dst) ∧ K (S.put ⟨s.fr, s.hp⟩ o.dst v)
        | none => False) else False)
      else match stepO P w0 ow n o s with
        | some (c, s') => c ∧ (maskR G s'.hp).take m = (maskR G s.hp).take m ∧ K s'
        | none => False
def symQ (P : Program) (w0 : World) (ow : Nat → Prop) (n m : Nat) (G : List Nat) (ops : List Oper) (K : S → Prop) : Pl → S → Prop
  | .nil, s => K s
  | .rd i p, s => stepQ P w0 ow n m G ops true i (symQ P w0 ow n m G ops K p) (fun o => CallQ P w0 ow n m G ops o p s K) s
  | .wr i p, s => stepQ P w0 ow n m G ops false i (symQ P w0 ow n m G ops K p) (fun o => CallQ P w0 ow n m G ops o p s K) s
  | .fk i p j q, s => stepQ P w0 ow n m G ops false i (symQ P w0 ow n m G ops K p) (fun o => CallQ P w0 ow n m G ops o p s K) s ∧ stepQ P w0 ow n m G ops false j (symQ P w0 ow n m G ops K q) (fun o => CallQ P w0 ow n m G ops o q s K) s
  | .f3 i p j q k r, s => stepQ P w0 ow n m G ops false i (symQ P w0 ow n m G ops K p) (fun o => CallQ P w0 ow n m G ops o p s K) s ∧ stepQ P w0 ow n m G ops false j (symQ P w0 ow n m G ops K q) (fun o => CallQ P w0 ow n m G ops o q s K) s ∧ stepQ P w0 ow n m G ops false k (symQ P w0 ow n m G ops K r) (fun o => CallQ P w0 ow n m G ops o r s K) s
theorem symQ_nil {ops : List Oper} {s : S} {K : S → Prop} : symQ P w0 ow n m G ops K .nil s = K s := Eq.trans rfl rfl
theorem symQ_rd {ops : List Oper} {i : Nat} {p : Pl} {s : S} {K : S → Prop} : symQ P w0 ow n m G ops K (.rd i p) s = stepQ P w0 ow n m G ops true i (symQ P w0 ow n m G ops K p) (fun o => CallQ P w0 ow n m G ops o p s K) s := Eq.trans rfl rfl
theorem symQ_wr {ops : List Oper} {i : Nat} {p : Pl} {s : S} {K : S → Prop} : symQ P w0 ow n m G ops K (.wr i p) s = stepQ P w0 ow n m G ops false i (symQ P w0 ow n m G ops K p) (fun o => CallQ P w0 ow n m G ops o p s K) s := Eq.trans rfl rfl
theorem symQ_fk {ops : List Oper} {i j : Nat} {p q : Pl} {s : S} {K : S → Prop} : symQ P w0 ow n m G ops K (.fk i p j q) s = (stepQ P w0 ow n m G ops false i (symQ P w0 ow n m G ops K p) (fun o => CallQ P w0 ow n m G ops o p s K) s ∧ stepQ P w0 ow n m G ops false j (symQ P w0 ow n m G ops K q) (fun o => CallQ P w0 ow n m G ops o q s K) s) := Eq.trans rfl rfl
theorem symQ_f3 {ops : List Oper} {i j k : Nat} {p q r : Pl} {s : S} {K : S → Prop} : symQ P w0 ow n m G ops K (.f3 i p j q k r) s = (stepQ P w0 ow n m G ops false i (symQ P w0 ow n m G ops K p) (fun o => CallQ P w0 ow n m G ops o p s K) s ∧ stepQ P w0 ow n m G ops false j (symQ P w0 ow n m G ops K q) (fun o => CallQ P w0 ow n m G ops o q s K) s ∧ stepQ P w0 ow n m G ops false k (symQ P w0 ow n m G ops K r) (fun o => CallQ P w0 ow n m G ops o r s K) s) := Eq.trans rfl rfl
theorem stepO_wrQ {o : Oper} {c : Prop} {s s' : S} {γ : List Nm} {a : Act} {w : World} {W : (World → Prop) → Act → World → Prop} (h : FitsAt w0 ow n γ s a w) (hm : m ≤ s.hp.length) (hs : stepO P w0 ow n o s = some (c, s')) (hc : c) (ht : (maskR G s'.hp).take m = (maskR G s.hp).take m)
    (hK : ∀ γ' a' w', FitsAt w0 ow n γ' s' a' w' → m ≤ s'.hp.length → W (fun x => Sat w0 ow γ' (visR m G s'.hp) x) a' w') : o.wp P a w (fun a' w' => ∃ C2 : World → Prop, C2 w' ∧ (∀ x, C2 x → Sat w0 ow γ (visR m G s.hp) x) ∧ W C2 a' w') NoQ := by
  unfold stepO at hs
  split at hs
  · rename_i d v hp' hop
    simp only [Option.some.injEq, Prod.mk.injEq] at hs
    obtain ⟨rfl, rfl⟩ := hs
    obtain ⟨⟨h1, h2⟩, h3⟩ := hc
    obtain ⟨γ', w', hS', hγ, hr⟩ := op1_sound (P := P) (ρ := a.eval) (o := o) h.sat (fun x sv hx => h.ev hx) hop h1 (fun hlt => ⟨fun x sv hx => ev_bnd (h3 hlt).1 hx, (h3 hlt).2⟩)
    have hhp : (S.put ⟨s.fr, hp'⟩ o.dst v).hp = hp' := by cases o.dst <;> rfl
    have hg : ∀ t sv, Fr.get s.fr t = some sv → sv.val γ' = sv.val γ := by
      intro t sv ht
      rcases hγ with rfl | ⟨hlt, nm, rfl⟩
      · rfl
      · exact Sv.ext (by rw [h.sat.len]; exact (h3 hlt).1 _ (Fr.get_mem ht))
    rw [hhp] at ht
    have hl1 := h.sat.len
    have hl2 := hS'.len
    have hge : m ≤ hp'.length := by
      rcases hγ with rfl | ⟨hlt, nm, rfl⟩
      · omega
      · rw [List.length_append] at hl2; simp only [List.length_cons, List.length_nil] at hl2; omega
    have hback : ∀ x, Sat w0 ow γ' (visR m G hp') x → Sat w0 ow γ (visR m G s.hp) x := by
      intro x hx
      rcases hγ with rfl | ⟨hlt, nm, rfl⟩
      · have e : visR m G hp' = visR m G s.hp := by unfold visR; rw [ht, show hp'.length = s.hp.length from by omega]
        rw [← e]; exact hx
      · have e : visR m G hp' = visR m G s.hp ++ [.gone] := by
          rw [List.length_append] at hl2; simp only [List.length_cons, List.length_nil] at hl2
          unfold visR gones
          rw [ht, show hp'.length - m = (s.hp.length - m) + 1 from by omega, List.replicate_succ', List.append_assoc]
        rw [e] at hx
        exact hx.front (by rw [visR_length m G s.hp hm]; exact hl1) (by rw [visR_length m G s.hp hm]; exact visR_bnd (h3 hlt).2)
    have hfin : ∀ x, x = v.val γ' → W (fun x => Sat w0 ow γ' (visR m G hp') x) (a.put o.dst x) w' := fun x hx => by
      have := hK γ' _ w' (h.put hS' hg h2 hx) (by rw [hhp]; exact hge)
      rw [hhp] at this
      exact this
    unfold Oper.wp
    rcases hr with hr | ⟨hr, hv⟩
    · rw [hr]
      exact ⟨_, hS'.vis hge, hback, hfin _ rfl⟩
    · rw [hr]
      subst hv
      exact ⟨_, hS'.vis hge, hback, hfin _ rfl⟩
  · cases hs
theorem stepQ_wr {ops : List Oper} {i : Nat} {p : Pl} {s : S} {K : S → Prop} {γ : List Nm} {a : Act} {w : World} (ih : ∀ s γ a w, symQ P w0 ow n m G ops K p s → FitsAt w0 ow n γ s a w → m ≤ s.hp.length → wpPl P ops.toArray (fun a' w' => ∃ s', Fits w0 ow n s' a' w' ∧ K s') p (fun x => Sat w0 ow γ (visR m G s.hp) x) a w)
    (h : stepQ P w0 ow n m G ops false i (symQ P w0 ow n m G ops K p) (fun o => CallQ P w0 ow n m G ops o p s K) s) (hf : FitsAt w0 ow n γ s a w) (hm : m ≤ s.hp.length) :
    wrStep P ops.toArray i (wpPl P ops.toArray (fun a' w' => ∃ s', Fits w0 ow n s' a' w' ∧ K s') p) (fun x => Sat w0 ow γ (visR m G s.hp) x) a w := by
  unfold stepQ at h
  unfold wrStep
  simp only [List.getElem?_toArray]
  split at h
  · exact h.elim
  · rename_i o hi
    try simp only [hi]
    split at h
    · exact h.elim
    · rename_i hw
      have hww := wantS_spec hf hw
      rw [if_neg (by rw [hww]; decide)]
      have := ih _ γ _ _ h.2 (hf.put hf.sat (fun _ _ _ => rfl) h.1 rfl) (by cases o.dst <;> exact hm)
      have hhp : (S.put ⟨s.fr, s.hp⟩ o.dst nil1).hp = s.hp := by cases o.dst <;> rfl
      rw [hhp] at this
      exact this
    · rename_i hw
      have hww := wantS_spec hf hw
      rw [if_pos hww]
      split at h
      · exact h.2 γ a w hf hm
      · split at h
        · rename_i hb; cases hb
        · split at h
          · rename_i c s' hs
            exact stepO_wrQ hf hm hs h.1 h.2.1 fun γ' a' w' hf' hm' => ih s' γ' a' w' h.2.2 hf' hm'
          · exact h.elim
theorem symQ_sound {ops : List Oper} {K : S → Prop} : ∀ (p : Pl) (s : S) (γ : List Nm) (a : Act) (w : World), symQ P w0 ow n m G ops K p s → FitsAt w0 ow n γ s a w → m ≤ s.hp.length →
    wpPl P ops.toArray (fun a' w' => ∃ s', Fits w0 ow n s' a' w' ∧ K s') p (fun x => Sat w0 ow γ (visR m G s.hp) x) a w
  | .nil, s, γ, a, w, h, hf, hm => ⟨s, ⟨γ, hf⟩, h⟩
  | .wr i p, s, γ, a, w, h, hf, hm => stepQ_wr (symQ_sound p) h hf hm
  | .fk i p j q, s, γ, a, w, h, hf, hm => ⟨stepQ_wr (symQ_sound p) h.1 hf hm, stepQ_wr (symQ_sound q) h.2 hf hm⟩
  | .f3 i p j q k r, s, γ, a, w, h, hf, hm => ⟨stepQ_wr (symQ_sound p) h.1 hf hm, stepQ_wr (symQ_sound q) h.2.1 hf hm, stepQ_wr (symQ_sound r) h.2.2 hf hm⟩
  | .rd i p, s, γ, a, w, h, hf, hm => by
    rw [symQ_rd] at h
    unfold stepQ at h
    simp only [wpPl, List.getElem?_toArray]
    split at h
    · exact h.elim
    · rename_i o hi
      try simp only [hi]
      split at h
      · exact h.elim
      · rename_i hw
        have hww := wantS_spec hf hw
        rw [if_neg (by rw [hww]; decide)]
        have := symQ_sound p _ γ _ w h.2 (hf.put hf.sat (fun _ _ _ => rfl) h.1 rfl) (by cases o.dst <;> exact hm)
        have hhp : (S.put ⟨s.fr, s.hp⟩ o.dst nil1).hp = s.hp := by cases o.dst <;> rfl
        rw [hhp] at this
        exact this
      · rename_i hw
        have hww := wantS_spec hf hw
        rw [if_pos hww]
        split at h
        · cases h.1
        · rw [if_pos rfl] at h
          split at h
          · rename_i hir
            split at h
            · rename_i c v hp' hop
              obtain ⟨⟨⟨h1, hsame⟩, h2⟩, h3⟩ := h
              refine ⟨v.val γ, fun x hx => ?_, ?_⟩
              · obtain ⟨_, hr⟩ := op1_read (P := P) (w := x) (ρ := a.eval) (o := o) hir hsame hx (fun x sv hx => hf.ev hx) hop h1
                unfold readAt
                rw [hr]
                exact ⟨rfl, rfl⟩
              · have := symQ_sound p _ γ _ w h3 (hf.put hf.sat (fun _ _ _ => rfl) h2 rfl) (by cases o.dst <;> exact hm)
                have hhp : (S.put ⟨s.fr, s.hp⟩ o.dst v).hp = s.hp := by cases o.dst <;> rfl
                rw [hhp] at this
                exact this
            · exact h.elim
          · exact h.elim
theorem callQ_rule {ops : List Oper} {o : Oper} {p : Pl} {f : FuncId} {xs : List Operand} {tys : Array TypeId} {s : S} {svs : List Sv} {K : S → Prop} (ho : o.op = .call { callee := .value (.func f), args := xs.toArray, argTypes := tys })
    (hcb : Callable P f) (hev : evs s.fr xs = some svs) {sv : Sv} {hp' : List Res} (hc : CallOK P w0 ow f svs s.hp sv hp') (hd : dOk n o.dst) (hb : s.hp.length < hp'.length → s.bnd) (he : (maskR G hp').take m = (maskR G s.hp).take m)
    (h : symQ P w0 ow n m G ops K p (S.put ⟨s.fr, hp'⟩ o.dst sv)) : CallQ P w0 ow n m G ops o p s K := by
  intro γ a w hf hml
  refine call_wp hf ho hcb hev hc hd hb fun δ a' w' hf' => ?_
  have hhp : (S.put ⟨s.fr, hp'⟩ o.dst sv).hp = hp' := by cases o.dst <;> rfl
  have hsat := hf'.sat
  rw [hhp] at hsat
  have hl := hf.sat.len
  have hl' := hsat.len
  rw [List.length_append] at hl'
  have h2 := symQ_sound p _ _ _ _ h hf' (by rw [hhp]; omega)
  rw [hhp] at h2
  refine ⟨_, hsat.vis (by omega), fun x hx => ?_, h2⟩
  have e : visR m G hp' = visR m G s.hp ++ gones (hp'.length - s.hp.length) := by
    unfold visR gones
    rw [he, show hp'.length - m = (s.hp.length - m) + (hp'.length - s.hp.length) from by omega, List.append_assoc, List.replicate_append_replicate]
  rw [e] at hx
  cases δ with
  | nil =>
    have e0 : hp'.length - s.hp.length = 0 := by simp only [List.length_nil] at hl'; omega
    rw [e0] at hx
    unfold gones at hx
    rw [List.replicate_zero, List.append_nil, List.append_nil] at hx
    exact hx
  | cons q r => exact hx.front (by rw [visR_length m G s.hp hml]; exact hl) (by rw [visR_length m G s.hp hml]; exact visR_bnd (hb (by simp only [List.length_cons] at hl'; omega)).2)
theorem callQ_v {ops : List Oper} {o : Oper} {p : Pl} {f : FuncId} {xs : List Operand} {tys : Array TypeId} {s : S} {svs : List Sv} {K : S → Prop} {sv : Sv} (ho : o.op = .call { callee := .value (.func f), args := xs.toArray, argTypes := tys })
    (hcb : Callable P f) (hev : evs s.fr xs = some svs) (hc : CallOK P w0 ow f svs s.hp sv s.hp) (hd : dOk n o.dst) (h : symQ P w0 ow n m G ops K p (S.put ⟨s.fr, s.hp⟩ o.dst sv)) : CallQ P w0 ow n m G ops o p s K :=
  callQ_rule ho hcb hev hc hd (fun h => absurd h (Nat.lt_irrefl _)) rfl h
end
attribute [push_cast] symQ_nil symQ_rd symQ_wr symQ_fk symQ_f3 stepQ wantS visR take_none take_next
end Go.Proofs.YtombphphaoeeiaaGreatDoor
