/- The engine: calls, regions that draw their order, loops, a function from its beginning to its end. No program in sight. -/
import Derived.Test.YtkchdhkpjnnliaaDoorEd
namespace Go.Proofs.YtkchdhkpjnnliaaDoor
open Go.RowKit
set_option linter.unusedSimpArgs false
section
variable {P : Program} {w0 : World} {ow : Nat → Prop} {n : Nat}

/-! ### Calls -/
def Callable (P : Program) (f : FuncId) : Prop := ∀ w args, (callFunc f args).run P w = .ok (.enter f args) w
theorem callable_of {f : FuncId} {fn : Func} (hf : P.funcs[f]? = some fn) (hn : (fn.name == "runtime.NumGoroutine") = false) (hb : fn.body.isNone = false) : Callable P f := by
  intro w args
  have hp : (program).run P w = .ok P w := rfl
  unfold callFunc
  rw [Sem.run_bind, hp, Result.andThen_ok]
  simp only [hf, hn, hb, Bool.false_eq_true, if_false]
  rfl
/-- A call that leaves all that is owned as it stands in hp', and hands back sv. -/
def CallOK (P : Program) (w0 : World) (ow : Nat → Prop) (f : FuncId) (svs : List Sv) (hp : List Res) (sv : Sv) (hp' : List Res) : Prop :=
  ∀ γ w, Sat w0 ow γ hp w → Calls P f (svs.map (Sv.val γ)).toArray w fun e w' => ∃ δ, e = .returned (sv.val (γ ++ δ)) ∧ Sat w0 ow (γ ++ δ) hp' w'
def evs (fr : Fr) : List Operand → Option (List Sv)
  | [] => some []
  | x :: r => match Fr.ev fr x, evs fr r with
    | some a, some l => some (a :: l)
    | _, _ => none
theorem evs_val {γ : List Nm} {s : S} {a : Act} {w : World} (h : FitsAt w0 ow n γ s a w) : ∀ {xs : List Operand} {svs : List Sv}, evs s.fr xs = some svs → xs.map a.eval = svs.map (Sv.val γ)
  | [], svs, hx => by simp only [evs, Option.some.injEq] at hx; subst hx; rfl
  | x :: r, svs, hx => by
    unfold evs at hx
    split at hx
    · rename_i b l h1 h2
      simp only [Option.some.injEq] at hx
      subst hx
      simp only [List.map_cons, h.ev h1, evs_val h h2]
    · cases hx
theorem run_call {o : Oper} {f : FuncId} {xs : Array Operand} {tys : Array TypeId} {ρ : Operand → Value} {w : World} {args : Array Value} (ho : o.op = .call { callee := .value (.func f), args := xs, argTypes := tys }) (hf : ρ (.func f) = .func (.func f) #[] #[]) (hcb : Callable P f)
    (ha : xs.map ρ = args) : (execOp ρ o).run P w = .ok (.enter f args) w := by
  unfold execOp
  simp only [ho, resolve, hf, Deferred.ofValue, Sem.run_bind, Sem.run_pure, Result.andThen_ok, invoke, ha, Array.empty_append, Array.append_empty]
  exact hcb w args
theorem call_wp {o : Oper} {f : FuncId} {xs : List Operand} {tys : Array TypeId} {s : S} {γ : List Nm} {a : Act} {w : World} {svs : List Sv} {sv : Sv} {hp' : List Res} {K : Act → World → Prop} {Q : Exit → Act → World → Prop}
    (hfit : FitsAt w0 ow n γ s a w) (ho : o.op = .call { callee := .value (.func f), args := xs.toArray, argTypes := tys }) (hcb : Callable P f) (hev : evs s.fr xs = some svs) (hc : CallOK P w0 ow f svs s.hp sv hp') (hd : dOk n o.dst) (hb : s.hp.length < hp'.length → s.bnd)
    (hK : ∀ δ a' w', FitsAt w0 ow n (γ ++ δ) (S.put ⟨s.fr, hp'⟩ o.dst sv) a' w' → K a' w') : o.wp P a w K Q := by
  unfold Oper.wp
  rw [run_call ho rfl hcb (args := (svs.map (Sv.val γ)).toArray) (by rw [List.map_toArray, evs_val hfit hev])]
  simp only [Oper.upon]
  refine (hc γ w hfit.sat).mono ?_
  rintro e w' ⟨δ, rfl, hS'⟩
  refine hK δ _ _ (hfit.put hS' (fun t sv' ht => ?_) hd rfl)
  have hl := hfit.sat.len
  have hl' := hS'.len
  rw [List.length_append] at hl'
  cases δ with
  | nil => rw [List.append_nil]
  | cons m r =>
    have hlt : s.hp.length < hp'.length := by simp at hl'; omega
    exact Sv.ext (by rw [hl]; exact (hb hlt).1 _ (Fr.get_mem ht))
theorem callG_rule {ops : List Oper} {o : Oper} {rest : List Oper} {f : FuncId} {xs : List Operand} {tys : Array TypeId} {s : S} {svs : List Sv} {K : S → Prop} (ho : o.op = .call { callee := .value (.func f), args := xs.toArray, argTypes := tys })
    (hcb : Callable P f) (hev : evs s.fr xs = some svs) {sv : Sv} {hp' : List Res} (hc : CallOK P w0 ow f svs s.hp sv hp') (hd : dOk n o.dst) (hb : s.hp.length < hp'.length → s.bnd)
    (h : symR P w0 ow n ops rest (S.put ⟨s.fr, hp'⟩ o.dst sv) K) : CallG P w0 ow n ops o rest s K := by
  rintro a w ⟨γ, hfit⟩ hw
  unfold wpList
  rw [if_pos hw]
  exact .inl (call_wp hfit ho hcb hev hc hd hb fun δ a' w' hf => symR_sound rest _ _ _ h ⟨_, hf⟩)

/-! ### What calls do -/
theorem callOK_v {f : FuncId} {svs : List Sv} {hp : List Res} {sv : Sv} (h : ∀ γ w, Sat w0 ow γ hp w → Calls P f (svs.map (Sv.val γ)).toArray w fun e w' => e = .returned (sv.val γ) ∧ Below w.heap.size w w') : CallOK P w0 ow f svs hp sv hp :=
  fun γ w hS => (h γ w hS).mono fun e w' ⟨he, hb⟩ => ⟨[], by rw [List.append_nil]; exact he, by rw [List.append_nil]; exact hS.later hb⟩
theorem callOK_eq {f : FuncId} {svs : List Sv} {hp : List Res} {sv : Sv} (h : ∀ γ w, Sat w0 ow γ hp w → Calls P f (svs.map (Sv.val γ)).toArray w fun e w' => e = .returned (sv.val γ) ∧ w = w') : CallOK P w0 ow f svs hp sv hp :=
  callOK_v fun γ w hS => (h γ w hS).mono fun e w' ⟨he, hb⟩ => ⟨he, by subst hb; exact Below.refl _ _⟩
theorem Own.base0 {w : World} {b : Nat} {e : TypeId} {v : Value} {vs : List Value} (h : Own w b e v vs) : Own w 0 e v vs :=
  ⟨h.1, h.2.imp id fun ⟨g, cap, cur, h1, _, h3⟩ => ⟨g, cap, cur, h1, Nat.zero_le _, h3⟩⟩
/-- A slice of its own handed back. -/
theorem Sat.got {γ : List Nm} {hp : List Res} {w w' : World} (hS : Sat w0 ow γ hp w) (hbr : ∀ r ∈ hp, Res.bnd hp.length r) (hb : Below w.heap.size w w') {e : TypeId} {v : Value} {c : Cont} (hc : c.bnd hp.length) (ho : Own w' w.heap.size e v (c.vals γ)) :
    Sat w0 ow (γ ++ [.s v]) (hp ++ [.own e c]) w' := by
  have hl := hS.len
  refine hS.push (X := fun _ => False) (Keeps.of_below (own := fun _ => False) hb) (fun b h => h.elim) hbr ⟨by rw [get_last hl, nmS_last hl], ?_⟩ ?_
  · rw [nmS_last hl, Cont.ext (by rw [hl]; exact hc)]
    exact ho.base0
  · intro n hn
    simp only [Res.block, nmS_last hl] at hn
    have := ho.lt n hn
    exact ⟨.inr this.1, this.2⟩
theorem callOK_own {f : FuncId} {svs : List Sv} {hp : List Res} {e : TypeId} {c : Cont} (hbr : ∀ r ∈ hp, Res.bnd hp.length r) (hcb : c.bnd hp.length)
    (h : ∀ γ w, Sat w0 ow γ hp w → Calls P f (svs.map (Sv.val γ)).toArray w fun en w' => ∃ v', en = .returned v' ∧ Own w' w.heap.size e v' (c.vals γ) ∧ Below w.heap.size w w') : CallOK P w0 ow f svs hp (.x (.a (.o hp.length))) (hp ++ [.own e c]) :=
  fun γ w hS => (h γ w hS).mono fun en w' ⟨v', he, ho, hb⟩ => ⟨[.s v'], by rw [he]; simp [Sv.val, Sc.val, At.val, nmS_last hS.len], hS.got hbr hb hcb ho⟩
/-- The same, and something beside it that is spelled without names. -/
theorem callOK_own2 {f : FuncId} {svs : List Sv} {hp : List Res} {e : TypeId} {c : Cont} {y : Value} (hbr : ∀ r ∈ hp, Res.bnd hp.length r) (hcb : c.bnd hp.length)
    (h : ∀ γ w, Sat w0 ow γ hp w → Calls P f (svs.map (Sv.val γ)).toArray w fun en w' => ∃ v', en = .returned (.tuple #[v', y]) ∧ Own w' w.heap.size e v' (c.vals γ) ∧ Below w.heap.size w w') : CallOK P w0 ow f svs hp (.t [.a (.o hp.length), .a (.v y)]) (hp ++ [.own e c]) :=
  fun γ w hS => (h γ w hS).mono fun en w' ⟨v', he, ho, hb⟩ => ⟨[.s v'], by rw [he]; simp [Sv.val, Sc.val, At.val, nmS_last hS.len], hS.got hbr hb hcb ho⟩
/-- A slice of the call's own handed on, used up, and handed back longer. -/
theorem callOK_eat {f : FuncId} {svs : List Sv} {hp : List Res} {e : TypeId} {b : Sv} {k : Option Nat} {ct : Option Cont} {c : Cont} (hbr : ∀ r ∈ hp, Res.bnd hp.length r) (hcb : c.bnd hp.length) (hbase : baseS hp e b = some (k, ct)) (hml : clen ct ≤ maxLen)
    (h : ∀ γ w, Sat w0 ow γ hp w → Own w 0 e (b.val γ) (optVals γ ct) → Calls P f (svs.map (Sv.val γ)).toArray w fun en w' => ∃ v', en = .returned v' ∧ Own w' 0 e v' (c.vals γ) ∧ Keeps (fun n => (b.val γ).ownBlock = some n) w w' ∧ ∀ n, v'.ownBlock = some n → (b.val γ).ownBlock = some n ∨ w.heap.size ≤ n) :
    CallOK P w0 ow f svs hp (.x (.a (.o hp.length))) (setGone hp k ++ [.own e c]) := by
  intro γ w hS
  obtain ⟨b1, b2, _⟩ := baseS_spec hS hbase hml
  refine (h γ w hS b1).mono ?_
  rintro en w' ⟨v', rfl, ho, hk, hob⟩
  have hgl : (setGone hp k).length = hp.length := setGone_len
  have hS' : Sat w0 ow γ (setGone hp k) w := by
    cases k with
    | none => exact hS
    | some k => exact hS.drop k
  have hbr' : ∀ r ∈ setGone hp k, Res.bnd (setGone hp k).length r := by
    rw [hgl]
    intro r hr
    cases k with
    | none => exact hbr r hr
    | some k =>
      rcases List.mem_or_eq_of_mem_set hr with hr | rfl
      · exact hbr r hr
      · trivial
  have hl' : γ.length = (setGone hp k).length := hS'.len
  refine ⟨[.s v'], by simp [Sv.val, Sc.val, At.val, nmS_last hS.len], ?_⟩
  refine hS'.push (X := fun n => (b.val γ).ownBlock = some n) hk (fun n hn => ownBlock_gone hS (b2 n hn)) hbr' ?_ ?_
  · refine ⟨by rw [get_last hl', nmS_last hl'], ?_⟩
    rw [nmS_last hl', Cont.ext (by rw [hl', hgl]; exact hcb)]
    exact ho
  · intro n hn
    simp only [Res.block, nmS_last hl'] at hn
    have := ho.lt n hn
    exact ⟨hob n hn, this.2⟩

/-! ### A region that draws its order -/
def takes (rd : Bool) (o : Op) (s s' : S) : Prop := if rd = true then isRead o = true else s'.hp.take s.hp.length = s.hp
def CallM (P : Program) (w0 : World) (ow : Nat → Prop) (n : Nat) (ops : List Oper) (o : Oper) (p : List (Nat × Bool)) (s : S) (K : S → Prop) : Prop :=
  ∀ γ a w, FitsAt w0 ow n γ s a w → o.wp P a w (fun a' w' => ∃ C2 : World → Prop, C2 w' ∧ (∀ x, C2 x → Sat w0 ow γ s.hp x) ∧ wpMix P ops.toArray (fun a' w' => ∃ s', Fits w0 ow n s' a' w' ∧ K s') p C2 a' w') NoQ
def symM (P : Program) (w0 : World) (ow : Nat → Prop) (n : Nat) (ops : List Oper) : List (Nat × Bool) → S → (S → Prop) → Prop
  | [], s, K => K s
  | (i, rd) :: p, s, K => match ops[i]? with
    | none => False
    | some o =>
      if isCall o.op = true then (match o.guard with
      | none => rd = false ∧ CallM P w0 ow n ops o p s K
      | some (j, b) => match yieldS ops s.fr j with
        | some c => if c = b then rd = false ∧ CallM P w0 ow n ops o p s K else dOk n o.dst ∧ symM P w0 ow n ops p (s.put o.dst nil1) K
        | none => False)
      else match o.guard with
      | none => match stepO P w0 ow n o s with
        | some (c, s') => c ∧ takes rd o.op s s' ∧ symM P w0 ow n ops p s' K
        | none => False
      | some (j, b) => match yieldS ops s.fr j with
        | some c => if c = b then (match stepO P w0 ow n o s with | some (c, s') => c ∧ takes rd o.op s s' ∧ symM P w0 ow n ops p s' K | none => False) else dOk n o.dst ∧ symM P w0 ow n ops p (s.put o.dst nil1) K
        | none => False
theorem symM_nil {ops : List Oper} {s : S} {K : S → Prop} : symM P w0 ow n ops [] s K = K s := rfl
theorem symM_cons {ops : List Oper} {i : Nat} {rd : Bool} {p : List (Nat × Bool)} {s : S} {K : S → Prop} : symM P w0 ow n ops ((i, rd) :: p) s K = (match ops[i]? with
    | none => False
    | some o =>
      if isCall o.op = true then (match o.guard with
      | none => rd = false ∧ CallM P w0 ow n ops o p s K
      | some (j, b) => match yieldS ops s.fr j with
        | some c => if c = b then rd = false ∧ CallM P w0 ow n ops o p s K else dOk n o.dst ∧ symM P w0 ow n ops p (s.put o.dst nil1) K
        | none => False)
      else match o.guard with
      | none => match stepO P w0 ow n o s with
        | some (c, s') => c ∧ takes rd o.op s s' ∧ symM P w0 ow n ops p s' K
        | none => False
      | some (j, b) => match yieldS ops s.fr j with
        | some c => if c = b then (match stepO P w0 ow n o s with | some (c, s') => c ∧ takes rd o.op s s' ∧ symM P w0 ow n ops p s' K | none => False) else dOk n o.dst ∧ symM P w0 ow n ops p (s.put o.dst nil1) K
        | none => False) := rfl
theorem Sat.front {γ δ : List Nm} {hp rs : List Res} {w : World} (hS : Sat w0 ow (γ ++ δ) (hp ++ rs) w) (hl : γ.length = hp.length) (hbr : ∀ r ∈ hp, Res.bnd hp.length r) : Sat w0 ow γ hp w := by
  have at_ : ∀ (k : Nat) (r : Res), hp[k]? = some r → (hp ++ rs)[k]? = some r := fun k r hr => by rw [List.getElem?_append_left (lt_of_get hr)]; exact hr
  have back : ∀ (k : Nat) (r : Res), hp[k]? = some r → r.holds (γ ++ δ) k w → r.holds γ k w := by
    intro k r hr h
    have hk : k < γ.length := by rw [hl]; exact lt_of_get hr
    have hb : r.bnd γ.length := by rw [hl]; exact hbr r (List.mem_of_getElem? hr)
    cases r with
    | gone => trivial
    | blk t c => simp only [Res.holds, nmB_ext hk, getElem?_ext hk] at h ⊢; rw [Cont.ext hb] at h; exact h
    | own e c => simp only [Res.holds, nmS_ext hk, getElem?_ext hk] at h ⊢; rw [Cont.ext hb] at h; exact h
  refine ⟨hS.keeps, hl, fun k r hr => back k r hr (hS.holds k r (at_ k r hr)), fun k r b hr hb => ?_, fun j k r r' b hr hr' hjk hb hb' => ?_⟩
  · exact hS.mine k r b (at_ k r hr) (by rw [Res.block_ext (by rw [hl]; exact lt_of_get hr)]; exact hb)
  · exact hS.apart j k r r' b (at_ j r hr) (at_ k r' hr') hjk (by rw [Res.block_ext (by rw [hl]; exact lt_of_get hr)]; exact hb) (by rw [Res.block_ext (by rw [hl]; exact lt_of_get hr')]; exact hb')
theorem stepO_mix {o : Oper} {c : Prop} {rd : Bool} {ops : List Oper} {p : List (Nat × Bool)} {s s' : S} {γ : List Nm} {a : Act} {w : World} {QK : Act → World → Prop} (h : FitsAt w0 ow n γ s a w) (hs : stepO P w0 ow n o s = some (c, s')) (hc : c) (ht : takes rd o.op s s') (hw : Region.wanted o (yielded ops.toArray a.tmps) = true) {i : Nat} (hi : ops[i]? = some o)
    (hK : ∀ γ' a' w', FitsAt w0 ow n γ' s' a' w' → wpMix P ops.toArray QK p (fun x => Sat w0 ow γ' s'.hp x) a' w') : wpMix P ops.toArray QK ((i, rd) :: p) (fun x => Sat w0 ow γ s.hp x) a w := by
  have hs0 := hs
  unfold stepO at hs
  split at hs
  · rename_i d v hp' hop
    simp only [Option.some.injEq, Prod.mk.injEq] at hs
    obtain ⟨rfl, rfl⟩ := hs
    obtain ⟨⟨h1, h2⟩, h3⟩ := hc
    simp only [wpMix, List.getElem?_toArray, hi, hw, if_true]
    cases rd
    · simp only [takes, Bool.false_eq_true, if_false] at ht ⊢
      obtain ⟨γ', w', hS', hγ, hr⟩ := op1_sound (P := P) (ρ := a.eval) (o := o) h.sat (fun x sv hx => h.ev hx) hop h1 (fun hlt => ⟨fun x sv hx => ev_bnd (h3 hlt).1 hx, (h3 hlt).2⟩)
      have hhp : (S.put ⟨s.fr, hp'⟩ o.dst v).hp = hp' := by cases o.dst <;> rfl
      rw [hhp] at ht
      have hg : ∀ t sv, Fr.get s.fr t = some sv → sv.val γ' = sv.val γ := by
        intro t sv ht
        rcases hγ with rfl | ⟨hlt, nm, rfl⟩
        · rfl
        · exact Sv.ext (by rw [h.sat.len]; exact (h3 hlt).1 _ (Fr.get_mem ht))
      have hback : ∀ x, Sat w0 ow γ' hp' x → Sat w0 ow γ s.hp x := by
        intro x hx
        rcases hγ with rfl | ⟨hlt, nm, rfl⟩
        · have hl1 := h.sat.len
          have hl2 := hS'.len
          have : hp' = s.hp := by rw [← ht, List.take_of_length_le (by omega)]
          rw [← this]; exact hx
        · rw [← List.take_append_drop s.hp.length hp', ht] at hx
          exact hx.front h.sat.len (h3 hlt).2
      have hfin : ∀ x, x = v.val γ' → wpMix P ops.toArray QK p (fun x => Sat w0 ow γ' hp' x) (a.put o.dst x) w' := fun x hx => by
        have := hK γ' _ w' (h.put hS' hg h2 hx)
        rw [hhp] at this
        exact this
      unfold Oper.wp
      rcases hr with hr | ⟨hr, hv⟩
      · rw [hr]
        exact ⟨_, hS', hback, hfin _ rfl⟩
      · rw [hr]
        subst hv
        exact ⟨_, hS', hback, hfin _ rfl⟩
    · simp only [takes, if_true] at ht ⊢
      obtain ⟨rfl, _⟩ := op1_read (P := P) (ρ := a.eval) (o := o) ht h.sat (fun x sv hx => h.ev hx) hop h1
      have hhp : (S.put ⟨s.fr, s.hp⟩ o.dst v).hp = s.hp := by cases o.dst <;> rfl
      refine ⟨v.val γ, fun x hx => ?_, ?_⟩
      · obtain ⟨_, hr⟩ := op1_read (P := P) (w := x) (ρ := a.eval) (o := o) ht hx (fun x sv hx => h.ev hx) hop h1
        unfold readAt
        rw [hr]
        exact ⟨rfl, rfl⟩
      · have := hK γ _ w (h.put h.sat (fun _ _ _ => rfl) h2 rfl)
        rw [hhp] at this
        exact this
  · cases hs
theorem symM_sound {ops : List Oper} {K : S → Prop} : ∀ (p : List (Nat × Bool)) (s : S) (γ : List Nm) (a : Act) (w : World), symM P w0 ow n ops p s K → FitsAt w0 ow n γ s a w →
    wpMix P ops.toArray (fun a' w' => ∃ s', Fits w0 ow n s' a' w' ∧ K s') p (fun x => Sat w0 ow γ s.hp x) a w
  | [], s, γ, a, w, h, hf => ⟨s, ⟨γ, hf⟩, h⟩
  | (i, rd) :: p, s, γ, a, w, h, hf => by
    unfold symM at h
    split at h
    · exact h.elim
    · rename_i o hi
      split at h
      · split at h
        · rename_i hg
          obtain ⟨rfl, hm⟩ := h
          have := hm γ a w hf
          simp only [wpMix, List.getElem?_toArray, hi]
          rw [if_pos (by simp [Region.wanted, hg])]
          simpa using this
        · rename_i j b hg
          split at h
          · rename_i c hy
            have hyy := yield_of hf hy
            split at h
            · rename_i hcb
              subst hcb
              obtain ⟨rfl, hm⟩ := h
              have := hm γ a w hf
              simp only [wpMix, List.getElem?_toArray, hi]
              rw [if_pos (by simp [Region.wanted, hg, hyy])]
              simpa using this
            · rename_i hcb
              simp only [wpMix, List.getElem?_toArray, hi]
              rw [if_neg (by simp [Region.wanted, hg, hyy, hcb])]
              have := symM_sound p _ γ _ _ h.2 (hf.put hf.sat (fun _ _ _ => rfl) h.1 rfl)
              have hhp : (S.put ⟨s.fr, s.hp⟩ o.dst nil1).hp = s.hp := by cases o.dst <;> rfl
              rw [hhp] at this
              exact this
          · exact h.elim
      · split at h
        · rename_i hg
          split at h
          · rename_i c s' hs
            exact stepO_mix hf hs h.1 h.2.1 (by simp [Region.wanted, hg]) hi fun γ' a' w' hf' => symM_sound p s' γ' a' w' h.2.2 hf'
          · exact h.elim
        · rename_i j b hg
          split at h
          · rename_i c hy
            have hyy := yield_of hf hy
            split at h
            · rename_i hcb
              subst hcb
              split at h
              · rename_i c' s' hs
                exact stepO_mix hf hs h.1 h.2.1 (by simp [Region.wanted, hg, hyy]) hi fun γ' a' w' hf' => symM_sound p s' γ' a' w' h.2.2 hf'
              · exact h.elim
            · rename_i hcb
              simp only [wpMix, List.getElem?_toArray, hi]
              rw [if_neg (by simp [Region.wanted, hg, hyy, hcb])]
              have := symM_sound p _ γ _ _ h.2 (hf.put hf.sat (fun _ _ _ => rfl) h.1 rfl)
              have hhp : (S.put ⟨s.fr, s.hp⟩ o.dst nil1).hp = s.hp := by cases o.dst <;> rfl
              rw [hhp] at this
              exact this
          · exact h.elim
theorem callM_rule {ops : List Oper} {o : Oper} {p : List (Nat × Bool)} {f : FuncId} {xs : List Operand} {tys : Array TypeId} {s : S} {svs : List Sv} {K : S → Prop} (ho : o.op = .call { callee := .value (.func f), args := xs.toArray, argTypes := tys })
    (hcb : Callable P f) (hev : evs s.fr xs = some svs) {sv : Sv} {hp' : List Res} (hc : CallOK P w0 ow f svs s.hp sv hp') (hd : dOk n o.dst) (hb : s.hp.length < hp'.length → s.bnd) (he : hp'.take s.hp.length = s.hp)
    (h : symM P w0 ow n ops p (S.put ⟨s.fr, hp'⟩ o.dst sv) K) : CallM P w0 ow n ops o p s K := by
  intro γ a w hf
  refine call_wp hf ho hcb hev hc hd hb fun δ a' w' hf' => ?_
  have hhp : (S.put ⟨s.fr, hp'⟩ o.dst sv).hp = hp' := by cases o.dst <;> rfl
  have hsat := hf'.sat
  rw [hhp] at hsat
  have h2 := symM_sound p _ _ _ _ h hf'
  rw [hhp] at h2
  refine ⟨_, hsat, fun x hx => ?_, h2⟩
  have hl := hf.sat.len
  have hl' := hsat.len
  rw [List.length_append] at hl'
  rw [← List.take_append_drop s.hp.length hp', he] at hx
  cases δ with
  | nil =>
    have : hp'.drop s.hp.length = [] := by rw [List.drop_eq_nil_iff]; simp at hl'; omega
    rw [this, List.append_nil, List.append_nil] at hx
    exact hx
  | cons m r => exact hx.front hl (hb (by simp at hl'; omega)).2
theorem Fits.drawn {s : S} {a : Act} {w w' : World} {γ : List Nm} (h : FitsAt w0 ow n γ s a w) (hd : Drawn w w') : FitsAt w0 ow n γ s a w' := ⟨h.sat.drawn hd, h.defers, h.size, h.at_⟩
/-- A region that draws its order: one walk, in the order of the list. -/
theorem draw_rule {id : Nat} {ops : List Oper} {s : S} {K : Exit → S → Prop} (p : List (Nat × Bool)) (hm : P.follows .mixedOrders = true) (hs : Region.noSelect ops.toArray = true) (hp : p.length = ops.length) (hB : mixB .any ops.toArray p (Array.replicate ops.length false) = true)
    (h : symM P w0 ow n ops p s (K .normal)) : DrawG P w0 ow n id ops s K := by
  rintro a w ⟨γ, hf⟩
  refine wp_region_mix p hm hs hp hB (fun x => Sat w0 ow γ s.hp x) fun w2 hd => ?_
  have hf2 := Fits.drawn hf hd.out
  exact ⟨hf2.sat, symM_sound p s γ a w2 h hf2⟩
theorem wpMix_mono {ops : Array Oper} {Q Q' : Act → World → Prop} (hq : ∀ a w, Q a w → Q' a w) : ∀ (p : List (Nat × Bool)) (C : World → Prop) (a : Act) (w : World), wpMix P ops Q p C a w → wpMix P ops Q' p C a w
  | [], _, a, w, h => hq a w h
  | (i, rd) :: p, C, a, w, h => by
    unfold wpMix at h ⊢
    split
    · rename_i ho; simp only [ho] at h
    · rename_i o ho
      simp only [ho] at h
      split
      · rename_i hw
        simp only [hw, if_true] at h
        split
        · rename_i hr
          simp only [hr, if_true] at h
          obtain ⟨v, h1, h2⟩ := h
          exact ⟨v, h1, wpMix_mono hq p _ _ _ h2⟩
        · rename_i hr
          simp only [hr] at h
          exact wp_mono2 (fun a' w' ⟨C2, h1, h2, h3⟩ => ⟨C2, h1, h2, wpMix_mono hq p _ _ _ h3⟩) h
      · rename_i hw
        simp only [hw] at h
        exact wpMix_mono hq p _ _ _ h
/-- The same, with a tail of operations that wait for all of the head: these may turn what they like. -/
theorem drawT_rule {id : Nat} {ops : List Oper} {s : S} {K : Exit → S → Prop} (m : Nat) (p : List (Nat × Bool)) (hm : P.follows .mixedOrders = true) (hB : mixTailB .any ops.toArray m p = true)
    (h : symM P w0 ow n ops p s (fun s' => symR P w0 ow n ops (ops.drop m) s' (K .normal))) : DrawG P w0 ow n id ops s K := by
  rintro a w ⟨γ, hf⟩
  refine wp_region_mixT m p hm hB (fun x => Sat w0 ow γ s.hp x) fun w2 hd => ?_
  have hf2 := Fits.drawn hf hd.out
  refine ⟨hf2.sat, wpMix_mono (fun a' w' hq => ?_) _ _ _ _ (symM_sound p s γ a w2 h hf2)⟩
  obtain ⟨s', h1, h2⟩ := hq
  refine wpList_mono (fun e a'' w'' hq => ?_) _ _ _ (symR_sound _ s' a' w' h2 h1)
  obtain ⟨rfl, s'', h3, h4⟩ := hq
  exact ⟨s'', h3, h4⟩
end
end Go.Proofs.YtkchdhkpjnnliaaDoor
