import Derived.Test.YtombphphaoeeiaaGreatDoorEn2
import Derived.Deep.LoopGhost
/- En3: Ed, Ee, Ef, Eg, Eh, Ei, joined. -/
/- The engine: code does what its term says. No program in sight. -/
namespace Go.Proofs.YtombphphaoeeiaaGreatDoor
open Go.RowKit
set_option linter.unusedSimpArgs false
section
variable {P : Program} {w0 : World} {ow : Nat → Prop} {n : Nat}
theorem Oper.wp_mono3 {o : Oper} {a : Act} {w : World} {K K' : Act → World → Prop} {Q Q' : Exit → Act → World → Prop} (h : ∀ a w, K a w → K' a w) (hq : ∀ e a w, Q e a w → Q' e a w) (hh : o.wp P a w K Q) : o.wp P a w K' Q' := by
  unfold Oper.wp at *
  generalize (execOp a.eval o).run P w = r at *
  cases r with
  | ok n w' =>
    cases n <;> simp only [Oper.upon] at hh ⊢ <;>
      first
        | exact h _ _ hh
        | exact Calls.mono hh (fun e w'' he => by
            cases e with
            | returned v => exact h _ _ he
            | panicked c => exact hq _ _ _ he
            | outgrown => obtain ⟨a', w', h1⟩ := he; exact ⟨a', w', hq _ _ _ h1⟩)
        | exact Rows.mono hh (fun _ _ he => h _ _ he)
  | halt x w' => cases x <;> simp only [Oper.upon] at hh ⊢ <;> first | exact hq _ _ _ hh | exact hh
theorem wpList_mono {ops : Array Oper} {Q Q' : Exit → Act → World → Prop} (hq : ∀ e a w, Q e a w → Q' e a w) : ∀ (l : List Oper) (a : Act) (w : World), wpList P ops Q l a w → wpList P ops Q' l a w
  | [], a, w, h => hq _ _ _ h
  | o :: rest, a, w, h => by
    unfold wpList at h ⊢
    split
    · rename_i hw
      rw [if_pos hw] at h
      rcases h with h | ⟨h1, a', w', h2⟩
      · exact .inl (Oper.wp_mono3 (wpList_mono hq rest) hq h)
      · exact .inr ⟨h1, a', w', hq _ _ _ h2⟩
    · rename_i hw
      rw [if_neg hw] at h
      exact wpList_mono hq rest _ _ h
theorem Fr.get_put (fr : Fr) (d t : Nat) (v : Sv) : Fr.get (Fr.put fr d v) t = if d = t then some v else Fr.get fr t := rfl
theorem Fr.get_mem {fr : Fr} {t : Nat} {v : Sv} (h : Fr.get fr t = some v) : (t, v) ∈ fr := by
  induction fr with
  | nil => cases h
  | cons p r ih =>
    obtain ⟨k, x⟩ := p
    simp only [Fr.get] at h
    split at h
    · rename_i hk
      cases h
      subst hk
      simp
    · exact List.mem_cons_of_mem _ (ih h)
section
variable {γ : List Nm} {s s' : S} {a : Act} {w : World}
theorem FitsAt.ev (h : FitsAt w0 ow n γ s a w) {x : Operand} {sv : Sv} (hx : Fr.ev s.fr x = some sv) : a.eval x = sv.val γ := by
  cases x with
  | tmp t => exact h.at_ t sv hx
  | const v => simp only [Fr.ev, Option.some.injEq] at hx; subst hx; rfl
  | global g => simp only [Fr.ev, Option.some.injEq] at hx; subst hx; rfl
  | func f => simp only [Fr.ev, Option.some.injEq] at hx; subst hx; rfl
theorem ev_bnd {m : Nat} (h : ∀ x ∈ s.fr, Sv.bnd m x.2) {x : Operand} {sv : Sv} (hx : Fr.ev s.fr x = some sv) : sv.bnd m := by
  cases x with
  | tmp t => exact h _ (Fr.get_mem hx)
  | const v => simp only [Fr.ev, Option.some.injEq] at hx; subst hx; trivial
  | global g => simp only [Fr.ev, Option.some.injEq] at hx; subst hx; trivial
  | func f => simp only [Fr.ev, Option.some.injEq] at hx; subst hx; trivial
/-- A slot written. -/
theorem FitsAt.put {γ' : List Nm} {hp' : List Res} {w' : World} (h : FitsAt w0 ow n γ s a w) (hS : Sat w0 ow γ' hp' w') (hg : ∀ t sv, Fr.get s.fr t = some sv → sv.val γ' = sv.val γ) {d : Option Tmp} (hd : dOk n d) {v : Sv} {x : Value} (hx : x = v.val γ') :
    FitsAt w0 ow n γ' (S.put ⟨s.fr, hp'⟩ d v) (a.put d x) w' := by
  cases d with
  | none => exact ⟨hS, h.defers, h.size, fun t sv ht => (h.at_ t sv ht).trans (hg t sv ht).symm⟩
  | some d =>
    refine ⟨hS, h.defers, ?_, fun t sv ht => ?_⟩
    · simp [Act.put, h.size]
    · simp only [S.put, Fr.get_put] at ht
      have hlt : d < a.tmps.size := by rw [h.size]; exact hd
      show (a.tmps.setIfInBounds d x).getD t undef = _
      split at ht
      · rename_i hdt
        subst hdt
        cases ht
        rw [hx]
        simp [hlt]
      · rename_i hdt
        rw [hg t sv ht, ← h.at_ t sv ht]
        simp [hdt]
theorem stepO_sound {o : Oper} {c : Prop} (h : FitsAt w0 ow n γ s a w) (hs : stepO P w0 ow n o s = some (c, s')) (hc : c) {K : Act → World → Prop} {Q : Exit → Act → World → Prop}
    (hK : ∀ a' w', Fits w0 ow n s' a' w' → K a' w') : o.wp P a w K Q := by
  unfold stepO at hs
  split at hs
  · rename_i d v hp' hop
    simp only [Option.some.injEq, Prod.mk.injEq] at hs
    obtain ⟨rfl, rfl⟩ := hs
    obtain ⟨⟨h1, h2⟩, h3⟩ := hc
    obtain ⟨γ', w', hS', hγ, hr⟩ := op1_sound (P := P) (ρ := a.eval) (o := o) h.sat (fun x sv hx => h.ev hx) hop h1 (fun hlt => ⟨fun x sv hx => ev_bnd (h3 hlt).1 hx, (h3 hlt).2⟩)
    have hg : ∀ t sv, Fr.get s.fr t = some sv → sv.val γ' = sv.val γ := by
      intro t sv ht
      rcases hγ with rfl | ⟨hlt, nm, rfl⟩
      · rfl
      · exact Sv.ext (by rw [h.sat.len]; exact (h3 hlt).1 _ (Fr.get_mem ht))
    unfold Oper.wp
    rcases hr with hr | ⟨hr, hv⟩
    · rw [hr]
      exact hK _ _ ⟨γ', h.put hS' hg h2 rfl⟩
    · rw [hr]
      subst hv
      exact hK _ _ ⟨γ', h.put hS' hg h2 rfl⟩
  · cases hs
theorem yield_of {ops : List Oper} {j : Nat} {b c : Bool} (h : FitsAt w0 ow n γ s a w) (hy : yieldS ops s.fr j b = some c) : (yielded ops.toArray a.tmps j = some b) ↔ c = b := by
  unfold yieldS at hy
  split at hy
  · rename_i o ho
    split at hy
    · rename_i d hd
      split at hy
      · rename_i b' hb
        simp only [Option.some.injEq] at hy
        subst hy
        have h1 := h.at_ d _ hb
        have h2 : a.tmps[d]? = some (.bool b') := by
          cases hq : a.tmps[d]? with
          | none => simp [hq, Sv.val, Sc.val, At.val, undef] at h1
          | some z =>
            simp [hq, Sv.val, Sc.val, At.val] at h1
            rw [h1]
        unfold yielded
        simp [ho, hd, h2]
      · rename_i xs hb
        simp only [Option.some.injEq] at hy
        subst hy
        have h1 := h.at_ d _ hb
        have h2 : yielded ops.toArray a.tmps j = none := by
          unfold yielded
          simp only [List.getElem?_toArray, ho, hd, Option.bind_some]
          cases hq : a.tmps[d]? with
          | none => rfl
          | some z =>
            simp [hq, Sv.val, Sc.val, At.val] at h1
            rw [h1]
        rw [h2]
        cases b <;> simp
      · cases hy
    · cases hy
  · cases hy
/-- The post of a region. -/
def QR (w0 : World) (ow : Nat → Prop) (n : Nat) (K : S → Prop) : Exit → Act → World → Prop := fun e a' w' => e = .normal ∧ ∃ s', Fits w0 ow n s' a' w' ∧ K s'
theorem symR_sound {ops : List Oper} {K : S → Prop} : ∀ (l : List Oper) (s : S) (a : Act) (w : World), symR P w0 ow n ops l s K → Fits w0 ow n s a w → wpList P ops.toArray (QR w0 ow n K) l a w
  | [], s, a, w, h, hf => ⟨rfl, s, hf, h⟩
  | o :: rest, s, a, w, h, hf => by
    unfold symR at h
    split at h
    · split at h
      · rename_i hg
        exact h a w hf (by simp [Region.wanted, hg])
      · rename_i j b hg
        obtain ⟨γ, hfit⟩ := hf
        split at h
        · rename_i c hy
          have hyy := yield_of hfit hy
          split at h
          · rename_i hcb
            subst hcb
            exact h a w ⟨γ, hfit⟩ (by simp [Region.wanted, hg, hyy])
          · rename_i hcb
            unfold wpList
            rw [if_neg (by simp [Region.wanted, hg, hyy, hcb])]
            exact symR_sound rest _ _ _ h.2 ⟨γ, hfit.put hfit.sat (fun _ _ _ => rfl) h.1 rfl⟩
        · exact h.elim
    · obtain ⟨γ, hfit⟩ := hf
      split at h
      · rename_i hg
        split at h
        · rename_i c s' hs
          unfold wpList
          rw [if_pos (by simp [Region.wanted, hg])]
          exact .inl (stepO_sound hfit hs h.1 fun a' w' hf' => symR_sound rest s' a' w' h.2 hf')
        · exact h a w ⟨γ, hfit⟩ (by simp [Region.wanted, hg])
      · rename_i j b hg
        split at h
        · rename_i c hy
          have hyy := yield_of hfit hy
          split at h
          · rename_i hcb
            subst hcb
            split at h
            · rename_i c' s' hs
              unfold wpList
              rw [if_pos (by simp [Region.wanted, hg, hyy])]
              exact .inl (stepO_sound hfit hs h.1 fun a' w' hf' => symR_sound rest s' a' w' h.2 hf')
            · exact h a w ⟨γ, hfit⟩ (by simp [Region.wanted, hg, hyy])
          · rename_i hcb
            unfold wpList
            rw [if_neg (by simp [Region.wanted, hg, hyy, hcb])]
            exact symR_sound rest _ _ _ h.2 ⟨γ, hfit.put hfit.sat (fun _ _ _ => rfl) h.1 rfl⟩
        · exact h.elim
theorem symC_sound : ∀ (c : Code) (s : S) (K : Exit → S → Prop) (a : Act) (w : World), symC P w0 ow n c s K → Fits w0 ow n s a w → c.wp P (den w0 ow n K) a w
  | .skip, s, K, a, w, h, hf => wp_skip ⟨s, hf, h⟩
  | .region id ops draw, s, K, a, w, h, hf => by
    unfold symC at h
    split at h
    · rename_i hd
      subst hd
      have := h a w hf
      rwa [Array.toArray_toList] at this
    · rename_i hd
      have hd' : draw = false := by simpa using hd
      subst hd'
      refine wp_region_list ?_
      have := symR_sound _ s a w h hf
      rw [Array.toArray_toList] at this
      refine wpList_mono (fun e a' w' hq => ?_) _ _ _ this
      obtain ⟨rfl, s', h1, h2⟩ := hq
      exact ⟨s', h1, h2⟩
  | .seq x y, s, K, a, w, h, hf => by
    refine wp_seq (wp_mono (symC_sound x s _ a w h hf) fun e a' w' hq => ?_)
    obtain ⟨s', h1, h2⟩ := hq
    cases e with
    | normal => exact symC_sound y s' K a' w' h2 h1
    | exit id => exact ⟨s', h1, h2⟩
    | goto l => exact ⟨s', h1, h2⟩
    | ret => exact ⟨s', h1, h2⟩
    | panic ch => exact ⟨s', h1, h2⟩
    | outgrown => exact ⟨s', h1, h2⟩
  | .cond c x y, s, K, a, w, h, hf => by
    obtain ⟨γ, hfit⟩ := hf
    unfold symC at h
    split at h
    · rename_i b hb
      refine wp_cond (t := b) (hfit.ev hb) ?_
      cases b
      · exact symC_sound y s K a w h ⟨γ, hfit⟩
      · exact symC_sound x s K a w h ⟨γ, hfit⟩
    · exact h.elim
  | .block id c, s, K, a, w, h, hf => by
    refine wp_block (wp_mono (symC_sound c s _ a w h hf) fun e a' w' hq => ?_)
    obtain ⟨s', h1, h2⟩ := hq
    cases e with
    | normal => exact ⟨s', h1, h2⟩
    | exit i =>
      simp only [InB] at h2
      simp only [Exit.inBlock]
      split at h2
      · rename_i hi; rw [if_pos hi]; exact ⟨s', h1, h2⟩
      · rename_i hi; rw [if_neg hi]; exact ⟨s', h1, h2⟩
    | goto l => exact ⟨s', h1, h2⟩
    | ret => exact ⟨s', h1, h2⟩
    | panic ch => exact ⟨s', h1, h2⟩
    | outgrown => exact ⟨s', h1, h2⟩
  | .loop c, s, K, a, w, h, hf => h a w hf
  | .exit id, s, K, a, w, h, hf => wp_exit ⟨s, hf, h⟩
  | .ret, s, K, a, w, h, hf => wp_ret ⟨s, hf, h⟩
  | .rangeFunc _ _ _ _, _, _, _, _, h, _ => h.elim
  | .scope _, _, _, _, _, h, _ => h.elim
  | .label _, _, _, _, _, h, _ => h.elim
  | .goto _, _, _, _, _, h, _ => h.elim
  | .refuse _, _, _, _, _, h, _ => h.elim
end
end
end Go.Proofs.YtombphphaoeeiaaGreatDoor
/- The engine: calls, regions that draw their order, loops, a function from its beginning to its end. No program in sight. -/
namespace Go.Proofs.YtombphphaoeeiaaGreatDoor
open Go.RowKit
set_option linter.unusedSimpArgs false
section
variable {P : Program} {w0 : World} {ow : Nat → Prop} {n : Nat}

/-! ### Calls -/
def Callable (P : Program) (f : FuncId) : Prop := ∀ w args, (callFunc f args).run P w = .ok (.enter f args) w
theorem callable_of {f : FuncId} {fn : Func} (hf : P.funcs[f]? = some fn) (hn : (fn.name == "runtime.NumGoroutine") = false) (hb : fn.body.isNone = false) : Callable P f := by
  intro w args
  have hp : (program).run P w = .ok P w := rfl
  unfold callFunc
  rw [Sem.run_bind, hp, Result.andThen_ok]
  simp only [hf, hn, hb, Bool.false_eq_true, if_false]
  rfl
/-- A call that leaves all that is owned as it stands in hp', and hands back sv. -/
def CallOK (P : Program) (w0 : World) (ow : Nat → Prop) (f : FuncId) (svs : List Sv) (hp : List Res) (sv : Sv) (hp' : List Res) : Prop :=
  ∀ γ w, Sat w0 ow γ hp w → Calls P f (svs.map (Sv.val γ)).toArray w fun e w' => ∃ δ, e = .returned (sv.val (γ ++ δ)) ∧ Sat w0 ow (γ ++ δ) hp' w'
def evs (fr : Fr) : List Operand → Option (List Sv)
  | [] => some []
  | x :: r => match Fr.ev fr x, evs fr r with
    | some a, some l => some (a :: l)
    | _, _ => none
theorem evs_val {γ : List Nm} {s : S} {a : Act} {w : World} (h : FitsAt w0 ow n γ s a w) : ∀ {xs : List Operand} {svs : List Sv}, evs s.fr xs = some svs → xs.map a.eval = svs.map (Sv.val γ)
  | [], svs, hx => by simp only [evs, Option.some.injEq] at hx; subst hx; rfl
  | x :: r, svs, hx => by
    unfold evs at hx
    split at hx
    · rename_i b l h1 h2
      simp only [Option.some.injEq] at hx
      subst hx
      simp only [List.map_cons, h.ev h1, evs_val h h2]
    · cases hx
theorem run_call {o : Oper} {f : FuncId} {xs : Array Operand} {tys : Array TypeId} {ρ : Operand → Value} {w : World} {args : Array Value} (ho : o.op = .call { callee := .value (.func f), args := xs, argTypes := tys }) (hf : ρ (.func f) = .func (.func f) #[] #[]) (hcb : Callable P f)
    (ha : xs.map ρ = args) : (execOp ρ o).run P w = .ok (.enter f args) w := by
  unfold execOp
  simp only [ho, resolve, hf, Deferred.ofValue, Sem.run_bind, Sem.run_pure, Result.andThen_ok, invoke, ha, Array.empty_append, Array.append_empty]
  exact hcb w args
theorem call_wp {o : Oper} {f : FuncId} {xs : List Operand} {tys : Array TypeId} {s : S} {γ : List Nm} {a : Act} {w : World} {svs : List Sv} {sv : Sv} {hp' : List Res} {K : Act → World → Prop} {Q : Exit → Act → World → Prop}
    (hfit : FitsAt w0 ow n γ s a w) (ho : o.op = .call { callee := .value (.func f), args := xs.toArray, argTypes := tys }) (hcb : Callable P f) (hev : evs s.fr xs = some svs) (hc : CallOK P w0 ow f svs s.hp sv hp') (hd : dOk n o.dst) (hb : s.hp.length < hp'.length → s.bnd)
    (hK : ∀ δ a' w', FitsAt w0 ow n (γ ++ δ) (S.put ⟨s.fr, hp'⟩ o.dst sv) a' w' → K a' w') : o.wp P a w K Q := by
  unfold Oper.wp
  rw [run_call ho rfl hcb (args := (svs.map (Sv.val γ)).toArray) (by rw [List.map_toArray, evs_val hfit hev])]
  simp only [Oper.upon]
  refine (hc γ w hfit.sat).mono ?_
  rintro e w' ⟨δ, rfl, hS'⟩
  refine hK δ _ _ (hfit.put hS' (fun t sv' ht => ?_) hd rfl)
  have hl := hfit.sat.len
  have hl' := hS'.len
  rw [List.length_append] at hl'
  cases δ with
  | nil => rw [List.append_nil]
  | cons m r =>
    have hlt : s.hp.length < hp'.length := by simp at hl'; omega
    exact Sv.ext (by rw [hl]; exact (hb hlt).1 _ (Fr.get_mem ht))
theorem callG_rule {ops : List Oper} {o : Oper} {rest : List Oper} {f : FuncId} {xs : List Operand} {tys : Array TypeId} {s : S} {svs : List Sv} {K : S → Prop} (ho : o.op = .call { callee := .value (.func f), args := xs.toArray, argTypes := tys })
    (hcb : Callable P f) (hev : evs s.fr xs = some svs) {sv : Sv} {hp' : List Res} (hc : CallOK P w0 ow f svs s.hp sv hp') (hd : dOk n o.dst) (hb : s.hp.length < hp'.length → s.bnd)
    (h : symR P w0 ow n ops rest (S.put ⟨s.fr, hp'⟩ o.dst sv) K) : CallG P w0 ow n ops o rest s K := by
  rintro a w ⟨γ, hfit⟩ hw
  unfold wpList
  rw [if_pos hw]
  exact .inl (call_wp hfit ho hcb hev hc hd hb fun δ a' w' hf => symR_sound rest _ _ _ h ⟨_, hf⟩)

/-! ### What calls do -/
theorem callOK_v {f : FuncId} {svs : List Sv} {hp : List Res} {sv : Sv} (h : ∀ γ w, Sat w0 ow γ hp w → Calls P f (svs.map (Sv.val γ)).toArray w fun e w' => e = .returned (sv.val γ) ∧ Below w.heap.size w w') : CallOK P w0 ow f svs hp sv hp :=
  fun γ w hS => (h γ w hS).mono fun e w' ⟨he, hb⟩ => ⟨[], by rw [List.append_nil]; exact he, by rw [List.append_nil]; exact hS.later hb⟩
theorem Own.base0 {w : World} {b : Nat} {e : TypeId} {v : Value} {vs : List Value} (h : Own w b e v vs) : Own w 0 e v vs :=
  ⟨h.1, h.2.imp id fun ⟨g, cap, cur, h1, _, h3⟩ => ⟨g, cap, cur, h1, Nat.zero_le _, h3⟩⟩
/-- A slice of its own handed back. -/
theorem Sat.got {γ : List Nm} {hp : List Res} {w w' : World} (hS : Sat w0 ow γ hp w) (hbr : ∀ r ∈ hp, Res.bnd hp.length r) (hb : Below w.heap.size w w') {e : TypeId} {v : Value} {c : Cont} (hc : c.bnd hp.length) (ho : Own w' w.heap.size e v (c.vals γ)) :
    Sat w0 ow (γ ++ [.s v]) (hp ++ [.own e c]) w' := by
  have hl := hS.len
  refine hS.push (X := fun _ => False) (Keeps.of_below (own := fun _ => False) hb) (fun b h => h.elim) hbr ⟨by rw [get_last hl, nmS_last hl], ?_⟩ ?_
  · rw [nmS_last hl, Cont.ext (by rw [hl]; exact hc)]
    exact ho.base0
  · intro n hn
    simp only [Res.has, nmS_last hl] at hn
    have := ho.lt n hn
    exact ⟨.inr this.1, this.2⟩
theorem callOK_own {f : FuncId} {svs : List Sv} {hp : List Res} {e : TypeId} {c : Cont} (hbr : ∀ r ∈ hp, Res.bnd hp.length r) (hcb : c.bnd hp.length)
    (h : ∀ γ w, Sat w0 ow γ hp w → Calls P f (svs.map (Sv.val γ)).toArray w fun en w' => ∃ v', en = .returned v' ∧ Own w' w.heap.size e v' (c.vals γ) ∧ Below w.heap.size w w') : CallOK P w0 ow f svs hp (.x (.a (.o hp.length))) (hp ++ [.own e c]) :=
  fun γ w hS => (h γ w hS).mono fun en w' ⟨v', he, ho, hb⟩ => ⟨[.s v'], by rw [he]; simp [Sv.val, Sc.val, At.val, nmS_last hS.len], hS.got hbr hb hcb ho⟩
/-- The same, and something beside it that is spelled without names. -/
theorem callOK_own2 {f : FuncId} {svs : List Sv} {hp : List Res} {e : TypeId} {c : Cont} {y : Value} (hbr : ∀ r ∈ hp, Res.bnd hp.length r) (hcb : c.bnd hp.length)
    (h : ∀ γ w, Sat w0 ow γ hp w → Calls P f (svs.map (Sv.val γ)).toArray w fun en w' => ∃ v', en = .returned (.tuple #[v', y]) ∧ Own w' w.heap.size e v' (c.vals γ) ∧ Below w.heap.size w w') : CallOK P w0 ow f svs hp (.t [.a (.o hp.length), .a (.v y)]) (hp ++ [.own e c]) :=
  fun γ w hS => (h γ w hS).mono fun en w' ⟨v', he, ho, hb⟩ => ⟨[.s v'], by rw [he]; simp [Sv.val, Sc.val, At.val, nmS_last hS.len], hS.got hbr hb hcb ho⟩
/-! ### A region that draws its order -/
def takes (rd : Bool) (o : Op) (s s' : S) : Prop := if rd = true then isRead o = true ∧ s'.hp = s.hp else s'.hp.take s.hp.length = s.hp
def CallM (P : Program) (w0 : World) (ow : Nat → Prop) (n : Nat) (ops : List Oper) (o : Oper) (p : List (Nat × Bool)) (s : S) (K : S → Prop) : Prop :=
  ∀ γ a w, FitsAt w0 ow n γ s a w → o.wp P a w (fun a' w' => ∃ C2 : World → Prop, C2 w' ∧ (∀ x, C2 x → Sat w0 ow γ s.hp x) ∧ wpMix P ops.toArray (fun a' w' => ∃ s', Fits w0 ow n s' a' w' ∧ K s') p C2 a' w') NoQ
/-- An operation that the engine does not know, and what stands behind it. -/
def AnyM (P : Program) (w0 : World) (ow : Nat → Prop) (n : Nat) (ops : List Oper) (i : Nat) (rd : Bool) (o : Oper) (p : List (Nat × Bool)) (s : S) (K : S → Prop) : Prop :=
  ∀ γ a w, FitsAt w0 ow n γ s a w → Region.wanted o (yielded ops.toArray a.tmps) = true → ops[i]? = some o → wpMix P ops.toArray (fun a' w' => ∃ s', Fits w0 ow n s' a' w' ∧ K s') ((i, rd) :: p) (fun x => Sat w0 ow γ s.hp x) a w
def symM (P : Program) (w0 : World) (ow : Nat → Prop) (n : Nat) (ops : List Oper) : List (Nat × Bool) → S → (S → Prop) → Prop
  | [], s, K => K s
  | (i, rd) :: p, s, K => match ops[i]? with
    | none => False
    | some o =>
      if isCall o.op = true then (match o.guard with
      | none => rd = false ∧ CallM P w0 ow n ops o p s K
      | some (j, b) => match yieldS ops s.fr j b with
        | some c => if c = b then rd = false ∧ CallM P w0 ow n ops o p s K else dOk n o.dst ∧ symM P w0 ow n ops p (s.put o.dst nil1) K
        | none => False)
      else match o.guard with
      | none => match stepO P w0 ow n o s with
        | some (c, s') => c ∧ takes rd o.op s s' ∧ symM P w0 ow n ops p s' K
        | none => AnyM P w0 ow n ops i rd o p s K
      | some (j, b) => match yieldS ops s.fr j b with
        | some c => if c = b then (match stepO P w0 ow n o s with | some (c, s') => c ∧ takes rd o.op s s' ∧ symM P w0 ow n ops p s' K | none => AnyM P w0 ow n ops i rd o p s K) else dOk n o.dst ∧ symM P w0 ow n ops p (s.put o.dst nil1) K
        | none => False
theorem symM_nil {ops : List Oper} {s : S} {K : S → Prop} : symM P w0 ow n ops [] s K = K s := Eq.trans rfl rfl
theorem symM_cons {ops : List Oper} {i : Nat} {rd : Bool} {p : List (Nat × Bool)} {s : S} {K : S → Prop} : symM P w0 ow n ops ((i, rd) :: p) s K = (match ops[i]? with
    | none => False
    | some o =>
      if isCall o.op = true then (match o.guard with
      | none => rd = false ∧ CallM P w0 ow n ops o p s K
      | some (j, b) => match yieldS ops s.fr j b with
        | some c => if c = b then rd = false ∧ CallM P w0 ow n ops o p s K else dOk n o.dst ∧ symM P w0 ow n ops p (s.put o.dst nil1) K
        | none => False)
      else match o.guard with
      | none => match stepO P w0 ow n o s with
        | some (c, s') => c ∧ takes rd o.op s s' ∧ symM P w0 ow n ops p s' K
        | none => AnyM P w0 ow n ops i rd o p s K
      | some (j, b) => match yieldS ops s.fr j b with
        | some c => if c = b then (match stepO P w0 ow n o s with | some (c, s') => c ∧ takes rd o.op s s' ∧ symM P w0 ow n ops p s' K | none => AnyM P w0 ow n ops i rd o p s K) else dOk n o.dst ∧ symM P w0 ow n ops p (s.put o.dst nil1) K
        | none => False) := Eq.trans rfl rfl
theorem Sat.front {γ δ : List Nm} {hp rs : List Res} {w : World} (hS : Sat w0 ow (γ ++ δ) (hp ++ rs) w) (hl : γ.length = hp.length) (hbr : ∀ r ∈ hp, Res.bnd hp.length r) : Sat w0 ow γ hp w := by
  have at_ : ∀ (k : Nat) (r : Res), hp[k]? = some r → (hp ++ rs)[k]? = some r := fun k r hr => by rw [List.getElem?_append_left (lt_of_get hr)]; exact hr
  have back : ∀ (k : Nat) (r : Res), hp[k]? = some r → r.holds (γ ++ δ) k w → r.holds γ k w := by
    intro k r hr h
    have hk : k < γ.length := by rw [hl]; exact lt_of_get hr
    have hb : r.bnd γ.length := by rw [hl]; exact hbr r (List.mem_of_getElem? hr)
    cases r with
    | gone => trivial
    | blk t c => simp only [Res.holds, nmB_ext hk, getElem?_ext hk] at h ⊢; rw [Cont.ext hb] at h; exact h
    | own e c => simp only [Res.holds, nmS_ext hk, getElem?_ext hk] at h ⊢; rw [Cont.ext hb] at h; exact h
    | lit e c => simp only [Res.holds, nmB_ext hk, getElem?_ext hk] at h ⊢; rw [Cont.ext hb] at h; exact h
    | str e c => simp only [Res.holds, nmS_ext hk, getElem?_ext hk] at h ⊢; rw [Cont.ext hb] at h; exact h
    | it s pos => simp only [Res.holds, nmB_ext hk, getElem?_ext hk] at h ⊢; exact h
    | pin g t c => simp only [Res.holds, nmB_ext hk, getElem?_ext hk] at h ⊢; rw [Cont.ext hb] at h; exact h
    | onn e m c => simp only [Res.holds, nmS_ext hk, getElem?_ext hk] at h ⊢; rw [Cont.ext hb] at h; exact h
    | abs R => simp only [Res.holds, nmS_ext hk, nmM_ext hk, getElem?_ext hk] at h ⊢; exact h
    | mp q l => simp only [Res.holds, nmS_ext hk, getElem?_ext hk] at h ⊢; rw [mpE_ext hb] at h; exact h
  refine ⟨hS.keeps, hl, fun k r hr => back k r hr (hS.holds k r (at_ k r hr)), fun k r b hr hb => ?_, fun j k r r' b hr hr' hjk hb hb' => ?_⟩
  · exact hS.mine k r b (at_ k r hr) (by rw [Res.has_ext (by rw [hl]; exact lt_of_get hr)]; exact hb)
  · exact hS.apart j k r r' b (at_ j r hr) (at_ k r' hr') hjk (by rw [Res.has_ext (by rw [hl]; exact lt_of_get hr)]; exact hb) (by rw [Res.has_ext (by rw [hl]; exact lt_of_get hr')]; exact hb')
theorem stepO_mix {o : Oper} {c : Prop} {rd : Bool} {ops : List Oper} {p : List (Nat × Bool)} {s s' : S} {γ : List Nm} {a : Act} {w : World} {QK : Act → World → Prop} (h : FitsAt w0 ow n γ s a w) (hs : stepO P w0 ow n o s = some (c, s')) (hc : c) (ht : takes rd o.op s s') (hw : Region.wanted o (yielded ops.toArray a.tmps) = true) {i : Nat} (hi : ops[i]? = some o)
    (hK : ∀ γ' a' w', FitsAt w0 ow n γ' s' a' w' → wpMix P ops.toArray QK p (fun x => Sat w0 ow γ' s'.hp x) a' w') : wpMix P ops.toArray QK ((i, rd) :: p) (fun x => Sat w0 ow γ s.hp x) a w := by
  have hs0 := hs
  unfold stepO at hs
  split at hs
  · rename_i d v hp' hop
    simp only [Option.some.injEq, Prod.mk.injEq] at hs
    obtain ⟨rfl, rfl⟩ := hs
    obtain ⟨⟨h1, h2⟩, h3⟩ := hc
    simp only [wpMix, List.getElem?_toArray, hi, hw, if_true]
    cases rd
    · simp only [takes, Bool.false_eq_true, if_false] at ht ⊢
      obtain ⟨γ', w', hS', hγ, hr⟩ := op1_sound (P := P) (ρ := a.eval) (o := o) h.sat (fun x sv hx => h.ev hx) hop h1 (fun hlt => ⟨fun x sv hx => ev_bnd (h3 hlt).1 hx, (h3 hlt).2⟩)
      have hhp : (S.put ⟨s.fr, hp'⟩ o.dst v).hp = hp' := by cases o.dst <;> rfl
      rw [hhp] at ht
      have hg : ∀ t sv, Fr.get s.fr t = some sv → sv.val γ' = sv.val γ := by
        intro t sv ht
        rcases hγ with rfl | ⟨hlt, nm, rfl⟩
        · rfl
        · exact Sv.ext (by rw [h.sat.len]; exact (h3 hlt).1 _ (Fr.get_mem ht))
      have hback : ∀ x, Sat w0 ow γ' hp' x → Sat w0 ow γ s.hp x := by
        intro x hx
        rcases hγ with rfl | ⟨hlt, nm, rfl⟩
        · have hl1 := h.sat.len
          have hl2 := hS'.len
          have : hp' = s.hp := by rw [← ht, List.take_of_length_le (by omega)]
          rw [← this]; exact hx
        · rw [← List.take_append_drop s.hp.length hp', ht] at hx
          exact hx.front h.sat.len (h3 hlt).2
      have hfin : ∀ x, x = v.val γ' → wpMix P ops.toArray QK p (fun x => Sat w0 ow γ' hp' x) (a.put o.dst x) w' := fun x hx => by
        have := hK γ' _ w' (h.put hS' hg h2 hx)
        rw [hhp] at this
        exact this
      unfold Oper.wp
      rcases hr with hr | ⟨hr, hv⟩
      · rw [hr]
        exact ⟨_, hS', hback, hfin _ rfl⟩
      · rw [hr]
        subst hv
        exact ⟨_, hS', hback, hfin _ rfl⟩
    · simp only [takes, if_true] at ht ⊢
      obtain ⟨ht, hsm⟩ := ht
      have hsame : hp' = s.hp := by rw [← hsm]; cases o.dst <;> rfl
      obtain ⟨rfl, _⟩ := op1_read (P := P) (ρ := a.eval) (o := o) ht hsame h.sat (fun x sv hx => h.ev hx) hop h1
      have hhp : (S.put ⟨s.fr, s.hp⟩ o.dst v).hp = s.hp := by cases o.dst <;> rfl
      refine ⟨v.val γ, fun x hx => ?_, ?_⟩
      · obtain ⟨_, hr⟩ := op1_read (P := P) (w := x) (ρ := a.eval) (o := o) ht rfl hx (fun x sv hx => h.ev hx) hop h1
        unfold readAt
        rw [hr]
        exact ⟨rfl, rfl⟩
      · have := hK γ _ w (h.put h.sat (fun _ _ _ => rfl) h2 rfl)
        rw [hhp] at this
        exact this
  · cases hs
theorem symM_sound {ops : List Oper} {K : S → Prop} : ∀ (p : List (Nat × Bool)) (s : S) (γ : List Nm) (a : Act) (w : World), symM P w0 ow n ops p s K → FitsAt w0 ow n γ s a w →
    wpMix P ops.toArray (fun a' w' => ∃ s', Fits w0 ow n s' a' w' ∧ K s') p (fun x => Sat w0 ow γ s.hp x) a w
  | [], s, γ, a, w, h, hf => ⟨s, ⟨γ, hf⟩, h⟩
  | (i, rd) :: p, s, γ, a, w, h, hf => by
    unfold symM at h
    split at h
    · exact h.elim
    · rename_i o hi
      split at h
      · split at h
        · rename_i hg
          obtain ⟨rfl, hm⟩ := h
          have := hm γ a w hf
          simp only [wpMix, List.getElem?_toArray, hi]
          rw [if_pos (by simp [Region.wanted, hg])]
          simpa using this
        · rename_i j b hg
          split at h
          · rename_i c hy
            have hyy := yield_of hf hy
            split at h
            · rename_i hcb
              subst hcb
              obtain ⟨rfl, hm⟩ := h
              have := hm γ a w hf
              simp only [wpMix, List.getElem?_toArray, hi]
              rw [if_pos (by simp [Region.wanted, hg, hyy])]
              simpa using this
            · rename_i hcb
              simp only [wpMix, List.getElem?_toArray, hi]
              rw [if_neg (by simp [Region.wanted, hg, hyy, hcb])]
              have := symM_sound p _ γ _ _ h.2 (hf.put hf.sat (fun _ _ _ => rfl) h.1 rfl)
              have hhp : (S.put ⟨s.fr, s.hp⟩ o.dst nil1).hp = s.hp := by cases o.dst <;> rfl
              rw [hhp] at this
              exact this
          · exact h.elim
      · split at h
        · rename_i hg
          split at h
          · rename_i c s' hs
            exact stepO_mix hf hs h.1 h.2.1 (by simp [Region.wanted, hg]) hi fun γ' a' w' hf' => symM_sound p s' γ' a' w' h.2.2 hf'
          · exact h γ a w hf (by simp [Region.wanted, hg]) hi
        · rename_i j b hg
          split at h
          · rename_i c hy
            have hyy := yield_of hf hy
            split at h
            · rename_i hcb
              subst hcb
              split at h
              · rename_i c' s' hs
                exact stepO_mix hf hs h.1 h.2.1 (by simp [Region.wanted, hg, hyy]) hi fun γ' a' w' hf' => symM_sound p s' γ' a' w' h.2.2 hf'
              · exact h γ a w hf (by simp [Region.wanted, hg, hyy]) hi
            · rename_i hcb
              simp only [wpMix, List.getElem?_toArray, hi]
              rw [if_neg (by simp [Region.wanted, hg, hyy, hcb])]
              have := symM_sound p _ γ _ _ h.2 (hf.put hf.sat (fun _ _ _ => rfl) h.1 rfl)
              have hhp : (S.put ⟨s.fr, s.hp⟩ o.dst nil1).hp = s.hp := by cases o.dst <;> rfl
              rw [hhp] at this
              exact this
          · exact h.elim
theorem callM_rule {ops : List Oper} {o : Oper} {p : List (Nat × Bool)} {f : FuncId} {xs : List Operand} {tys : Array TypeId} {s : S} {svs : List Sv} {K : S → Prop} (ho : o.op = .call { callee := .value (.func f), args := xs.toArray, argTypes := tys })
    (hcb : Callable P f) (hev : evs s.fr xs = some svs) {sv : Sv} {hp' : List Res} (hc : CallOK P w0 ow f svs s.hp sv hp') (hd : dOk n o.dst) (hb : s.hp.length < hp'.length → s.bnd) (he : hp'.take s.hp.length = s.hp)
    (h : symM P w0 ow n ops p (S.put ⟨s.fr, hp'⟩ o.dst sv) K) : CallM P w0 ow n ops o p s K := by
  intro γ a w hf
  refine call_wp hf ho hcb hev hc hd hb fun δ a' w' hf' => ?_
  have hhp : (S.put ⟨s.fr, hp'⟩ o.dst sv).hp = hp' := by cases o.dst <;> rfl
  have hsat := hf'.sat
  rw [hhp] at hsat
  have h2 := symM_sound p _ _ _ _ h hf'
  rw [hhp] at h2
  refine ⟨_, hsat, fun x hx => ?_, h2⟩
  have hl := hf.sat.len
  have hl' := hsat.len
  rw [List.length_append] at hl'
  rw [← List.take_append_drop s.hp.length hp', he] at hx
  cases δ with
  | nil =>
    have : hp'.drop s.hp.length = [] := by rw [List.drop_eq_nil_iff]; simp at hl'; omega
    rw [this, List.append_nil, List.append_nil] at hx
    exact hx
  | cons m r => exact hx.front hl (hb (by simp at hl'; omega)).2
theorem Fits.drawn {s : S} {a : Act} {w w' : World} {γ : List Nm} (h : FitsAt w0 ow n γ s a w) (hd : Drawn w w') : FitsAt w0 ow n γ s a w' := ⟨h.sat.drawn hd, h.defers, h.size, h.at_⟩
/-- A region that draws its order: one walk, in the order of the list. -/
theorem draw_rule {id : Nat} {ops : List Oper} {s : S} {K : Exit → S → Prop} (p : List (Nat × Bool)) (hm : P.follows .mixedOrders = true) (hs : Region.noSelect ops.toArray = true) (hp : p.length = ops.length) (hB : mixB .any ops.toArray p (Array.replicate ops.length false) = true)
    (h : symM P w0 ow n ops p s (K .normal)) : DrawG P w0 ow n id ops s K := by
  rintro a w ⟨γ, hf⟩
  refine wp_region_mix p hm hs hp hB (fun x => Sat w0 ow γ s.hp x) fun w2 hd => ?_
  have hf2 := Fits.drawn hf hd.out
  exact ⟨hf2.sat, symM_sound p s γ a w2 h hf2⟩
theorem wpMix_mono {ops : Array Oper} {Q Q' : Act → World → Prop} (hq : ∀ a w, Q a w → Q' a w) : ∀ (p : List (Nat × Bool)) (C : World → Prop) (a : Act) (w : World), wpMix P ops Q p C a w → wpMix P ops Q' p C a w
  | [], _, a, w, h => hq a w h
  | (i, rd) :: p, C, a, w, h => by
    unfold wpMix at h ⊢
    split
    · rename_i ho; simp only [ho] at h
    · rename_i o ho
      simp only [ho] at h
      split
      · rename_i hw
        simp only [hw, if_true] at h
        split
        · rename_i hr
          simp only [hr, if_true] at h
          obtain ⟨v, h1, h2⟩ := h
          exact ⟨v, h1, wpMix_mono hq p _ _ _ h2⟩
        · rename_i hr
          simp only [hr] at h
          exact wp_mono2 (fun a' w' ⟨C2, h1, h2, h3⟩ => ⟨C2, h1, h2, wpMix_mono hq p _ _ _ h3⟩) h
      · rename_i hw
        simp only [hw] at h
        exact wpMix_mono hq p _ _ _ h
/-- The same, with a tail of operations that wait for all of the head: these may turn what they like. -/
theorem drawT_rule {id : Nat} {ops : List Oper} {s : S} {K : Exit → S → Prop} (m : Nat) (p : List (Nat × Bool)) (hm : P.follows .mixedOrders = true) (hB : mixTailB .any ops.toArray m p = true)
    (h : symM P w0 ow n ops p s (fun s' => symR P w0 ow n ops (ops.drop m) s' (K .normal))) : DrawG P w0 ow n id ops s K := by
  rintro a w ⟨γ, hf⟩
  refine wp_region_mixT m p hm hB (fun x => Sat w0 ow γ s.hp x) fun w2 hd => ?_
  have hf2 := Fits.drawn hf hd.out
  refine ⟨hf2.sat, wpMix_mono (fun a' w' hq => ?_) _ _ _ _ (symM_sound p s γ a w2 h hf2)⟩
  obtain ⟨s', h1, h2⟩ := hq
  refine wpList_mono (fun e a'' w'' hq => ?_) _ _ _ (symR_sound _ s' a' w' h2 h1)
  obtain ⟨rfl, s'', h3, h4⟩ := hq
  exact ⟨s'', h3, h4⟩
end
end Go.Proofs.YtombphphaoeeiaaGreatDoor
/- The engine: loops; a function from its beginning to its end. No program in sight. -/
namespace Go.Proofs.YtombphphaoeeiaaGreatDoor
open Go.RowKit
set_option linter.unusedSimpArgs false

/-! ### Names told anew: what a loop's head says, out of what stands -/
def rn (ρ : List Nat) (k : Nat) : Nat := ρ.getD k 0
def At.ren (ρ : List Nat) : At → At
  | .v x => .v x
  | .p k off => .p (rn ρ k) off
  | .s k off len cap => .s (rn ρ k) off len cap
  | .o k => .o (rn ρ k)
  | .q k i => .q (rn ρ k) i
  | .z k l m => .z (rn ρ k) l m
  | .y k m l n => .y (rn ρ k) m l n
def Sc.ren (ρ : List Nat) : Sc → Sc
  | .a x => .a (x.ren ρ)
  | .a8 l => .a8 l
  | .a32 l => .a32 l
  | .a64 l => .a64 l
  | .g l => .g (l.map (At.ren ρ))
def Sv.ren (ρ : List Nat) : Sv → Sv
  | .x s => .x (s.ren ρ)
  | .t l => .t (l.map (Sc.ren ρ))
  | .f fn caps => .f fn (caps.map (At.ren ρ))
def Cont.ren (ρ : List Nat) : Cont → Cont
  | .c l => .c (l.map (At.ren ρ))
  | k => k
def mpRen (ρ : List Nat) (l : List (Int × Sc)) : List (Int × Sc) := l.map fun p => (p.1, p.2.ren ρ)
theorem mpRen_nil (ρ : List Nat) : mpRen ρ [] = [] := rfl
theorem mpRen_cons (ρ : List Nat) (p : Int × Sc) (l : List (Int × Sc)) : mpRen ρ (p :: l) = (p.1, p.2.ren ρ) :: mpRen ρ l := rfl
def Res.ren (ρ : List Nat) : Res → Res
  | .blk t c => .blk t (c.ren ρ)
  | .own e c => .own e (c.ren ρ)
  | .lit e c => .lit e (c.ren ρ)
  | .str e c => .str e (c.ren ρ)
  | .it s pos => .it s pos
  | .pin g t c => .pin g t (c.ren ρ)
  | .onn e m c => .onn e m (c.ren ρ)
  | .abs R => .abs R
  | .mp q l => .mp q (mpRen ρ l)
  | .gone => .gone
def leFr (ρ : List Nat) (fr : Fr) : Fr → Prop
  | [] => True
  | (t, sv) :: r => Fr.get fr t = some (sv.ren ρ) ∧ leFr ρ fr r
def leHp (ρ : List Nat) (hp : List Res) : List Nat → List Res → Prop
  | [], [] => True
  | k :: ks, r :: rs => hp[k]? = some (r.ren ρ) ∧ leHp ρ hp ks rs
  | _, _ => False
def allNe (k : Nat) : List Nat → Prop
  | [] => True
  | j :: r => j ≠ k ∧ allNe k r
def ndup : List Nat → Prop
  | [] => True
  | k :: r => allNe k r ∧ ndup r
theorem allNe_not {k : Nat} : ∀ {l : List Nat}, allNe k l → k ∉ l
  | [], _ => by simp
  | j :: r, h => by
    simp only [List.mem_cons, not_or]
    exact ⟨fun e => h.1 e.symm, allNe_not h.2⟩
theorem ndup_nodup : ∀ {l : List Nat}, ndup l → l.Nodup
  | [], _ => List.nodup_nil
  | _ :: _, h => List.nodup_cons.2 ⟨allNe_not h.1, ndup_nodup h.2⟩
/-- s' says less than s, its names read by ρ. -/
def Le (ρ : List Nat) (s s' : S) : Prop := leFr ρ s.fr s'.fr ∧ leHp ρ s.hp ρ s'.hp ∧ ndup ρ ∧ s'.bnd
section
variable {P : Program} {w0 : World} {ow : Nat → Prop} {n : Nat}
def reγ (ρ : List Nat) (γ : List Nm) : List Nm := ρ.map fun j => γ.getD j (.b 0)
theorem re_get {ρ : List Nat} {γ : List Nm} {k : Nat} (hk : k < ρ.length) (hj : rn ρ k < γ.length) : (reγ ρ γ)[k]? = γ[rn ρ k]? := by
  have e : rn ρ k = ρ[k] := by simp [rn, List.getD_eq_getElem?_getD, List.getElem?_eq_getElem hk]
  rw [e] at hj ⊢
  simp [reγ, List.getElem?_eq_getElem hk, List.getD_eq_getElem?_getD, List.getElem?_eq_getElem hj]
section
variable {ρ : List Nat} {γ : List Nm} (hρ : ∀ k, k < ρ.length → rn ρ k < γ.length)
include hρ
theorem re_nmB {k : Nat} (hk : k < ρ.length) : nmB (reγ ρ γ) k = nmB γ (rn ρ k) := by unfold nmB; rw [re_get hk (hρ k hk)]
theorem re_nmM {k : Nat} (hk : k < ρ.length) : nmM (reγ ρ γ) k = nmM γ (rn ρ k) := by unfold nmM; rw [re_get hk (hρ k hk)]
theorem re_nmS {k : Nat} (hk : k < ρ.length) : nmS (reγ ρ γ) k = nmS γ (rn ρ k) := by unfold nmS; rw [re_get hk (hρ k hk)]
theorem At.re {x : At} (h : x.bnd ρ.length) : x.val (reγ ρ γ) = (x.ren ρ).val γ := by
  cases x <;> simp only [At.bnd] at h <;> simp only [At.val, At.ren]
  · rw [re_nmB hρ h]
  · rw [re_nmB hρ h]
  · rw [re_nmS hρ h]
  · rw [re_nmS hρ h]
  · rw [re_nmS hρ h]
  · rw [re_nmS hρ h]
theorem mapAt_re {l : List At} (h : ∀ x ∈ l, x.bnd ρ.length) : l.map (At.val (reγ ρ γ)) = (l.map (At.ren ρ)).map (At.val γ) := by
  rw [List.map_map]
  exact List.map_congr_left fun x hx => At.re hρ (h x hx)
theorem Sc.re {x : Sc} (h : x.bnd ρ.length) : x.val (reγ ρ γ) = (x.ren ρ).val γ := by
  cases x <;> simp only [Sc.bnd] at h <;> simp only [Sc.val, Sc.ren]
  · exact At.re hρ h
  · rw [mapAt_re hρ h]
theorem Sv.re {x : Sv} (h : x.bnd ρ.length) : x.val (reγ ρ γ) = (x.ren ρ).val γ := by
  cases x <;> simp only [Sv.bnd] at h <;> simp only [Sv.val, Sv.ren]
  · exact Sc.re hρ h
  · rename_i l
    rw [List.map_map, show l.map (Sc.val (reγ ρ γ)) = l.map (Sc.val γ ∘ Sc.ren ρ) from List.map_congr_left fun x hx => Sc.re hρ (h x hx)]
  · rw [mapAt_re hρ h]
theorem Cont.re {c : Cont} (h : c.bnd ρ.length) : c.vals (reγ ρ γ) = (c.ren ρ).vals γ := by
  cases c <;> simp only [Cont.bnd] at h <;> simp only [Cont.vals, Cont.ren]
  exact mapAt_re hρ h
theorem mpE_re {q : IntKind} {l : List (Int × Sc)} (h : ∀ p ∈ l, Sc.bnd ρ.length p.2) : mpE (reγ ρ γ) q l = mpE γ q (mpRen ρ l) := by
  unfold mpE mpRen
  rw [List.map_map]
  exact List.map_congr_left fun p hp => by simp only [Function.comp, Sc.re hρ (h p hp)]
end
theorem leFr_get {ρ : List Nat} {fr : Fr} : ∀ {fr' : Fr}, leFr ρ fr fr' → ∀ t sv, Fr.get fr' t = some sv → Fr.get fr t = some (sv.ren ρ)
  | [], _, t, sv, h => by cases h
  | (k, x) :: r, hle, t, sv, h => by
    simp only [Fr.get] at h
    split at h
    · rename_i hk
      subst hk
      cases h
      exact hle.1
    · exact leFr_get hle.2 t sv h
theorem leHp_get {ρ : List Nat} {hp : List Res} : ∀ {ks : List Nat} {rs : List Res}, leHp ρ hp ks rs → ks.length = rs.length ∧ ∀ (k : Nat) (r : Res), rs[k]? = some r → hp[ks.getD k 0]? = some (r.ren ρ)
  | [], [], _ => ⟨rfl, fun k r h => by simp at h⟩
  | j :: ks, q :: rs, hle => by
    obtain ⟨h1, h2⟩ := leHp_get hle.2
    refine ⟨by simp [h1], fun k r h => ?_⟩
    cases k with
    | zero => simp only [List.getElem?_cons_zero, Option.some.injEq] at h; subst h; exact hle.1
    | succ k => exact h2 k r (by simpa using h)
  | [], _ :: _, h => h.elim
  | _ :: _, [], h => h.elim
theorem Le.fits {ρ : List Nat} {s s' : S} (hle : Le ρ s s') {a : Act} {w : World} (h : Fits w0 ow n s a w) : Fits w0 ow n s' a w := by
  obtain ⟨γ, hf⟩ := h
  obtain ⟨h1, h2, h3', h4⟩ := hle
  have h3 := ndup_nodup h3'
  obtain ⟨hlen, hget⟩ := leHp_get h2
  have hl := hf.sat.len
  have hρ : ∀ k, k < ρ.length → rn ρ k < γ.length := fun k hk => by
    have hk' : k < s'.hp.length := by omega
    have := hget k _ (List.getElem?_eq_getElem hk')
    have := lt_of_get this
    rw [hl]; exact this
  have hb1 : ∀ x ∈ s'.fr, Sv.bnd ρ.length x.2 := fun x hx => by rw [hlen]; exact h4.1 x hx
  have hb2 : ∀ r ∈ s'.hp, Res.bnd ρ.length r := fun x hx => by rw [hlen]; exact h4.2 x hx
  have hres : ∀ (k : Nat) (r : Res), s'.hp[k]? = some r → s.hp[rn ρ k]? = some (r.ren ρ) := fun k r hr => hget k r hr
  have hblk : ∀ (k : Nat) (r : Res), s'.hp[k]? = some r → r.has (reγ ρ γ) k = (r.ren ρ).has γ (rn ρ k) := by
    intro k r hr
    have hk : k < ρ.length := by have := lt_of_get hr; omega
    cases r with
    | gone => rfl
    | blk t c => simp only [Res.has, Res.ren, re_nmB hρ hk]
    | own e c => simp only [Res.has, Res.ren, re_nmS hρ hk]
    | lit e c => simp only [Res.has, Res.ren, re_nmB hρ hk]
    | str e c => simp only [Res.has, Res.ren, re_nmS hρ hk]
    | it s pos => simp only [Res.has, Res.ren, re_nmB hρ hk]
    | pin g t c => simp only [Res.has, Res.ren, re_nmB hρ hk]
    | onn e m c => simp only [Res.has, Res.ren, re_nmS hρ hk]
    | abs R => simp only [Res.has, Res.ren, re_nmM hρ hk]
    | mp q l => simp only [Res.has, Res.ren, re_nmS hρ hk]
  have hinj : ∀ j k, j < ρ.length → k < ρ.length → j ≠ k → rn ρ j ≠ rn ρ k := by
    intro j k hj hk hjk he
    have e1 : rn ρ j = ρ[j] := by simp [rn, List.getD_eq_getElem?_getD, List.getElem?_eq_getElem hj]
    have e2 : rn ρ k = ρ[k] := by simp [rn, List.getD_eq_getElem?_getD, List.getElem?_eq_getElem hk]
    rw [e1, e2] at he
    exact hjk ((List.getElem_inj h3).1 he)
  refine ⟨reγ ρ γ, ⟨hf.sat.keeps, by simp [reγ, hlen], fun k r hr => ?_, fun k r b hr hb => ?_, fun j k r r' b hr hr' hjk hb hb' => ?_⟩, hf.defers, hf.size, fun t sv ht => ?_⟩
  · have hk : k < ρ.length := by have := lt_of_get hr; omega
    have hq := hf.sat.holds _ _ (hres k r hr)
    have hbd := hb2 r (List.mem_of_getElem? hr)
    cases r with
    | gone => trivial
    | blk t c =>
      simp only [Res.holds, Res.ren] at hq ⊢
      rw [re_get hk (hρ k hk), re_nmB hρ hk, Cont.re hρ hbd]
      exact hq
    | own e c =>
      simp only [Res.holds, Res.ren] at hq ⊢
      rw [re_get hk (hρ k hk), re_nmS hρ hk, Cont.re hρ hbd]
      exact hq
    | lit e c =>
      simp only [Res.holds, Res.ren] at hq ⊢
      rw [re_get hk (hρ k hk), re_nmB hρ hk, Cont.re hρ hbd]
      exact hq
    | str e c =>
      simp only [Res.holds, Res.ren] at hq ⊢
      rw [re_get hk (hρ k hk), re_nmS hρ hk, Cont.re hρ hbd]
      exact hq
    | it s pos =>
      simp only [Res.holds, Res.ren] at hq ⊢
      rw [re_get hk (hρ k hk), re_nmB hρ hk]
      exact hq
    | pin g t c =>
      simp only [Res.holds, Res.ren] at hq ⊢
      rw [re_get hk (hρ k hk), re_nmB hρ hk, Cont.re hρ hbd]
      exact hq
    | onn e m c =>
      simp only [Res.holds, Res.ren] at hq ⊢
      rw [re_get hk (hρ k hk), re_nmS hρ hk, Cont.re hρ hbd]
      exact hq
    | abs R =>
      simp only [Res.holds, Res.ren] at hq ⊢
      rw [re_get hk (hρ k hk), re_nmS hρ hk, re_nmM hρ hk]
      exact hq
    | mp q l =>
      simp only [Res.holds, Res.ren] at hq ⊢
      rw [re_get hk (hρ k hk), re_nmS hρ hk, mpE_re hρ hbd]
      exact hq
  · rw [hblk k r hr] at hb
    exact hf.sat.mine _ _ b (hres k r hr) hb
  · rw [hblk j r hr] at hb
    rw [hblk k r' hr'] at hb'
    exact hf.sat.apart _ _ _ _ b (hres j r hr) (hres k r' hr') (hinj j k (by have := lt_of_get hr; omega) (by have := lt_of_get hr'; omega) hjk) hb hb'
  · have h5 := leFr_get h1 t sv ht
    rw [hf.at_ t _ h5, Sv.re hρ (hb1 _ (Fr.get_mem ht))]

/-! ### Loops -/
/-- Whatever s says, s' says. -/
def Leads (w0 : World) (ow : Nat → Prop) (n : Nat) (s s' : S) : Prop := ∀ a w, Fits w0 ow n s a w → Fits w0 ow n s' a w
def LoopK {ι : Type} (w0 : World) (ow : Nat → Prop) (n : Nat) (I : ι → S) (Inv : ι → Prop) (μ : ι → Nat) (i : ι) (K : Exit → S → Prop) : Exit → S → Prop
  | .normal, s => ∀ a w, Fits w0 ow n s a w → ∃ j, Inv j ∧ μ j < μ i ∧ Fits w0 ow n (I j) a w
  | e, s => K e s
section
variable {ι : Type} {I : ι → S} {Inv : ι → Prop} {μ : ι → Nat} {i : ι} {K : Exit → S → Prop} {s : S}
theorem loopK_normal (j : ι) (ρ : List Nat) (h1 : Inv j) (h2 : μ j < μ i) (h3 : Le ρ s (I j)) : LoopK w0 ow n I Inv μ i K .normal s := fun _ _ h => ⟨j, h1, h2, h3.fits h⟩
theorem loopK_exit {k : Nat} : LoopK w0 ow n I Inv μ i K (.exit k) s = K (.exit k) s := Eq.trans rfl rfl
theorem loopK_ret : LoopK w0 ow n I Inv μ i K .ret s = K .ret s := Eq.trans rfl rfl
end
theorem loop_rule {ι : Type} (I : ι → S) (Inv : ι → Prop) (μ : ι → Nat) {c : Code} {s : S} {K : Exit → S → Prop} (i0 : ι) (ρ : List Nat) (h0 : Inv i0) (hle : Le ρ s (I i0))
    (hr : ∀ i, Inv i → symC P w0 ow n c (I i) (LoopK w0 ow n I Inv μ i K)) : LoopG P w0 ow n c s K := by
  intro a w hf
  refine wp_loop_ghost (fun m a w => ∃ i, Inv i ∧ μ i = m ∧ Fits w0 ow n (I i) a w) (μ i0) ⟨i0, h0, rfl, hle.fits hf⟩ ?_
  rintro m a w ⟨i, hi, rfl, hfi⟩
  refine wp_mono (symC_sound c (I i) _ a w (hr i hi) hfi) fun e a' w' hq => ?_
  obtain ⟨s', h1, h2⟩ := hq
  cases e with
  | normal =>
    obtain ⟨j, h3, h4, h5⟩ := h2 _ _ h1
    exact ⟨μ j, h4, j, h3, rfl, h5⟩
  | exit id => exact ⟨s', h1, h2⟩
  | goto l => exact ⟨s', h1, h2⟩
  | ret => exact ⟨s', h1, h2⟩
  | panic ch => exact ⟨s', h1, h2⟩
  | outgrown => exact ⟨s', h1, h2⟩
/-- A nil slice, told as one of the call's own that is empty. -/
theorem fits_ghost {s : S} {a : Act} {w : World} (t : Nat) (e : TypeId) (c : Cont) (ht : Fr.get s.fr t = some (.x (.a (.v (.slice none 0 0))))) (hc : c.len = 0) (hcb : c.bnd s.hp.length) (hb : s.bnd) (hf : Fits w0 ow n s a w) :
    Fits w0 ow n ⟨Fr.put s.fr t (.x (.a (.o s.hp.length))), s.hp ++ [.own e c]⟩ a w := by
  obtain ⟨γ, hf⟩ := hf
  have hl := hf.sat.len
  have hv : c.vals γ = [] := List.eq_nil_of_length_eq_zero (by rw [Cont.len_vals, hc])
  have hS : Sat w0 ow (γ ++ [.s (.slice none 0 0)]) (s.hp ++ [.own e c]) w := hf.sat.got hb.2 (Below.refl _ _) hcb (by rw [hv]; exact Own.nil_ _ _ _)
  refine ⟨_, hS, hf.defers, hf.size, fun u sv hu => ?_⟩
  rw [Fr.get_put] at hu
  split at hu
  · rename_i htu
    subst htu
    cases hu
    rw [hf.at_ t _ ht]
    simp [Sv.val, Sc.val, At.val, nmS_last hl]
  · rw [hf.at_ u sv hu]
    exact (Sv.ext (by rw [hl]; exact hb.1 _ (Fr.get_mem hu))).symm
theorem loop_ghost {c : Code} {s : S} {K : Exit → S → Prop} (t : Nat) (e : TypeId) (k : Cont) (ht : Fr.get s.fr t = some (.x (.a (.v (.slice none 0 0))))) (hc : k.len = 0) (hcb : k.bnd s.hp.length) (hb : s.bnd)
    (h : LoopG P w0 ow n c ⟨Fr.put s.fr t (.x (.a (.o s.hp.length))), s.hp ++ [.own e k]⟩ K) : LoopG P w0 ow n c s K :=
  fun a w hf => h a w (fits_ghost t e k ht hc hcb hb hf)

/-! ### A function -/
def resS (P : Program) (w0 : World) (ow : Nat → Prop) (s : S) : List ResultVar → Option (Prop × List Sc)
  | [] => some (True, [])
  | .tmp t :: r => match Fr.get s.fr t, resS P w0 ow s r with
    | some (.x x), some (c, l) => some (c, x :: l)
    | _, _ => none
  | .cell p t :: r => match Fr.get s.fr p, resS P w0 ow s r with
    | some a, some (c, l) => match loadS P w0 ow t s.hp a with
      | some (d, .x x, _) => some (d ∧ c, x :: l)
      | _ => none
    | _, _ => none
def outS : List Sc → Sv
  | [x] => .x x
  | l => .t l
/-- The end of a call: what it hands back, and in what world. -/
def Fin (P : Program) (w0 : World) (ow : Nat → Prop) (rs : List ResultVar) (T : Sv → List Res → Prop) : Exit → S → Prop
  | .normal, s | .ret, s => match resS P w0 ow s rs with
    | some (c, l) => c ∧ T (outS l) s.hp
    | none => False
  | _, _ => False
def resF (tmps : Array Value) : ResultVar → Sem Value
  | .tmp t => pure (tmps.getD t undef)
  | .cell p t => do loadVar t (← asAddr (tmps.getD p undef))
theorem resS_sound {s : S} {γ : List Nm} {a : Act} {w : World} (h : FitsAt w0 ow n γ s a w) : ∀ {rs : List ResultVar} {c : Prop} {l : List Sc}, resS P w0 ow s rs = some (c, l) → c →
    (rs.mapM (resF a.tmps)).run P w = .ok (l.map (Sc.val γ)) w
  | [], c, l, hr, _ => by simp only [resS, Option.some.injEq, Prod.mk.injEq] at hr; obtain ⟨_, rfl⟩ := hr; rfl
  | .tmp t :: r, c, l, hr, hc => by
    unfold resS at hr
    split at hr
    · rename_i x c' l' h1 h2
      simp only [Option.some.injEq, Prod.mk.injEq] at hr
      obtain ⟨rfl, rfl⟩ := hr
      have ih := resS_sound h h2 hc
      have h0 : (resF a.tmps (.tmp t)).run P w = .ok (x.val γ) w := by
        show (pure (a.tmps.getD t undef) : Sem Value).run P w = _
        rw [h.at_ t _ h1]
        rfl
      rw [List.mapM_cons, Sem.run_bind, h0, Result.andThen_ok, Sem.run_bind, ih]
      rfl
    · cases hr
  | .cell p t :: r, c, l, hr, hc => by
    unfold resS at hr
    split at hr
    · rename_i x c' l' h1 h2
      split at hr
      · rename_i d y hp' h3
        simp only [Option.some.injEq, Prod.mk.injEq] at hr
        obtain ⟨rfl, rfl⟩ := hr
        have ih := resS_sound h h2 hc.2
        obtain ⟨_, hld⟩ := loadS_sound h.sat h3 hc.1
        have h4 : (resF a.tmps (.cell p t)).run P w = .ok ((Sv.x y).val γ) w := by
          show ((do loadVar t (← asAddr (a.tmps.getD p undef))) : Sem Value).run P w = _
          rw [h.at_ p _ h1]
          cases hx : x.val γ with
          | pointer A =>
            cases A with
            | none => rw [hx] at hld; simp [Instr.loadAt, Instr.sureAddr, Sem.run_bind] at hld
            | some ad =>
              rw [hx] at hld
              simpa [Instr.loadAt, Instr.sureAddr, Sem.run_bind, asAddr] using hld
          | _ => rw [hx] at hld; simp [Instr.loadAt, Instr.sureAddr, Sem.run_bind] at hld
        rw [List.mapM_cons, Sem.run_bind, h4, Result.andThen_ok, Sem.run_bind, ih]
        rfl
      · cases hr
    · cases hr
theorem results_sound {fn : Func} {s : S} {γ : List Nm} {a : Act} {w : World} (h : FitsAt w0 ow n γ s a w) {c : Prop} {l : List Sc} (hr : resS P w0 ow s fn.results.toList = some (c, l)) (hc : c) : (results fn a.tmps).run P w = .ok ((outS l).val γ) w := by
  have := resS_sound h hr hc
  have e : results fn a.tmps = (do let vs ← fn.results.mapM (resF a.tmps); pure (if h : vs.size = 1 then vs[0] else .tuple vs)) := rfl
  have hm : (fn.results.mapM (resF a.tmps)).run P w = .ok (l.map (Sc.val γ)).toArray w := by
    rw [Array.mapM_eq_mapM_toList, Sem.run_map, this]
    rfl
  rw [e, Sem.run_bind, hm, Result.andThen_ok]
  rcases l with _ | ⟨x, _ | ⟨y, l⟩⟩
  · rfl
  · rfl
  · rfl
/-- The frame of a call: its arguments, one behind the other. -/
def argFr : Nat → List Sv → Fr
  | _, [] => []
  | k, x :: r => (k, x) :: argFr (k + 1) r
theorem argFr_get : ∀ (svs : List Sv) (k t : Nat) (sv : Sv), Fr.get (argFr k svs) t = some sv → k ≤ t ∧ svs[t - k]? = some sv
  | [], k, t, sv, h => by cases h
  | x :: r, k, t, sv, h => by
    simp only [argFr, Fr.get] at h
    split at h
    · rename_i hk
      subst hk
      cases h
      simp
    · rename_i hk
      obtain ⟨h1, h2⟩ := argFr_get r (k + 1) t sv h
      refine ⟨by omega, ?_⟩
      rw [show t - k = (t - (k + 1)) + 1 from by omega, List.getElem?_cons_succ]
      exact h2
theorem calls_sym {f : FuncId} {fn : Func} {c : Code} (hf : P.funcs[f]? = some fn) (hb : fn.body = some c) (hn : fn.ntmps = n) {w : World} {γ : List Nm} {hp : List Res} (svs : List Sv) (hS : Sat w ow γ hp w) (hl : svs.length ≤ n) {R : Ending → World → Prop} (T : Sv → List Res → Prop)
    (hR : ∀ γ sv hp' w', Sat w ow γ hp' w' → T sv hp' → R (.returned (sv.val γ)) w')
    (h : symC P w ow n c ⟨argFr 0 svs, hp⟩ (Fin P w ow fn.results.toList T)) : Calls P f (svs.map (Sv.val γ)).toArray w R := by
  refine calls_of_wp hf hb (wp_mono (symC_sound c _ _ _ w h ⟨γ, hS, rfl, ?_, fun t sv ht => ?_⟩) fun e a' w' hq => ?_)
  · simp [hn]; omega
  · obtain ⟨_, h2⟩ := argFr_get svs 0 t sv ht
    rw [Nat.sub_zero] at h2
    have hlt := lt_of_get h2
    have e1 : ((svs.map (Sv.val γ)).toArray ++ Array.replicate (fn.ntmps - (svs.map (Sv.val γ)).toArray.size) undef)[t]? = some (sv.val γ) := by
      rw [Array.getElem?_append_left (by simpa using hlt), List.getElem?_toArray, List.getElem?_map, h2]
      rfl
    rw [Array.getD_eq_getD_getElem?, e1]
    rfl
  · obtain ⟨s', ⟨γ', hf'⟩, h2⟩ := hq
    have fin : (match resS P w ow s' fn.results.toList with
        | some (c, l) => c ∧ T (outS l) s'.hp
        | none => False) → a'.defers = [] ∧ ∃ v, (results fn a'.tmps).run P w' = .ok v w' ∧ R (.returned v) w' := by
      intro h3
      split at h3
      · rename_i d l hr
        exact ⟨hf'.defers, _, results_sound hf' hr h3.1, hR _ _ _ _ hf'.sat h3.2⟩
      · exact h3.elim
    cases e with
    | normal => exact fin h2
    | ret => exact fin h2
    | exit id => exact h2.elim
    | goto l => exact h2.elim
    | panic ch => exact h2.elim
    | outgrown => exact h2.elim
end
end Go.Proofs.YtombphphaoeeiaaGreatDoor
/- The engine: small rules for simp. No program in sight. -/
namespace Go.Proofs.YtombphphaoeeiaaGreatDoor
open Go.RowKit
theorem toU8_n8 (x : UInt8) : toU8 (n8 x) = x := by unfold toU8 n8; simp
theorem toU32_n32 (x : UInt32) : toU32 (n32 x) = x := by unfold toU32 n32; simp
theorem toU64_n64 (x : UInt64) : toU64 (n64 x) = x := by unfold toU64 n64; simp
theorem inU8_n8 (x : UInt8) : inU8 (n8 x) = True := by have := n8_bd x; unfold inU8; simp; omega
theorem inU32_n32 (x : UInt32) : inU32 (n32 x) = True := by have := n32_bd x; unfold inU32; simp; omega
theorem inU64_n64 (x : UInt64) : inU64 (n64 x) = True := by have := n64_bd x; unfold inU64; simp; omega
theorem toU8_lit (c : Nat) : toU8 (no_index (OfNat.ofNat c)) = OfNat.ofNat c := rfl
theorem toU32_lit (c : Nat) : toU32 (no_index (OfNat.ofNat c)) = OfNat.ofNat c := rfl
theorem toU64_lit (c : Nat) : toU64 (no_index (OfNat.ofNat c)) = OfNat.ofNat c := rfl
theorem inU8_lit (c : Nat) : inU8 (no_index (OfNat.ofNat c)) = (c < 256) := by unfold inU8; show (0 ≤ (c : Int) ∧ (c : Int) < 256) = _; apply propext; omega
theorem inU32_lit (c : Nat) : inU32 (no_index (OfNat.ofNat c)) = (c < 4294967296) := by unfold inU32; show (0 ≤ (c : Int) ∧ (c : Int) < 4294967296) = _; apply propext; omega
theorem inU64_lit (c : Nat) : inU64 (no_index (OfNat.ofNat c)) = (c < 18446744073709551616) := by unfold inU64; show (0 ≤ (c : Int) ∧ (c : Int) < 18446744073709551616) = _; apply propext; omega
/-! ### The beginnings and ends of calls -/
def No : Nat → Prop := fun _ => False
theorem keeps_below {w w' : World} (h : Keeps No w w') : Below w.heap.size w w' := h.below (Nat.le_refl _) (fun _ h => h.elim)
section
variable {P : Program} {n : Nat} {f : FuncId} {fn : Func} {c : Code} {w : World}
/-- A call that takes what it reads as it stands, and hands back a value. -/
theorem calls_v (hf : P.funcs[f]? = some fn) (hb : fn.body = some c) (hn : fn.ntmps = n) (svs : List Sv) (hl : svs.length ≤ n) (sv0 : Sv) {v : Value} (hv : ∀ γ, sv0.val γ = v)
    (h : symC P w No n c ⟨argFr 0 svs, []⟩ (Fin P w No fn.results.toList (fun sv _ => sv = sv0))) : Calls P f (svs.map (Sv.val [])).toArray w fun e w' => e = .returned v ∧ Below w.heap.size w w' :=
  calls_sym hf hb hn svs (Sat.init w No) hl (fun sv _ => sv = sv0) (fun γ sv hp' w' hS hT => ⟨by rw [hT, hv], keeps_below hS.keeps⟩) h
/-- What is handed back is a slice of the call's own. -/
def ownT (e : TypeId) (c : Cont) : Sv → List Res → Prop
  | .x (.a (.o k)), hp => hp[k]? = some (.own e c)
  | .x (.a (.v (.slice none m cap))), _ => m = 0 ∧ cap = 0 ∧ c.len = 0
  | _, _ => False
theorem Own.rebase {w : World} {b : Nat} {e : TypeId} {v : Value} {vs : List Value} (h : Own w 0 e v vs) (hb : ∀ n, v.ownBlock = some n → b ≤ n) : Own w b e v vs :=
  ⟨h.1, h.2.imp id fun ⟨g, cap, cur, h1, _, h3⟩ => ⟨g, cap, cur, h1, hb g (by rw [h1]; rfl), h3⟩⟩
theorem ownT_spec {ow : Nat → Prop} {w0 : World} {γ : List Nm} {hp : List Res} {e : TypeId} {c : Cont} {sv : Sv} (hS : Sat w0 ow γ hp w) (h : ownT e c sv hp) : Own w 0 e (sv.val γ) (c.vals γ) ∧ ∀ n, (sv.val γ).ownBlock = some n → Owned w0 ow n := by
  unfold ownT at h
  split at h
  · exact ⟨(hS.own h).2, fun n hn => (hS.mine _ _ n h hn).1⟩
  · obtain ⟨rfl, rfl, h0⟩ := h
    rw [show c.vals γ = [] from List.eq_nil_of_length_eq_zero (by rw [Cont.len_vals, h0])]
    exact ⟨Own.nil_ _ _ _, fun n hn => by simp [Sv.val, Sc.val, At.val, Value.ownBlock] at hn⟩
  · exact h.elim
theorem calls_own (hf : P.funcs[f]? = some fn) (hb : fn.body = some c) (hn : fn.ntmps = n) (svs : List Sv) (hl : svs.length ≤ n) (e : TypeId) (k : Cont) {vs : List Value} (hv : ∀ γ, k.vals γ = vs)
    (h : symC P w No n c ⟨argFr 0 svs, []⟩ (Fin P w No fn.results.toList (ownT e k))) : Calls P f (svs.map (Sv.val [])).toArray w fun en w' => ∃ v', en = .returned v' ∧ Own w' w.heap.size e v' vs ∧ Below w.heap.size w w' :=
  calls_sym hf hb hn svs (Sat.init w No) hl (ownT e k) (fun γ sv hp' w' hS hT => by
    obtain ⟨h1, h2⟩ := ownT_spec hS hT
    rw [hv] at h1
    exact ⟨_, rfl, h1.rebase fun n hn => (h2 n hn).resolve_left id, keeps_below hS.keeps⟩) h
/-- The same, and something beside it. -/
def ownT2 (e : TypeId) (c : Cont) (y : Value) : Sv → List Res → Prop
  | .t [.a x, .a (.v z)], hp => ownT e c (.x (.a x)) hp ∧ z = y
  | _, _ => False
theorem calls_own2 (hf : P.funcs[f]? = some fn) (hb : fn.body = some c) (hn : fn.ntmps = n) (svs : List Sv) (hl : svs.length ≤ n) (e : TypeId) (k : Cont) (y : Value) {vs : List Value} (hv : ∀ γ, k.vals γ = vs)
    (h : symC P w No n c ⟨argFr 0 svs, []⟩ (Fin P w No fn.results.toList (ownT2 e k y))) : Calls P f (svs.map (Sv.val [])).toArray w fun en w' => ∃ v', en = .returned (.tuple #[v', y]) ∧ Own w' w.heap.size e v' vs ∧ Below w.heap.size w w' :=
  calls_sym hf hb hn svs (Sat.init w No) hl (ownT2 e k y) (fun γ sv hp' w' hS hT => by
    unfold ownT2 at hT
    split at hT
    · obtain ⟨h0, rfl⟩ := hT
      obtain ⟨h1, h2⟩ := ownT_spec hS h0
      rw [hv] at h1
      exact ⟨_, rfl, h1.rebase fun n hn => (h2 n hn).resolve_left id, keeps_below hS.keeps⟩
    · exact hT.elim) h
/-- A call that takes a slice of its caller's own and hands it back, longer. -/
def Eats (v : Value) : Nat → Prop := fun n => v.ownBlock = some n
end
/-! ### A slice that is read -/
theorem cell_of_rd {w0 : World} {B : Nat} {A : Option Addr} {vs : List Value} (hR : RdV w0 B A vs) {i : Nat} {u : Value} (hi : vs[i]? = some u) : ∃ a, A = some a ∧ a.block < B ∧ pAdd A i = some (a.add i) ∧ (a.add i).block = a.block ∧ w0.cell? (a.add i) = some u := by
  obtain ⟨b, off, hA, hb, hc⟩ := hR (by have := lt_of_get hi; omega)
  subst hA
  refine ⟨⟨b, off, none⟩, rfl, hb, rfl, by rw [add_plain], ?_⟩
  rw [add_plain]
  exact hc i _ hi
/-- Where a slice shows values that the call does not own. -/
structure FV (w0 : World) (ow : Nat → Prop) (A : Option Addr) (vs : List Value) : Prop where
  rdo : RdO w0 ow A vs
theorem FV.some_ {w0 : World} {ow : Nat → Prop} {A : Option Addr} {vs : List Value} (h : FV w0 ow A vs) (hp : 0 < vs.length) : A.isSome = true := by
  obtain ⟨a, h1, _⟩ := cell_of_rd h.rdo.1 (List.getElem?_eq_getElem hp)
  rw [h1]; rfl
theorem FV.cell {w0 : World} {ow : Nat → Prop} {A : Option Addr} {vs : List Value} (h : FV w0 ow A vs) {i : Nat} {u : Value} (hi : vs[i]? = some u) : cellOf w0 (pAdd A i) = u ∧ rawOk w0 ow (pAdd A i) := by
  obtain ⟨a, h1, h2, h3, h4, h5⟩ := cell_of_rd h.rdo.1 hi
  refine ⟨by rw [h3]; simp [cellOf, h5], _, _, h3, by rw [h4]; exact h2, ?_, h5⟩
  rw [h4]
  exact h.rdo.2 (by have := (List.getElem?_eq_some_iff.1 hi).1; omega) a h1
theorem FV.no {w0 : World} {A : Option Addr} {vs : List Value} (h : RdV w0 w0.heap.size A vs) : FV w0 No A vs := ⟨h, fun _ _ _ h => h.elim⟩
/-- What the engine asks of a slice of bytes that came in, told one by one. -/
structure F8 (w0 : World) (ow : Nat → Prop) (A : Option Addr) (l : List UInt8) : Prop where
  some_ : 0 < l.length → A.isSome = true
  cell : ∀ i, i < l.length → cellOf w0 (pAdd A i) = vU8 (ix l i)
  ok : ∀ i, i < l.length → rawOk w0 ow (pAdd A i)
  rd : rd8 w0 A l.length = l
  rdOk : Rd8 w0 ow A l.length
theorem F8.of {w0 : World} {ow : Nat → Prop} {A : Option Addr} {l : List UInt8} (h : FV w0 ow A (l.map vU8)) : F8 w0 ow A l := by
  have hcell : ∀ i, i < l.length → cellOf w0 (pAdd A i) = vU8 (ix l i) := fun i hi => (h.cell (ix_map vU8 l i hi)).1
  have hrd : rd8 w0 A l.length = l := by
    unfold rd8
    apply List.ext_getElem
    · simp
    · intro i h1 h2
      simp only [List.getElem_map, List.getElem_range, hcell i h2]
      rw [toU8_n8]
      simp [ix, List.getD_eq_getElem?_getD, List.getElem?_eq_getElem h2]
  refine ⟨fun hp => h.some_ (by simpa using hp), hcell, fun i hi => (h.cell (ix_map vU8 l i hi)).2, hrd, ?_⟩
  unfold Rd8
  rw [hrd]
  exact h.rdo
/-- What is appended of a slice that came in. -/
theorem rd32_of {w0 : World} {ow : Nat → Prop} {A : Option Addr} {l : List UInt32} (h : FV w0 ow A (l.map vU32)) : rd32 w0 A l.length = l ∧ Rd32 w0 ow A l.length := by
  have hcell : ∀ i, i < l.length → cellOf w0 (pAdd A i) = vU32 (ix l i) := fun i hi => (h.cell (ix_map vU32 l i hi)).1
  have hrd : rd32 w0 A l.length = l := by
    unfold rd32
    apply List.ext_getElem
    · simp
    · intro i h1 h2
      simp only [List.getElem_map, List.getElem_range, hcell i h2]
      rw [toU32_n32]
      simp [ix, List.getD_eq_getElem?_getD, List.getElem?_eq_getElem h2]
  exact ⟨hrd, by unfold Rd32; rw [hrd]; exact h.rdo⟩
theorem rd64_of {w0 : World} {ow : Nat → Prop} {A : Option Addr} {l : List UInt64} (h : FV w0 ow A (l.map vU64)) : rd64 w0 A l.length = l ∧ Rd64 w0 ow A l.length := by
  have hcell : ∀ i, i < l.length → cellOf w0 (pAdd A i) = vU64 (ix l i) := fun i hi => (h.cell (ix_map vU64 l i hi)).1
  have hrd : rd64 w0 A l.length = l := by
    unfold rd64
    apply List.ext_getElem
    · simp
    · intro i h1 h2
      simp only [List.getElem_map, List.getElem_range, hcell i h2]
      rw [toU64_n64]
      simp [ix, List.getD_eq_getElem?_getD, List.getElem?_eq_getElem h2]
  exact ⟨hrd, by unfold Rd64; rw [hrd]; exact h.rdo⟩
theorem rdI_of {w0 : World} {ow : Nat → Prop} {A : Option Addr} {l : List Int} (h : FV w0 ow A (l.map (Value.int .i64))) : rdI w0 A l.length = l ∧ RdI w0 ow A l.length := by
  have hcell : ∀ i, i < l.length → cellOf w0 (pAdd A i) = .int .i64 (ix l i) := fun i hi => (h.cell (ix_map (Value.int .i64) l i hi)).1
  have hrd : rdI w0 A l.length = l := by
    unfold rdI
    apply List.ext_getElem
    · simp
    · intro i h1 h2
      simp only [List.getElem_map, List.getElem_range, hcell i h2]
      simp [ix, List.getD_eq_getElem?_getD, List.getElem?_eq_getElem h2]
  exact ⟨hrd, by unfold RdI; rw [hrd]; exact h.rdo⟩
structure F32 (w0 : World) (ow : Nat → Prop) (A : Option Addr) (l : List UInt32) : Prop where
  some_ : 0 < l.length → A.isSome = true
  cell : ∀ i, i < l.length → cellOf w0 (pAdd A i) = vU32 (ix l i)
  ok : ∀ i, i < l.length → rawOk w0 ow (pAdd A i)
theorem F32.of {w0 : World} {ow : Nat → Prop} {A : Option Addr} {l : List UInt32} (h : FV w0 ow A (l.map vU32)) : F32 w0 ow A l :=
  ⟨fun hp => h.some_ (by simpa using hp), fun i hi => (h.cell (ix_map vU32 l i hi)).1, fun i hi => (h.cell (ix_map vU32 l i hi)).2⟩
/-! ### What the caller shows of its own to whom it calls -/
theorem Sat.rdBlk {w0 w : World} {ow : Nat → Prop} {γ : List Nm} {hp : List Res} {k : Nat} {t : TypeId} {c : Cont} (h : Sat w0 ow γ hp w) (hr : hp[k]? = some (.blk t c)) (off : Nat) : RdV w w.heap.size (some ⟨nmB γ k, off, none⟩) ((c.vals γ).drop off) :=
  fun _ => ⟨nmB γ k, off, rfl, (h.blk hr).2.lt, fun j u hu => by rw [(h.blk hr).2.cell (off + j), List.getElem?_toArray]; rwa [List.getElem?_drop] at hu⟩
theorem Sat.rdOwn {w0 w : World} {ow : Nat → Prop} {γ : List Nm} {hp : List Res} {k : Nat} {e : TypeId} {c : Cont} (h : Sat w0 ow γ hp w) (hr : hp[k]? = some (.own e c)) : ∃ A cap, nmS γ k = .slice A c.len cap ∧ c.len ≤ cap ∧ cap ≤ maxLen ∧ RdV w w.heap.size A (c.vals γ) := by
  obtain ⟨A, m, h1, h2, h3, h4, _⟩ := own_rd h hr
  exact ⟨A, m, h1, h2, h3, h4⟩
theorem Sat.rdStr {w0 w : World} {ow : Nat → Prop} {γ : List Nm} {hp : List Res} {k : Nat} {e : TypeId} {c : Cont} (h : Sat w0 ow γ hp w) (hr : hp[k]? = some (.str e c)) : ∃ A cap, nmS γ k = .slice A c.len cap ∧ c.len ≤ cap ∧ cap ≤ maxLen ∧ RdV w w.heap.size A (c.vals γ) := str_rd h hr
/-! ### Small rules on lists of cells -/
theorem cont8_map (l : List UInt8) : cont8 (l.map f8) = some (True, l) := by
  induction l with
  | nil => rfl
  | cons x r ih =>
    show (match cont8 (r.map f8) with | some (c, l) => some (inU8 (n8 x) ∧ c, toU8 (n8 x) :: l) | none => none) = _
    rw [ih]
    simp [inU8_n8, toU8_n8]
theorem cont32_map (l : List UInt32) : cont32 (l.map f32) = some (True, l) := by
  induction l with
  | nil => rfl
  | cons x r ih =>
    show (match cont32 (r.map f32) with | some (c, l) => some (inU32 (n32 x) ∧ c, toU32 (n32 x) :: l) | none => none) = _
    rw [ih]
    simp [inU32_n32, toU32_n32]
theorem cont64_map (l : List UInt64) : cont64 (l.map f64) = some (True, l) := by
  induction l with
  | nil => rfl
  | cons x r ih =>
    show (match cont64 (r.map f64) with | some (c, l) => some (inU64 (n64 x) ∧ c, toU64 (n64 x) :: l) | none => none) = _
    rw [ih]
    simp [inU64_n64, toU64_n64]
theorem take_f8 (l : List UInt8) (n : Nat) : (l.map f8).take n = if l.length ≤ n then l.map f8 else (l.take n).map f8 := by
  split
  · rename_i h
    exact List.take_of_length_le (by simpa using h)
  · exact List.map_take.symm
theorem drop_f8 (l : List UInt8) (n : Nat) : (l.map f8).drop n = if l.length ≤ n then [] else (l.drop n).map f8 := by
  split
  · rename_i h
    exact List.drop_of_length_le (by simpa using h)
  · exact List.map_drop.symm
theorem take_f32 (l : List UInt32) (n : Nat) : (l.map f32).take n = if l.length ≤ n then l.map f32 else (l.take n).map f32 := by
  split
  · rename_i h
    exact List.take_of_length_le (by simpa using h)
  · exact List.map_take.symm
theorem drop_f32 (l : List UInt32) (n : Nat) : (l.map f32).drop n = if l.length ≤ n then [] else (l.drop n).map f32 := by
  split
  · rename_i h
    exact List.drop_of_length_le (by simpa using h)
  · exact List.map_drop.symm
theorem take_f64 (l : List UInt64) (n : Nat) : (l.map f64).take n = if l.length ≤ n then l.map f64 else (l.take n).map f64 := by
  split
  · rename_i h
    exact List.take_of_length_le (by simpa using h)
  · exact List.map_take.symm
theorem drop_f64 (l : List UInt64) (n : Nat) : (l.map f64).drop n = if l.length ≤ n then [] else (l.drop n).map f64 := by
  split
  · rename_i h
    exact List.drop_of_length_le (by simpa using h)
  · exact List.map_drop.symm
theorem take_app (a b : List At) (n : Nat) : (a ++ b).take n = a.take n ++ b.take (n - a.length) := List.take_append
theorem drop_app (a b : List At) (n : Nat) : (a ++ b).drop n = a.drop n ++ b.drop (n - a.length) := List.drop_append
theorem getD_app (a b : List At) (n : Nat) (d : At) : (a ++ b).getD n d = if n < a.length then a.getD n d else b.getD (n - a.length) d := by
  simp only [List.getD_eq_getElem?_getD, List.getElem?_append]
  split <;> rfl
theorem getD_f8 (l : List UInt8) (n : Nat) (d : At) : (l.map f8).getD n d = if n < l.length then .v (vU8 (ix l n)) else d := by
  split
  · rename_i h
    simp only [List.getD_eq_getElem?_getD, List.getElem?_map, List.getElem?_eq_getElem h, ix]
    rfl
  · rename_i h
    simp only [List.getD_eq_getElem?_getD, List.getElem?_map, List.getElem?_eq_none (Nat.le_of_not_lt h)]
    rfl
theorem forall_f8 {p : At → Prop} (l : List UInt8) : (∀ x, x ∈ l.map f8 → p x) = ∀ y, y ∈ l → p (.v (vU8 y)) := propext List.forall_mem_map
/-! ### The commonest calls -/
theorem dOk_lt {n d : Nat} (h : Nat.blt d n = true) : dOk n (some d) := by rw [Nat.blt_eq] at h; exact h
section
variable {P : Program} {w0 : World} {ow : Nat → Prop} {n : Nat} {ops rest : List Oper} {o : Oper} {p : List (Nat × Bool)} {f : FuncId} {xs : List Operand} {tys : Array TypeId} {s : S} {svs : List Sv} {K : S → Prop} {sv : Sv}
theorem callG_v (ho : o.op = .call { callee := .value (.func f), args := xs.toArray, argTypes := tys }) (hcb : Callable P f) (hev : evs s.fr xs = some svs) (hc : CallOK P w0 ow f svs s.hp sv s.hp) (hd : dOk n o.dst)
    (h : symR P w0 ow n ops rest (S.put ⟨s.fr, s.hp⟩ o.dst sv) K) : CallG P w0 ow n ops o rest s K := callG_rule ho hcb hev hc hd (fun h => absurd h (Nat.lt_irrefl _)) h
theorem callM_v (ho : o.op = .call { callee := .value (.func f), args := xs.toArray, argTypes := tys }) (hcb : Callable P f) (hev : evs s.fr xs = some svs) (hc : CallOK P w0 ow f svs s.hp sv s.hp) (hd : dOk n o.dst)
    (h : symM P w0 ow n ops p (S.put ⟨s.fr, s.hp⟩ o.dst sv) K) : CallM P w0 ow n ops o p s K := callM_rule ho hcb hev hc hd (fun h => absurd h (Nat.lt_irrefl _)) (List.take_length) h
theorem callG_x {r : Res} (ho : o.op = .call { callee := .value (.func f), args := xs.toArray, argTypes := tys }) (hcb : Callable P f) (hev : evs s.fr xs = some svs) (hc : CallOK P w0 ow f svs s.hp sv (s.hp ++ [r])) (hd : dOk n o.dst) (hb : s.bnd)
    (h : symR P w0 ow n ops rest (S.put ⟨s.fr, s.hp ++ [r]⟩ o.dst sv) K) : CallG P w0 ow n ops o rest s K := callG_rule ho hcb hev hc hd (fun _ => hb) h
theorem callM_x {r : Res} (ho : o.op = .call { callee := .value (.func f), args := xs.toArray, argTypes := tys }) (hcb : Callable P f) (hev : evs s.fr xs = some svs) (hc : CallOK P w0 ow f svs s.hp sv (s.hp ++ [r])) (hd : dOk n o.dst) (hb : s.bnd)
    (h : symM P w0 ow n ops p (S.put ⟨s.fr, s.hp ++ [r]⟩ o.dst sv) K) : CallM P w0 ow n ops o p s K := callM_rule ho hcb hev hc hd (fun _ => hb) (List.take_left' rfl) h
end
end Go.Proofs.YtombphphaoeeiaaGreatDoor
/- The engine: a region in which two that make memory, or call, may come in either order: both are walked, and meet again. No program in sight. -/
namespace Go.Proofs.YtombphphaoeeiaaGreatDoor
open Go.RowKit
set_option linter.unusedSimpArgs false
/-- An order, with forks. -/
inductive Pl where
  | nil
  | rd (i : Nat) (p : Pl)
  | wr (i : Nat) (p : Pl)
  | fk (i : Nat) (p : Pl) (j : Nat) (q : Pl)
  | f3 (i : Nat) (p : Pl) (j : Nat) (q : Pl) (k : Nat) (r : Pl)
def plB (md : Region.Mode) (ops : Array Oper) : Nat → Pl → Array Bool → Bool
  | 0, .nil, listed => (Region.ready md ops listed).isEmpty
  | f + 1, .rd i p, listed => (Region.ready md ops listed).contains i && Region.free md ops listed i && plB md ops f p (listed.setIfInBounds i true)
  | f + 1, .wr i p, listed => decide (Region.ready md ops listed = [i]) && plB md ops f p (listed.setIfInBounds i true)
  | f + 1, .fk i p j q, listed => decide (Region.ready md ops listed = [i, j]) && plB md ops f p (listed.setIfInBounds i true) && plB md ops f q (listed.setIfInBounds j true)
  | f + 1, .f3 i p j q k r, listed => decide (Region.ready md ops listed = [i, j, k]) && plB md ops f p (listed.setIfInBounds i true) && plB md ops f q (listed.setIfInBounds j true) && plB md ops f r (listed.setIfInBounds k true)
  | _, _, _ => false
section
variable {P : Program} {ops : Array Oper} {md : Region.Mode}
def wrStep (P : Program) (ops : Array Oper) (i : Nat) (W : (World → Prop) → Act → World → Prop) (C : World → Prop) (a : Act) (w : World) : Prop :=
  match ops[i]? with
  | none => False
  | some o =>
    if Region.wanted o (yielded ops a.tmps) then o.wp P a w (fun a' w' => ∃ C2 : World → Prop, C2 w' ∧ (∀ x, C2 x → C x) ∧ W C2 a' w') NoQ
    else W C (a.put o.dst undef) w
def wpPl (P : Program) (ops : Array Oper) (Q : Act → World → Prop) : Pl → (World → Prop) → Act → World → Prop
  | .nil, _, a, w => Q a w
  | .rd i p, C, a, w =>
    match ops[i]? with
    | none => False
    | some o =>
      if Region.wanted o (yielded ops a.tmps) then ∃ v, (∀ x, C x → readAt P o a x v) ∧ wpPl P ops Q p C (a.put o.dst v) w
      else wpPl P ops Q p C (a.put o.dst undef) w
  | .wr i p, C, a, w => wrStep P ops i (wpPl P ops Q p) C a w
  | .fk i p j q, C, a, w => wrStep P ops i (wpPl P ops Q p) C a w ∧ wrStep P ops j (wpPl P ops Q q) C a w
  | .f3 i p j q k r, C, a, w => wrStep P ops i (wpPl P ops Q p) C a w ∧ wrStep P ops j (wpPl P ops Q q) C a w ∧ wrStep P ops k (wpPl P ops Q r) C a w
theorem mOp_wr {i : Nat} {W W' : (World → Prop) → Act → World → Prop} {C : World → Prop} {a : Act} {w : World} (hC : C w) (hW : ∀ C a w, C w → W C a w → W' C a w) (h : wrStep P ops i W C a w) : mOp P ops i C W' a w := by
  unfold mOp
  unfold wrStep at h
  split
  · rename_i ho; simp only [ho] at h
  · rename_i o ho
    simp only [ho] at h
    split
    · rename_i hw; simp only [hw, if_true] at h; exact wp_mono2 (fun a w ⟨C2, h1, h2, h3⟩ => ⟨C2, h1, h2, hW _ _ _ h1 h3⟩) h
    · rename_i hw; simp only [hw] at h; exact hW _ _ _ hC h
end
section
variable {P : Program} {w0 : World} {ow : Nat → Prop} {n : Nat}
def CallP (P : Program) (w0 : World) (ow : Nat → Prop) (n : Nat) (ops : List Oper) (o : Oper) (p : Pl) (s : S) (K : S → Prop) : Prop :=
  ∀ γ a w, FitsAt w0 ow n γ s a w → o.wp P a w (fun a' w' => ∃ C2 : World → Prop, C2 w' ∧ (∀ x, C2 x → Sat w0 ow γ s.hp x) ∧ wpPl P ops.toArray (fun a' w' => ∃ s', Fits w0 ow n s' a' w' ∧ K s') p C2 a' w') NoQ
/-- One step of an order; what comes behind it, as a function of the state. -/
def stepP (P : Program) (w0 : World) (ow : Nat → Prop) (n : Nat) (ops : List Oper) (rd : Bool) (i : Nat) (G : S → Prop) (call : Oper → Prop) (s : S) : Prop :=
  match ops[i]? with
  | none => False
  | some o =>
    if isCall o.op = true then (match o.guard with
      | none => rd = false ∧ call o
      | some (j, b) => match yieldS ops s.fr j b with
        | some c => if c = b then rd = false ∧ call o else dOk n o.dst ∧ G (s.put o.dst nil1)
        | none => False)
    else match o.guard with
    | none => match stepO P w0 ow n o s with
      | some (c, s') => c ∧ takes rd o.op s s' ∧ G s'
      | none => False
    | some (j, b) => match yieldS ops s.fr j b with
      | some c => if c = b then (match stepO P w0 ow n o s with | some (c, s') => c ∧ takes rd o.op s s' ∧ G s' | none => False) else dOk n o.dst ∧ G (s.put o.dst nil1)
      | none => False
def symP (P : Program) (w0 : World) (ow : Nat → Prop) (n : Nat) (ops : List Oper) (K : S → Prop) : Pl → S → Prop
  | .nil, s => K s
  | .rd i p, s => stepP P w0 ow n ops true i (symP P w0 ow n ops K p) (fun o => CallP P w0 ow n ops o p s K) s
  | .wr i p, s => stepP P w0 ow n ops false i (symP P w0 ow n ops K p) (fun o => CallP P w0 ow n ops o p s K) s
  | .fk i p j q, s => stepP P w0 ow n ops false i (symP P w0 ow n ops K p) (fun o => CallP P w0 ow n ops o p s K) s ∧ stepP P w0 ow n ops false j (symP P w0 ow n ops K q) (fun o => CallP P w0 ow n ops o q s K) s
  | .f3 i p j q k r, s => stepP P w0 ow n ops false i (symP P w0 ow n ops K p) (fun o => CallP P w0 ow n ops o p s K) s ∧ stepP P w0 ow n ops false j (symP P w0 ow n ops K q) (fun o => CallP P w0 ow n ops o q s K) s ∧ stepP P w0 ow n ops false k (symP P w0 ow n ops K r) (fun o => CallP P w0 ow n ops o r s K) s
theorem symP_nil {ops : List Oper} {s : S} {K : S → Prop} : symP P w0 ow n ops K .nil s = K s := Eq.trans rfl rfl
theorem symP_rd {ops : List Oper} {i : Nat} {p : Pl} {s : S} {K : S → Prop} : symP P w0 ow n ops K (.rd i p) s = stepP P w0 ow n ops true i (symP P w0 ow n ops K p) (fun o => CallP P w0 ow n ops o p s K) s := Eq.trans rfl rfl
theorem symP_wr {ops : List Oper} {i : Nat} {p : Pl} {s : S} {K : S → Prop} : symP P w0 ow n ops K (.wr i p) s = stepP P w0 ow n ops false i (symP P w0 ow n ops K p) (fun o => CallP P w0 ow n ops o p s K) s := Eq.trans rfl rfl
theorem symP_fk {ops : List Oper} {i j : Nat} {p q : Pl} {s : S} {K : S → Prop} : symP P w0 ow n ops K (.fk i p j q) s = (stepP P w0 ow n ops false i (symP P w0 ow n ops K p) (fun o => CallP P w0 ow n ops o p s K) s ∧ stepP P w0 ow n ops false j (symP P w0 ow n ops K q) (fun o => CallP P w0 ow n ops o q s K) s) := Eq.trans rfl rfl
theorem symP_f3 {ops : List Oper} {i j k : Nat} {p q r : Pl} {s : S} {K : S → Prop} : symP P w0 ow n ops K (.f3 i p j q k r) s = (stepP P w0 ow n ops false i (symP P w0 ow n ops K p) (fun o => CallP P w0 ow n ops o p s K) s ∧ stepP P w0 ow n ops false j (symP P w0 ow n ops K q) (fun o => CallP P w0 ow n ops o q s K) s ∧ stepP P w0 ow n ops false k (symP P w0 ow n ops K r) (fun o => CallP P w0 ow n ops o r s K) s) := Eq.trans rfl rfl
theorem leads_le {s s' : S} (ρ : List Nat) (h : Le ρ s s') : Leads w0 ow n s s' := fun _ _ hf => h.fits hf
end
end Go.Proofs.YtombphphaoeeiaaGreatDoor
/- The engine: regions that draw their order and use up what they made: what is used up is hidden from the readers from the start. No program in sight. -/
namespace Go.Proofs.YtombphphaoeeiaaGreatDoor
open Go.RowKit
set_option linter.unusedSimpArgs false
def maskR : List Nat → List Res → List Res
  | [], hp => hp
  | k :: G, hp => (maskR G hp).set k .gone
theorem maskR_nil {hp : List Res} : maskR [] hp = hp := rfl
theorem maskR_cons {k : Nat} {G : List Nat} {hp : List Res} : maskR (k :: G) hp = (maskR G hp).set k .gone := rfl
theorem maskR_length {G : List Nat} {hp : List Res} : (maskR G hp).length = hp.length := by
  induction G with
  | nil => rfl
  | cons k G ih => rw [maskR_cons, List.length_set, ih]
theorem maskR_bnd {G : List Nat} {hp : List Res} {m : Nat} (h : ∀ r ∈ hp, Res.bnd m r) : ∀ r ∈ maskR G hp, Res.bnd m r := by
  induction G with
  | nil => exact h
  | cons k G ih =>
    intro r hr
    rcases List.mem_or_eq_of_mem_set hr with hr | rfl
    · exact ih r hr
    · trivial
section
variable {P : Program} {w0 : World} {ow : Nat → Prop} {n : Nat}
theorem Sat.mask {γ : List Nm} {hp : List Res} {w : World} (G : List Nat) (h : Sat w0 ow γ hp w) : Sat w0 ow γ (maskR G hp) w := by
  induction G with
  | nil => exact h
  | cons k G ih => exact ih.drop k
def wantS (ops : List Oper) (fr : Fr) (o : Oper) : Option Bool := match o.guard with
  | none => some true
  | some (j, b) => match yieldS ops fr j b with
    | some c => if c = b then some true else some false
    | none => none
theorem wantS_spec {ops : List Oper} {o : Oper} {b : Bool} {s : S} {γ : List Nm} {a : Act} {w : World} (h : FitsAt w0 ow n γ s a w) (hw : wantS ops s.fr o = some b) : Region.wanted o (yielded ops.toArray a.tmps) = b := by
  unfold wantS at hw
  split at hw
  · rename_i hg
    cases hw
    simp [Region.wanted, hg]
  · rename_i j c hg
    split at hw
    · rename_i d hy
      have hyy := yield_of h hy
      split at hw
      · rename_i hcb
        cases hw
        subst hcb
        simp [Region.wanted, hg, hyy]
      · rename_i hcb
        cases hw
        simp [Region.wanted, hg, hyy, hcb]
    · cases hw
def CallK (P : Program) (w0 : World) (ow : Nat → Prop) (n : Nat) (G : List Nat) (ops : List Oper) (o : Oper) (p : List (Nat × Bool)) (s : S) (K : S → Prop) : Prop :=
  ∀ γ a w, FitsAt w0 ow n γ s a w → o.wp P a w (fun a' w' => ∃ C2 : World → Prop, C2 w' ∧ (∀ x, C2 x → Sat w0 ow γ (maskR G s.hp) x) ∧ wpMix P ops.toArray (fun a' w' => ∃ s', Fits w0 ow n s' a' w' ∧ K s') p C2 a' w') NoQ
def stepRd (P : Program) (w0 : World) (ow : Nat → Prop) (n : Nat) (G : List Nat) (o : Oper) (s : S) : Option (Prop × S) :=
  match op1 P w0 ow (Fr.ev s.fr) (maskR G s.hp) o.op with
  | some (c, v, hp') => some ((c ∧ hp' = maskR G s.hp) ∧ dOk n o.dst, S.put ⟨s.fr, s.hp⟩ o.dst v)
  | none => none
def symK (P : Program) (w0 : World) (ow : Nat → Prop) (n : Nat) (G : List Nat) (ops : List Oper) : List (Nat × Bool) → S → (S → Prop) → Prop
  | [], s, K => K s
  | (i, rd) :: p, s, K => match ops[i]? with
    | none => False
    | some o => match wantS ops s.fr o with
      | none => False
      | some false => dOk n o.dst ∧ symK P w0 ow n G ops p (s.put o.dst nil1) K
      | some true =>
        if isCall o.op = true then rd = false ∧ CallK P w0 ow n G ops o p s K
        else if rd = true then isRead o.op = true ∧ (match stepRd P w0 ow n G o s with
          | some (c, s') => c ∧ symK P w0 ow n G ops p s' K
          | none => False)
        else match stepO P w0 ow n o s with
          | some (c, s') => c ∧ (maskR G s'.hp).take s.hp.length = maskR G s.hp ∧ symK P w0 ow n G ops p s' K
          | none => False
theorem symK_nil {G : List Nat} {ops : List Oper} {s : S} {K : S → Prop} : symK P w0 ow n G ops [] s K = K s := Eq.trans rfl rfl
theorem symK_cons {G : List Nat} {ops : List Oper} {i : Nat} {rd : Bool} {p : List (Nat × Bool)} {s : S} {K : S → Prop} : symK P w0 ow n G ops ((i, rd) :: p) s K = (match ops[i]? with
    | none => False
    | some o => match wantS ops s.fr o with
      | none => False
      | some false => dOk n o.dst ∧ symK P w0 ow n G ops p (s.put o.dst nil1) K
      | some true =>
        if isCall o.op = true then rd = false ∧ CallK P w0 ow n G ops o p s K
        else if rd = true then isRead o.op = true ∧ (match stepRd P w0 ow n G o s with
          | some (c, s') => c ∧ symK P w0 ow n G ops p s' K
          | none => False)
        else match stepO P w0 ow n o s with
          | some (c, s') => c ∧ (maskR G s'.hp).take s.hp.length = maskR G s.hp ∧ symK P w0 ow n G ops p s' K
          | none => False) := Eq.trans rfl rfl
end
/-! ### What simp runs on: the frame is looked through only where memory is made -/
def needB (a b : Nat) (s : S) : Prop := if a < b then s.bnd else True
theorem stepO_if {P : Program} {w0 : World} {ow : Nat → Prop} {n : Nat} {o : Oper} {s : S} : stepO P w0 ow n o s = (match op1 P w0 ow (Fr.ev s.fr) s.hp o.op with
    | some (c, v, hp) => some ((c ∧ dOk n o.dst) ∧ needB s.hp.length hp.length s, S.put ⟨s.fr, hp⟩ o.dst v)
    | none => none) := by
  unfold stepO
  cases op1 P w0 ow (Fr.ev s.fr) s.hp o.op with
  | none => rfl
  | some x =>
    obtain ⟨c, v, hp⟩ := x
    have e : (s.hp.length < hp.length → s.bnd) = needB s.hp.length hp.length s := by
      unfold needB
      split
      · rename_i h; exact propext ⟨fun f => f h, fun f _ => f⟩
      · rename_i h; exact propext ⟨fun _ => trivial, fun _ h2 => absurd h2 h⟩
    simp only [e]
end Go.Proofs.YtombphphaoeeiaaGreatDoor
