/- The engine: loops; a function from its beginning to its end. No program in sight. -/
import Derived.Test.YtkchdhkpjnnliaaDoorEe
import Derived.Deep.LoopGhost
namespace Go.Proofs.YtkchdhkpjnnliaaDoor
open Go.RowKit
set_option linter.unusedSimpArgs false

/-! ### Names told anew: what a loop's head says, out of what stands -/
def rn (ρ : List Nat) (k : Nat) : Nat := ρ.getD k 0
def At.ren (ρ : List Nat) : At → At
  | .v x => .v x
  | .p k off => .p (rn ρ k) off
  | .s k off len cap => .s (rn ρ k) off len cap
  | .o k => .o (rn ρ k)
  | .q k i => .q (rn ρ k) i
  | .z k l m => .z (rn ρ k) l m
def Sc.ren (ρ : List Nat) : Sc → Sc
  | .a x => .a (x.ren ρ)
  | .a8 l => .a8 l
  | .a32 l => .a32 l
  | .a64 l => .a64 l
  | .g l => .g (l.map (At.ren ρ))
def Sv.ren (ρ : List Nat) : Sv → Sv
  | .x s => .x (s.ren ρ)
  | .t l => .t (l.map (Sc.ren ρ))
  | .f fn caps => .f fn (caps.map (At.ren ρ))
def Cont.ren (ρ : List Nat) : Cont → Cont
  | .c l => .c (l.map (At.ren ρ))
  | k => k
def Res.ren (ρ : List Nat) : Res → Res
  | .blk t c => .blk t (c.ren ρ)
  | .own e c => .own e (c.ren ρ)
  | .gone => .gone
def leFr (ρ : List Nat) (fr : Fr) : Fr → Prop
  | [] => True
  | (t, sv) :: r => Fr.get fr t = some (sv.ren ρ) ∧ leFr ρ fr r
def leHp (ρ : List Nat) (hp : List Res) : List Nat → List Res → Prop
  | [], [] => True
  | k :: ks, r :: rs => hp[k]? = some (r.ren ρ) ∧ leHp ρ hp ks rs
  | _, _ => False
def allNe (k : Nat) : List Nat → Prop
  | [] => True
  | j :: r => j ≠ k ∧ allNe k r
def ndup : List Nat → Prop
  | [] => True
  | k :: r => allNe k r ∧ ndup r
theorem allNe_not {k : Nat} : ∀ {l : List Nat}, allNe k l → k ∉ l
  | [], _ => by simp
  | j :: r, h => by
    simp only [List.mem_cons, not_or]
    exact ⟨fun e => h.1 e.symm, allNe_not h.2⟩
theorem ndup_nodup : ∀ {l : List Nat}, ndup l → l.Nodup
  | [], _ => List.nodup_nil
  | _ :: _, h => List.nodup_cons.2 ⟨allNe_not h.1, ndup_nodup h.2⟩
/-- s' says less than s, its names read by ρ. -/
def Le (ρ : List Nat) (s s' : S) : Prop := leFr ρ s.fr s'.fr ∧ leHp ρ s.hp ρ s'.hp ∧ ndup ρ ∧ s'.bnd
section
variable {P : Program} {w0 : World} {ow : Nat → Prop} {n : Nat}
def reγ (ρ : List Nat) (γ : List Nm) : List Nm := ρ.map fun j => γ.getD j (.b 0)
theorem re_get {ρ : List Nat} {γ : List Nm} {k : Nat} (hk : k < ρ.length) (hj : rn ρ k < γ.length) : (reγ ρ γ)[k]? = γ[rn ρ k]? := by
  have e : rn ρ k = ρ[k] := by simp [rn, List.getD_eq_getElem?_getD, List.getElem?_eq_getElem hk]
  rw [e] at hj ⊢
  simp [reγ, List.getElem?_eq_getElem hk, List.getD_eq_getElem?_getD, List.getElem?_eq_getElem hj]
section
variable {ρ : List Nat} {γ : List Nm} (hρ : ∀ k, k < ρ.length → rn ρ k < γ.length)
include hρ
theorem re_nmB {k : Nat} (hk : k < ρ.length) : nmB (reγ ρ γ) k = nmB γ (rn ρ k) := by unfold nmB; rw [re_get hk (hρ k hk)]
theorem re_nmS {k : Nat} (hk : k < ρ.length) : nmS (reγ ρ γ) k = nmS γ (rn ρ k) := by unfold nmS; rw [re_get hk (hρ k hk)]
theorem At.re {x : At} (h : x.bnd ρ.length) : x.val (reγ ρ γ) = (x.ren ρ).val γ := by
  cases x <;> simp only [At.bnd] at h <;> simp only [At.val, At.ren]
  · rw [re_nmB hρ h]
  · rw [re_nmB hρ h]
  · rw [re_nmS hρ h]
  · rw [re_nmS hρ h]
  · rw [re_nmS hρ h]
theorem mapAt_re {l : List At} (h : ∀ x ∈ l, x.bnd ρ.length) : l.map (At.val (reγ ρ γ)) = (l.map (At.ren ρ)).map (At.val γ) := by
  rw [List.map_map]
  exact List.map_congr_left fun x hx => At.re hρ (h x hx)
theorem Sc.re {x : Sc} (h : x.bnd ρ.length) : x.val (reγ ρ γ) = (x.ren ρ).val γ := by
  cases x <;> simp only [Sc.bnd] at h <;> simp only [Sc.val, Sc.ren]
  · exact At.re hρ h
  · rw [mapAt_re hρ h]
theorem Sv.re {x : Sv} (h : x.bnd ρ.length) : x.val (reγ ρ γ) = (x.ren ρ).val γ := by
  cases x <;> simp only [Sv.bnd] at h <;> simp only [Sv.val, Sv.ren]
  · exact Sc.re hρ h
  · rename_i l
    rw [List.map_map, show l.map (Sc.val (reγ ρ γ)) = l.map (Sc.val γ ∘ Sc.ren ρ) from List.map_congr_left fun x hx => Sc.re hρ (h x hx)]
  · rw [mapAt_re hρ h]
theorem Cont.re {c : Cont} (h : c.bnd ρ.length) : c.vals (reγ ρ γ) = (c.ren ρ).vals γ := by
  cases c <;> simp only [Cont.bnd] at h <;> simp only [Cont.vals, Cont.ren]
  exact mapAt_re hρ h
end
theorem leFr_get {ρ : List Nat} {fr : Fr} : ∀ {fr' : Fr}, leFr ρ fr fr' → ∀ t sv, Fr.get fr' t = some sv → Fr.get fr t = some (sv.ren ρ)
  | [], _, t, sv, h => by cases h
  | (k, x) :: r, hle, t, sv, h => by
    simp only [Fr.get] at h
    split at h
    · rename_i hk
      subst hk
      cases h
      exact hle.1
    · exact leFr_get hle.2 t sv h
theorem leHp_get {ρ : List Nat} {hp : List Res} : ∀ {ks : List Nat} {rs : List Res}, leHp ρ hp ks rs → ks.length = rs.length ∧ ∀ (k : Nat) (r : Res), rs[k]? = some r → hp[ks.getD k 0]? = some (r.ren ρ)
  | [], [], _ => ⟨rfl, fun k r h => by simp at h⟩
  | j :: ks, q :: rs, hle => by
    obtain ⟨h1, h2⟩ := leHp_get hle.2
    refine ⟨by simp [h1], fun k r h => ?_⟩
    cases k with
    | zero => simp only [List.getElem?_cons_zero, Option.some.injEq] at h; subst h; exact hle.1
    | succ k => exact h2 k r (by simpa using h)
  | [], _ :: _, h => h.elim
  | _ :: _, [], h => h.elim
theorem Le.fits {ρ : List Nat} {s s' : S} (hle : Le ρ s s') {a : Act} {w : World} (h : Fits w0 ow n s a w) : Fits w0 ow n s' a w := by
  obtain ⟨γ, hf⟩ := h
  obtain ⟨h1, h2, h3', h4⟩ := hle
  have h3 := ndup_nodup h3'
  obtain ⟨hlen, hget⟩ := leHp_get h2
  have hl := hf.sat.len
  have hρ : ∀ k, k < ρ.length → rn ρ k < γ.length := fun k hk => by
    have hk' : k < s'.hp.length := by omega
    have := hget k _ (List.getElem?_eq_getElem hk')
    have := lt_of_get this
    rw [hl]; exact this
  have hb1 : ∀ x ∈ s'.fr, Sv.bnd ρ.length x.2 := fun x hx => by rw [hlen]; exact h4.1 x hx
  have hb2 : ∀ r ∈ s'.hp, Res.bnd ρ.length r := fun x hx => by rw [hlen]; exact h4.2 x hx
  have hres : ∀ (k : Nat) (r : Res), s'.hp[k]? = some r → s.hp[rn ρ k]? = some (r.ren ρ) := fun k r hr => hget k r hr
  have hblk : ∀ (k : Nat) (r : Res), s'.hp[k]? = some r → r.block (reγ ρ γ) k = (r.ren ρ).block γ (rn ρ k) := by
    intro k r hr
    have hk : k < ρ.length := by have := lt_of_get hr; omega
    cases r with
    | gone => rfl
    | blk t c => simp only [Res.block, Res.ren, re_nmB hρ hk]
    | own e c => simp only [Res.block, Res.ren, re_nmS hρ hk]
  have hinj : ∀ j k, j < ρ.length → k < ρ.length → j ≠ k → rn ρ j ≠ rn ρ k := by
    intro j k hj hk hjk he
    have e1 : rn ρ j = ρ[j] := by simp [rn, List.getD_eq_getElem?_getD, List.getElem?_eq_getElem hj]
    have e2 : rn ρ k = ρ[k] := by simp [rn, List.getD_eq_getElem?_getD, List.getElem?_eq_getElem hk]
    rw [e1, e2] at he
    exact hjk ((List.getElem_inj h3).1 he)
  refine ⟨reγ ρ γ, ⟨hf.sat.keeps, by simp [reγ, hlen], fun k r hr => ?_, fun k r b hr hb => ?_, fun j k r r' b hr hr' hjk hb hb' => ?_⟩, hf.defers, hf.size, fun t sv ht => ?_⟩
  · have hk : k < ρ.length := by have := lt_of_get hr; omega
    have hq := hf.sat.holds _ _ (hres k r hr)
    have hbd := hb2 r (List.mem_of_getElem? hr)
    cases r with
    | gone => trivial
    | blk t c =>
      simp only [Res.holds, Res.ren] at hq ⊢
      rw [re_get hk (hρ k hk), re_nmB hρ hk, Cont.re hρ hbd]
      exact hq
    | own e c =>
      simp only [Res.holds, Res.ren] at hq ⊢
      rw [re_get hk (hρ k hk), re_nmS hρ hk, Cont.re hρ hbd]
      exact hq
  · rw [hblk k r hr] at hb
    exact hf.sat.mine _ _ b (hres k r hr) hb
  · rw [hblk j r hr] at hb
    rw [hblk k r' hr'] at hb'
    exact hf.sat.apart _ _ _ _ b (hres j r hr) (hres k r' hr') (hinj j k (by have := lt_of_get hr; omega) (by have := lt_of_get hr'; omega) hjk) hb hb'
  · have h5 := leFr_get h1 t sv ht
    rw [hf.at_ t _ h5, Sv.re hρ (hb1 _ (Fr.get_mem ht))]

/-! ### Loops -/
/-- Whatever s says, s' says. -/
def Leads (w0 : World) (ow : Nat → Prop) (n : Nat) (s s' : S) : Prop := ∀ a w, Fits w0 ow n s a w → Fits w0 ow n s' a w
def LoopK {ι : Type} (w0 : World) (ow : Nat → Prop) (n : Nat) (I : ι → S) (Inv : ι → Prop) (μ : ι → Nat) (i : ι) (K : Exit → S → Prop) : Exit → S → Prop
  | .normal, s => ∃ j, Inv j ∧ μ j < μ i ∧ Leads w0 ow n s (I j)
  | e, s => K e s
section
variable {ι : Type} {I : ι → S} {Inv : ι → Prop} {μ : ι → Nat} {i : ι} {K : Exit → S → Prop} {s : S}
theorem loopK_normal (j : ι) (ρ : List Nat) (h1 : Inv j) (h2 : μ j < μ i) (h3 : Le ρ s (I j)) : LoopK w0 ow n I Inv μ i K .normal s := ⟨j, h1, h2, fun _ _ h => h3.fits h⟩
theorem loopK_exit {k : Nat} : LoopK w0 ow n I Inv μ i K (.exit k) s = K (.exit k) s := rfl
theorem loopK_ret : LoopK w0 ow n I Inv μ i K .ret s = K .ret s := rfl
/-- A slice over all of a block, told as one of the call's own. -/
theorem leads_own (t k len : Nat) {e : TypeId} {c : Cont} (ht : Fr.get s.fr t = some (.x (.a (.s k 0 len len)))) (hr : s.hp[k]? = some (.blk e c)) (hl : c.len = len) (hm : len ≤ maxLen) (hb : s.bnd) :
    Leads w0 ow n s ⟨Fr.put s.fr t (.x (.a (.o s.hp.length))), s.hp.set k .gone ++ [.own e c]⟩ := by
  rintro a w ⟨γ, hf⟩
  have hl0 := hf.sat.len
  obtain ⟨hn, hbk⟩ := hf.sat.blk hr
  have hS' := hf.sat.drop k
  have hlen : (s.hp.set k .gone).length = s.hp.length := List.length_set
  have hbr : ∀ r ∈ s.hp.set k .gone, Res.bnd (s.hp.set k .gone).length r := by
    rw [hlen]
    intro r hr
    rcases List.mem_or_eq_of_mem_set hr with hr | rfl
    · exact hb.2 r hr
    · trivial
  have hcb : c.bnd s.hp.length := hb.2 _ (List.mem_of_getElem? hr)
  have hl1 : γ.length = (s.hp.set k .gone).length := hS'.len
  have hown : Own w 0 e (.slice (some ⟨nmB γ k, 0, none⟩) len len) (c.vals γ) := by
    refine ⟨by simp [Cont.len_vals, hl], .inr ⟨nmB γ k, len, (c.vals γ).toArray, by simp [Cont.len_vals, hl], Nat.zero_le _, hbk, by simp [Cont.len_vals, hl], hm, by simp [Cont.len_vals, hl], by simp⟩⟩
  have hS : Sat w0 ow (γ ++ [.s (.slice (some ⟨nmB γ k, 0, none⟩) len len)]) (s.hp.set k .gone ++ [.own e c]) w := by
    refine hS'.push (X := fun b => b = nmB γ k) (Keeps.refl _ _) (fun b hb1 => ?_) hbr ?_ ?_
    · subst hb1
      exact ownBlock_gone (k := some k) hf.sat ⟨k, _, rfl, hr, rfl⟩
    · refine ⟨by rw [get_last hl1, nmS_last hl1], ?_⟩
      rw [nmS_last hl1, Cont.ext (by rw [hl0]; exact hcb)]
      exact hown
    · intro b hb1
      simp only [Res.block, nmS_last hl1, Value.ownBlock, Option.some.injEq] at hb1
      subst hb1
      exact ⟨.inl rfl, hbk.lt⟩
  refine ⟨_, hS, hf.defers, hf.size, fun u sv hu => ?_⟩
  rw [Fr.get_put] at hu
  split at hu
  · rename_i htu
    subst htu
    cases hu
    rw [hf.at_ t _ ht]
    simp [Sv.val, Sc.val, At.val, nmS_last hl0]
  · rw [hf.at_ u sv hu]
    exact (Sv.ext (by rw [hl0]; exact hb.1 _ (Fr.get_mem hu))).symm
theorem loopK_own (t k len : Nat) {e : TypeId} {c : Cont} (ht : Fr.get s.fr t = some (.x (.a (.s k 0 len len)))) (hr : s.hp[k]? = some (.blk e c)) (hl : c.len = len) (hm : len ≤ maxLen) (hb : s.bnd)
    (h : LoopK w0 ow n I Inv μ i K .normal ⟨Fr.put s.fr t (.x (.a (.o s.hp.length))), s.hp.set k .gone ++ [.own e c]⟩) : LoopK w0 ow n I Inv μ i K .normal s := by
  obtain ⟨j, h1, h2, h3⟩ := h
  exact ⟨j, h1, h2, fun a w hf => h3 a w (leads_own t k len ht hr hl hm hb a w hf)⟩
end
theorem loop_rule {ι : Type} (I : ι → S) (Inv : ι → Prop) (μ : ι → Nat) {c : Code} {s : S} {K : Exit → S → Prop} (i0 : ι) (ρ : List Nat) (h0 : Inv i0) (hle : Le ρ s (I i0))
    (hr : ∀ i, Inv i → symC P w0 ow n c (I i) (LoopK w0 ow n I Inv μ i K)) : LoopG P w0 ow n c s K := by
  intro a w hf
  refine wp_loop_ghost (fun m a w => ∃ i, Inv i ∧ μ i = m ∧ Fits w0 ow n (I i) a w) (μ i0) ⟨i0, h0, rfl, hle.fits hf⟩ ?_
  rintro m a w ⟨i, hi, rfl, hfi⟩
  refine wp_mono (symC_sound c (I i) _ a w (hr i hi) hfi) fun e a' w' hq => ?_
  obtain ⟨s', h1, h2⟩ := hq
  cases e with
  | normal =>
    obtain ⟨j, h3, h4, h5⟩ := h2
    exact ⟨μ j, h4, j, h3, rfl, h5 _ _ h1⟩
  | exit id => exact ⟨s', h1, h2⟩
  | goto l => exact ⟨s', h1, h2⟩
  | ret => exact ⟨s', h1, h2⟩
  | panic ch => exact ⟨s', h1, h2⟩
  | outgrown => exact ⟨s', h1, h2⟩
/-- A nil slice, told as one of the call's own that is empty. -/
theorem fits_ghost {s : S} {a : Act} {w : World} (t : Nat) (e : TypeId) (c : Cont) (ht : Fr.get s.fr t = some (.x (.a (.v (.slice none 0 0))))) (hc : c.len = 0) (hcb : c.bnd s.hp.length) (hb : s.bnd) (hf : Fits w0 ow n s a w) :
    Fits w0 ow n ⟨Fr.put s.fr t (.x (.a (.o s.hp.length))), s.hp ++ [.own e c]⟩ a w := by
  obtain ⟨γ, hf⟩ := hf
  have hl := hf.sat.len
  have hv : c.vals γ = [] := List.eq_nil_of_length_eq_zero (by rw [Cont.len_vals, hc])
  have hS : Sat w0 ow (γ ++ [.s (.slice none 0 0)]) (s.hp ++ [.own e c]) w := hf.sat.got hb.2 (Below.refl _ _) hcb (by rw [hv]; exact Own.nil_ _ _ _)
  refine ⟨_, hS, hf.defers, hf.size, fun u sv hu => ?_⟩
  rw [Fr.get_put] at hu
  split at hu
  · rename_i htu
    subst htu
    cases hu
    rw [hf.at_ t _ ht]
    simp [Sv.val, Sc.val, At.val, nmS_last hl]
  · rw [hf.at_ u sv hu]
    exact (Sv.ext (by rw [hl]; exact hb.1 _ (Fr.get_mem hu))).symm
theorem loop_ghost {c : Code} {s : S} {K : Exit → S → Prop} (t : Nat) (e : TypeId) (k : Cont) (ht : Fr.get s.fr t = some (.x (.a (.v (.slice none 0 0))))) (hc : k.len = 0) (hcb : k.bnd s.hp.length) (hb : s.bnd)
    (h : LoopG P w0 ow n c ⟨Fr.put s.fr t (.x (.a (.o s.hp.length))), s.hp ++ [.own e k]⟩ K) : LoopG P w0 ow n c s K :=
  fun a w hf => h a w (fits_ghost t e k ht hc hcb hb hf)

/-! ### A function -/
def resS (P : Program) (w0 : World) (ow : Nat → Prop) (s : S) : List ResultVar → Option (Prop × List Sc)
  | [] => some (True, [])
  | .tmp t :: r => match Fr.get s.fr t, resS P w0 ow s r with
    | some (.x x), some (c, l) => some (c, x :: l)
    | _, _ => none
  | .cell p t :: r => match Fr.get s.fr p, resS P w0 ow s r with
    | some a, some (c, l) => match loadS P w0 ow t s.hp a with
      | some (d, .x x, _) => some (d ∧ c, x :: l)
      | _ => none
    | _, _ => none
def outS : List Sc → Sv
  | [x] => .x x
  | l => .t l
/-- The end of a call: what it hands back, and in what world. -/
def Fin (P : Program) (w0 : World) (ow : Nat → Prop) (rs : List ResultVar) (T : Sv → List Res → Prop) : Exit → S → Prop
  | .normal, s | .ret, s => match resS P w0 ow s rs with
    | some (c, l) => c ∧ T (outS l) s.hp
    | none => False
  | _, _ => False
def resF (tmps : Array Value) : ResultVar → Sem Value
  | .tmp t => pure (tmps.getD t undef)
  | .cell p t => do loadVar t (← asAddr (tmps.getD p undef))
theorem resS_sound {s : S} {γ : List Nm} {a : Act} {w : World} (h : FitsAt w0 ow n γ s a w) : ∀ {rs : List ResultVar} {c : Prop} {l : List Sc}, resS P w0 ow s rs = some (c, l) → c →
    (rs.mapM (resF a.tmps)).run P w = .ok (l.map (Sc.val γ)) w
  | [], c, l, hr, _ => by simp only [resS, Option.some.injEq, Prod.mk.injEq] at hr; obtain ⟨_, rfl⟩ := hr; rfl
  | .tmp t :: r, c, l, hr, hc => by
    unfold resS at hr
    split at hr
    · rename_i x c' l' h1 h2
      simp only [Option.some.injEq, Prod.mk.injEq] at hr
      obtain ⟨rfl, rfl⟩ := hr
      have ih := resS_sound h h2 hc
      have h0 : (resF a.tmps (.tmp t)).run P w = .ok (x.val γ) w := by
        show (pure (a.tmps.getD t undef) : Sem Value).run P w = _
        rw [h.at_ t _ h1]
        rfl
      rw [List.mapM_cons, Sem.run_bind, h0, Result.andThen_ok, Sem.run_bind, ih]
      rfl
    · cases hr
  | .cell p t :: r, c, l, hr, hc => by
    unfold resS at hr
    split at hr
    · rename_i x c' l' h1 h2
      split at hr
      · rename_i d y hp' h3
        simp only [Option.some.injEq, Prod.mk.injEq] at hr
        obtain ⟨rfl, rfl⟩ := hr
        have ih := resS_sound h h2 hc.2
        obtain ⟨_, hld⟩ := loadS_sound h.sat h3 hc.1
        have h4 : (resF a.tmps (.cell p t)).run P w = .ok ((Sv.x y).val γ) w := by
          show ((do loadVar t (← asAddr (a.tmps.getD p undef))) : Sem Value).run P w = _
          rw [h.at_ p _ h1]
          cases hx : x.val γ with
          | pointer A =>
            cases A with
            | none => rw [hx] at hld; simp [Instr.loadAt, Instr.sureAddr, Sem.run_bind] at hld
            | some ad =>
              rw [hx] at hld
              simpa [Instr.loadAt, Instr.sureAddr, Sem.run_bind, asAddr] using hld
          | _ => rw [hx] at hld; simp [Instr.loadAt, Instr.sureAddr, Sem.run_bind] at hld
        rw [List.mapM_cons, Sem.run_bind, h4, Result.andThen_ok, Sem.run_bind, ih]
        rfl
      · cases hr
    · cases hr
theorem results_sound {fn : Func} {s : S} {γ : List Nm} {a : Act} {w : World} (h : FitsAt w0 ow n γ s a w) {c : Prop} {l : List Sc} (hr : resS P w0 ow s fn.results.toList = some (c, l)) (hc : c) : (results fn a.tmps).run P w = .ok ((outS l).val γ) w := by
  have := resS_sound h hr hc
  have e : results fn a.tmps = (do let vs ← fn.results.mapM (resF a.tmps); pure (if h : vs.size = 1 then vs[0] else .tuple vs)) := rfl
  have hm : (fn.results.mapM (resF a.tmps)).run P w = .ok (l.map (Sc.val γ)).toArray w := by
    rw [Array.mapM_eq_mapM_toList, Sem.run_map, this]
    rfl
  rw [e, Sem.run_bind, hm, Result.andThen_ok]
  rcases l with _ | ⟨x, _ | ⟨y, l⟩⟩
  · rfl
  · rfl
  · rfl
/-- The frame of a call: its arguments, one behind the other. -/
def argFr : Nat → List Sv → Fr
  | _, [] => []
  | k, x :: r => (k, x) :: argFr (k + 1) r
theorem argFr_get : ∀ (svs : List Sv) (k t : Nat) (sv : Sv), Fr.get (argFr k svs) t = some sv → k ≤ t ∧ svs[t - k]? = some sv
  | [], k, t, sv, h => by cases h
  | x :: r, k, t, sv, h => by
    simp only [argFr, Fr.get] at h
    split at h
    · rename_i hk
      subst hk
      cases h
      simp
    · rename_i hk
      obtain ⟨h1, h2⟩ := argFr_get r (k + 1) t sv h
      refine ⟨by omega, ?_⟩
      rw [show t - k = (t - (k + 1)) + 1 from by omega, List.getElem?_cons_succ]
      exact h2
theorem calls_sym {f : FuncId} {fn : Func} {c : Code} (hf : P.funcs[f]? = some fn) (hb : fn.body = some c) (hn : fn.ntmps = n) {w : World} {γ : List Nm} {hp : List Res} (svs : List Sv) (hS : Sat w ow γ hp w) (hl : svs.length ≤ n) {R : Ending → World → Prop} (T : Sv → List Res → Prop)
    (hR : ∀ γ sv hp' w', Sat w ow γ hp' w' → T sv hp' → R (.returned (sv.val γ)) w')
    (h : symC P w ow n c ⟨argFr 0 svs, hp⟩ (Fin P w ow fn.results.toList T)) : Calls P f (svs.map (Sv.val γ)).toArray w R := by
  refine calls_of_wp hf hb (wp_mono (symC_sound c _ _ _ w h ⟨γ, hS, rfl, ?_, fun t sv ht => ?_⟩) fun e a' w' hq => ?_)
  · simp [hn]; omega
  · obtain ⟨_, h2⟩ := argFr_get svs 0 t sv ht
    rw [Nat.sub_zero] at h2
    have hlt := lt_of_get h2
    have e1 : ((svs.map (Sv.val γ)).toArray ++ Array.replicate (fn.ntmps - (svs.map (Sv.val γ)).toArray.size) undef)[t]? = some (sv.val γ) := by
      rw [Array.getElem?_append_left (by simpa using hlt), List.getElem?_toArray, List.getElem?_map, h2]
      rfl
    rw [Array.getD_eq_getD_getElem?, e1]
    rfl
  · obtain ⟨s', ⟨γ', hf'⟩, h2⟩ := hq
    have fin : (match resS P w ow s' fn.results.toList with
        | some (c, l) => c ∧ T (outS l) s'.hp
        | none => False) → a'.defers = [] ∧ ∃ v, (results fn a'.tmps).run P w' = .ok v w' ∧ R (.returned v) w' := by
      intro h3
      split at h3
      · rename_i d l hr
        exact ⟨hf'.defers, _, results_sound hf' hr h3.1, hR _ _ _ _ hf'.sat h3.2⟩
      · exact h3.elim
    cases e with
    | normal => exact fin h2
    | ret => exact fin h2
    | exit id => exact h2.elim
    | goto l => exact h2.elim
    | panic ch => exact h2.elim
    | outgrown => exact h2.elim
end
end Go.Proofs.YtkchdhkpjnnliaaDoor
