import Derived.Test.YtombphphaoeeiaaGreatDoorEn3
/- ShA: Sh, Fun, Hand, Gh, Abs, joined. -/
/- What a term shows to whom is called: a slice, wherever it lies. No program in sight. -/
namespace Go.Proofs.YtombphphaoeeiaaGreatDoor
open Go.RowKit
/-- In every world that fits, sv is a slice that shows these values. -/
def Shows (w0 : World) (ow : Nat → Prop) (hp : List Res) (sv : Sv) (vs : List Value) : Prop :=
  ∀ γ w, Sat w0 ow γ hp w → ∃ A c, sv.val γ = .slice A vs.length c ∧ vs.length ≤ c ∧ RdV w w.heap.size A vs
section
variable {w0 : World} {ow : Nat → Prop} {hp : List Res} {e : TypeId} {c : Cont} {vs : List Value} {k : Nat}
theorem len_of_vals (hv : ∀ γ, c.vals γ = vs) : c.len = vs.length := by rw [← hv [], Cont.len_vals]
theorem shows_own (hr : hp[k]? = some (.own e c)) (hv : ∀ γ, c.vals γ = vs) : Shows w0 ow hp (.x (.a (.o k))) vs := fun γ w hS => by
  obtain ⟨A, m, h1, h2, h3, h4⟩ := hS.rdOwn hr
  rw [len_of_vals hv] at h1 h2
  rw [hv γ] at h4
  exact ⟨A, m, h1, h2, h4⟩
theorem shows_str (hr : hp[k]? = some (.str e c)) (hv : ∀ γ, c.vals γ = vs) : Shows w0 ow hp (.x (.a (.o k))) vs := fun γ w hS => by
  obtain ⟨A, m, h1, h2, h3, h4⟩ := hS.rdStr hr
  rw [len_of_vals hv] at h1 h2
  rw [hv γ] at h4
  exact ⟨A, m, h1, h2, h4⟩
theorem rdv_take {w : World} {B : Nat} {A : Option Addr} {xs : List Value} (h : RdV w B A xs) (n : Nat) : RdV w B A (xs.take n) := RdV.take' h n
theorem shows_blk {t : TypeId} (hr : hp[k]? = some (.blk t c)) (hv : ∀ γ, c.vals γ = vs) (off len cap : Nat) (h : off + len ≤ vs.length) (hc : len ≤ cap) : Shows w0 ow hp (.x (.a (.s k off len cap))) ((vs.drop off).take len) := fun γ w hS => by
  have h4 := hS.rdBlk hr off
  rw [hv γ] at h4
  have hl : ((vs.drop off).take len).length = len := by rw [List.length_take, List.length_drop]; omega
  exact ⟨_, cap, by rw [hl]; rfl, by omega, rdv_take h4 len⟩
theorem shows_blk_all {t : TypeId} (hr : hp[k]? = some (.blk t c)) (hv : ∀ γ, c.vals γ = vs) (n cap : Nat) (h : vs.length = n) (hc : n ≤ cap) : Shows w0 ow hp (.x (.a (.s k 0 n cap))) vs := by
  have := shows_blk (w0 := w0) (ow := ow) hr hv 0 n cap (by omega) hc
  rwa [List.drop_zero, List.take_of_length_le (by omega)] at this
theorem shows_raw {A : Option Addr} (hR : RdV w0 w0.heap.size A vs) (n cap : Nat) (h : vs.length = n) (hc : n ≤ cap) : Shows w0 No hp (.x (.a (.v (.slice A n cap)))) vs := fun γ w hS =>
  ⟨A, cap, by rw [h]; rfl, by omega, (hR.below (keeps_below hS.keeps)).more (keeps_below hS.keeps).size⟩
theorem shows_nil : Shows w0 ow hp (.x (.a (.v (.slice none 0 0)))) [] := fun _ _ _ => ⟨none, 0, rfl, Nat.le_refl _, RdV.nil_⟩
end
/-! ### Slots that nobody reads any more are dropped -/
def keepS : List Nat → Fr → Fr
  | [], _ => []
  | t :: r, fr => match Fr.get fr t with
    | some v => (t, v) :: keepS r fr
    | none => keepS r fr
section
variable {P : Program} {w0 : World} {ow : Nat → Prop} {n : Nat} {s : S} {K : Exit → S → Prop}
end
/-! ### Where simp need not look -/
section
variable {P : Program} {w0 : World} {ow : Nat → Prop} {n : Nat} {s s' : S} {K : Exit → S → Prop} {K1 : S → Prop}
theorem symC_in {c : Code} (h : s = s') : symC P w0 ow n c s K = symC P w0 ow n c s' K := by rw [h]
theorem symR_in {ops l : List Oper} (h : s = s') : symR P w0 ow n ops l s K1 = symR P w0 ow n ops l s' K1 := by rw [h]
theorem then_in {f : S → (Exit → S → Prop) → Prop} {e e' : Exit} (h1 : e = e') (h : s = s') : Then f K e s = Then f K e' s' := by rw [h, h1]
theorem inB_in {i : Nat} {e e' : Exit} (h1 : e = e') (h : s = s') : InB i K e s = InB i K e' s' := by rw [h, h1]
theorem loopG_in {c : Code} (h : s = s') : LoopG P w0 ow n c s K = LoopG P w0 ow n c s' K := by rw [h]
theorem drawG_in {i : Nat} {l : List Oper} (h : s = s') : DrawG P w0 ow n i l s K = DrawG P w0 ow n i l s' K := by rw [h]
theorem callG_in {ops l : List Oper} {o : Oper} (h : s = s') : CallG P w0 ow n ops o l s K1 = CallG P w0 ow n ops o l s' K1 := by rw [h]
theorem callM_in {ops : List Oper} {o : Oper} {p : List (Nat × Bool)} (h : s = s') : CallM P w0 ow n ops o p s K1 = CallM P w0 ow n ops o p s' K1 := by rw [h]
theorem anyM_in {ops : List Oper} {i : Nat} {rd : Bool} {o : Oper} {p : List (Nat × Bool)} (h : s = s') : AnyM P w0 ow n ops i rd o p s K1 = AnyM P w0 ow n ops i rd o p s' K1 := by rw [h]
theorem loopK_in {ι : Type} {I : ι → S} {Inv : ι → Prop} {μ : ι → Nat} {i : ι} {e e' : Exit} (h1 : e = e') (h : s = s') : LoopK w0 ow n I Inv μ i K e s = LoopK w0 ow n I Inv μ i K e' s' := by rw [h, h1]
end
attribute [congr] symC_in symR_in then_in inB_in loopG_in drawG_in callG_in callM_in anyM_in loopK_in
attribute [push_cast] keepS
end Go.Proofs.YtombphphaoeeiaaGreatDoor
/- The engine: variables and slices that a caller hands to whom it calls, to be turned. No program in sight. -/
namespace Go.Proofs.YtombphphaoeeiaaGreatDoor
open Go.RowKit
set_option linter.unusedSimpArgs false
section
variable {w0 w w' : World} {ow : Nat → Prop} {γ : List Nm} {hp : List Res}
theorem Res.ren_has {ρ : List Nat} (hρ : ∀ k, k < ρ.length → rn ρ k < γ.length) {k : Nat} (hk : k < ρ.length) (r : Res) : r.has (reγ ρ γ) k = (r.ren ρ).has γ (rn ρ k) := by
  cases r with
  | gone => rfl
  | blk t c => simp only [Res.has, Res.ren, re_nmB hρ hk]
  | own e c => simp only [Res.has, Res.ren, re_nmS hρ hk]
  | lit e c => simp only [Res.has, Res.ren, re_nmB hρ hk]
  | str e c => simp only [Res.has, Res.ren, re_nmS hρ hk]
  | it s pos => simp only [Res.has, Res.ren, re_nmB hρ hk]
  | pin g t c => simp only [Res.has, Res.ren, re_nmB hρ hk]
  | onn e m c => simp only [Res.has, Res.ren, re_nmS hρ hk]
  | abs R => simp only [Res.has, Res.ren, re_nmM hρ hk]
  | mp q l => simp only [Res.has, Res.ren, re_nmS hρ hk]
theorem Res.ren_holds {ρ : List Nat} (hρ : ∀ k, k < ρ.length → rn ρ k < γ.length) {k : Nat} (hk : k < ρ.length) {r : Res} (hb : r.bnd ρ.length) : r.holds (reγ ρ γ) k w ↔ (r.ren ρ).holds γ (rn ρ k) w := by
  cases r with
  | gone => exact Iff.rfl
  | blk t c => simp only [Res.holds, Res.ren]; rw [re_get hk (hρ k hk), re_nmB hρ hk, Cont.re hρ hb]
  | own e c => simp only [Res.holds, Res.ren]; rw [re_get hk (hρ k hk), re_nmS hρ hk, Cont.re hρ hb]
  | lit e c => simp only [Res.holds, Res.ren]; rw [re_get hk (hρ k hk), re_nmB hρ hk, Cont.re hρ hb]
  | str e c => simp only [Res.holds, Res.ren]; rw [re_get hk (hρ k hk), re_nmS hρ hk, Cont.re hρ hb]
  | it s pos => simp only [Res.holds, Res.ren]; rw [re_get hk (hρ k hk), re_nmB hρ hk]
  | pin g t c => simp only [Res.holds, Res.ren]; rw [re_get hk (hρ k hk), re_nmB hρ hk, Cont.re hρ hb]
  | onn e m c => simp only [Res.holds, Res.ren]; rw [re_get hk (hρ k hk), re_nmS hρ hk, Cont.re hρ hb]
  | abs R => simp only [Res.holds, Res.ren]; rw [re_get hk (hρ k hk), re_nmS hρ hk, re_nmM hρ hk]
  | mp q l => simp only [Res.holds, Res.ren]; rw [re_get hk (hρ k hk), re_nmS hρ hk, mpE_re hρ hb]
/-- Some of what stands, told by names of its own. -/
theorem Sat.sel {ρ : List Nat} {hp0 : List Res} (hS : Sat w0 ow γ hp w) (hle : leHp ρ hp ρ hp0) (hn : ndup ρ) (hb : ∀ r ∈ hp0, Res.bnd hp0.length r) : Sat w0 ow (reγ ρ γ) hp0 w ∧ ∀ k, k < ρ.length → rn ρ k < γ.length := by
  have h3 := ndup_nodup hn
  obtain ⟨hlen, hget⟩ := leHp_get hle
  have hl := hS.len
  have hρ : ∀ k, k < ρ.length → rn ρ k < γ.length := fun k hk => by
    have := hget k _ (List.getElem?_eq_getElem (show k < hp0.length by omega))
    have := lt_of_get this
    rw [hl]; exact this
  have hinj : ∀ j k, j < ρ.length → k < ρ.length → j ≠ k → rn ρ j ≠ rn ρ k := by
    intro j k hj hk hjk he
    have e1 : rn ρ j = ρ[j] := by simp [rn, List.getD_eq_getElem?_getD, List.getElem?_eq_getElem hj]
    have e2 : rn ρ k = ρ[k] := by simp [rn, List.getD_eq_getElem?_getD, List.getElem?_eq_getElem hk]
    rw [e1, e2] at he
    exact hjk ((List.getElem_inj h3).1 he)
  have lt' : ∀ (k : Nat) (r : Res), hp0[k]? = some r → k < ρ.length := fun k r hr => by have := lt_of_get hr; omega
  refine ⟨⟨hS.keeps, by simp [reγ, hlen], fun k r hr => ?_, fun k r b hr hb2 => ?_, fun j k r r' b hr hr' hjk hb2 hb' => ?_⟩, hρ⟩
  · exact (Res.ren_holds hρ (lt' k r hr) (by rw [hlen]; exact hb r (List.mem_of_getElem? hr))).2 (hS.holds _ _ (hget k r hr))
  · rw [Res.ren_has hρ (lt' k r hr)] at hb2
    exact hS.mine _ _ b (hget k r hr) hb2
  · rw [Res.ren_has hρ (lt' j r hr)] at hb2
    rw [Res.ren_has hρ (lt' k r' hr')] at hb'
    exact hS.apart _ _ _ _ b (hget j r hr) (hget k r' hr') (hinj j k (lt' j r hr) (lt' k r' hr') hjk) hb2 hb'
def Owns (γ : List Nm) (hp : List Res) (b : Nat) : Prop := ∃ (k : Nat) (r : Res), hp[k]? = some r ∧ r.has γ k b
/-- From here on: what stands now is where it begins. -/
theorem Sat.anew {X : Nat → Prop} (hS : Sat w0 ow γ hp w) (hX : ∀ b, Owns γ hp b → X b) : Sat w X γ hp w :=
  ⟨Keeps.refl _ _, hS.len, hS.holds, fun k r b hr hb => ⟨.inl (hX b ⟨k, r, hr, hb⟩), (hS.mine k r b hr hb).2⟩, hS.apart⟩
def goneAll : List Nat → List Res → List Res
  | [], hp => hp
  | k :: ks, hp => (goneAll ks hp).set k .gone
theorem goneAll_length (ks : List Nat) (hp : List Res) : (goneAll ks hp).length = hp.length := by
  induction ks with
  | nil => rfl
  | cons k ks ih => simp [goneAll, ih]
theorem goneAll_get {ks : List Nat} {hp : List Res} {k : Nat} {r : Res} (h : (goneAll ks hp)[k]? = some r) : r = .gone ∨ (k ∉ ks ∧ hp[k]? = some r) := by
  induction ks with
  | nil => exact .inr ⟨by simp, h⟩
  | cons j ks ih =>
    simp only [goneAll] at h
    by_cases e : j = k
    · subst e
      rw [List.getElem?_set] at h
      simp only [if_true] at h
      split at h
      · exact .inl (Option.some.inj h).symm
      · cases h
    · rw [List.getElem?_set_ne e] at h
      rcases ih h with h | ⟨h1, h2⟩
      · exact .inl h
      · exact .inr ⟨by simp only [List.mem_cons, not_or]; exact ⟨fun e2 => e e2.symm, h1⟩, h2⟩
def shiftL (a n : Nat) : List Nat := (List.range n).map (a + ·)
theorem shiftL_length (a n : Nat) : (shiftL a n).length = n := by simp [shiftL]
theorem shiftL_rn {a n k : Nat} (h : k < n) : rn (shiftL a n) k = a + k := by simp [rn, shiftL, List.getD_eq_getElem?_getD, h]
theorem re_shift (γ γ1 : List Nm) : reγ (shiftL γ.length γ1.length) (γ ++ γ1) = γ1 := by
  apply List.ext_getElem
  · simp [reγ, shiftL]
  · intro i h1 h2
    simp [reγ, shiftL, List.getD_eq_getElem?_getD, List.getElem?_append_right, List.getElem?_eq_getElem h2]
/-- Behind a call that was handed what ks name: that is gone; what it leaves comes anew. -/
theorem Sat.back {X : Nat → Prop} {γ1 : List Nm} {hp1 : List Res} (hS : Sat w0 ow γ hp w) (ks : List Nat) (hX : ∀ b, X b → ∃ (k : Nat) (r : Res), k ∈ ks ∧ hp[k]? = some r ∧ r.has γ k b)
    (h1 : Sat w X γ1 hp1 w') (hbr : ∀ r ∈ hp, Res.bnd hp.length r) (hb1 : ∀ r ∈ hp1, Res.bnd hp1.length r) :
    Sat w0 ow (γ ++ γ1) (goneAll ks hp ++ hp1.map (Res.ren (shiftL hp.length hp1.length))) w' := by
  have hl := hS.len
  have hl1 := h1.len
  have hgl := goneAll_length ks hp
  have hre : reγ (shiftL hp.length hp1.length) (γ ++ γ1) = γ1 := by rw [← hl, ← hl1]; exact re_shift γ γ1
  have hρ : ∀ k, k < (shiftL hp.length hp1.length).length → rn (shiftL hp.length hp1.length) k < (γ ++ γ1).length := fun k hk => by
    rw [shiftL_length] at hk
    rw [shiftL_rn hk, List.length_append]
    omega
  have hXo : ∀ b, X b → Owned w0 ow b ∧ b < w.heap.size := fun b hb => by
    obtain ⟨k, r, _, hr, hbb⟩ := hX b hb
    exact hS.mine k r b hr hbb
  have far : ∀ (k : Nat) (r : Res) (b : Nat), k ∉ ks → hp[k]? = some r → r.has γ k b → ¬ X b := by
    intro k r b hk hr hb hx
    obtain ⟨j, q, hj, hq, hqb⟩ := hX b hx
    exact hS.apart j k q r b hq hr (fun e => hk (e ▸ hj)) hqb hb
  have at_ : ∀ (i : Nat) (r : Res), (goneAll ks hp ++ hp1.map (Res.ren (shiftL hp.length hp1.length)))[i]? = some r → (r = .gone ∧ i < hp.length) ∨ (i < hp.length ∧ i ∉ ks ∧ hp[i]? = some r) ∨ ∃ (j : Nat) (q : Res), i = hp.length + j ∧ hp1[j]? = some q ∧ r = q.ren (shiftL hp.length hp1.length) := by
    intro i r hr
    by_cases hi : i < hp.length
    · rw [List.getElem?_append_left (by omega)] at hr
      rcases goneAll_get hr with h | ⟨h2, h3⟩
      · exact .inl ⟨h, hi⟩
      · exact .inr (.inl ⟨hi, h2, h3⟩)
    · rw [List.getElem?_append_right (by omega), List.getElem?_map, Option.map_eq_some_iff] at hr
      obtain ⟨q, hq, rfl⟩ := hr
      exact .inr (.inr ⟨i - hp.length, q, by omega, by rw [← hgl]; exact hq, rfl⟩)
  have blk1 : ∀ (j : Nat) (q : Res), hp1[j]? = some q → (q.ren (shiftL hp.length hp1.length)).has (γ ++ γ1) (hp.length + j) = q.has γ1 j := by
    intro j q hq
    have hj := lt_of_get hq
    have := Res.ren_has (ρ := shiftL hp.length hp1.length) (γ := γ ++ γ1) hρ (k := j) (by rw [shiftL_length]; exact hj) q
    rw [hre, shiftL_rn hj] at this
    exact this.symm
  refine ⟨?_, by simp [hgl, hl, hl1], ?_, ?_, ?_⟩
  · have hk := hS.keeps
    have hk1 := h1.keeps
    have hs := hk.size
    refine ⟨hk1.os.trans hk.os, hk1.tape.trans hk.tape, hk1.output.trans hk.output, Nat.le_trans hs hk1.size, fun i hi ho => ?_⟩
    refine (hk1.block i (by omega) fun hx => ?_).trans (hk.block i hi ho)
    rcases (hXo i hx).1 with h | h
    · exact ho h
    · omega
  · intro i r hr
    rcases at_ i r hr with ⟨rfl, _⟩ | ⟨hi, hk, hq⟩ | ⟨j, q, rfl, hq, rfl⟩
    · trivial
    · exact Res.holds_ext (by omega) (by rw [hl]; exact hbr r (List.mem_of_getElem? hq)) (Res.holds_keep (hS.holds i r hq) h1.keeps fun b hb => far i r b hk hq hb)
    · have hj := lt_of_get hq
      have := (Res.ren_holds (w := w') (ρ := shiftL hp.length hp1.length) (γ := γ ++ γ1) hρ (k := j) (by rw [shiftL_length]; exact hj) (by rw [shiftL_length]; exact hb1 q (List.mem_of_getElem? hq))).1 (by rw [hre]; exact h1.holds j q hq)
      rw [shiftL_rn hj] at this
      exact this
  · intro i r b hr hb
    rcases at_ i r hr with ⟨rfl, _⟩ | ⟨hi, hk, hq⟩ | ⟨j, q, rfl, hq, rfl⟩
    · cases hb
    · rw [Res.has_ext (by omega)] at hb
      have := hS.mine i r b hq hb
      have hs := h1.keeps.size
      exact ⟨this.1, by omega⟩
    · rw [blk1 j q hq] at hb
      obtain ⟨h2, h3⟩ := h1.mine j q b hq hb
      refine ⟨?_, h3⟩
      rcases h2 with h2 | h2
      · exact (hXo b h2).1
      · have := hS.keeps.size; exact .inr (by omega)
  · intro i i' r r' b hr hr' hne hb
    rcases at_ i r hr with ⟨rfl, _⟩ | ⟨hi, hk, hq⟩ | ⟨j, q, rfl, hq, rfl⟩
    · cases hb
    · rw [Res.has_ext (by omega)] at hb
      rcases at_ i' r' hr' with ⟨rfl, _⟩ | ⟨hi', hk', hq'⟩ | ⟨j', q', rfl, hq', rfl⟩
      · intro h; cases h
      · rw [Res.has_ext (by omega)]
        exact hS.apart i i' r r' b hq hq' hne hb
      · rw [blk1 j' q' hq']
        intro hb'
        rcases (h1.mine j' q' b hq' hb').1 with h2 | h2
        · exact far i r b hk hq hb h2
        · have := (hS.mine i r b hq hb).2; omega
    · rw [blk1 j q hq] at hb
      rcases at_ i' r' hr' with ⟨rfl, _⟩ | ⟨hi', hk', hq'⟩ | ⟨j', q', rfl, hq', rfl⟩
      · intro h; cases h
      · rw [Res.has_ext (by omega)]
        intro hb'
        rcases (h1.mine j q b hq hb).1 with h2 | h2
        · exact far i' r' b hk' hq' hb' h2
        · have := (hS.mine i' r' b hq' hb').2; omega
      · rw [blk1 j' q' hq']
        exact h1.apart j j' q q' b hq hq' (by omega) hb
/-! ### A variable that comes back -/
def mvL (m k n : Nat) : List Nat := (List.range n).map fun i => if i = m then k else i
theorem mvL_length (m k n : Nat) : (mvL m k n).length = n := by simp [mvL]
theorem mvL_rn {m k n i : Nat} (h : i < n) : rn (mvL m k n) i = if i = m then k else i := by simp [rn, mvL, List.getD_eq_getElem?_getD, h]
def moveR (m k : Nat) (r' : Res) (hp : List Res) : List Res := ((hp.set m .gone).set k r').map (Res.ren (mvL m k hp.length))
theorem re_self {ρ : List Nat} (hl : ρ.length = γ.length) (h : ∀ i, i < γ.length → γ[rn ρ i]? = γ[i]?) : reγ ρ γ = γ := by
  apply List.ext_getElem
  · simp [reγ, hl]
  · intro i h1 h2
    have h3 := h i h2
    have hi : i < ρ.length := by omega
    have e : rn ρ i = ρ[i] := by simp [rn, List.getD_eq_getElem?_getD, List.getElem?_eq_getElem hi]
    rw [e] at h3
    simp [reγ, List.getD_eq_getElem?_getD, h3, List.getElem?_eq_getElem h2]
theorem Sat.move {m k g : Nat} {t : TypeId} {c : Cont} {r' : Res} (hS : Sat w0 ow γ hp w) (hm : hp[m]? = some (.pin g t c)) (hk : hp[k]? = some .gone) (hn : γ[k]? = some (.b g)) (hr' : r'.holds γ k w) (hb' : ∀ d, r'.has γ k d → d = g)
    (hbr : ∀ r ∈ hp, Res.bnd hp.length r) (hbr' : r'.bnd hp.length) : Sat w0 ow γ (moveR m k r' hp) w ∧ reγ (mvL m k hp.length) γ = γ := by
  have hl := hS.len
  obtain ⟨hm1, hm2, hm3⟩ := hS.holds m _ hm
  have hkl := lt_of_get hk
  have hmk : m ≠ k := fun e => by subst e; rw [hk] at hm; cases hm
  have hself : reγ (mvL m k hp.length) γ = γ := by
    refine re_self (by rw [mvL_length, hl]) fun i hi => ?_
    rw [mvL_rn (by omega)]
    split
    · rename_i e
      subst e
      rw [hn, hm1, hm2]
    · rfl
  have hρ : ∀ i, i < (mvL m k hp.length).length → rn (mvL m k hp.length) i < γ.length := fun i hi => by
    rw [mvL_length] at hi
    rw [mvL_rn hi]
    split <;> omega
  have hcont : ∀ c : Cont, c.bnd hp.length → (c.ren (mvL m k hp.length)).vals γ = c.vals γ := fun c hc => by
    have := Cont.re (ρ := mvL m k hp.length) hρ (c := c) (by rw [mvL_length]; exact hc)
    rw [hself] at this
    exact this.symm
  have hh : ∀ (i : Nat) (r : Res), r.bnd hp.length → (r.holds γ i w → (r.ren (mvL m k hp.length)).holds γ i w) ∧ (r.ren (mvL m k hp.length)).has γ i = r.has γ i := by
    intro i r hb
    cases r with
    | gone => exact ⟨fun h => h, rfl⟩
    | blk t c => exact ⟨fun h => by simp only [Res.holds, Res.ren] at h ⊢; rw [hcont c hb]; exact h, rfl⟩
    | own e c => exact ⟨fun h => by simp only [Res.holds, Res.ren] at h ⊢; rw [hcont c hb]; exact h, rfl⟩
    | lit e c => exact ⟨fun h => by simp only [Res.holds, Res.ren] at h ⊢; rw [hcont c hb]; exact h, rfl⟩
    | str e c => exact ⟨fun h => by simp only [Res.holds, Res.ren] at h ⊢; rw [hcont c hb]; exact h, rfl⟩
    | it s pos => exact ⟨fun h => h, rfl⟩
    | pin g t c => exact ⟨fun h => by simp only [Res.holds, Res.ren] at h ⊢; rw [hcont c hb]; exact h, rfl⟩
    | onn e m c => exact ⟨fun h => by simp only [Res.holds, Res.ren] at h ⊢; rw [hcont c hb]; exact h, rfl⟩
    | abs R => exact ⟨fun h => h, rfl⟩
    | mp q l =>
      have hmp : mpE γ q (mpRen (mvL m k hp.length) l) = mpE γ q l := by
        have := mpE_re (ρ := mvL m k hp.length) hρ (q := q) (l := l) (by rw [mvL_length]; exact hb)
        rw [hself] at this
        exact this.symm
      exact ⟨fun h => by simp only [Res.holds, Res.ren] at h ⊢; rw [hmp]; exact h, rfl⟩
  have at_ : ∀ (i : Nat) (r : Res), (moveR m k r' hp)[i]? = some r → ∃ q : Res, r = q.ren (mvL m k hp.length) ∧ q.bnd hp.length ∧ ((i = k ∧ q = r') ∨ (i ≠ k ∧ i = m ∧ q = .gone) ∨ (i ≠ k ∧ i ≠ m ∧ hp[i]? = some q)) := by
    intro i r hr
    unfold moveR at hr
    rw [List.getElem?_map, Option.map_eq_some_iff] at hr
    obtain ⟨q, hq, rfl⟩ := hr
    refine ⟨q, rfl, ?_⟩
    by_cases e : k = i
    · subst e
      rw [List.getElem?_set] at hq
      simp only [if_true, List.length_set] at hq
      rw [if_pos hkl] at hq
      cases hq
      exact ⟨hbr', .inl ⟨rfl, rfl⟩⟩
    · rw [List.getElem?_set_ne e] at hq
      by_cases e2 : m = i
      · subst e2
        rw [List.getElem?_set] at hq
        simp only [if_true] at hq
        split at hq
        · cases hq
          exact ⟨trivial, .inr (.inl ⟨fun h => e h.symm, rfl, rfl⟩)⟩
        · cases hq
      · rw [List.getElem?_set_ne e2] at hq
        exact ⟨hbr q (List.mem_of_getElem? hq), .inr (.inr ⟨fun h => e h.symm, fun h => e2 h.symm, hq⟩)⟩
  have hmb : (Res.pin g t c).has γ m g := by show some (nmB γ m) = some g; rw [hm2]
  refine ⟨⟨hS.keeps, by simp [moveR, hl], ?_, ?_, ?_⟩, hself⟩
  · intro i r hr
    obtain ⟨q, rfl, hb, h⟩ := at_ i r hr
    rcases h with ⟨rfl, rfl⟩ | ⟨_, _, rfl⟩ | ⟨_, _, hq⟩
    · exact (hh _ _ hb).1 hr'
    · trivial
    · exact (hh _ _ hb).1 (hS.holds i q hq)
  · intro i r b hr hbb
    obtain ⟨q, rfl, hb, h⟩ := at_ i r hr
    rw [(hh _ _ hb).2] at hbb
    rcases h with ⟨rfl, rfl⟩ | ⟨_, _, rfl⟩ | ⟨_, _, hq⟩
    · obtain rfl := hb' _ hbb
      exact hS.mine m _ _ hm hmb
    · cases hbb
    · exact hS.mine i q b hq hbb
  · intro i i' r r1 b hr hr1 hne hbb
    obtain ⟨q, rfl, hb, h⟩ := at_ i r hr
    obtain ⟨q1, rfl, hb1, h1⟩ := at_ i' r1 hr1
    rw [(hh _ _ hb).2] at hbb
    rw [(hh _ _ hb1).2]
    rcases h with ⟨rfl, rfl⟩ | ⟨_, _, rfl⟩ | ⟨h2, h3, hq⟩
    · obtain rfl := hb' _ hbb
      rcases h1 with ⟨rfl, rfl⟩ | ⟨_, _, rfl⟩ | ⟨h4, h5, hq1⟩
      · exact absurd rfl hne
      · intro h; cases h
      · exact hS.apart m i' _ q1 _ hm hq1 (fun e => h5 e.symm) hmb
    · cases hbb
    · rcases h1 with ⟨rfl, rfl⟩ | ⟨_, _, rfl⟩ | ⟨h4, h5, hq1⟩
      · intro e
        obtain rfl := hb' _ e
        exact hS.apart i m q _ _ hq hm h3 hbb hmb
      · intro h; cases h
      · exact hS.apart i i' q q1 b hq hq1 hne hbb
end
section
variable {P : Program} {w0 : World} {ow : Nat → Prop} {f : FuncId} {svs : List Sv} {hp : List Res} {sv1 : Sv}
/-- What a call hands back, of its own or of what it was handed to use up. -/
theorem callOK_take {hp1 : List Res} (ks : List Nat) (hbr : ∀ r ∈ hp, Res.bnd hp.length r) (hb1 : ∀ r ∈ hp1, Res.bnd hp1.length r) (hsb : sv1.bnd hp1.length)
    (h : ∀ γ w, Sat w0 ow γ hp w → ∃ X : Nat → Prop, (∀ b, X b → ∃ (k : Nat) (r : Res), k ∈ ks ∧ hp[k]? = some r ∧ r.has γ k b) ∧ Calls P f (svs.map (Sv.val γ)).toArray w fun e w' => ∃ γ1, e = .returned (sv1.val γ1) ∧ Sat w X γ1 hp1 w') :
    CallOK P w0 ow f svs hp (sv1.ren (shiftL hp.length hp1.length)) (goneAll ks hp ++ hp1.map (Res.ren (shiftL hp.length hp1.length))) := fun γ w hS => by
  obtain ⟨X, hX, hc⟩ := h γ w hS
  refine hc.mono fun e w' ⟨γ1, he, h1⟩ => ⟨γ1, ?_, hS.back ks hX h1 hbr hb1⟩
  have hl := hS.len
  have hl1 := h1.len
  have hre : reγ (shiftL hp.length hp1.length) (γ ++ γ1) = γ1 := by rw [← hl, ← hl1]; exact re_shift γ γ1
  have := Sv.re (ρ := shiftL hp.length hp1.length) (γ := γ ++ γ1) (fun k hk => by rw [shiftL_length] at hk; rw [shiftL_rn hk, List.length_append]; omega) (x := sv1) (by rw [shiftL_length]; exact hsb)
  rw [he, ← this, hre]
/-- The same, where one of the variables that it was handed comes back, turned. -/
theorem callOK_pin (ks : List Nat) (j k : Nat) {t : TypeId} {c c1 : Cont} (hp1 : Nat → List Res) (hk : k ∈ ks) (hpk : bview hp[k]? = some (t, c)) (hj : ∀ g, (hp1 g)[j]? = some (.pin g t c1)) (hlen : ∀ g, (hp1 g).length = (hp1 0).length)
    (hbr : ∀ r ∈ hp, Res.bnd hp.length r) (hb1 : ∀ g, ∀ r ∈ hp1 g, Res.bnd (hp1 g).length r) (hsb : sv1.bnd (hp1 0).length)
    (hg : ∀ g, moveR (hp.length + j) k (bput hp[k]? t (c1.ren (shiftL hp.length (hp1 0).length))) (goneAll ks hp ++ (hp1 g).map (Res.ren (shiftL hp.length (hp1 0).length))) = moveR (hp.length + j) k (bput hp[k]? t (c1.ren (shiftL hp.length (hp1 0).length))) (goneAll ks hp ++ (hp1 0).map (Res.ren (shiftL hp.length (hp1 0).length))))
    (h : ∀ γ w, Sat w0 ow γ hp w → ∃ X : Nat → Prop, (∀ b, X b → ∃ (k : Nat) (r : Res), k ∈ ks ∧ hp[k]? = some r ∧ r.has γ k b) ∧ Calls P f (svs.map (Sv.val γ)).toArray w fun e w' => ∃ γ1, e = .returned (sv1.val γ1) ∧ Sat w X γ1 (hp1 (nmB γ k)) w') :
    CallOK P w0 ow f svs hp ((sv1.ren (shiftL hp.length (hp1 0).length)).ren (mvL (hp.length + j) k (hp.length + (hp1 0).length)))
      (moveR (hp.length + j) k (bput hp[k]? t (c1.ren (shiftL hp.length (hp1 0).length))) (goneAll ks hp ++ (hp1 0).map (Res.ren (shiftL hp.length (hp1 0).length)))) := fun γ w hS => by
  obtain ⟨X, hX, hc⟩ := h γ w hS
  refine hc.mono fun e w' ⟨γ1, he, h1⟩ => ?_
  have hl := hS.len
  have hl1 := h1.len
  have hln := hlen (nmB γ k)
  have hbk := hS.back ks hX h1 hbr (hb1 _)
  rw [hln] at hbk hl1
  have hre : reγ (shiftL hp.length (hp1 0).length) (γ ++ γ1) = γ1 := by rw [← hl, ← hl1]; exact re_shift γ γ1
  have hρ : ∀ i, i < (shiftL hp.length (hp1 0).length).length → rn (shiftL hp.length (hp1 0).length) i < (γ ++ γ1).length := fun i hi => by rw [shiftL_length] at hi; rw [shiftL_rn hi, List.length_append]; omega
  have hsv : (sv1.ren (shiftL hp.length (hp1 0).length)).val (γ ++ γ1) = sv1.val γ1 := by
    have := Sv.re (ρ := shiftL hp.length (hp1 0).length) (γ := γ ++ γ1) hρ (x := sv1) (by rw [shiftL_length]; exact hsb)
    rw [← this, hre]
  obtain ⟨hn, _, r0, hr0, _, _, _⟩ := hS.bv hpk
  have hkl := lt_of_get hr0
  have hjl := lt_of_get (hj (nmB γ k))
  rw [hln] at hjl
  have hgl := goneAll_length ks hp
  have hm : (goneAll ks hp ++ (hp1 (nmB γ k)).map (Res.ren (shiftL hp.length (hp1 0).length)))[hp.length + j]? = some (.pin (nmB γ k) t (c1.ren (shiftL hp.length (hp1 0).length))) := by
    rw [List.getElem?_append_right (by omega), List.getElem?_map, hgl, show hp.length + j - hp.length = j from by omega, hj]
    rfl
  have hgone : (goneAll ks hp ++ (hp1 (nmB γ k)).map (Res.ren (shiftL hp.length (hp1 0).length)))[k]? = some .gone := by
    rw [List.getElem?_append_left (by omega)]
    have hsome : ∃ r, (goneAll ks hp)[k]? = some r := ⟨_, List.getElem?_eq_getElem (by omega)⟩
    obtain ⟨r, hr⟩ := hsome
    rcases goneAll_get hr with h | ⟨h, _⟩
    · rw [hr, h]
    · exact absurd hk h
  have hnn : (γ ++ γ1)[k]? = some (.b (nmB γ k)) := by rw [List.getElem?_append_left (by omega)]; exact hn
  have hpin := hbk.holds _ _ hm
  obtain ⟨hp1', hp2', hp3'⟩ := hpin
  rw [hp2'] at hp3'
  have hr' : (bput hp[k]? t (c1.ren (shiftL hp.length (hp1 0).length))).holds (γ ++ γ1) k w' ∧ (∀ d, (bput hp[k]? t (c1.ren (shiftL hp.length (hp1 0).length))).has (γ ++ γ1) k d → d = nmB γ k) ∧
      ((c1.ren (shiftL hp.length (hp1 0).length)).bnd (hp.length + (hp1 0).length) → (bput hp[k]? t (c1.ren (shiftL hp.length (hp1 0).length))).bnd (hp.length + (hp1 0).length)) := by
    have e1 : nmB (γ ++ γ1) k = nmB γ k := nmB_ext (by omega)
    cases hq : hp[k]? with
    | none => rw [hq] at hpk; cases hpk
    | some r =>
      have hh := hS.holds k r hq
      rw [hq] at hpk
      cases r with
      | blk t' c' => exact ⟨⟨by rw [e1]; exact hnn, by rw [e1]; exact hp3'⟩, fun d hd => by
        have hd : some (nmB (γ ++ γ1) k) = some d := hd
        rw [e1] at hd
        exact (Option.some.inj hd).symm, fun h => h⟩
      | pin g t' c' =>
        obtain ⟨_, h2, _⟩ := hh
        exact ⟨⟨by rw [e1]; exact hnn, by rw [e1]; exact h2, by rw [e1]; exact hp3'⟩, fun d hd => by
        have hd : some (nmB (γ ++ γ1) k) = some d := hd
        rw [e1] at hd
        exact (Option.some.inj hd).symm, fun h => h⟩
      | own e c' => cases hpk
      | lit e c' => cases hpk
      | str e c' => cases hpk
      | it s pos => cases hpk
      | onn e m c' => cases hpk
      | abs R => cases hpk
      | mp q l => cases hpk
      | gone => cases hpk
  have hlen2 : (goneAll ks hp ++ (hp1 (nmB γ k)).map (Res.ren (shiftL hp.length (hp1 0).length))).length = hp.length + (hp1 0).length := by rw [List.length_append, List.length_map, hgl, hln]
  have ren_bnd : ∀ r : Res, r.bnd (hp1 0).length → (r.ren (shiftL hp.length (hp1 0).length)).bnd (hp.length + (hp1 0).length) := by
    intro r hr
    have hat : ∀ x : At, x.bnd (hp1 0).length → (x.ren (shiftL hp.length (hp1 0).length)).bnd (hp.length + (hp1 0).length) := by
      intro x hx
      cases x <;> simp only [At.bnd, At.ren] at hx ⊢
      all_goals (rw [shiftL_rn hx]; omega)
    have hcb : ∀ c : Cont, c.bnd (hp1 0).length → (c.ren (shiftL hp.length (hp1 0).length)).bnd (hp.length + (hp1 0).length) := by
      intro c hc
      cases c <;> simp only [Cont.bnd, Cont.ren] at hc ⊢
      intro x hx
      obtain ⟨y, hy, rfl⟩ := List.mem_map.1 hx
      exact hat y (hc y hy)
    cases r <;> simp only [Res.bnd, Res.ren] at hr ⊢
    case mp q l =>
      intro p hp2
      obtain ⟨z, hz, rfl⟩ := List.mem_map.1 hp2
      have hz := hr z hz
      obtain ⟨z1, z2⟩ := z
      cases z2 <;> simp only [Sc.bnd, Sc.ren] at hz ⊢
      · exact hat _ hz
      · intro y hy
        obtain ⟨u, hu, rfl⟩ := List.mem_map.1 hy
        exact hat u (hz u hu)
    all_goals exact hcb _ hr
  have hc1 : (c1.ren (shiftL hp.length (hp1 0).length)).bnd (hp.length + (hp1 0).length) := by
    have := ren_bnd (.pin (nmB γ k) t c1) (by have := hb1 (nmB γ k) _ (List.mem_of_getElem? (hj (nmB γ k))); rwa [hln] at this)
    exact this
  have up : ∀ r : Res, r.bnd hp.length → r.bnd (hp.length + (hp1 0).length) := by
    intro r hr
    have hat : ∀ x : At, x.bnd hp.length → x.bnd (hp.length + (hp1 0).length) := by
      intro x hx
      cases x <;> simp only [At.bnd] at hx ⊢ <;> omega
    have hcb : ∀ c : Cont, c.bnd hp.length → c.bnd (hp.length + (hp1 0).length) := by
      intro c hc
      cases c <;> simp only [Cont.bnd] at hc ⊢
      exact fun x hx => hat x (hc x hx)
    cases r <;> simp only [Res.bnd] at hr ⊢
    case mp q l =>
      intro p hp2
      have hz := hr p hp2
      obtain ⟨z1, z2⟩ := p
      cases z2 <;> simp only [Sc.bnd] at hz ⊢
      · exact hat _ hz
      · exact fun x hx => hat x (hz x hx)
    all_goals exact hcb _ hr
  have hmv := hbk.move hm hgone hnn hr'.1 hr'.2.1 (fun r hr => by
    rw [hlen2]
    rcases List.mem_append.1 hr with hr | hr
    · obtain ⟨i, hi⟩ := List.getElem?_of_mem hr
      rcases goneAll_get hi with h | ⟨_, h⟩
      · rw [h]; trivial
      · exact up r (hbr r (List.mem_of_getElem? h))
    · obtain ⟨q, hq, rfl⟩ := List.mem_map.1 hr
      exact ren_bnd q (by have := hb1 (nmB γ k) q hq; rwa [hln] at this)) (by rw [hlen2]; exact hr'.2.2 hc1)
  rw [hlen2] at hmv
  refine ⟨γ1, ?_, ?_⟩
  · rw [he, ← hsv]
    have hsb2 : (sv1.ren (shiftL hp.length (hp1 0).length)).bnd (hp.length + (hp1 0).length) := by
      have hat : ∀ x : At, x.bnd (hp1 0).length → (x.ren (shiftL hp.length (hp1 0).length)).bnd (hp.length + (hp1 0).length) := by
        intro x hx
        cases x <;> simp only [At.bnd, At.ren] at hx ⊢
        all_goals (rw [shiftL_rn hx]; omega)
      have hsc : ∀ x : Sc, x.bnd (hp1 0).length → (x.ren (shiftL hp.length (hp1 0).length)).bnd (hp.length + (hp1 0).length) := by
        intro x hx
        cases x <;> simp only [Sc.bnd, Sc.ren] at hx ⊢
        · exact hat _ hx
        · intro y hy
          obtain ⟨z, hz, rfl⟩ := List.mem_map.1 hy
          exact hat z (hx z hz)
      cases sv1 <;> simp only [Sv.bnd, Sv.ren] at hsb ⊢
      · exact hsc _ hsb
      · intro y hy
        obtain ⟨z, hz, rfl⟩ := List.mem_map.1 hy
        exact hsc z (hsb z hz)
      · intro y hy
        obtain ⟨z, hz, rfl⟩ := List.mem_map.1 hy
        exact hat z (hsb z hz)
    have := Sv.re (ρ := mvL (hp.length + j) k (hp.length + (hp1 0).length)) (γ := γ ++ γ1) (fun i hi => by
      rw [mvL_length] at hi
      rw [mvL_rn hi, List.length_append]
      split <;> omega) (x := sv1.ren (shiftL hp.length (hp1 0).length)) (by rw [mvL_length]; exact hsb2)
    rw [hmv.2] at this
    rw [this]
  · rw [← hg (nmB γ k)]
    exact hmv.1
end
/-! ### A function value, called -/
section
variable {P : Program} {w0 : World} {ow : Nat → Prop} {n : Nat}
theorem run_callF {o : Oper} {f : FuncId} {x : Operand} {xs : Array Operand} {tys : Array TypeId} {ρ : Operand → Value} {w : World} {args caps : Array Value} (ho : o.op = .call { callee := .value x, args := xs, argTypes := tys }) (hx : ρ x = .func (.func f) #[] caps) (hcb : Callable P f)
    (ha : xs.map ρ = args) : (execOp ρ o).run P w = .ok (.enter f (args ++ caps)) w := by
  unfold execOp
  simp only [ho, resolve, hx, Deferred.ofValue, Sem.run_bind, Sem.run_pure, Result.andThen_ok, invoke, ha, Array.empty_append]
  exact hcb w _
theorem callF_wp {o : Oper} {f : FuncId} {x : Operand} {xs : List Operand} {tys : Array TypeId} {s : S} {γ : List Nm} {a : Act} {w : World} {svs : List Sv} {cs : List At} {sv : Sv} {hp' : List Res} {K : Act → World → Prop} {Q : Exit → Act → World → Prop}
    (hfit : FitsAt w0 ow n γ s a w) (ho : o.op = .call { callee := .value x, args := xs.toArray, argTypes := tys }) (hx : Fr.ev s.fr x = some (.f (.func f) cs)) (hcb : Callable P f) (hev : evs s.fr xs = some svs) (hc : CallOK P w0 ow f (svs ++ cs.map fun y => .x (.a y)) s.hp sv hp') (hd : dOk n o.dst) (hb : s.hp.length < hp'.length → s.bnd)
    (hK : ∀ δ a' w', FitsAt w0 ow n (γ ++ δ) (S.put ⟨s.fr, hp'⟩ o.dst sv) a' w' → K a' w') : o.wp P a w K Q := by
  unfold Oper.wp
  have e : (svs.map (Sv.val γ)).toArray ++ (cs.map (At.val γ)).toArray = ((svs ++ cs.map fun y => Sv.x (.a y)).map (Sv.val γ)).toArray := by
    rw [List.map_append, List.map_map, ← List.append_toArray]
    rfl
  rw [run_callF ho (hfit.ev hx) hcb (args := (svs.map (Sv.val γ)).toArray) (by rw [List.map_toArray, evs_val hfit hev]), e]
  simp only [Oper.upon]
  refine (hc γ w hfit.sat).mono ?_
  rintro e w' ⟨δ, rfl, hS'⟩
  refine hK δ _ _ (hfit.put hS' (fun t sv' ht => ?_) hd rfl)
  have hl := hfit.sat.len
  have hl' := hS'.len
  rw [List.length_append] at hl'
  cases δ with
  | nil => rw [List.append_nil]
  | cons m r =>
    have hlt : s.hp.length < hp'.length := by simp at hl'; omega
    exact Sv.ext (by rw [hl]; exact (hb hlt).1 _ (Fr.get_mem ht))
theorem callF_rule {ops : List Oper} {o : Oper} {rest : List Oper} {f : FuncId} {x : Operand} {xs : List Operand} {tys : Array TypeId} {s : S} {svs : List Sv} {cs : List At} {K : S → Prop} (ho : o.op = .call { callee := .value x, args := xs.toArray, argTypes := tys })
    (hx : Fr.ev s.fr x = some (.f (.func f) cs)) (hcb : Callable P f) (hev : evs s.fr xs = some svs) {sv : Sv} {hp' : List Res} (hc : CallOK P w0 ow f (svs ++ cs.map fun y => .x (.a y)) s.hp sv hp') (hd : dOk n o.dst) (hb : s.hp.length < hp'.length → s.bnd)
    (h : symR P w0 ow n ops rest (S.put ⟨s.fr, hp'⟩ o.dst sv) K) : CallG P w0 ow n ops o rest s K := by
  rintro a w ⟨γ, hfit⟩ hw
  unfold wpList
  rw [if_pos hw]
  exact .inl (callF_wp hfit ho hx hcb hev hc hd hb fun δ a' w' hf => symR_sound rest _ _ _ h ⟨_, hf⟩)
/-- A function value that came in: what it answers, in this world and in whatever world the call makes of it. -/
def PureFn {α : Type} (P : Program) (w0 : World) (fv : Value) (enc : α → Array Value) (dec : α → Value) : Prop :=
  ∃ f caps, fv = .func (.func f) #[] caps ∧ Callable P f ∧ ∀ w x, Keeps No w0 w → Calls P f (enc x ++ caps) w fun e w' => e = .returned (dec x) ∧ Below w.heap.size w w'
theorem callV_rule {α : Type} {enc : α → Array Value} {dec : α → Value} {fv : Value} {ops : List Oper} {o : Oper} {rest : List Oper} {y : Operand} {xs : List Operand} {tys : Array TypeId} {s : S} {svs : List Sv} {K : S → Prop} (x : α) (sv : Sv) (hP : PureFn P w0 fv enc dec)
    (ho : o.op = .call { callee := .value y, args := xs.toArray, argTypes := tys }) (hx : Fr.ev s.fr y = some (.x (.a (.v fv)))) (hev : evs s.fr xs = some svs) (henc : ∀ γ, (svs.map (Sv.val γ)).toArray = enc x) (hdec : ∀ γ, sv.val γ = dec x) (how : ∀ b, ¬ ow b) (hd : dOk n o.dst)
    (h : symR P w0 ow n ops rest (S.put ⟨s.fr, s.hp⟩ o.dst sv) K) : CallG P w0 ow n ops o rest s K := by
  obtain ⟨f, caps, rfl, hcb, hF⟩ := hP
  rintro a w ⟨γ, hfit⟩ hw
  unfold wpList
  rw [if_pos hw]
  refine .inl ?_
  unfold Oper.wp
  rw [run_callF ho (hfit.ev hx) hcb (args := (svs.map (Sv.val γ)).toArray) (by rw [List.map_toArray, evs_val hfit hev]), henc γ]
  simp only [Oper.upon]
  have hk : Keeps No w0 w := by
    have := hfit.sat.keeps
    exact ⟨this.os, this.tape, this.output, this.size, fun i hi _ => this.block i hi (how i)⟩
  refine (hF w x hk).mono ?_
  rintro e w' ⟨rfl, hb⟩
  refine symR_sound rest _ _ _ h ⟨γ, hfit.put (hfit.sat.later hb) (fun t sv' ht => rfl) hd (hdec γ).symm⟩
/-- What lies behind a nil slice in a variable, told as a slice of the call's own that is empty. -/
theorem Sat.ghost {γ : List Nm} {hp : List Res} {w : World} {k i : Nat} {t e : TypeId} {l : List At} {c : Cont} (hS : Sat w0 ow γ hp w) (hr : bview hp[k]? = some (t, .c l)) (hi : l[i]? = some (.v (.slice none 0 0))) (hc : c.len = 0) (_hcb : c.bnd hp.length) (hbr : ∀ r ∈ hp, Res.bnd hp.length r) :
    Sat w0 ow (γ ++ [.s (.slice none 0 0)]) ((hp.set k (bput hp[k]? t (.c (l.set i (.o hp.length))))) ++ [.own e c]) w := by
  have hl := hS.len
  have hcv : c.vals (γ ++ [Nm.s (.slice none 0 0)]) = [] := by
    rw [← List.length_eq_zero_iff, Cont.len_vals, hc]
  have h1 : Sat w0 ow (γ ++ [.s (.slice none 0 0)]) (hp ++ [.own e c]) w := by
    refine hS.push (X := fun _ => False) (Keeps.refl _ _) (fun b h => h.elim) hbr ⟨by rw [get_last hl, nmS_last hl], ?_⟩ ?_
    · rw [nmS_last hl, hcv]
      exact Own.nil_ _ _ _
    · intro b hb
      simp only [Res.has, nmS_last hl, Value.ownBlock] at hb
      cases hb
  obtain ⟨hn, hbk, r0, hr0, hbl, hbl2, hput⟩ := hS.bv hr
  have hkl := lt_of_get hr0
  have hk2 : (hp ++ [Res.own e c])[k]? = hp[k]? := List.getElem?_append_left hkl
  have hr2 : bview (hp ++ [Res.own e c])[k]? = some (t, .c l) := by rw [hk2]; exact hr
  obtain ⟨hn2, hbk2, r1, hr1, hbl3, hbl4, hput2⟩ := h1.bv hr2
  have hv : (Cont.c (l.set i (.o hp.length))).vals (γ ++ [Nm.s (.slice none 0 0)]) = (Cont.c l).vals (γ ++ [Nm.s (.slice none 0 0)]) := by
    simp only [Cont.vals, List.map_set]
    have e1 : At.val (γ ++ [Nm.s (.slice none 0 0)]) (.o hp.length) = .slice none 0 0 := nmS_last hl _
    rw [e1]
    apply List.ext_getElem?
    intro j
    by_cases hj : i = j
    · subst hj
      rw [List.getElem?_set]
      have hil := lt_of_get hi
      simp only [if_true, List.length_map]
      rw [if_pos hil, List.getElem?_map, hi]
      rfl
    · rw [List.getElem?_set_ne hj]
  have := h1.update (r' := bput (hp ++ [Res.own e c])[k]? t (.c (l.set i (.o hp.length)))) hr1 (b := nmB _ k) (by rw [hbl3]) (Keeps.refl _ _) (hput2 _ _ (by rw [hv]; exact hbk2)) (.inl (hbl4 _))
  rw [hk2, List.set_append_left _ _ hkl] at this
  exact this
theorem loop_ghostC {c : Code} {s : S} {K : Exit → S → Prop} (k i : Nat) (t e : TypeId) (l : List At) (ct : Cont) (hr : bview s.hp[k]? = some (t, .c l)) (hi : l[i]? = some (.v (.slice none 0 0))) (hc : ct.len = 0) (hcb : ct.bnd s.hp.length) (hb : s.bnd)
    (h : LoopG P w0 ow n c ⟨s.fr, s.hp.set k (bput s.hp[k]? t (.c (l.set i (.o s.hp.length)))) ++ [.own e ct]⟩ K) : LoopG P w0 ow n c s K := fun a w ⟨γ, hf⟩ =>
  h a w ⟨_, hf.sat.ghost hr hi hc hcb hb.2, hf.defers, hf.size, fun u sv hu => by
    rw [hf.at_ u sv hu]
    exact (Sv.ext (by rw [hf.sat.len]; exact hb.1 _ (Fr.get_mem hu))).symm⟩
end
attribute [push_cast] goneAll shiftL mvL moveR
end Go.Proofs.YtombphphaoeeiaaGreatDoor
/- The engine: how what a caller hands over is told to whom it calls, and what a call leaves. No program in sight. -/
namespace Go.Proofs.YtombphphaoeeiaaGreatDoor
open Go.RowKit
set_option linter.unusedSimpArgs false
/-- How a call ends: names told anew. -/
def EndsAs (sv1 : Sv) (hp1 : List Res) (sv : Sv) (hp : List Res) : Prop := ∃ ρ, Le ρ ⟨[(0, sv)], hp⟩ ⟨[(0, sv1)], hp1⟩
theorem endsAs {sv1 sv : Sv} {hp1 hp : List Res} (ρ : List Nat) (h : Le ρ ⟨[(0, sv)], hp⟩ ⟨[(0, sv1)], hp1⟩) : EndsAs sv1 hp1 sv hp := ⟨ρ, h⟩
section
variable {P : Program} {w0 w : World} {ow : Nat → Prop} {n : Nat} {γ : List Nm} {hp : List Res}
theorem calls_fun {f : FuncId} {fn : Func} {c : Code} (hf : P.funcs[f]? = some fn) (hb : fn.body = some c) (hn : fn.ntmps = n) (svs : List Sv) (hS : Sat w ow γ hp w) (hl : svs.length ≤ n) (sv1 : Sv) (hp1 : List Res)
    (h : symC P w ow n c ⟨argFr 0 svs, hp⟩ (Fin P w ow fn.results.toList (EndsAs sv1 hp1))) : Calls P f (svs.map (Sv.val γ)).toArray w fun e w' => ∃ γ1, e = .returned (sv1.val γ1) ∧ Sat w ow γ1 hp1 w' := by
  refine calls_sym hf hb hn svs hS hl (EndsAs sv1 hp1) (fun γ' sv hp' w' hS' ⟨ρ, h1, h2, h3, h4⟩ => ?_) h
  obtain ⟨hS2, hρ⟩ := hS'.sel h2 h3 h4.2
  refine ⟨reγ ρ γ', ?_, hS2⟩
  have e : sv = sv1.ren ρ := by
    have := h1.1
    simp only [Fr.get, if_true, Option.some.injEq] at this
    exact this
  have hlen : ρ.length = hp1.length := (leHp_get h2).1
  rw [Sv.re hρ (by rw [hlen]; exact h4.1 (0, sv1) (List.mem_cons_self ..)), ← e]
theorem Sat.topin' {k : Nat} {t : TypeId} {c : Cont} (hS : Sat w0 ow γ hp w) (hr : bview hp[k]? = some (t, c)) : Sat w0 ow γ (hp.set k (.pin (nmB γ k) t c)) w := by
  obtain ⟨h1, h2, r0, hr0, hbl, _, _⟩ := hS.bv hr
  exact hS.update (r' := .pin (nmB γ k) t c) hr0 (by rw [hbl]) (Keeps.refl _ _) ⟨h1, rfl, h2⟩ (.inl hbl.symm)
/-- What ρ names, the first of it a variable, as the callee sees it. -/
theorem Sat.hand {k : Nat} {t : TypeId} {c : Cont} {ρ : List Nat} {hp0 : List Res} (hS : Sat w0 ow γ hp w) (hr : bview hp[k]? = some (t, c)) (hle : leHp ρ (hp.set k (.pin (nmB γ k) t c)) ρ hp0) (hn : ndup ρ) (hb : ∀ r ∈ hp0, Res.bnd hp0.length r) :
    Sat w (Owns (reγ ρ γ) hp0) (reγ ρ γ) hp0 w ∧ (∀ b, Owns (reγ ρ γ) hp0 b → ∃ (k' : Nat) (r : Res), k' ∈ ρ ∧ hp[k']? = some r ∧ r.has γ k' b) ∧ ∀ sv : Sv, sv.bnd ρ.length → sv.val (reγ ρ γ) = (sv.ren ρ).val γ := by
  obtain ⟨h1, h2, r0, hr0, hbl, hbl2, hput⟩ := hS.bv hr
  have hT := hS.topin' hr
  obtain ⟨hsel, hρ⟩ := hT.sel hle hn hb
  obtain ⟨hlen, hget⟩ := leHp_get hle
  refine ⟨hsel.anew fun b h => h, ?_, fun sv hsv => Sv.re hρ hsv⟩
  rintro b ⟨i, r, hi, hbb⟩
  have hi' : i < ρ.length := by have := lt_of_get hi; omega
  rw [Res.ren_has hρ hi'] at hbb
  have hg := hget i r hi
  have hmem : ρ.getD i 0 ∈ ρ := by
    rw [List.getD_eq_getElem?_getD, List.getElem?_eq_getElem hi']
    exact List.getElem_mem hi'
  by_cases e : k = ρ.getD i 0
  · rw [← e] at hg hmem
    have hkl := lt_of_get hr0
    rw [List.getElem?_set] at hg
    simp only [if_true] at hg
    rw [if_pos hkl] at hg
    have hq : r.ren ρ = .pin (nmB γ k) t c := (Option.some.inj hg).symm
    rw [hq, show rn ρ i = k from e.symm] at hbb
    exact ⟨k, r0, hmem, hr0, by rw [hbl]; exact hbb⟩
  · rw [List.getElem?_set_ne e] at hg
    exact ⟨ρ.getD i 0, _, hmem, hg, hbb⟩
theorem F32.of2 {A : Option Addr} {l : List UInt32} (hR : RdV w0 w0.heap.size A (l.map vU32)) (hn : 0 < l.length → ∀ b off, A = some ⟨b, off, none⟩ → ¬ ow b) : F32 w0 ow A l := by
  have hc : ∀ i, i < l.length → ∃ b off, A = some ⟨b, off, none⟩ ∧ b < w0.heap.size ∧ w0.cell? ⟨b, off + i, none⟩ = some (vU32 (ix l i)) := fun i hi => by
    obtain ⟨b, off, h1, h2, h3⟩ := hR (by rw [List.length_map]; omega)
    exact ⟨b, off, h1, h2, h3 i _ (ix_map vU32 l i hi)⟩
  refine ⟨fun h => ?_, fun i hi => ?_, fun i hi => ?_⟩
  · obtain ⟨b, off, rfl, _⟩ := hc 0 h; rfl
  · obtain ⟨b, off, rfl, h2, h3⟩ := hc i hi
    simp only [cellOf, pAdd, Option.map_some, add_plain, h3, Option.getD_some]
  · obtain ⟨b, off, rfl, h2, h3⟩ := hc i hi
    exact ⟨⟨b, off + i, none⟩, _, by simp only [pAdd, Option.map_some, add_plain], h2, hn (by omega) b off rfl, h3⟩
end
end Go.Proofs.YtombphphaoeeiaaGreatDoor
/- A nil slice told as an empty one of the call's own, whose elements have several cells. No program in sight. -/
namespace Go.Proofs.YtombphphaoeeiaaGreatDoor
open Go.RowKit
section
variable {P : Program} {w0 : World} {ow : Nat → Prop} {n : Nat}
theorem fits_ghostN {s : S} {a : Act} {w : World} (t : Nat) (e : TypeId) (m : Nat) (c : Cont) (hm : 0 < m) (ht : Fr.get s.fr t = some (.x (.a (.v (.slice none 0 0))))) (hc : c.len = 0) (hb : s.bnd) (hf : Fits w0 ow n s a w) :
    Fits w0 ow n ⟨Fr.put s.fr t (.x (.a (.o s.hp.length))), s.hp ++ [.onn e m c]⟩ a w := by
  obtain ⟨γ, hf⟩ := hf
  have hl := hf.sat.len
  have hv : c.vals (γ ++ [Nm.s (.slice none 0 0)]) = [] := List.eq_nil_of_length_eq_zero (by rw [Cont.len_vals, hc])
  have hS : Sat w0 ow (γ ++ [.s (.slice none 0 0)]) (s.hp ++ [.onn e m c]) w := by
    refine hf.sat.push (X := fun _ => False) (Keeps.refl _ _) (fun b h => h.elim) hb.2 ⟨by rw [get_last hl, nmS_last hl], ?_⟩ ?_
    · rw [nmS_last hl, hv]
      exact ⟨hm, 0, World.ownsRow_nil w 0 e m⟩
    · intro b hb
      simp only [Res.has, nmS_last hl, Value.ownBlock] at hb
      cases hb
  refine ⟨_, hS, hf.defers, hf.size, fun u sv hu => ?_⟩
  rw [Fr.get_put] at hu
  split at hu
  · rename_i htu
    subst htu
    cases hu
    rw [hf.at_ t _ ht]
    simp [Sv.val, Sc.val, At.val, nmS_last hl]
  · rw [hf.at_ u sv hu]
    exact (Sv.ext (by rw [hl]; exact hb.1 _ (Fr.get_mem hu))).symm
theorem loop_ghostN {c : Code} {s : S} {K : Exit → S → Prop} (t : Nat) (e : TypeId) (m : Nat) (k : Cont) (hm : 0 < m) (ht : Fr.get s.fr t = some (.x (.a (.v (.slice none 0 0))))) (hc : k.len = 0) (hb : s.bnd)
    (h : LoopG P w0 ow n c ⟨Fr.put s.fr t (.x (.a (.o s.hp.length))), s.hp ++ [.onn e m k]⟩ K) : LoopG P w0 ow n c s K :=
  fun a w hf => h a w (fits_ghostN t e m k hm ht hc hb hf)
end
end Go.Proofs.YtombphphaoeeiaaGreatDoor
/- Facts on values that nobody turns any more: what they read, in blocks that the call owns. No program in sight. -/
namespace Go.Proofs.YtombphphaoeeiaaGreatDoor
open Go.RowKit
set_option linter.unusedSimpArgs false
/-- A slice of so many elements, and the cells that it reads. -/
structure Fct where
  v : Value
  n : Nat
  vs : List Value
def Fct.ok (f : Fct) (B : Nat → Prop) (w : World) : Prop :=
  ∃ A c, f.v = .slice A f.n c ∧ f.n ≤ c ∧ c ≤ maxLen ∧ (0 < f.vs.length → ∃ b off, A = some ⟨b, off, none⟩ ∧ B b ∧ ∀ j u, f.vs[j]? = some u → w.cell? ⟨b, off + j, none⟩ = some u)
theorem cell_block {w w' : World} {p : Addr} (h : w'.heap[p.block]? = w.heap[p.block]?) : w'.cell? p = w.cell? p := by unfold World.cell?; rw [h]
theorem Fct.ok.keep {f : Fct} {B own : Nat → Prop} {w w' : World} (h : f.ok B w) (hb : ∀ b, B b → b < w.heap.size) (hk : Keeps own w w') (hn : ∀ b, B b → ¬ own b) : f.ok B w' := by
  obtain ⟨A, c, h1, h2, h3, h4⟩ := h
  refine ⟨A, c, h1, h2, h3, fun hp => ?_⟩
  obtain ⟨b, off, e, hB, h5⟩ := h4 hp
  exact ⟨b, off, e, hB, fun j u hu => (cell_block (p := ⟨b, off + j, none⟩) (hk.block b (hb b hB) (hn b hB))).trans (h5 j u hu)⟩
theorem Fct.ok.mono {f : Fct} {B B' : Nat → Prop} {w : World} (h : f.ok B w) (hB : ∀ b, B b → B' b) : f.ok B' w := by
  obtain ⟨A, c, h1, h2, h3, h4⟩ := h
  refine ⟨A, c, h1, h2, h3, fun hp => ?_⟩
  obtain ⟨b, off, e, hb, h5⟩ := h4 hp
  exact ⟨b, off, e, hB b hb, h5⟩
def fctRep (l : List Fct) : Rep where
  H v B w := v = .bool true ∧ ∀ f ∈ l, f.ok B w
  one h := by obtain ⟨rfl, _⟩ := h; exact ⟨rfl, trivial⟩
  keep h hb hk hn := ⟨h.1, fun f hf => (h.2 f hf).keep hb hk hn⟩
/-! ### One name's value, written out -/
section
variable (j : Nat) (v : Value)
def At.sub : At → At
  | .o k => if k = j then .v v else .o k
  | x => x
def Sc.sub : Sc → Sc
  | .a x => .a (x.sub j v)
  | .g l => .g (l.map (At.sub j v))
  | x => x
def Sv.sub : Sv → Sv
  | .x s => .x (s.sub j v)
  | .t l => .t (l.map (Sc.sub j v))
  | .f fn caps => .f fn (caps.map (At.sub j v))
def Cont.sub : Cont → Cont
  | .c l => .c (l.map (At.sub j v))
  | x => x
def mpSub (l : List (Int × Sc)) : List (Int × Sc) := l.map fun p => (p.1, p.2.sub j v)
theorem mpSub_nil : mpSub j v [] = [] := rfl
theorem mpSub_cons (p : Int × Sc) (l : List (Int × Sc)) : mpSub j v (p :: l) = (p.1, p.2.sub j v) :: mpSub j v l := rfl
def Res.sub : Res → Res
  | .blk t c => .blk t (c.sub j v)
  | .own t c => .own t (c.sub j v)
  | .lit t c => .lit t (c.sub j v)
  | .str t c => .str t (c.sub j v)
  | .pin g t c => .pin g t (c.sub j v)
  | .onn t m c => .onn t m (c.sub j v)
  | .mp q l => .mp q (mpSub j v l)
  | x => x
def subFr : Fr → Fr
  | [] => []
  | (k, x) :: r => (k, x.sub j v) :: subFr r
end
section
variable {j : Nat} {v : Value} {γ : List Nm} (h : nmS γ j = v)
include h
theorem At.sub_val (x : At) : (x.sub j v).val γ = x.val γ := by
  cases x <;> simp only [At.sub]
  split
  · rename_i k hk
    subst hk
    simp only [At.val, h]
  · rfl
theorem mapAt_sub (l : List At) : (l.map (At.sub j v)).map (At.val γ) = l.map (At.val γ) := by
  rw [List.map_map]
  exact List.map_congr_left fun x _ => At.sub_val h x
theorem Sc.sub_val (x : Sc) : (x.sub j v).val γ = x.val γ := by
  cases x <;> simp only [Sc.sub, Sc.val]
  · exact At.sub_val h _
  · rw [mapAt_sub h]
theorem Sv.sub_val (x : Sv) : (x.sub j v).val γ = x.val γ := by
  cases x <;> simp only [Sv.sub, Sv.val]
  · exact Sc.sub_val h _
  · rename_i l
    rw [List.map_map]
    congr 2
    exact List.map_congr_left fun x _ => Sc.sub_val h x
  · rw [mapAt_sub h]
theorem Cont.sub_vals (c : Cont) : (c.sub j v).vals γ = c.vals γ := by
  cases c <;> simp only [Cont.sub, Cont.vals]
  exact mapAt_sub h _
theorem mpE_sub (q : IntKind) (l : List (Int × Sc)) : mpE γ q (mpSub j v l) = mpE γ q l := by
  unfold mpE mpSub
  rw [List.map_map]
  exact List.map_congr_left fun p _ => by simp only [Function.comp, Sc.sub_val h]
omit h in
theorem Res.sub_has (r : Res) (k : Nat) : (r.sub j v).has γ k = r.has γ k := by cases r <;> rfl
theorem Res.sub_holds {r : Res} {k : Nat} {w : World} (hr : r.holds γ k w) : (r.sub j v).holds γ k w := by
  cases r <;> simp only [Res.sub, Res.holds, Cont.sub_vals h, mpE_sub h] at hr ⊢ <;> exact hr
theorem Sat.sub {w0 w : World} {ow : Nat → Prop} {hp : List Res} (hS : Sat w0 ow γ hp w) : Sat w0 ow γ (hp.map (Res.sub j v)) w := by
  have get : ∀ (k : Nat) (r : Res), (hp.map (Res.sub j v))[k]? = some r → ∃ q, hp[k]? = some q ∧ r = q.sub j v := by
    intro k r hr
    rw [List.getElem?_map] at hr
    cases hq : hp[k]? with
    | none => rw [hq] at hr; cases hr
    | some q => rw [hq] at hr; exact ⟨q, rfl, (Option.some.inj hr).symm⟩
  refine ⟨hS.keeps, by rw [List.length_map]; exact hS.len, ?_, ?_, ?_⟩
  · intro k r hr
    obtain ⟨q, hq, rfl⟩ := get k r hr
    exact Res.sub_holds h (hS.holds k q hq)
  · intro k r b hr hb
    obtain ⟨q, hq, rfl⟩ := get k r hr
    rw [Res.sub_has] at hb
    exact hS.mine k q b hq hb
  · intro i k r r' b hr hr' hik hb
    obtain ⟨q, hq, rfl⟩ := get i r hr
    obtain ⟨q', hq', rfl⟩ := get k r' hr'
    rw [Res.sub_has] at hb ⊢
    exact hS.apart i k q q' b hq hq' hik hb
end
theorem subFr_get {j : Nat} {v : Value} : ∀ {fr : Fr} {t : Nat} {sv : Sv}, Fr.get (subFr j v fr) t = some sv → ∃ x, Fr.get fr t = some x ∧ sv = x.sub j v
  | [], t, sv, h => by cases h
  | (k, x) :: r, t, sv, h => by
    simp only [subFr, Fr.get] at h ⊢
    split
    · rename_i hk
      rw [if_pos hk] at h
      exact ⟨x, rfl, (Option.some.inj h).symm⟩
    · rename_i hk
      rw [if_neg hk] at h
      exact subFr_get h
/-! ### A slice of the call's own becomes a fact -/
section
variable {w0 w : World} {ow : Nat → Prop} {γ : List Nm} {hp : List Res} {j k : Nat} {e : TypeId} {c : Cont} {l : List Fct} {vs : List Value}
theorem val_same {γ γ' : List Nm} (h1 : nmB γ' = nmB γ) (h2 : nmS γ' = nmS γ) (x : At) : x.val γ' = x.val γ := by
  cases x <;> simp only [At.val, h1, h2]
theorem vals_same {γ γ' : List Nm} (h1 : nmB γ' = nmB γ) (h2 : nmS γ' = nmS γ) (c : Cont) : c.vals γ' = c.vals γ := by
  cases c <;> simp only [Cont.vals]
  exact List.map_congr_left fun x _ => val_same h1 h2 x
theorem sc_same {γ γ' : List Nm} (h1 : nmB γ' = nmB γ) (h2 : nmS γ' = nmS γ) (x : Sc) : x.val γ' = x.val γ := by
  cases x <;> simp only [Sc.val]
  · exact val_same h1 h2 _
  · congr 2; exact List.map_congr_left fun x _ => val_same h1 h2 x
theorem sv_same {γ γ' : List Nm} (h1 : nmB γ' = nmB γ) (h2 : nmS γ' = nmS γ) (x : Sv) : x.val γ' = x.val γ := by
  cases x <;> simp only [Sv.val]
  · exact sc_same h1 h2 _
  · congr 2; exact List.map_congr_left fun x _ => sc_same h1 h2 x
  · congr 2; exact List.map_congr_left fun x _ => val_same h1 h2 x
theorem mpE_same {γ γ' : List Nm} (h1 : nmB γ' = nmB γ) (h2 : nmS γ' = nmS γ) (q : IntKind) (l : List (Int × Sc)) : mpE γ' q l = mpE γ q l := by
  unfold mpE
  exact List.map_congr_left fun p _ => by rw [sc_same h1 h2]
/-- What resource j owns goes over to the facts. -/
theorem Sat.absorb (hS : Sat w0 ow γ hp w) {r : Res} (hj : hp[j]? = some r) (hr : ∀ b, r.has γ j b = ((nmS γ j).ownBlock = some b)) (hk : hp[k]? = some (.abs (fctRep l))) (hjk : j ≠ k) {f : Fct} (hf : f.ok (fun b => (nmS γ j).ownBlock = some b) w) :
    ∃ γ', nmB γ' = nmB γ ∧ nmS γ' = nmS γ ∧ Sat w0 ow γ' ((hp.set j .gone).set k (.abs (fctRep (l ++ [f])))) w := by
  obtain ⟨hn, hlt, hv, hall⟩ := hS.holds k _ hk
  have hkl := lt_of_get hk
  have hgl : k < γ.length := by rw [hS.len]; exact hkl
  let B' : Nat → Prop := fun b => nmM γ k b ∨ (nmS γ j).ownBlock = some b
  have g1 : ∀ i, i ≠ k → (γ.set k (.m (.bool true) B'))[i]? = γ[i]? := fun i hi => List.getElem?_set_ne fun e => hi e.symm
  have g2 : (γ.set k (.m (.bool true) B'))[k]? = some (.m (.bool true) B') := List.getElem?_set_self hgl
  have eB : nmB (γ.set k (.m (.bool true) B')) = nmB γ := by
    funext i
    by_cases hi : i = k
    · subst hi; unfold nmB; rw [g2, hn]
    · unfold nmB; rw [g1 i hi]
  have eS : nmS (γ.set k (.m (.bool true) B')) = nmS γ := by
    funext i
    by_cases hi : i = k
    · subst hi; rw [hv]; unfold nmS; rw [g2]
    · unfold nmS; rw [g1 i hi]
  have eM : ∀ i, i ≠ k → nmM (γ.set k (.m (.bool true) B')) i = nmM γ i := fun i hi => by unfold nmM; rw [g1 i hi]
  have eMk : nmM (γ.set k (.m (.bool true) B')) k = B' := by unfold nmM; rw [g2]
  have hhas : ∀ (q : Res) (i : Nat), i ≠ k → q.has (γ.set k (.m (.bool true) B')) i = q.has γ i := fun q i hi => by
    cases q <;> simp only [Res.has, eB, eS, eM i hi]
  have hholds : ∀ (q : Res) (i : Nat), i ≠ k → q.holds γ i w → q.holds (γ.set k (.m (.bool true) B')) i w := fun q i hi hq => by
    cases q <;> simp only [Res.holds, eB, eS, eM i hi, g1 i hi, vals_same eB eS, mpE_same eB eS] at hq ⊢ <;> exact hq
  have get : ∀ (i : Nat) (q : Res), ((hp.set j .gone).set k (.abs (fctRep (l ++ [f]))))[i]? = some q → (i = k ∧ q = .abs (fctRep (l ++ [f]))) ∨ (i ≠ k ∧ i = j ∧ q = .gone) ∨ (i ≠ k ∧ i ≠ j ∧ hp[i]? = some q) := by
    intro i q hq
    by_cases hi : i = k
    · subst hi
      rw [List.getElem?_set_self (by rw [List.length_set]; exact hkl)] at hq
      exact .inl ⟨rfl, (Option.some.inj hq).symm⟩
    · rw [List.getElem?_set_ne (fun e => hi e.symm)] at hq
      by_cases hi2 : i = j
      · subst hi2
        rw [List.getElem?_set_self (lt_of_get hj)] at hq
        exact .inr (.inl ⟨hi, rfl, (Option.some.inj hq).symm⟩)
      · rw [List.getElem?_set_ne (fun e => hi2 e.symm)] at hq
        exact .inr (.inr ⟨hi, hi2, hq⟩)
  have hB : ∀ b, B' b → ∃ (i : Nat) (q : Res), hp[i]? = some q ∧ q.has γ i b ∧ (i = k ∨ i = j) := by
    rintro b (hb | hb)
    · exact ⟨k, _, hk, hb, .inl rfl⟩
    · exact ⟨j, r, hj, by rw [hr]; exact hb, .inr rfl⟩
  refine ⟨γ.set k (.m (.bool true) B'), eB, eS, hS.keeps, by simp [hS.len], ?_, ?_, ?_⟩
  · intro i q hq
    rcases get i q hq with ⟨rfl, rfl⟩ | ⟨_, _, rfl⟩ | ⟨h1, h2, h3⟩
    · refine ⟨by rw [g2, eS, hv, eMk], ?_, by rw [eS]; exact hv, ?_⟩
      · intro b hb
        rw [eMk] at hb
        obtain ⟨i, q, h1, h2, _⟩ := hB b hb
        exact (hS.mine i q b h1 h2).2
      · rw [eMk]
        intro g hg
        rcases List.mem_append.1 hg with hg | hg
        · exact (hall g hg).mono fun b hb => .inl hb
        · rw [List.mem_singleton.1 hg]
          exact hf.mono fun b hb => .inr hb
    · trivial
    · exact hholds q i h1 (hS.holds i q h3)
  · intro i q b hq hb
    rcases get i q hq with ⟨rfl, rfl⟩ | ⟨_, _, rfl⟩ | ⟨h1, h2, h3⟩
    · have hb : B' b := by rw [← eMk]; exact hb
      obtain ⟨i, q, h1, h2, _⟩ := hB b hb
      exact hS.mine i q b h1 h2
    · exact hb.elim
    · rw [hhas q i h1] at hb
      exact hS.mine i q b h3 hb
  · intro i i' q q' b hq hq' hne hb hb'
    rcases get i q hq with ⟨e1, rfl⟩ | ⟨_, _, rfl⟩ | ⟨h1, h2, h3⟩
    · rcases get i' q' hq' with ⟨e2, rfl⟩ | ⟨_, _, rfl⟩ | ⟨h4, h5, h6⟩
      · exact hne (e1.trans e2.symm)
      · exact hb'
      · have hb : B' b := by subst e1; rw [← eMk]; exact hb
        rw [hhas q' i' h4] at hb'
        obtain ⟨m, q2, h7, h8, h9⟩ := hB b hb
        refine hS.apart m i' q2 q' b h7 h6 ?_ h8 hb'
        rcases h9 with rfl | rfl
        · exact fun e => h4 e.symm
        · exact fun e => h5 e.symm
    · exact hb
    · rw [hhas q i h1] at hb
      rcases get i' q' hq' with ⟨e2, rfl⟩ | ⟨_, _, rfl⟩ | ⟨h4, h5, h6⟩
      · have hb' : B' b := by subst e2; rw [← eMk]; exact hb'
        obtain ⟨m, q2, h7, h8, h9⟩ := hB b hb'
        refine hS.apart i m q q2 b h3 h7 ?_ hb h8
        rcases h9 with rfl | rfl
        · exact h1
        · exact h2
      · exact hb'
      · rw [hhas q' i' h4] at hb'
        exact hS.apart i i' q q' b h3 h6 hne hb hb'
theorem fct_own (hS : Sat w0 ow γ hp w) (hj : hp[j]? = some (.own e c)) (hv : ∀ γ, c.vals γ = vs) : ∃ A cap, nmS γ j = .slice A vs.length cap ∧ vs.length ≤ cap ∧ cap ≤ maxLen ∧ Fct.ok ⟨.slice A vs.length cap, vs.length, vs⟩ (fun b => (nmS γ j).ownBlock = some b) w := by
  have h := (hS.own hj).2
  rw [hv γ] at h
  obtain ⟨A, cap, h1, h2, h3, h4, h5⟩ := h.rd
  refine ⟨A, cap, h1, h2, h3, A, cap, rfl, h2, h3, fun hp => ?_⟩
  obtain ⟨b, off, rfl, _, h6⟩ := h4 hp
  obtain ⟨_, _, _, h7⟩ := h5 _ rfl
  exact ⟨b, off, rfl, h7, h6⟩
end
section
variable {P : Program} {w0 : World} {ow : Nat → Prop} {n : Nat} {s : S} {j k : Nat} {e : TypeId} {c : Cont} {l : List Fct} {vs : List Value}
/-- The state behind: the name is written out. -/
def absS (j k : Nat) (v : Value) (l : List Fct) (s : S) : S := ⟨subFr j v s.fr, ((s.hp.map (Res.sub j v)).set j .gone).set k (.abs (fctRep l))⟩
theorem fits_absorb {a : Act} {w : World} (hj : s.hp[j]? = some (.own e c)) (hv : ∀ γ, c.vals γ = vs) (hk : s.hp[k]? = some (.abs (fctRep l))) (hjk : j ≠ k) (hf : Fits w0 ow n s a w) :
    ∃ A cap, vs.length ≤ cap ∧ cap ≤ maxLen ∧ Fits w0 ow n (absS j k (.slice A vs.length cap) (l ++ [⟨.slice A vs.length cap, vs.length, vs⟩]) s) a w := by
  obtain ⟨γ, hf⟩ := hf
  obtain ⟨A, cap, h1, h2, h3, h4⟩ := fct_own hf.sat hj hv
  have hT := hf.sat.sub h1
  obtain ⟨γ', eB, eS, hS'⟩ := hT.absorb (j := j) (r := .own e (c.sub j _)) (by rw [List.getElem?_map, hj]; rfl) (fun b => rfl) (by rw [List.getElem?_map, hk]; rfl) hjk h4
  refine ⟨A, cap, h2, h3, γ', hS', hf.defers, hf.size, fun t sv ht => ?_⟩
  obtain ⟨x, hx, rfl⟩ := subFr_get ht
  rw [sv_same eB eS, Sv.sub_val h1]
  exact hf.at_ t x hx
theorem loop_absorb {b : Code} {K : Exit → S → Prop} (j k : Nat) (hj : s.hp[j]? = some (.own e c)) (hv : ∀ γ, c.vals γ = vs) (hk : s.hp[k]? = some (.abs (fctRep l))) (hjk : j ≠ k)
    (h : ∀ A cap, vs.length ≤ cap → cap ≤ maxLen → LoopG P w0 ow n b (absS j k (.slice A vs.length cap) (l ++ [⟨.slice A vs.length cap, vs.length, vs⟩]) s) K) : LoopG P w0 ow n b s K := fun a w hf => by
  obtain ⟨A, cap, h1, h2, h3⟩ := fits_absorb hj hv hk hjk hf
  exact h A cap h1 h2 a w h3
theorem loopK_absorb {ι : Type} {I : ι → S} {Inv : ι → Prop} {μ : ι → Nat} {i : ι} {K : Exit → S → Prop} (j k : Nat) (hj : s.hp[j]? = some (.own e c)) (hv : ∀ γ, c.vals γ = vs) (hk : s.hp[k]? = some (.abs (fctRep l))) (hjk : j ≠ k)
    (h : ∀ A cap, vs.length ≤ cap → cap ≤ maxLen → LoopK w0 ow n I Inv μ i K .normal (absS j k (.slice A vs.length cap) (l ++ [⟨.slice A vs.length cap, vs.length, vs⟩]) s)) : LoopK w0 ow n I Inv μ i K .normal s := fun a w hf => by
  obtain ⟨A, cap, h1, h2, h3⟩ := fits_absorb hj hv hk hjk hf
  exact h A cap h1 h2 a w h3
/-- No fact as yet. -/
theorem fits_fct {a : Act} {w : World} (hb : s.bnd) (hf : Fits w0 ow n s a w) : Fits w0 ow n ⟨s.fr, s.hp ++ [.abs (fctRep [])]⟩ a w := by
  obtain ⟨γ, hf⟩ := hf
  have hl := hf.sat.len
  have e1 : (γ ++ [Nm.m (.bool true) (fun _ => False)])[s.hp.length]? = some (.m (.bool true) (fun _ => False)) := by rw [← hl]; simp
  have e2 : nmS (γ ++ [Nm.m (.bool true) (fun _ => False)]) s.hp.length = .bool true := by unfold nmS; rw [e1]
  have e3 : nmM (γ ++ [Nm.m (.bool true) (fun _ => False)]) s.hp.length = fun _ => False := by unfold nmM; rw [e1]
  have hS : Sat w0 ow (γ ++ [.m (.bool true) (fun _ => False)]) (s.hp ++ [.abs (fctRep [])]) w := by
    refine hf.sat.push (X := fun _ => False) (Keeps.refl _ _) (fun b h => h.elim) hb.2 ⟨by rw [e1, e2, e3], fun b h => by rw [e3] at h; exact h.elim, by rw [e2]; exact ⟨rfl, fun f h => by cases h⟩⟩ ?_
    intro b hb
    simp only [Res.has, e3] at hb
  refine ⟨_, hS, hf.defers, hf.size, fun u sv hu => ?_⟩
  rw [hf.at_ u sv hu]
  exact (Sv.ext (by rw [hl]; exact hb.1 _ (Fr.get_mem hu))).symm
theorem loop_fct {b : Code} {K : Exit → S → Prop} (hb : s.bnd) (h : LoopG P w0 ow n b ⟨s.fr, s.hp ++ [.abs (fctRep [])]⟩ K) : LoopG P w0 ow n b s K := fun a w hf => h a w (fits_fct hb hf)
/-- What a fact says to whom is called. -/
theorem fct_rd {hp : List Res} {γ : List Nm} {w : World} (hS : Sat w0 ow γ hp w) (hk : hp[k]? = some (.abs (fctRep l))) {f : Fct} (hf : f ∈ l) : ∃ A c, f.v = .slice A f.n c ∧ f.n ≤ c ∧ c ≤ maxLen ∧ RdV w w.heap.size A f.vs := by
  obtain ⟨_, hlt, _, hall⟩ := hS.holds k _ hk
  obtain ⟨A, c, h1, h2, h3, h4⟩ := hall f hf
  refine ⟨A, c, h1, h2, h3, fun hp => ?_⟩
  obtain ⟨b, off, e, hB, h5⟩ := h4 hp
  exact ⟨b, off, e, hlt b hB, h5⟩
end
/-- Where a slice shows the values of a list, told one by one. -/
structure FM {α : Type} [Inhabited α] (f : α → Value) (w0 : World) (ow : Nat → Prop) (A : Option Addr) (l : List α) : Prop where
  some_ : 0 < l.length → A.isSome = true
  cell : ∀ i, i < l.length → cellOf w0 (pAdd A i) = f (ix l i)
  ok : ∀ i, i < l.length → rawOk w0 ow (pAdd A i)
theorem FM.of {α : Type} [Inhabited α] {f : α → Value} {w0 : World} {A : Option Addr} {l : List α} (h : RdV w0 w0.heap.size A (l.map f)) : FM f w0 No A l :=
  ⟨fun hp => (FV.no h).some_ (by simpa using hp), fun i hi => ((FV.no h).cell (ix_map f l i hi)).1, fun i hi => ((FV.no h).cell (ix_map f l i hi)).2⟩
/-- A row of numbers, as it lies there. -/
structure Rw where
  A : Option Addr
  c : Nat
  l : List UInt32
deriving Inhabited
def Rw.val (r : Rw) : Value := .slice r.A r.l.length r.c
def Rw.fct (r : Rw) : Fct := ⟨.slice r.A r.l.length r.c, r.l.length, r.l.map vU32⟩
theorem mapV_sub (j : Nat) (v : Value) {α : Type} (f : α → Value) (l : List α) : (l.map fun x => At.v (f x)).map (At.sub j v) = l.map fun x => At.v (f x) := by rw [List.map_map]; rfl
theorem mapV_ren (ρ : List Nat) {α : Type} (f : α → Value) (l : List α) : (l.map fun x => At.v (f x)).map (At.ren ρ) = l.map fun x => At.v (f x) := by rw [List.map_map]; rfl
theorem mapV_forall {Q : At → Prop} {α : Type} (f : α → Value) (l : List α) : (∀ x ∈ l.map fun x => At.v (f x), Q x) = ∀ x ∈ l, Q (.v (f x)) := propext List.forall_mem_map
attribute [push_cast] mapV_sub mapV_ren mapV_forall
attribute [push_cast] mpSub_nil mpSub_cons
attribute [push_cast] absS subFr At.sub Sc.sub Sv.sub Cont.sub Res.sub
theorem pAdd_zero (A : Option Addr) : pAdd A 0 = A := by
  cases A with
  | none => rfl
  | some a => simp [pAdd, Addr.add]
theorem pAdd_add (A : Option Addr) (i j : Nat) : pAdd (pAdd A i) j = pAdd A (i + j) := by
  cases A with
  | none => rfl
  | some a =>
    simp only [pAdd, Option.map_some, Option.some.injEq, Addr.add]
    by_cases hi : i = 0 <;> by_cases hj : j = 0 <;> simp [hi, hj, Nat.add_assoc]
theorem pAdd_isSome (A : Option Addr) (i : Nat) : (pAdd A i).isSome = A.isSome := by cases A <;> rfl
end Go.Proofs.YtombphphaoeeiaaGreatDoor
