/- What a term shows to whom is called: a slice, wherever it lies. No program in sight. -/
import Derived.Test.YtkchdhkpjnnliaaDoorEn3
namespace Go.Proofs.YtkchdhkpjnnliaaDoor
open Go.RowKit
/-- In every world that fits, sv is a slice that shows these values. -/
def Shows (w0 : World) (ow : Nat → Prop) (hp : List Res) (sv : Sv) (vs : List Value) : Prop :=
  ∀ γ w, Sat w0 ow γ hp w → ∃ A c, sv.val γ = .slice A vs.length c ∧ vs.length ≤ c ∧ RdV w w.heap.size A vs
section
variable {w0 : World} {ow : Nat → Prop} {hp : List Res} {e : TypeId} {c : Cont} {vs : List Value} {k : Nat}
theorem len_of_vals (hv : ∀ γ, c.vals γ = vs) : c.len = vs.length := by rw [← hv [], Cont.len_vals]
theorem shows_own (hr : hp[k]? = some (.own e c)) (hv : ∀ γ, c.vals γ = vs) : Shows w0 ow hp (.x (.a (.o k))) vs := fun γ w hS => by
  obtain ⟨A, m, h1, h2, h3, h4⟩ := hS.rdOwn hr
  rw [len_of_vals hv] at h1 h2
  rw [hv γ] at h4
  exact ⟨A, m, h1, h2, h4⟩
theorem shows_str (hr : hp[k]? = some (.str e c)) (hv : ∀ γ, c.vals γ = vs) : Shows w0 ow hp (.x (.a (.o k))) vs := fun γ w hS => by
  obtain ⟨A, m, h1, h2, h3, h4⟩ := hS.rdStr hr
  rw [len_of_vals hv] at h1 h2
  rw [hv γ] at h4
  exact ⟨A, m, h1, h2, h4⟩
theorem shows_z (hr : hp[k]? = some (.own e c)) (hv : ∀ γ, c.vals γ = vs) (l m : Nat) (h : l + m ≤ vs.length) : Shows w0 ow hp (.x (.a (.z k l m))) ((vs.drop l).take m) := fun γ w hS => by
  obtain ⟨A, cap, h1, h2, h3, h4⟩ := hS.zRd hr l m
  rw [hv γ] at h4
  rw [len_of_vals hv] at h2
  have hl : ((vs.drop l).take m).length = m := by rw [List.length_take, List.length_drop]; omega
  exact ⟨A, cap, by rw [hl]; exact h1, by omega, h4⟩
theorem rdv_take {w : World} {B : Nat} {A : Option Addr} {xs : List Value} (h : RdV w B A xs) (n : Nat) : RdV w B A (xs.take n) := RdV.take' h n
theorem shows_blk {t : TypeId} (hr : hp[k]? = some (.blk t c)) (hv : ∀ γ, c.vals γ = vs) (off len cap : Nat) (h : off + len ≤ vs.length) (hc : len ≤ cap) : Shows w0 ow hp (.x (.a (.s k off len cap))) ((vs.drop off).take len) := fun γ w hS => by
  have h4 := hS.rdBlk hr off
  rw [hv γ] at h4
  have hl : ((vs.drop off).take len).length = len := by rw [List.length_take, List.length_drop]; omega
  exact ⟨_, cap, by rw [hl]; rfl, by omega, rdv_take h4 len⟩
theorem shows_blk_all {t : TypeId} (hr : hp[k]? = some (.blk t c)) (hv : ∀ γ, c.vals γ = vs) (n cap : Nat) (h : vs.length = n) (hc : n ≤ cap) : Shows w0 ow hp (.x (.a (.s k 0 n cap))) vs := by
  have := shows_blk (w0 := w0) (ow := ow) hr hv 0 n cap (by omega) hc
  rwa [List.drop_zero, List.take_of_length_le (by omega)] at this
theorem shows_lit {t : TypeId} (hr : hp[k]? = some (.lit t c)) (hv : ∀ γ, c.vals γ = vs) (n cap : Nat) (h : vs.length = n) (hc : n ≤ cap) : Shows w0 ow hp (.x (.a (.s k 0 n cap))) vs := fun γ w hS => by
  have h4 := hS.rdLit hr 0
  rw [hv γ, List.drop_zero] at h4
  exact ⟨_, cap, by rw [h]; rfl, by omega, h4⟩
theorem shows_raw {A : Option Addr} (hR : RdV w0 w0.heap.size A vs) (n cap : Nat) (h : vs.length = n) (hc : n ≤ cap) : Shows w0 No hp (.x (.a (.v (.slice A n cap)))) vs := fun γ w hS =>
  ⟨A, cap, by rw [h]; rfl, by omega, (hR.below (keeps_below hS.keeps)).more (keeps_below hS.keeps).size⟩
theorem shows_nil : Shows w0 ow hp (.x (.a (.v (.slice none 0 0)))) [] := fun _ _ _ => ⟨none, 0, rfl, Nat.le_refl _, RdV.nil_⟩
end
/-! ### Slots that nobody reads any more are dropped -/
def keepS : List Nat → Fr → Fr
  | [], _ => []
  | t :: r, fr => match Fr.get fr t with
    | some v => (t, v) :: keepS r fr
    | none => keepS r fr
theorem keepS_get : ∀ (l : List Nat) (fr : Fr) (t : Nat) (v : Sv), Fr.get (keepS l fr) t = some v → Fr.get fr t = some v
  | [], _, _, _, h => by cases h
  | t :: r, fr, u, v, h => by
    unfold keepS at h
    cases hg : Fr.get fr t with
    | none => rw [hg] at h; exact keepS_get r fr u v h
    | some x =>
      rw [hg] at h
      simp only [Fr.get] at h
      split at h
      · rename_i e
        subst e
        rw [hg]; exact h
      · exact keepS_get r fr u v h
section
variable {P : Program} {w0 : World} {ow : Nat → Prop} {n : Nat} {s : S} {K : Exit → S → Prop}
theorem leads_keep (l : List Nat) : Leads w0 ow n s ⟨keepS l s.fr, s.hp⟩ := fun _ _ ⟨γ, h⟩ => ⟨γ, h.sat, h.defers, h.size, fun t v hv => h.at_ t v (keepS_get l _ t v hv)⟩
theorem draw_keep {id : Nat} {ops : List Oper} (l : List Nat) (h : DrawG P w0 ow n id ops ⟨keepS l s.fr, s.hp⟩ K) : DrawG P w0 ow n id ops s K := fun a w hf => h a w (leads_keep l a w hf)
theorem loop_keep {c : Code} (l : List Nat) (h : LoopG P w0 ow n c ⟨keepS l s.fr, s.hp⟩ K) : LoopG P w0 ow n c s K := fun a w hf => h a w (leads_keep l a w hf)
theorem call_keep {ops rest : List Oper} {o : Oper} {K : S → Prop} (l : List Nat) (h : CallG P w0 ow n ops o rest ⟨keepS l s.fr, s.hp⟩ K) : CallG P w0 ow n ops o rest s K := fun a w hf => h a w (leads_keep l a w hf)
end
/-! ### Where simp need not look -/
section
variable {P : Program} {w0 : World} {ow : Nat → Prop} {n : Nat} {s s' : S} {K : Exit → S → Prop} {K1 : S → Prop}
theorem symC_in {c : Code} (h : s = s') : symC P w0 ow n c s K = symC P w0 ow n c s' K := by rw [h]
theorem symR_in {ops l : List Oper} (h : s = s') : symR P w0 ow n ops l s K1 = symR P w0 ow n ops l s' K1 := by rw [h]
theorem then_in {f : S → (Exit → S → Prop) → Prop} {e e' : Exit} (h1 : e = e') (h : s = s') : Then f K e s = Then f K e' s' := by rw [h, h1]
theorem inB_in {i : Nat} {e e' : Exit} (h1 : e = e') (h : s = s') : InB i K e s = InB i K e' s' := by rw [h, h1]
theorem loopG_in {c : Code} (h : s = s') : LoopG P w0 ow n c s K = LoopG P w0 ow n c s' K := by rw [h]
theorem drawG_in {i : Nat} {l : List Oper} (h : s = s') : DrawG P w0 ow n i l s K = DrawG P w0 ow n i l s' K := by rw [h]
theorem callG_in {ops l : List Oper} {o : Oper} (h : s = s') : CallG P w0 ow n ops o l s K1 = CallG P w0 ow n ops o l s' K1 := by rw [h]
theorem callM_in {ops : List Oper} {o : Oper} {p : List (Nat × Bool)} (h : s = s') : CallM P w0 ow n ops o p s K1 = CallM P w0 ow n ops o p s' K1 := by rw [h]
theorem anyM_in {ops : List Oper} {i : Nat} {rd : Bool} {o : Oper} {p : List (Nat × Bool)} (h : s = s') : AnyM P w0 ow n ops i rd o p s K1 = AnyM P w0 ow n ops i rd o p s' K1 := by rw [h]
theorem loopK_in {ι : Type} {I : ι → S} {Inv : ι → Prop} {μ : ι → Nat} {i : ι} {e e' : Exit} (h1 : e = e') (h : s = s') : LoopK w0 ow n I Inv μ i K e s = LoopK w0 ow n I Inv μ i K e' s' := by rw [h, h1]
end
attribute [congr] symC_in symR_in then_in inB_in loopG_in drawG_in callG_in callM_in anyM_in loopK_in
attribute [push_cast] keepS
end Go.Proofs.YtkchdhkpjnnliaaDoor
