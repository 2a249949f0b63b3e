import Derived.Test.YtiaeollemmkclaaDoorMg1
import Derived.Test.YtiaeollemmkclaaDoorTs1
import Derived.Test.YtiaeollemmkclaaDoorPk1
import Derived.Test.YtiaeollemmkclaaDoorBox
/- Calls whose result is one of several; facts put together; messages whose slices are facts. No program in sight, but its types. -/
namespace Go.Proofs.YtiaeollemmkclaaDoor
open Go.RowKit
set_option linter.unusedSimpArgs false
set_option linter.unusedVariables false
/-! ### A call whose result is one of several -/
section
variable {P : Program} {w0 : World} {ow : Nat → Prop} {n : Nat}
theorem callG_ex {ι : Type} (Q : ι → Prop) (sv : ι → Sv) (hq : ι → List Res) {ops : List Oper} {o : Oper} {rest : List Oper} {f : FuncId} {xs : List Operand} {tys : Array TypeId} {s : S} {svs : List Sv} {K : S → Prop} (ho : o.op = .call { callee := .value (.func f), args := xs.toArray, argTypes := tys })
    (hcb : Callable P f) (hev : evs s.fr xs = some svs) (hc : ∀ γ w, Sat w0 ow γ s.hp w → Calls P f (svs.map (Sv.val γ)).toArray w fun e w' => ∃ i δ, Q i ∧ e = .returned ((sv i).val (γ ++ δ)) ∧ Sat w0 ow (γ ++ δ) (hq i) w') (hd : dOk n o.dst) (hb : s.bnd)
    (h : ∀ i, Q i → symR P w0 ow n ops rest (S.put ⟨s.fr, hq i⟩ o.dst (sv i)) K) : CallG P w0 ow n ops o rest s K := by
  rintro a w ⟨γ, hfit⟩ hw
  unfold wpList
  rw [if_pos hw]
  refine .inl ?_
  unfold Oper.wp
  rw [run_call ho rfl hcb (args := (svs.map (Sv.val γ)).toArray) (by rw [List.map_toArray, evs_val hfit hev])]
  simp only [Oper.upon]
  refine (hc γ w hfit.sat).mono ?_
  rintro e w' ⟨i, δ, hi, rfl, hS'⟩
  refine symR_sound rest _ _ _ (h i hi) ⟨_, hfit.put hS' (fun t sv' ht => ?_) hd rfl⟩
  exact Sv.ext (by rw [hfit.sat.len]; exact hb.1 _ (Fr.get_mem ht))
end
section
variable {P : Program} {w0 : World} {ow : Nat → Prop} {n : Nat} {s : S} {e : TypeId} {c : Cont} {vs : List Value} {l : List Fct}
end
section
end
/-- A message whose slices are told as facts. -/
structure MOk (Fs : List Fct) (m : MgR) : Prop where
  s : m.sm.length = 32
  ids : m.ids = ⟨none, 0, []⟩ ∨ (⟨m.ids.val, m.ids.l.length, m.ids.l.map (Value.int .i64)⟩ : Fct) ∈ Fs
  ns : m.ns = ⟨none, 0, []⟩ ∨ (⟨m.ns.val, m.ns.l.length, m.ns.l.map vU64⟩ : Fct) ∈ Fs
  ps : m.ps = ⟨none, 0, []⟩ ∨ (⟨m.ps.val, m.ps.l.length, pvs m.ps.l⟩ : Fct) ∈ Fs
  xs : m.xs = ⟨none, 0, []⟩ ∨ (⟨m.xs.val, m.xs.l.length, m.xs.l.map vU32⟩ : Fct) ∈ Fs
  few : m.mg.Few
theorem MOk.more {m : MgR} {Fs Gs : List Fct} (h : MOk Fs m) (hg : ∀ f ∈ Fs, f ∈ Gs) : MOk Gs m :=
  ⟨h.s, h.ids.imp id (hg _), h.ns.imp id (hg _), h.ps.imp id (hg _), h.xs.imp id (hg _), h.few⟩
theorem slV_fct {α : Type} {w0 w : World} {ow : Nat → Prop} {γ : List Nm} {hp : List Res} {k : Nat} {Fs : List Fct} (hS : Sat w0 ow γ hp w) (hk : hp[k]? = some (.abs (fctRep Fs))) {s : SlV α} {vs : List Value} (hn : s = ⟨none, 0, []⟩ → vs = []) (h : s = ⟨none, 0, []⟩ ∨ (⟨s.val, s.l.length, vs⟩ : Fct) ∈ Fs) (hf : s.l.length ≤ 1000) : s.Ok vs w := by
  rcases h with e | e
  · rw [hn e, e]; exact ⟨Nat.le_refl _, Nat.zero_le _, RdV.nil_⟩
  · obtain ⟨A, c, h1, h2, _, h4⟩ := fct_rd hS hk e
    have h1 : Value.slice s.A s.l.length s.c = .slice A s.l.length c := h1
    injection h1 with e1 _ e3
    rw [← e3] at h2
    rw [← e1] at h4
    exact ⟨h2, hf, h4⟩
theorem MOk.ok {m : MgR} {Fs : List Fct} (h : MOk Fs m) {w0 w : World} {ow : Nat → Prop} {γ : List Nm} {hp : List Res} {k : Nat} (hS : Sat w0 ow γ hp w) (hk : hp[k]? = some (.abs (fctRep Fs))) : m.Ok w :=
  ⟨h.s, slV_fct hS hk (fun e => by rw [e]; rfl) h.ids h.few.ids, slV_fct hS hk (fun e => by rw [e]; rfl) h.ns h.few.ns, slV_fct hS hk (fun e => by rw [e]; rfl) h.ps h.few.ps, slV_fct hS hk (fun e => by rw [e]; rfl) h.xs h.few.xs⟩
end Go.Proofs.YtiaeollemmkclaaDoor
