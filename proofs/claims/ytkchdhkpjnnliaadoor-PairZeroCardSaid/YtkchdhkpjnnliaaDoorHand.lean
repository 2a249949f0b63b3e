/- The engine: how what a caller hands over is told to whom it calls, and what a call leaves. No program in sight. -/
import Derived.Test.YtkchdhkpjnnliaaDoorFun
namespace Go.Proofs.YtkchdhkpjnnliaaDoor
open Go.RowKit
set_option linter.unusedSimpArgs false
/-- How a call ends: names told anew. -/
def EndsAs (sv1 : Sv) (hp1 : List Res) (sv : Sv) (hp : List Res) : Prop := ∃ ρ, Le ρ ⟨[(0, sv)], hp⟩ ⟨[(0, sv1)], hp1⟩
theorem endsAs {sv1 sv : Sv} {hp1 hp : List Res} (ρ : List Nat) (h : Le ρ ⟨[(0, sv)], hp⟩ ⟨[(0, sv1)], hp1⟩) : EndsAs sv1 hp1 sv hp := ⟨ρ, h⟩
section
variable {P : Program} {w0 w : World} {ow : Nat → Prop} {n : Nat} {γ : List Nm} {hp : List Res}
theorem calls_fun {f : FuncId} {fn : Func} {c : Code} (hf : P.funcs[f]? = some fn) (hb : fn.body = some c) (hn : fn.ntmps = n) (svs : List Sv) (hS : Sat w ow γ hp w) (hl : svs.length ≤ n) (sv1 : Sv) (hp1 : List Res)
    (h : symC P w ow n c ⟨argFr 0 svs, hp⟩ (Fin P w ow fn.results.toList (EndsAs sv1 hp1))) : Calls P f (svs.map (Sv.val γ)).toArray w fun e w' => ∃ γ1, e = .returned (sv1.val γ1) ∧ Sat w ow γ1 hp1 w' := by
  refine calls_sym hf hb hn svs hS hl (EndsAs sv1 hp1) (fun γ' sv hp' w' hS' ⟨ρ, h1, h2, h3, h4⟩ => ?_) h
  obtain ⟨hS2, hρ⟩ := hS'.sel h2 h3 h4.2
  refine ⟨reγ ρ γ', ?_, hS2⟩
  have e : sv = sv1.ren ρ := by
    have := h1.1
    simp only [Fr.get, if_true, Option.some.injEq] at this
    exact this
  have hlen : ρ.length = hp1.length := (leHp_get h2).1
  rw [Sv.re hρ (by rw [hlen]; exact h4.1 (0, sv1) (List.mem_cons_self ..)), ← e]
theorem Sat.topin' {k : Nat} {t : TypeId} {c : Cont} (hS : Sat w0 ow γ hp w) (hr : bview hp[k]? = some (t, c)) : Sat w0 ow γ (hp.set k (.pin (nmB γ k) t c)) w := by
  obtain ⟨h1, h2, r0, hr0, hbl, _, _⟩ := hS.bv hr
  exact hS.update (r' := .pin (nmB γ k) t c) hr0 (by rw [hbl]) (Keeps.refl _ _) ⟨h1, rfl, h2⟩ (.inl hbl.symm)
/-- What ρ names, the first of it a variable, as the callee sees it. -/
theorem Sat.hand {k : Nat} {t : TypeId} {c : Cont} {ρ : List Nat} {hp0 : List Res} (hS : Sat w0 ow γ hp w) (hr : bview hp[k]? = some (t, c)) (hle : leHp ρ (hp.set k (.pin (nmB γ k) t c)) ρ hp0) (hn : ndup ρ) (hb : ∀ r ∈ hp0, Res.bnd hp0.length r) :
    Sat w (Owns (reγ ρ γ) hp0) (reγ ρ γ) hp0 w ∧ (∀ b, Owns (reγ ρ γ) hp0 b → ∃ (k' : Nat) (r : Res), k' ∈ ρ ∧ hp[k']? = some r ∧ r.has γ k' b) ∧ ∀ sv : Sv, sv.bnd ρ.length → sv.val (reγ ρ γ) = (sv.ren ρ).val γ := by
  obtain ⟨h1, h2, r0, hr0, hbl, hbl2, hput⟩ := hS.bv hr
  have hT := hS.topin' hr
  obtain ⟨hsel, hρ⟩ := hT.sel hle hn hb
  obtain ⟨hlen, hget⟩ := leHp_get hle
  refine ⟨hsel.anew fun b h => h, ?_, fun sv hsv => Sv.re hρ hsv⟩
  rintro b ⟨i, r, hi, hbb⟩
  have hi' : i < ρ.length := by have := lt_of_get hi; omega
  rw [Res.ren_has hρ hi'] at hbb
  have hg := hget i r hi
  have hmem : ρ.getD i 0 ∈ ρ := by
    rw [List.getD_eq_getElem?_getD, List.getElem?_eq_getElem hi']
    exact List.getElem_mem hi'
  by_cases e : k = ρ.getD i 0
  · rw [← e] at hg hmem
    have hkl := lt_of_get hr0
    rw [List.getElem?_set] at hg
    simp only [if_true] at hg
    rw [if_pos hkl] at hg
    have hq : r.ren ρ = .pin (nmB γ k) t c := (Option.some.inj hg).symm
    rw [hq, show rn ρ i = k from e.symm] at hbb
    exact ⟨k, r0, hmem, hr0, by rw [hbl]; exact hbb⟩
  · rw [List.getElem?_set_ne e] at hg
    exact ⟨ρ.getD i 0, _, hmem, hg, hbb⟩
theorem F32.of2 {A : Option Addr} {l : List UInt32} (hR : RdV w0 w0.heap.size A (l.map vU32)) (hn : 0 < l.length → ∀ b off, A = some ⟨b, off, none⟩ → ¬ ow b) : F32 w0 ow A l := by
  have hc : ∀ i, i < l.length → ∃ b off, A = some ⟨b, off, none⟩ ∧ b < w0.heap.size ∧ w0.cell? ⟨b, off + i, none⟩ = some (vU32 (ix l i)) := fun i hi => by
    obtain ⟨b, off, h1, h2, h3⟩ := hR (by rw [List.length_map]; omega)
    exact ⟨b, off, h1, h2, h3 i _ (ix_map vU32 l i hi)⟩
  refine ⟨fun h => ?_, fun i hi => ?_, fun i hi => ?_⟩
  · obtain ⟨b, off, rfl, _⟩ := hc 0 h; rfl
  · obtain ⟨b, off, rfl, h2, h3⟩ := hc i hi
    simp only [cellOf, pAdd, Option.map_some, add_plain, h3, Option.getD_some]
  · obtain ⟨b, off, rfl, h2, h3⟩ := hc i hi
    exact ⟨⟨b, off + i, none⟩, _, by simp only [pAdd, Option.map_some, add_plain], h2, hn (by omega) b off rfl, h3⟩
end
end Go.Proofs.YtkchdhkpjnnliaaDoor
