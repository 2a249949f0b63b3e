import Derived.Test.YtiaeollemmkclaaDoorTr3
import Derived.Test.YtiaeollemmkclaaDoorDrT
import Derived.Test.YtiaeollemmkclaaDoorAbs
import Derived.Test.YtiaeollemmkclaaDoorGhN
/- Rows of structs that were built, as lists of values; groups and their clients told as one thing. No program in sight, but its types. -/
namespace Go.Proofs.YtiaeollemmkclaaDoor
open Go.RowKit
set_option linter.unusedSimpArgs false
set_option linter.unusedVariables false
/-! ### Values, as what a state holds -/
def vC (vs : List Value) : List At := vs.map At.v
theorem vC_nil : vC [] = [] := rfl
theorem vC_app (a b : List Value) : vC (a ++ b) = vC a ++ vC b := List.map_append
theorem vC_len (vs : List Value) : (vC vs).length = vs.length := List.length_map ..
theorem vC_val (γ : List Nm) (vs : List Value) : (vC vs).map (At.val γ) = vs := by
  unfold vC
  rw [List.map_map]
  exact List.map_id' vs
theorem vC_ren (ρ : List Nat) (vs : List Value) : (vC vs).map (At.ren ρ) = vC vs := by unfold vC; rw [List.map_map]; rfl
theorem vC_sub (j : Nat) (v : Value) (vs : List Value) : (vC vs).map (At.sub j v) = vC vs := by unfold vC; rw [List.map_map]; rfl
theorem vC_forall {Q : At → Prop} (vs : List Value) : (∀ x ∈ vC vs, Q x) = ∀ v ∈ vs, Q (.v v) := propext List.forall_mem_map
attribute [push_cast] vC_nil vC_len vC_val vC_ren vC_sub vC_forall
/-! ### Groups, and their clients -/
def idsFct (g : GrR) : Fct := ⟨g.ids.val, g.ids.l.length, g.ids.l.map (Value.int .i64)⟩
def GrH (gs : List GrS) (v : Value) (B : Nat → Prop) (w : World) : Prop := ∃ (gR : List GrR) (A : Option Addr) (c : Nat), gR.map GrR.gr = gs ∧ v = .slice A gR.length c ∧ Fct.ok ⟨v, gR.length, gR.flatMap grV⟩ B w ∧ ∀ g ∈ gR, (idsFct g).ok B w
def GrRep (gs : List GrS) : Rep where
  H := GrH gs
  one h := by obtain ⟨gR, A, c, _, rfl, _⟩ := h; exact ⟨rfl, trivial⟩
  keep h hb hk hn := by
    obtain ⟨gR, A, c, h1, h2, h3, h4⟩ := h
    exact ⟨gR, A, c, h1, h2, h3.keep hb hk hn, fun g hg => (h4 g hg).keep hb hk hn⟩
theorem Fct.ok.rd {f : Fct} {B : Nat → Prop} {w : World} {A : Option Addr} {c : Nat} (h : f.ok B w) (hv : f.v = .slice A f.n c) (hB : ∀ b, B b → b < w.heap.size) : f.n ≤ c ∧ RdV w w.heap.size A f.vs := by
  obtain ⟨A', c', h1, h2, h3, h4⟩ := h
  rw [hv] at h1
  injection h1 with e1 _ e3
  subst e1 e3
  refine ⟨h2, fun hp => ?_⟩
  obtain ⟨b, off, e, hb, h5⟩ := h4 hp
  exact ⟨b, off, e, hB b hb, h5⟩
/-- A slice of structs of the call's own, as a fact. -/
theorem fct_onn {w0 w : World} {ow : Nat → Prop} {γ : List Nm} {hp : List Res} {j m : Nat} {e : TypeId} {c : Cont} {vs : List Value} {n : Nat} (hS : Sat w0 ow γ hp w) (hj : hp[j]? = some (.onn e m c)) (hv : c.vals γ = vs) (hn : vs.length = n * m) :
    ∃ A cap, nmS γ j = .slice A n cap ∧ n ≤ cap ∧ Fct.ok ⟨.slice A n cap, n, vs⟩ (fun b => (nmS γ j).ownBlock = some b) w := by
  have h := (hS.holds j _ hj).2
  rw [hv] at h
  have hm := h.1
  obtain ⟨A, n', cap, h1, h2, h3, h4, h5, h6, h7⟩ := h.rd
  have : n' = n := Nat.eq_of_mul_eq_mul_right hm (by rw [← h2, hn])
  subst this
  refine ⟨A, cap, h1, h3, A, cap, rfl, h3, h4, fun hp => ?_⟩
  obtain ⟨b, off, rfl, _, h8⟩ := h5 hp
  exact ⟨b, off, rfl, (h6 _ rfl).2.2, h8⟩
end Go.Proofs.YtiaeollemmkclaaDoor
