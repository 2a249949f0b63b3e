import Derived.Test.YtiaeollemmkclaaDoorShA
import Derived.Test.YtiaeollemmkclaaDoorFlt
import Derived.Test.YtiaeollemmkclaaDoorSetA
/- Peers as rows of two cells: may they be (layer 9), by the program and by the document; given as the program's (law 16). -/
namespace Go.Proofs.YtiaeollemmkclaaDoor
open Go.RowKit
set_option linter.unusedSimpArgs false
set_option linter.unusedVariables false
def fpP : UInt64 := 2305843009213693951
attribute [local irreducible] Callable CallOK CallG CallM DrawG LoopG symR symM
abbrev Pr := Int × UInt64
def pv (p : Pr) : List Value := [.int .i64 p.1, vU64 p.2]
theorem pv_len (p : Pr) : (pv p).length = 2 := rfl
def pvs (l : List Pr) : List Value := l.flatMap pv
theorem pvs_len (l : List Pr) : (pvs l).length = l.length * 2 := flat_len pv_len l
structure FP (w0 : World) (A : Option Addr) (l : List Pr) : Prop where
  some_ : 0 < l.length → A.isSome = true
  c0 : ∀ i, i < l.length → cellOf w0 (pAdd A (i * 2)) = .int .i64 (ix l i).1
  c1 : ∀ i, i < l.length → cellOf w0 (pAdd A (i * 2 + 1)) = vU64 (ix l i).2
  ok0 : ∀ i, i < l.length → rawOk w0 No (pAdd A (i * 2))
  ok1 : ∀ i, i < l.length → rawOk w0 No (pAdd A (i * 2 + 1))
theorem FP.of {w0 : World} {A : Option Addr} {l : List Pr} (hR : RdV w0 w0.heap.size A (pvs l)) : FP w0 A l := by
  have h := FV.no hR
  have g0 : ∀ i, i < l.length → (pvs l)[i * 2]? = some (.int .i64 (ix l i).1) := fun i hi => flat_get pv_len l i 0 hi (by omega)
  have g1 : ∀ i, i < l.length → (pvs l)[i * 2 + 1]? = some (vU64 (ix l i).2) := fun i hi => flat_get pv_len l i 1 hi (by omega)
  exact ⟨fun hp => h.some_ (by rw [pvs_len]; omega), fun i hi => (h.cell (g0 i hi)).1, fun i hi => (h.cell (g1 i hi)).1, fun i hi => (h.cell (g0 i hi)).2, fun i hi => (h.cell (g1 i hi)).2⟩
def lastP (l : List Pr) : Nat → Int
  | 0 => -1
  | i + 1 => (ix l i).1
def pgood (l : List Pr) (i : Nat) : Prop := lastP l i < (ix l i).1 ∧ (ix l i).1 < 64 ∧ (ix l i).2 ≠ 0 ∧ (ix l i).2 < fpP
instance (l : List Pr) (i : Nat) : Decidable (pgood l i) := by unfold pgood; exact inferInstance
def may (l : List Pr) : Bool := (List.range l.length).all fun i => decide (pgood l i)
def mayErr (l : List Pr) : Value := if may l = true then .nilIface else .iface 137 (.int .i64 1)
section
variable {w0 : World} {hp : List Res} {sv : Sv} {l : List Pr}
end
def pcs (l : List Pr) : List At := l.flatMap fun p => [.v (.int .i64 p.1), .v (vU64 p.2)]
theorem pcs_nil : pcs [] = [] := rfl
theorem pcs_cons (p : Pr) (l : List Pr) : pcs (p :: l) = .v (.int .i64 p.1) :: .v (vU64 p.2) :: pcs l := rfl
theorem pcs_len (l : List Pr) : (pcs l).length = l.length * 2 := by
  induction l with
  | nil => rfl
  | cons p l ih => rw [pcs_cons]; simp only [List.length_cons, ih]; omega
theorem pcs_ren (ρ : List Nat) (l : List Pr) : (pcs l).map (At.ren ρ) = pcs l := by
  induction l with
  | nil => rfl
  | cons p l ih => rw [pcs_cons, List.map_cons, List.map_cons, ih]; rfl
theorem pcs_forall {Q : At → Prop} (l : List Pr) : (∀ x ∈ pcs l, Q x) = ∀ p ∈ l, Q (.v (.int .i64 p.1)) ∧ Q (.v (vU64 p.2)) := by
  apply propext
  induction l with
  | nil => simp [pcs_nil]
  | cons p l ih =>
    rw [pcs_cons, List.forall_mem_cons, List.forall_mem_cons, List.forall_mem_cons, ih, and_assoc]
attribute [push_cast] pcs_ren pcs_len pcs_forall
attribute [irreducible] pcs
end Go.Proofs.YtiaeollemmkclaaDoor
