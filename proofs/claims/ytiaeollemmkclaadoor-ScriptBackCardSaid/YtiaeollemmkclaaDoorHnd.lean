import Derived.Test.YtiaeollemmkclaaDoorAs
import Derived.Test.YtiaeollemmkclaaDoorBase
import Derived.Test.YtiaeollemmkclaaDoorTy
/- The handle of the type error, as errors.As asks for it; errors by their numbers. -/
namespace Go.Proofs.YtiaeollemmkclaaDoor
open Go.RowKit Go.Extern.Stop Go.Stop Go.Extern
def Handle (w : World) : Prop := w.cell? ⟨0, 0, none⟩ = some (.iface 229 (.agg #[.pointer (some ⟨9, 41, none⟩)]))
theorem Handle.below {w w' : World} {B : Nat} (h : Handle w) (hb : Below B w w') (hB : w.heap.size ≤ B) : Handle w' := by
  have hlt : 0 < w.heap.size := block_lt_of_cell h
  exact (hb.cell (p := ⟨0, 0, none⟩) (Nat.lt_of_lt_of_le hlt hB)).trans h
theorem handle_sat {w0 : World} {hp : List Res} {γ : List Nm} {w : World} (h : Handle w0) (hS : Sat w0 No γ hp w) : Handle w := h.below (keeps_below hS.keeps) (Nat.le_refl _)
/-- The error of a number; nought: none. -/
def erV (n : Int) : Value := if n = 0 then .nilIface else .iface 137 (.int .i64 n)
theorem erV_zero : erV 0 = .nilIface := rfl
theorem erV_ne {n : Int} (h : ¬ n = 0) : erV n = .iface 137 (.int .i64 n) := by unfold erV; rw [if_neg h]
end Go.Proofs.YtiaeollemmkclaaDoor
