/- What came in reads as it did later on. No program in sight. -/
import Derived.Test.YtiaeollemmkclaaDoorShA
namespace Go.Proofs.YtiaeollemmkclaaDoor
open Go.RowKit
set_option linter.unusedSimpArgs false
theorem dec_symm {α : Type} [DecidableEq α] (a b : α) : decide (a = b) = decide (b = a) := by by_cases h : a = b <;> simp [h, eq_comm]
section
variable {w0 : World} {hp : List Res}
theorem rd_later {γ : List Nm} {w : World} {A : Option Addr} {vs : List Value} (h : RdV w0 w0.heap.size A vs) (hS : Sat w0 No γ hp w) : RdV w w.heap.size A vs := (h.below (keeps_below hS.keeps)).more (keeps_below hS.keeps).size
end
attribute [push_cast] beq_self_eq_true
end Go.Proofs.YtiaeollemmkclaaDoor
