import Derived.Test.YtiaeollemmkclaaDoorShA
import Derived.Test.YtiaeollemmkclaaDoorTy
/- What came in reads as it did later on. No program in sight. -/
namespace Go.Proofs.YtiaeollemmkclaaDoor
open Go.RowKit
set_option linter.unusedSimpArgs false
section
variable {w0 : World} {hp : List Res}
theorem rd_later {γ : List Nm} {w : World} {A : Option Addr} {vs : List Value} (h : RdV w0 w0.heap.size A vs) (hS : Sat w0 No γ hp w) : RdV w w.heap.size A vs := (h.below (keeps_below hS.keeps)).more (keeps_below hS.keeps).size
end
attribute [push_cast] beq_self_eq_true
end Go.Proofs.YtiaeollemmkclaaDoor
/- SetA: Bl0, Set0, joined. -/
/- Where something is first in a list. No program in sight. -/
namespace Go.Proofs.YtiaeollemmkclaaDoor
open Go.RowKit
set_option linter.unusedSimpArgs false
abbrev vI64 (n : Int) : Value := .int .i64 n
theorem ix_mem {α : Type} [Inhabited α] {l : List α} {i : Nat} (h : i < l.length) : ix l i ∈ l := by
  simp only [ix, List.getD_eq_getElem?_getD, List.getElem?_eq_getElem h, Option.getD_some]
  exact List.getElem_mem h
/-- The first place below n where F is. -/
def firstI (F : Nat → Bool) (n : Nat) : Int := match (List.range n).find? F with | some k => k | none => -1
def isIn (l : List Int) (n : Int) : Bool := l.any fun x => decide (x = n)
def posI (l : List Int) (n : Int) : Int := firstI (fun i => decide (ix l i = n)) l.length
end Go.Proofs.YtiaeollemmkclaaDoor
/- slices.Index, slices.Contains on whole numbers: where a number is first, and whether. -/
namespace Go.Proofs.YtiaeollemmkclaaDoor
open Go.RowKit
set_option linter.unusedSimpArgs false
attribute [local irreducible] Callable CallOK CallG CallM DrawG LoopG symR symM
end Go.Proofs.YtiaeollemmkclaaDoor
