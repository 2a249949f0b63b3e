import Derived.Test.YtiaeollemmkclaaDoorCf0
/- Layer 21: conf.within, standing. -/
namespace Go.Proofs.YtiaeollemmkclaaDoor
open Go.RowKit
set_option linter.unusedSimpArgs false
set_option linter.unusedVariables false
attribute [local irreducible] Callable CallOK CallG CallM DrawG LoopG symR symM
attribute [local irreducible] wiF stGo
section
variable {w0 : World} {ow : Nat → Prop} {hp : List Res}
end
end Go.Proofs.YtiaeollemmkclaaDoor
/- Layer 21: conf.grouped. -/
namespace Go.Proofs.YtiaeollemmkclaaDoor
open Go.RowKit
set_option linter.unusedSimpArgs false
set_option linter.unusedVariables false
attribute [local irreducible] Callable CallOK CallG CallM DrawG LoopG symR symM
attribute [local irreducible] wiF chkS bothF eitherF fitF okV grGo
section
end
end Go.Proofs.YtiaeollemmkclaaDoor
/- Layer 21: the first group of a kind; conf.needed. -/
namespace Go.Proofs.YtiaeollemmkclaaDoor
open Go.RowKit
set_option linter.unusedSimpArgs false
set_option linter.unusedVariables false
def eqI (a b : Int) : Bool := decide (a = b)
/-- The number of the first group at a place; below 0: there is none. -/
def idxP (i : Int) : List GrS → Nat → Int
  | [], _ => -1
  | g :: r, k => if eqI g.place i = true then (k : Int) else idxP i r (k + 1)
attribute [local irreducible] Callable CallOK CallG CallM DrawG LoopG symR symM
attribute [local irreducible] wiF eqI idxP atF
/-- A function that tells whether a group stands at the place that it captured. -/
def EqPl (f : FuncId) : Prop := Callable Tryd.prog f ∧ ∀ (A : Option Addr) (i : Int) (w : World) (g : GrR), Vr w A [.int .i64 i] → Calls Tryd.prog f #[.agg (grV g).toArray, .pointer A] w fun e w' => e = .returned (.bool (eqI g.place i)) ∧ Below w.heap.size w w'
section
theorem EqPl.pure {f : FuncId} {A : Option Addr} {i : Int} {w : World} (h : EqPl f) (hv : Vr w A [.int .i64 i]) : PureFn Tryd.prog w (.func (.func f) #[] #[.pointer A]) (fun g : GrR => #[.agg (grV g).toArray]) (fun g => .bool (eqI g.place i)) :=
  ⟨f, #[.pointer A], rfl, h.1, fun w' g hk => h.2 A i w' g (hv.later hk)⟩
end
end Go.Proofs.YtiaeollemmkclaaDoor
