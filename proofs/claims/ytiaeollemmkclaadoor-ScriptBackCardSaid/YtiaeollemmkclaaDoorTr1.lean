import Derived.Test.YtiaeollemmkclaaDoorCf3
/- Layer 21: conf.needed. -/
namespace Go.Proofs.YtiaeollemmkclaaDoor
open Go.RowKit
set_option linter.unusedSimpArgs false
set_option linter.unusedVariables false
/-- How many places stand right below each, of so many places behind the first one. -/
def beTo (l : List PlS) (k : Nat) : List Int := ((l.drop 1).take k).foldl beStep (List.replicate l.length 0)
attribute [local irreducible] Callable CallOK CallG CallM DrawG LoopG symR symM
attribute [local irreducible] wiF eqI idxP atF beTo neGo
section
end
end Go.Proofs.YtiaeollemmkclaaDoor
/- Layer 21: conf.Check, Clients. -/
namespace Go.Proofs.YtiaeollemmkclaaDoor
open Go.RowKit
set_option linter.unusedSimpArgs false
set_option linter.unusedVariables false
attribute [local irreducible] Callable CallOK CallG CallM DrawG LoopG symR symM
attribute [local irreducible] wiF stF grF neF okV allF cfF
section
def allTo (gs : List GrS) (k : Nat) : List Int := (gs.take k).foldl (fun s g => eitherF s g.ids) []
attribute [local irreducible] allTo clientsF eitherF
end
end Go.Proofs.YtiaeollemmkclaaDoor
/- Layer 22: tree.Node, Of, check, above, Above. -/
namespace Go.Proofs.YtiaeollemmkclaaDoor
open Go.RowKit
set_option linter.unusedSimpArgs false
set_option linter.unusedVariables false
def eV (n : Int) : Value := .iface 137 (.int .i64 n)
/-- An error, or none, of a place. -/
def tcF (c : CfS) (p : Int) : Value := if cfF c = true then (if 0 ≤ p ∧ p < c.places.length then .nilIface else eV 2) else eV 1
/-- Is there such a place? -/
def isP (c : CfS) (p : Int) : Bool := cfF c && decide (0 ≤ p ∧ p < c.places.length)
attribute [local irreducible] Callable CallOK CallG CallM DrawG LoopG symR symM
attribute [local irreducible] cfF okV tcF isP
section
/-! above -/
def upF (l : List PlS) (q : Int) : List Int := abGo l l.length q []
attribute [local irreducible] upF abF
/-- What is told of a place, or nothing. -/
def ofP (c : CfS) (p : Int) (l : List Int) : List Int := if isP c p = true then l else []
attribute [local irreducible] ofP
end
end Go.Proofs.YtiaeollemmkclaaDoor
