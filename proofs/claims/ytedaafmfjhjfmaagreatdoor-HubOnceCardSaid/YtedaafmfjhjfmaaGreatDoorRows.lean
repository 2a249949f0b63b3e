/-
  NARROWER THAN 'FOR EVERY INPUT', by the rows' own cells (each row's printed sentence says how): LeafSums: laid · PartApart: laid · PartOrder: laid · HubOnce: laid.
  DERIVED. THE GIVEN ROWS OF THIS SEAT. 4 by the template 'for every input the law returns true; each argument reads behind the call as it read before'; 0 by the template 'total and deterministic' (their statements: YtedaafmfjhjfmaaGreatDoorTotals.lean).
  GIVEN WITH THE SEED: the statements are not yours to turn. If you find one false, say at which input.
  Laid BY PROGRAM, IN A SANDBOX (cutbox-rows.mjs): the forced cells as the released guide's own fill.sh prints them over the translation 556c6c94065c6060… (all of the seat's roots in one cut). By AI agents, Wed Nov 11 2026. No macro, syntax, notation, axiom, sorry.
-/
import Derived.Test.YtedaafmfjhjfmaaGreatDoorChecked
import GoSem.Claim
import GoSem.ClaimJoined
import GoSem.ClaimMapViews
import Derived.JoinedTies
import Derived.KernelRfl
namespace Go.Proofs.YtedaafmfjhjfmaaGreatDoor
/- THE CELL 'sum', in the pinned program and in every row, IS THE sha256 OF THE DUMP (.gsa) THAT YtedaafmfjhjfmaaGreatDoorProg.lean LOADS. Nothing in Lean hashes anything: it is a label: what it is worth is what the hold of that sum in a sandbox is worth. -/
noncomputable def Tryz.pinned : Pinned := { name := "ytedaafmfjhjfmaagreatdoor", sum := "556c6c94065c6060a4927d67105849f821c3c95585498a45cd01b18135706a06", checked := Tryz.checked }
namespace Rows
def none {H : Type} : Left H := { results := [], args := [] }

/- WHAT THE LISTED PACKAGE-LEVEL VARIABLES READ AS WHEN THE CALL BEGINS. Each datum BY PROGRAM (the guide's laid-datum.mjs) off the statement by which the dump's own 'gosem.cut.vars' lays the variable. In a bare row this is a premise. The card (YtedaafmfjhjfmaaGreatDoorCards.lean) ties it to the program's text. -/
def laid_errors_errorType {H : Type} : DataW H := .iface "internal/reflectlite.rtype" (.agg [.ptr (.lit (.string [101, 114, 114, 111, 114]))])

/-- 'caucuslaw28.LeafSums': WHATEVER THE INPUT: true; the input reads as it did. -/
def leafSumsSpec : ChangeSpec := { name := "leafSums", fn := fun _ => fun
  | [d1, d2, d3] => { results := [.lit (.bool true)], args := [d1, d2, d3] }
  | _ => none }
def leafSumsRow : OpenClaim := { program := "ytedaafmfjhjfmaagreatdoor", sum := "556c6c94065c6060a4927d67105849f821c3c95585498a45cd01b18135706a06", func := "caucus/caucuslaw28.LeafSums", spec := "leafSums", inPlace := ["internal/reflectlite.ValueOf", "(internal/reflectlite.Value).Type", "(internal/reflectlite.Value).IsNil", "internal/reflectlite.TypeOf", "(internal/reflectlite.Value).Elem", "(internal/reflectlite.Value).Set"], unfollowed := true, recurses := true, named := ["errors.errorType"], apart := false, laid := [("errors.errorType", laid_errors_errorType)] }
def LeafSumsSaid : Prop := leafSumsRow.holds Tryz.pinned (OpenSpec.ofChange leafSumsSpec)

/-- ITS FALSE NEIGHBOUR: 'it returns false'. Refute it at one input. -/
def leafSumsWrong : ChangeSpec := { name := "leafSums", fn := fun _ => fun
  | [d1, d2, d3] => { results := [.lit (.bool false)], args := [d1, d2, d3] }
  | _ => none }
def LeafSumsWrongFalsely : Prop := leafSumsRow.holds Tryz.pinned (OpenSpec.ofChange leafSumsWrong)

/-- 'caucuslaw29.PartApart': WHATEVER THE INPUT: true; the input reads as it did. -/
def partApartSpec : ChangeSpec := { name := "partApart", fn := fun _ => fun
  | [d1, d2, d3] => { results := [.lit (.bool true)], args := [d1, d2, d3] }
  | _ => none }
def partApartRow : OpenClaim := { program := "ytedaafmfjhjfmaagreatdoor", sum := "556c6c94065c6060a4927d67105849f821c3c95585498a45cd01b18135706a06", func := "caucus/caucuslaw29.PartApart", spec := "partApart", inPlace := ["internal/reflectlite.ValueOf", "(internal/reflectlite.Value).Type", "(internal/reflectlite.Value).IsNil", "internal/reflectlite.TypeOf", "(internal/reflectlite.Value).Elem", "(internal/reflectlite.Value).Set"], unfollowed := true, recurses := true, named := ["errors.errorType"], apart := false, laid := [("errors.errorType", laid_errors_errorType)] }
def PartApartSaid : Prop := partApartRow.holds Tryz.pinned (OpenSpec.ofChange partApartSpec)

/-- ITS FALSE NEIGHBOUR: 'it returns false'. Refute it at one input. -/
def partApartWrong : ChangeSpec := { name := "partApart", fn := fun _ => fun
  | [d1, d2, d3] => { results := [.lit (.bool false)], args := [d1, d2, d3] }
  | _ => none }
def PartApartWrongFalsely : Prop := partApartRow.holds Tryz.pinned (OpenSpec.ofChange partApartWrong)

/-- 'caucuslaw29.PartOrder': WHATEVER THE INPUT: true; the input reads as it did. -/
def partOrderSpec : ChangeSpec := { name := "partOrder", fn := fun _ => fun
  | [d1, d2, d3] => { results := [.lit (.bool true)], args := [d1, d2, d3] }
  | _ => none }
def partOrderRow : OpenClaim := { program := "ytedaafmfjhjfmaagreatdoor", sum := "556c6c94065c6060a4927d67105849f821c3c95585498a45cd01b18135706a06", func := "caucus/caucuslaw29.PartOrder", spec := "partOrder", inPlace := ["internal/reflectlite.ValueOf", "(internal/reflectlite.Value).Type", "(internal/reflectlite.Value).IsNil", "internal/reflectlite.TypeOf", "(internal/reflectlite.Value).Elem", "(internal/reflectlite.Value).Set"], unfollowed := true, recurses := true, named := ["errors.errorType"], apart := false, laid := [("errors.errorType", laid_errors_errorType)] }
def PartOrderSaid : Prop := partOrderRow.holds Tryz.pinned (OpenSpec.ofChange partOrderSpec)

/-- ITS FALSE NEIGHBOUR: 'it returns false'. Refute it at one input. -/
def partOrderWrong : ChangeSpec := { name := "partOrder", fn := fun _ => fun
  | [d1, d2, d3] => { results := [.lit (.bool false)], args := [d1, d2, d3] }
  | _ => none }
def PartOrderWrongFalsely : Prop := partOrderRow.holds Tryz.pinned (OpenSpec.ofChange partOrderWrong)

/-- 'caucuslaw30.HubOnce': WHATEVER THE INPUT: true; the input reads as it did. -/
def hubOnceSpec : ChangeSpec := { name := "hubOnce", fn := fun _ => fun
  | [d1, d2, d3] => { results := [.lit (.bool true)], args := [d1, d2, d3] }
  | _ => none }
def hubOnceRow : OpenClaim := { program := "ytedaafmfjhjfmaagreatdoor", sum := "556c6c94065c6060a4927d67105849f821c3c95585498a45cd01b18135706a06", func := "caucus/caucuslaw30.HubOnce", spec := "hubOnce", inPlace := ["internal/reflectlite.ValueOf", "(internal/reflectlite.Value).Type", "(internal/reflectlite.Value).IsNil", "internal/reflectlite.TypeOf", "(internal/reflectlite.Value).Elem", "(internal/reflectlite.Value).Set"], unfollowed := true, recurses := true, named := ["errors.errorType"], apart := false, laid := [("errors.errorType", laid_errors_errorType)] }
def HubOnceSaid : Prop := hubOnceRow.holds Tryz.pinned (OpenSpec.ofChange hubOnceSpec)

/-- ITS FALSE NEIGHBOUR: 'it returns false'. Refute it at one input. -/
def hubOnceWrong : ChangeSpec := { name := "hubOnce", fn := fun _ => fun
  | [d1, d2, d3] => { results := [.lit (.bool false)], args := [d1, d2, d3] }
  | _ => none }
def HubOnceWrongFalsely : Prop := hubOnceRow.holds Tryz.pinned (OpenSpec.ofChange hubOnceWrong)

/- THE SECOND FORM. 'bulk': how many values and letters a reading holds, each counted each time it is reached (what is shared counts as often as it is met; a slice's spare places count too). A statement '..UptoSaid' is the law's where the arguments, and the package variables that the reading takes, are together of bulk at most 1048576: NARROWER than '..Said'. Prove '..Said' where nothing that the law and all that it calls make is longer than what came in: it says more and counts as full. Else prove '..UptoSaid'. A law counts once. -/
mutual
def uptoBulk {H : Type} : DataW H → Nat
  | .lit (.string bytes) => bytes.length + 1
  | .lit _ => 1
  | .nil => 1
  | .ptr d => uptoBulk d + 1
  | .slice elems spare => uptoBulkAll elems + uptoBulkAll spare + 1
  | .agg parts => uptoBulkAll parts + 1
  | .iface _ d => uptoBulk d + 1
  | .map entries => uptoBulkEntries entries + 1
  | .held _ => 1
def uptoBulkAll {H : Type} : List (DataW H) → Nat
  | [] => 0
  | d :: r => uptoBulk d + uptoBulkAll r
def uptoBulkEntries {H : Type} : List (Lit × DataW H) → Nat
  | [] => 0
  | x :: r => uptoBulkEntry x + uptoBulkEntries r
def uptoBulkEntry {H : Type} : Lit × DataW H → Nat
  | (.string bytes, d) => bytes.length + uptoBulk d + 1
  | (_, d) => uptoBulk d + 1
 end
def uptoSmall : (H : Type) → List (DataW H) → Bool := fun _ ds => decide (uptoBulkAll ds ≤ 1048576)
def OpenSpec.upto (s : _root_.Go.ChangeSpec) : _root_.Go.OpenSpec := { _root_.Go.OpenSpec.ofChange s with cond := some uptoSmall }

/-- 'caucuslaw28.LeafSums', WHERE WHAT IT READS IS OF BULK AT MOST 1048576: true; the input reads as it did. -/
def leafSumsUptoRow : OpenClaim := { program := "ytedaafmfjhjfmaagreatdoor", sum := "556c6c94065c6060a4927d67105849f821c3c95585498a45cd01b18135706a06", func := "caucus/caucuslaw28.LeafSums", spec := "leafSums", inPlace := ["internal/reflectlite.ValueOf", "(internal/reflectlite.Value).Type", "(internal/reflectlite.Value).IsNil", "internal/reflectlite.TypeOf", "(internal/reflectlite.Value).Elem", "(internal/reflectlite.Value).Set"], unfollowed := true, recurses := true, named := ["errors.errorType"], apart := false, laid := [("errors.errorType", laid_errors_errorType)], narrowed := true }
def LeafSumsUptoSaid : Prop := leafSumsUptoRow.holds Tryz.pinned (OpenSpec.upto leafSumsSpec)

/-- 'caucuslaw29.PartApart', WHERE WHAT IT READS IS OF BULK AT MOST 1048576: true; the input reads as it did. -/
def partApartUptoRow : OpenClaim := { program := "ytedaafmfjhjfmaagreatdoor", sum := "556c6c94065c6060a4927d67105849f821c3c95585498a45cd01b18135706a06", func := "caucus/caucuslaw29.PartApart", spec := "partApart", inPlace := ["internal/reflectlite.ValueOf", "(internal/reflectlite.Value).Type", "(internal/reflectlite.Value).IsNil", "internal/reflectlite.TypeOf", "(internal/reflectlite.Value).Elem", "(internal/reflectlite.Value).Set"], unfollowed := true, recurses := true, named := ["errors.errorType"], apart := false, laid := [("errors.errorType", laid_errors_errorType)], narrowed := true }
def PartApartUptoSaid : Prop := partApartUptoRow.holds Tryz.pinned (OpenSpec.upto partApartSpec)

/-- 'caucuslaw29.PartOrder', WHERE WHAT IT READS IS OF BULK AT MOST 1048576: true; the input reads as it did. -/
def partOrderUptoRow : OpenClaim := { program := "ytedaafmfjhjfmaagreatdoor", sum := "556c6c94065c6060a4927d67105849f821c3c95585498a45cd01b18135706a06", func := "caucus/caucuslaw29.PartOrder", spec := "partOrder", inPlace := ["internal/reflectlite.ValueOf", "(internal/reflectlite.Value).Type", "(internal/reflectlite.Value).IsNil", "internal/reflectlite.TypeOf", "(internal/reflectlite.Value).Elem", "(internal/reflectlite.Value).Set"], unfollowed := true, recurses := true, named := ["errors.errorType"], apart := false, laid := [("errors.errorType", laid_errors_errorType)], narrowed := true }
def PartOrderUptoSaid : Prop := partOrderUptoRow.holds Tryz.pinned (OpenSpec.upto partOrderSpec)

/-- 'caucuslaw30.HubOnce', WHERE WHAT IT READS IS OF BULK AT MOST 1048576: true; the input reads as it did. -/
def hubOnceUptoRow : OpenClaim := { program := "ytedaafmfjhjfmaagreatdoor", sum := "556c6c94065c6060a4927d67105849f821c3c95585498a45cd01b18135706a06", func := "caucus/caucuslaw30.HubOnce", spec := "hubOnce", inPlace := ["internal/reflectlite.ValueOf", "(internal/reflectlite.Value).Type", "(internal/reflectlite.Value).IsNil", "internal/reflectlite.TypeOf", "(internal/reflectlite.Value).Elem", "(internal/reflectlite.Value).Set"], unfollowed := true, recurses := true, named := ["errors.errorType"], apart := false, laid := [("errors.errorType", laid_errors_errorType)], narrowed := true }
def HubOnceUptoSaid : Prop := hubOnceUptoRow.holds Tryz.pinned (OpenSpec.upto hubOnceSpec)

end Rows
end Go.Proofs.YtedaafmfjhjfmaaGreatDoor
