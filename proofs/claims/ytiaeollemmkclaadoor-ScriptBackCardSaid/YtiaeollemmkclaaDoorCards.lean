/-
  DERIVED. GIVEN WITH THE SEED: THE CARDS: each row of YtiaeollemmkclaaDoorRows.lean that lists a variable, with what it lists TIED to the program's text (the seventh form; the later family's looks); each row that meets fmt, with fmt's text TOLD by the authors' own Lean function (tested against real Go, not proved from fmt's source: count such statements apart). THE CARD IS WHAT COUNTS. Prove the row's statement (the work); the ties are given (YtiaeollemmkclaaDoorTie.lean); close each card by the builder's one call (the guide's Derived/Test/ToyasCard.lean, 'card_holds'). Laid BY PROGRAM, IN A SANDBOX (cutbox-door.mjs). By AI agents, Wed Nov 11 2026. No macro, syntax, notation, axiom, sorry.
-/
import Derived.Test.YtiaeollemmkclaaDoorRows
import GoSem.ClaimSeven
namespace Go.Proofs.YtiaeollemmkclaaDoor
namespace Rows

/-- THE TIED CARD OF 'caucuslaw13.PackFields'. -/
def packFieldsCard : Claim7 := { stood := { row := packFieldsRow, standIns := [], harness := (true, "a4d007851a61f30127531b2b332f862faf3a0e6b1779b6392f01ca79a77bc5c0"), looks := true }, kinds := [], alts := [], laidByText := true, laidKinds := [.handle], laidTests := true, laidLooks := .later }
def PackFieldsCardSaid : Prop := Claim7.holds Tryd.pinned (.plain (OpenSpec.ofChange packFieldsSpec)) packFieldsCard

/-- THE TIED CARD OF 'caucuslaw13.PackBack'. -/
def packBackCard : Claim7 := { stood := { row := packBackRow, standIns := [], harness := (true, "a4d007851a61f30127531b2b332f862faf3a0e6b1779b6392f01ca79a77bc5c0"), looks := true }, kinds := [], alts := [], laidByText := true, laidKinds := [.handle], laidTests := true, laidLooks := .later }
def PackBackCardSaid : Prop := Claim7.holds Tryd.pinned (.plain (OpenSpec.ofChange packBackSpec)) packBackCard

/-- THE TIED CARD OF 'caucuslaw22.TreeNodes'. -/
def treeNodesCard : Claim7 := { stood := { row := treeNodesRow, standIns := [], harness := (true, "a4d007851a61f30127531b2b332f862faf3a0e6b1779b6392f01ca79a77bc5c0"), looks := true }, kinds := [], alts := [], laidByText := true, laidKinds := [.handle], laidTests := true, laidLooks := .later }
def TreeNodesCardSaid : Prop := Claim7.holds Tryd.pinned (.plain (OpenSpec.ofChange treeNodesSpec)) treeNodesCard

/-- THE TIED CARD OF 'caucuslaw16.MsgForms'. -/
def msgFormsCard : Claim7 := { stood := { row := msgFormsRow, standIns := [], harness := (true, "a4d007851a61f30127531b2b332f862faf3a0e6b1779b6392f01ca79a77bc5c0"), looks := true }, kinds := [], alts := [], laidByText := true, laidKinds := [.handle], laidTests := true, laidLooks := .later }
def MsgFormsCardSaid : Prop := Claim7.holds Tryd.pinned (.plain (OpenSpec.ofChange msgFormsSpec)) msgFormsCard

/-- THE TIED CARD OF 'caucuslaw16.MsgBack'. -/
def msgBackCard : Claim7 := { stood := { row := msgBackRow, standIns := [], harness := (true, "a4d007851a61f30127531b2b332f862faf3a0e6b1779b6392f01ca79a77bc5c0"), looks := true }, kinds := [], alts := [], laidByText := true, laidKinds := [.handle], laidTests := true, laidLooks := .later }
def MsgBackCardSaid : Prop := Claim7.holds Tryd.pinned (.plain (OpenSpec.ofChange msgBackSpec)) msgBackCard

/-- THE TIED CARD OF 'caucuslaw40.ScriptBack'. -/
def scriptBackCard : Claim7 := { stood := { row := scriptBackRow, standIns := [], harness := (true, "a4d007851a61f30127531b2b332f862faf3a0e6b1779b6392f01ca79a77bc5c0"), looks := true }, kinds := [], alts := [], laidByText := true, laidKinds := [.data, .data, .data, .data, .handle, .sentinel, .sentinel, .pinned], laidTests := true, laidLooks := .later }
def ScriptBackCardSaid : Prop := Claim7.holds Tryd.pinned (.plain (OpenSpec.ofChange scriptBackSpec)) scriptBackCard

/-- THE SECOND FORM's CARD OF 'caucuslaw13.PackFields'. -/
def packFieldsUptoCard : Claim7 := { stood := { row := packFieldsUptoRow, standIns := [], harness := (true, "a4d007851a61f30127531b2b332f862faf3a0e6b1779b6392f01ca79a77bc5c0"), looks := true }, kinds := [], alts := [], laidByText := true, laidKinds := [.handle], laidTests := true, laidLooks := .later }
def PackFieldsUptoCardSaid : Prop := Claim7.holds Tryd.pinned (.plain (OpenSpec.upto packFieldsSpec)) packFieldsUptoCard

/-- THE SECOND FORM's CARD OF 'caucuslaw13.PackBack'. -/
def packBackUptoCard : Claim7 := { stood := { row := packBackUptoRow, standIns := [], harness := (true, "a4d007851a61f30127531b2b332f862faf3a0e6b1779b6392f01ca79a77bc5c0"), looks := true }, kinds := [], alts := [], laidByText := true, laidKinds := [.handle], laidTests := true, laidLooks := .later }
def PackBackUptoCardSaid : Prop := Claim7.holds Tryd.pinned (.plain (OpenSpec.upto packBackSpec)) packBackUptoCard

/-- THE SECOND FORM's CARD OF 'caucuslaw22.TreeNodes'. -/
def treeNodesUptoCard : Claim7 := { stood := { row := treeNodesUptoRow, standIns := [], harness := (true, "a4d007851a61f30127531b2b332f862faf3a0e6b1779b6392f01ca79a77bc5c0"), looks := true }, kinds := [], alts := [], laidByText := true, laidKinds := [.handle], laidTests := true, laidLooks := .later }
def TreeNodesUptoCardSaid : Prop := Claim7.holds Tryd.pinned (.plain (OpenSpec.upto treeNodesSpec)) treeNodesUptoCard

/-- THE SECOND FORM's CARD OF 'caucuslaw16.MsgForms'. -/
def msgFormsUptoCard : Claim7 := { stood := { row := msgFormsUptoRow, standIns := [], harness := (true, "a4d007851a61f30127531b2b332f862faf3a0e6b1779b6392f01ca79a77bc5c0"), looks := true }, kinds := [], alts := [], laidByText := true, laidKinds := [.handle], laidTests := true, laidLooks := .later }
def MsgFormsUptoCardSaid : Prop := Claim7.holds Tryd.pinned (.plain (OpenSpec.upto msgFormsSpec)) msgFormsUptoCard

/-- THE SECOND FORM's CARD OF 'caucuslaw16.MsgBack'. -/
def msgBackUptoCard : Claim7 := { stood := { row := msgBackUptoRow, standIns := [], harness := (true, "a4d007851a61f30127531b2b332f862faf3a0e6b1779b6392f01ca79a77bc5c0"), looks := true }, kinds := [], alts := [], laidByText := true, laidKinds := [.handle], laidTests := true, laidLooks := .later }
def MsgBackUptoCardSaid : Prop := Claim7.holds Tryd.pinned (.plain (OpenSpec.upto msgBackSpec)) msgBackUptoCard

/-- THE SECOND FORM's CARD OF 'caucuslaw40.ScriptBack'. -/
def scriptBackUptoCard : Claim7 := { stood := { row := scriptBackUptoRow, standIns := [], harness := (true, "a4d007851a61f30127531b2b332f862faf3a0e6b1779b6392f01ca79a77bc5c0"), looks := true }, kinds := [], alts := [], laidByText := true, laidKinds := [.data, .data, .data, .data, .handle, .sentinel, .sentinel, .pinned], laidTests := true, laidLooks := .later }
def ScriptBackUptoCardSaid : Prop := Claim7.holds Tryd.pinned (.plain (OpenSpec.upto scriptBackSpec)) scriptBackUptoCard
end Rows
end Go.Proofs.YtiaeollemmkclaaDoor
