/-
  DERIVED. GIVEN WITH THE SEED: THE CARDS: each row of YteiifdpikcnbgaaGreatDoorRows.lean that lists a variable, with what it lists TIED to the program's text (the seventh form; the later family's looks); each row that meets fmt, with fmt's text TOLD by the authors' own Lean function (tested against real Go, not proved from fmt's source: count such statements apart). THE CARD IS WHAT COUNTS. Prove the row's statement (the work); the ties are given (YteiifdpikcnbgaaGreatDoorTie.lean); close each card by the builder's one call (the guide's Derived/Test/ToyasCard.lean, 'card_holds'). Laid BY PROGRAM, IN A SANDBOX (cutbox-door.mjs). By AI agents, Wed Nov 11 2026. No macro, syntax, notation, axiom, sorry.
-/
import Derived.Test.YteiifdpikcnbgaaGreatDoorRows
import GoSem.ClaimSeven
namespace Go.Proofs.YteiifdpikcnbgaaGreatDoor
namespace Rows

/-- THE TIED CARD OF 'caucuslaw25.EscrowJoins'. -/
def escrowJoinsCard : Claim7 := { stood := { row := escrowJoinsRow, standIns := [], harness := (true, "cd32aa441d855edddc72b609fe5d12c05d933b5471e122050624baaa8ce61aa2"), looks := true }, kinds := [], alts := [], laidByText := true, laidKinds := [.data, .data, .data, .handle, .data], laidTests := true, laidLooks := .later }
def EscrowJoinsCardSaid : Prop := Claim7.holds Tryz.pinned (.plain (OpenSpec.ofChange escrowJoinsSpec)) escrowJoinsCard

/-- THE TIED CARD OF 'caucuslaw32.StripAny'. -/
def stripAnyCard : Claim7 := { stood := { row := stripAnyRow, standIns := [], harness := (true, "cd32aa441d855edddc72b609fe5d12c05d933b5471e122050624baaa8ce61aa2"), looks := true }, kinds := [], alts := [], laidByText := true, laidKinds := [.handle, .data], laidTests := true, laidLooks := .later }
def StripAnyCardSaid : Prop := Claim7.holds Tryz.pinned (.plain (OpenSpec.ofChange stripAnySpec)) stripAnyCard

/-- THE SECOND FORM's CARD OF 'caucuslaw25.EscrowJoins'. -/
def escrowJoinsUptoCard : Claim7 := { stood := { row := escrowJoinsUptoRow, standIns := [], harness := (true, "cd32aa441d855edddc72b609fe5d12c05d933b5471e122050624baaa8ce61aa2"), looks := true }, kinds := [], alts := [], laidByText := true, laidKinds := [.data, .data, .data, .handle, .data], laidTests := true, laidLooks := .later }
def EscrowJoinsUptoCardSaid : Prop := Claim7.holds Tryz.pinned (.plain (OpenSpec.upto escrowJoinsSpec)) escrowJoinsUptoCard

/-- THE SECOND FORM's CARD OF 'caucuslaw32.StripAny'. -/
def stripAnyUptoCard : Claim7 := { stood := { row := stripAnyUptoRow, standIns := [], harness := (true, "cd32aa441d855edddc72b609fe5d12c05d933b5471e122050624baaa8ce61aa2"), looks := true }, kinds := [], alts := [], laidByText := true, laidKinds := [.handle, .data], laidTests := true, laidLooks := .later }
def StripAnyUptoCardSaid : Prop := Claim7.holds Tryz.pinned (.plain (OpenSpec.upto stripAnySpec)) stripAnyUptoCard
end Rows
end Go.Proofs.YteiifdpikcnbgaaGreatDoor
