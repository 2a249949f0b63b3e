/-
  DERIVED. GIVEN WITH THE SEED: THE CARDS: each row of YtombphphaoeeiaaGreatDoorRows.lean that lists a variable, with what it lists TIED to the program's text (the seventh form; the later family's looks); each row that meets fmt, with fmt's text TOLD by the authors' own Lean function (tested against real Go, not proved from fmt's source: count such statements apart). THE CARD IS WHAT COUNTS. Prove the row's statement (the work); the ties are given (YtombphphaoeeiaaGreatDoorTie.lean); close each card by the builder's one call (the guide's Derived/Test/ToyasCard.lean, 'card_holds'). Laid BY PROGRAM, IN A SANDBOX (cutbox-door.mjs). By AI agents, Wed Nov 11 2026. No macro, syntax, notation, axiom, sorry.
-/
import Derived.Test.YtombphphaoeeiaaGreatDoorRows
import GoSem.ClaimSeven
namespace Go.Proofs.YtombphphaoeeiaaGreatDoor
namespace Rows

/-- THE TIED CARD OF 'caucuslaw32.StripAny'. -/
def stripAnyCard : Claim7 := { stood := { row := stripAnyRow, standIns := [], harness := (true, "669204a1dc557eac842e59bd99e43274aedf979028c7a27e2b33e840c403e995"), looks := true }, kinds := [], alts := [], laidByText := true, laidKinds := [.handle, .data], laidTests := true, laidLooks := .later }
def StripAnyCardSaid : Prop := Claim7.holds Tryz.pinned (.plain (OpenSpec.ofChange stripAnySpec)) stripAnyCard

/-- THE SECOND FORM's CARD OF 'caucuslaw32.StripAny'. -/
def stripAnyUptoCard : Claim7 := { stood := { row := stripAnyUptoRow, standIns := [], harness := (true, "669204a1dc557eac842e59bd99e43274aedf979028c7a27e2b33e840c403e995"), looks := true }, kinds := [], alts := [], laidByText := true, laidKinds := [.handle, .data], laidTests := true, laidLooks := .later }
def StripAnyUptoCardSaid : Prop := Claim7.holds Tryz.pinned (.plain (OpenSpec.upto stripAnySpec)) stripAnyUptoCard
end Rows
end Go.Proofs.YtombphphaoeeiaaGreatDoor
