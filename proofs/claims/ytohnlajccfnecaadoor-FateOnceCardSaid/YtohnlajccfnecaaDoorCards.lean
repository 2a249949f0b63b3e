/-
  DERIVED. GIVEN WITH THE SEED: THE CARDS: each row of YtohnlajccfnecaaDoorRows.lean that lists a variable, with what it lists TIED to the program's text (the seventh form; the later family's looks); each row that meets fmt, with fmt's text TOLD by the authors' own Lean function (tested against real Go, not proved from fmt's source: count such statements apart). THE CARD IS WHAT COUNTS. Prove the row's statement (the work); the ties are given (YtohnlajccfnecaaDoorTie.lean); close each card by the builder's one call (the guide's Derived/Test/ToyasCard.lean, 'card_holds'). Laid BY PROGRAM, IN A SANDBOX (cutbox-door.mjs). By AI agents, Wed Nov 11 2026. No macro, syntax, notation, axiom, sorry.
-/
import Derived.Test.YtohnlajccfnecaaDoorRows
import GoSem.ClaimSeven
namespace Go.Proofs.YtohnlajccfnecaaDoor
namespace Rows

/-- THE TIED CARD OF 'caucuslaw33.FateRuns'. -/
def fateRunsCard : Claim7 := { stood := { row := fateRunsRow, standIns := [], harness := (true, "01f90e8a1e5dcae9c6db411110a20453c36ff939c8a9e365d55d12f5cce3db14"), looks := true }, kinds := [], alts := [], laidByText := true, laidKinds := [.data, .data, .data], laidTests := true, laidLooks := .later }
def FateRunsCardSaid : Prop := Claim7.holds Tryd.pinned (.plain (OpenSpec.ofChange fateRunsSpec)) fateRunsCard

/-- THE TIED CARD OF 'caucuslaw33.FateOnce'. -/
def fateOnceCard : Claim7 := { stood := { row := fateOnceRow, standIns := [], harness := (true, "01f90e8a1e5dcae9c6db411110a20453c36ff939c8a9e365d55d12f5cce3db14"), looks := true }, kinds := [], alts := [], laidByText := true, laidKinds := [.data, .data, .data], laidTests := true, laidLooks := .later }
def FateOnceCardSaid : Prop := Claim7.holds Tryd.pinned (.plain (OpenSpec.ofChange fateOnceSpec)) fateOnceCard

/-- THE TIED CARD OF 'caucuslaw24.DrawTells'. -/
def drawTellsCard : Claim7 := { stood := { row := drawTellsRow, standIns := [], harness := (true, "01f90e8a1e5dcae9c6db411110a20453c36ff939c8a9e365d55d12f5cce3db14"), looks := true }, kinds := [], alts := [], laidByText := true, laidKinds := [.data, .data, .data, .handle, .data], laidTests := true, laidLooks := .later }
def DrawTellsCardSaid : Prop := Claim7.holds Tryd.pinned (.plain (OpenSpec.ofChange drawTellsSpec)) drawTellsCard

/-- THE TIED CARD OF 'caucuslaw24.DrawFirst'. -/
def drawFirstCard : Claim7 := { stood := { row := drawFirstRow, standIns := [], harness := (true, "01f90e8a1e5dcae9c6db411110a20453c36ff939c8a9e365d55d12f5cce3db14"), looks := true }, kinds := [], alts := [], laidByText := true, laidKinds := [.data, .data, .data, .handle, .data], laidTests := true, laidLooks := .later }
def DrawFirstCardSaid : Prop := Claim7.holds Tryd.pinned (.plain (OpenSpec.ofChange drawFirstSpec)) drawFirstCard

/-- THE SECOND FORM's CARD OF 'caucuslaw33.FateRuns'. -/
def fateRunsUptoCard : Claim7 := { stood := { row := fateRunsUptoRow, standIns := [], harness := (true, "01f90e8a1e5dcae9c6db411110a20453c36ff939c8a9e365d55d12f5cce3db14"), looks := true }, kinds := [], alts := [], laidByText := true, laidKinds := [.data, .data, .data], laidTests := true, laidLooks := .later }
def FateRunsUptoCardSaid : Prop := Claim7.holds Tryd.pinned (.plain (OpenSpec.upto fateRunsSpec)) fateRunsUptoCard

/-- THE SECOND FORM's CARD OF 'caucuslaw33.FateOnce'. -/
def fateOnceUptoCard : Claim7 := { stood := { row := fateOnceUptoRow, standIns := [], harness := (true, "01f90e8a1e5dcae9c6db411110a20453c36ff939c8a9e365d55d12f5cce3db14"), looks := true }, kinds := [], alts := [], laidByText := true, laidKinds := [.data, .data, .data], laidTests := true, laidLooks := .later }
def FateOnceUptoCardSaid : Prop := Claim7.holds Tryd.pinned (.plain (OpenSpec.upto fateOnceSpec)) fateOnceUptoCard

/-- THE SECOND FORM's CARD OF 'caucuslaw24.DrawTells'. -/
def drawTellsUptoCard : Claim7 := { stood := { row := drawTellsUptoRow, standIns := [], harness := (true, "01f90e8a1e5dcae9c6db411110a20453c36ff939c8a9e365d55d12f5cce3db14"), looks := true }, kinds := [], alts := [], laidByText := true, laidKinds := [.data, .data, .data, .handle, .data], laidTests := true, laidLooks := .later }
def DrawTellsUptoCardSaid : Prop := Claim7.holds Tryd.pinned (.plain (OpenSpec.upto drawTellsSpec)) drawTellsUptoCard

/-- THE SECOND FORM's CARD OF 'caucuslaw24.DrawFirst'. -/
def drawFirstUptoCard : Claim7 := { stood := { row := drawFirstUptoRow, standIns := [], harness := (true, "01f90e8a1e5dcae9c6db411110a20453c36ff939c8a9e365d55d12f5cce3db14"), looks := true }, kinds := [], alts := [], laidByText := true, laidKinds := [.data, .data, .data, .handle, .data], laidTests := true, laidLooks := .later }
def DrawFirstUptoCardSaid : Prop := Claim7.holds Tryd.pinned (.plain (OpenSpec.upto drawFirstSpec)) drawFirstUptoCard
end Rows
end Go.Proofs.YtohnlajccfnecaaDoor
