/-
  DERIVED. GIVEN WITH THE SEED: THE CARDS: each row of YteiifdpikcnbgaaDoorRows.lean that lists a variable, with what it lists TIED to the program's text (the seventh form; the later family's looks); each row that meets fmt, with fmt's text TOLD by the authors' own Lean function (tested against real Go, not proved from fmt's source: count such statements apart). THE CARD IS WHAT COUNTS. Prove the row's statement (the work); the ties are given (YteiifdpikcnbgaaDoorTie.lean); close each card by the builder's one call (the guide's Derived/Test/ToyasCard.lean, 'card_holds'). Laid BY PROGRAM, IN A SANDBOX (cutbox-door.mjs). By AI agents, Wed Nov 11 2026. No macro, syntax, notation, axiom, sorry.
-/
import Derived.Test.YteiifdpikcnbgaaDoorRows
import GoSem.ClaimSeven
namespace Go.Proofs.YteiifdpikcnbgaaDoor
namespace Rows

/-- THE TIED CARD OF 'caucuslaw10.BlindTells'. -/
def blindTellsCard : Claim7 := { stood := { row := blindTellsRow, standIns := [], harness := (true, "219f488aa7ce178475a7fe67e3663bc2337b65dd0e9bb7e2d012163d66e131aa"), looks := true }, kinds := [], alts := [], laidByText := true, laidKinds := [.handle, .data], laidTests := true, laidLooks := .later }
def BlindTellsCardSaid : Prop := Claim7.holds Tryd.pinned (.plain (OpenSpec.ofChange blindTellsSpec)) blindTellsCard

/-- THE TIED CARD OF 'caucuslaw10.BlindSums'. -/
def blindSumsCard : Claim7 := { stood := { row := blindSumsRow, standIns := [], harness := (true, "219f488aa7ce178475a7fe67e3663bc2337b65dd0e9bb7e2d012163d66e131aa"), looks := true }, kinds := [], alts := [], laidByText := true, laidKinds := [.handle, .data], laidTests := true, laidLooks := .later }
def BlindSumsCardSaid : Prop := Claim7.holds Tryd.pinned (.plain (OpenSpec.ofChange blindSumsSpec)) blindSumsCard

/-- THE TIED CARD OF 'caucuslaw10.BlindMoves'. -/
def blindMovesCard : Claim7 := { stood := { row := blindMovesRow, standIns := [], harness := (true, "219f488aa7ce178475a7fe67e3663bc2337b65dd0e9bb7e2d012163d66e131aa"), looks := true }, kinds := [], alts := [], laidByText := true, laidKinds := [.handle, .data], laidTests := true, laidLooks := .later }
def BlindMovesCardSaid : Prop := Claim7.holds Tryd.pinned (.plain (OpenSpec.ofChange blindMovesSpec)) blindMovesCard

/-- THE TIED CARD OF 'caucuslaw25.EscrowTells'. -/
def escrowTellsCard : Claim7 := { stood := { row := escrowTellsRow, standIns := [], harness := (true, "219f488aa7ce178475a7fe67e3663bc2337b65dd0e9bb7e2d012163d66e131aa"), looks := true }, kinds := [], alts := [], laidByText := true, laidKinds := [.data, .data, .data, .handle, .data], laidTests := true, laidLooks := .later }
def EscrowTellsCardSaid : Prop := Claim7.holds Tryd.pinned (.plain (OpenSpec.ofChange escrowTellsSpec)) escrowTellsCard

/-- THE TIED CARD OF 'caucuslaw04.ShamirTells'. -/
def shamirTellsCard : Claim7 := { stood := { row := shamirTellsRow, standIns := [], harness := (true, "219f488aa7ce178475a7fe67e3663bc2337b65dd0e9bb7e2d012163d66e131aa"), looks := true }, kinds := [], alts := [], laidByText := true, laidKinds := [.handle], laidTests := true, laidLooks := .later }
def ShamirTellsCardSaid : Prop := Claim7.holds Tryd.pinned (.plain (OpenSpec.ofChange shamirTellsSpec)) shamirTellsCard

/-- THE TIED CARD OF 'caucuslaw04.ShamirAny'. -/
def shamirAnyCard : Claim7 := { stood := { row := shamirAnyRow, standIns := [], harness := (true, "219f488aa7ce178475a7fe67e3663bc2337b65dd0e9bb7e2d012163d66e131aa"), looks := true }, kinds := [], alts := [], laidByText := true, laidKinds := [.handle], laidTests := true, laidLooks := .later }
def ShamirAnyCardSaid : Prop := Claim7.holds Tryd.pinned (.plain (OpenSpec.ofChange shamirAnySpec)) shamirAnyCard

/-- THE SECOND FORM's CARD OF 'caucuslaw10.BlindTells'. -/
def blindTellsUptoCard : Claim7 := { stood := { row := blindTellsUptoRow, standIns := [], harness := (true, "219f488aa7ce178475a7fe67e3663bc2337b65dd0e9bb7e2d012163d66e131aa"), looks := true }, kinds := [], alts := [], laidByText := true, laidKinds := [.handle, .data], laidTests := true, laidLooks := .later }
def BlindTellsUptoCardSaid : Prop := Claim7.holds Tryd.pinned (.plain (OpenSpec.upto blindTellsSpec)) blindTellsUptoCard

/-- THE SECOND FORM's CARD OF 'caucuslaw10.BlindSums'. -/
def blindSumsUptoCard : Claim7 := { stood := { row := blindSumsUptoRow, standIns := [], harness := (true, "219f488aa7ce178475a7fe67e3663bc2337b65dd0e9bb7e2d012163d66e131aa"), looks := true }, kinds := [], alts := [], laidByText := true, laidKinds := [.handle, .data], laidTests := true, laidLooks := .later }
def BlindSumsUptoCardSaid : Prop := Claim7.holds Tryd.pinned (.plain (OpenSpec.upto blindSumsSpec)) blindSumsUptoCard

/-- THE SECOND FORM's CARD OF 'caucuslaw10.BlindMoves'. -/
def blindMovesUptoCard : Claim7 := { stood := { row := blindMovesUptoRow, standIns := [], harness := (true, "219f488aa7ce178475a7fe67e3663bc2337b65dd0e9bb7e2d012163d66e131aa"), looks := true }, kinds := [], alts := [], laidByText := true, laidKinds := [.handle, .data], laidTests := true, laidLooks := .later }
def BlindMovesUptoCardSaid : Prop := Claim7.holds Tryd.pinned (.plain (OpenSpec.upto blindMovesSpec)) blindMovesUptoCard

/-- THE SECOND FORM's CARD OF 'caucuslaw25.EscrowTells'. -/
def escrowTellsUptoCard : Claim7 := { stood := { row := escrowTellsUptoRow, standIns := [], harness := (true, "219f488aa7ce178475a7fe67e3663bc2337b65dd0e9bb7e2d012163d66e131aa"), looks := true }, kinds := [], alts := [], laidByText := true, laidKinds := [.data, .data, .data, .handle, .data], laidTests := true, laidLooks := .later }
def EscrowTellsUptoCardSaid : Prop := Claim7.holds Tryd.pinned (.plain (OpenSpec.upto escrowTellsSpec)) escrowTellsUptoCard

/-- THE SECOND FORM's CARD OF 'caucuslaw04.ShamirTells'. -/
def shamirTellsUptoCard : Claim7 := { stood := { row := shamirTellsUptoRow, standIns := [], harness := (true, "219f488aa7ce178475a7fe67e3663bc2337b65dd0e9bb7e2d012163d66e131aa"), looks := true }, kinds := [], alts := [], laidByText := true, laidKinds := [.handle], laidTests := true, laidLooks := .later }
def ShamirTellsUptoCardSaid : Prop := Claim7.holds Tryd.pinned (.plain (OpenSpec.upto shamirTellsSpec)) shamirTellsUptoCard

/-- THE SECOND FORM's CARD OF 'caucuslaw04.ShamirAny'. -/
def shamirAnyUptoCard : Claim7 := { stood := { row := shamirAnyUptoRow, standIns := [], harness := (true, "219f488aa7ce178475a7fe67e3663bc2337b65dd0e9bb7e2d012163d66e131aa"), looks := true }, kinds := [], alts := [], laidByText := true, laidKinds := [.handle], laidTests := true, laidLooks := .later }
def ShamirAnyUptoCardSaid : Prop := Claim7.holds Tryd.pinned (.plain (OpenSpec.upto shamirAnySpec)) shamirAnyUptoCard
end Rows
end Go.Proofs.YteiifdpikcnbgaaDoor
