/-
  DERIVED. GIVEN WITH THE SEED: THE CARDS: each row of YtedaafmfjhjfmaaGreatDoorRows.lean that lists a variable, with what it lists TIED to the program's text (the seventh form; the later family's looks); each row that meets fmt, with fmt's text TOLD by the authors' own Lean function (tested against real Go, not proved from fmt's source: count such statements apart). THE CARD IS WHAT COUNTS. Prove the row's statement (the work); the ties are given (YtedaafmfjhjfmaaGreatDoorTie.lean); close each card by the builder's one call (the guide's Derived/Test/ToyasCard.lean, 'card_holds'). Laid BY PROGRAM, IN A SANDBOX (cutbox-door.mjs). By AI agents, Wed Nov 11 2026. No macro, syntax, notation, axiom, sorry.
-/
import Derived.Test.YtedaafmfjhjfmaaGreatDoorRows
import GoSem.ClaimSeven
namespace Go.Proofs.YtedaafmfjhjfmaaGreatDoor
namespace Rows

/-- THE TIED CARD OF 'caucuslaw28.LeafSums'. -/
def leafSumsCard : Claim7 := { stood := { row := leafSumsRow, standIns := [], harness := (true, "b0eb47576691eea61033515de389798fb34e8c50b71a31bf6d9985f5efbb9501"), looks := true }, kinds := [], alts := [], laidByText := true, laidKinds := [.handle], laidTests := true, laidLooks := .later }
def LeafSumsCardSaid : Prop := Claim7.holds Tryz.pinned (.plain (OpenSpec.ofChange leafSumsSpec)) leafSumsCard

/-- THE TIED CARD OF 'caucuslaw29.PartApart'. -/
def partApartCard : Claim7 := { stood := { row := partApartRow, standIns := [], harness := (true, "b0eb47576691eea61033515de389798fb34e8c50b71a31bf6d9985f5efbb9501"), looks := true }, kinds := [], alts := [], laidByText := true, laidKinds := [.handle], laidTests := true, laidLooks := .later }
def PartApartCardSaid : Prop := Claim7.holds Tryz.pinned (.plain (OpenSpec.ofChange partApartSpec)) partApartCard

/-- THE TIED CARD OF 'caucuslaw29.PartOrder'. -/
def partOrderCard : Claim7 := { stood := { row := partOrderRow, standIns := [], harness := (true, "b0eb47576691eea61033515de389798fb34e8c50b71a31bf6d9985f5efbb9501"), looks := true }, kinds := [], alts := [], laidByText := true, laidKinds := [.handle], laidTests := true, laidLooks := .later }
def PartOrderCardSaid : Prop := Claim7.holds Tryz.pinned (.plain (OpenSpec.ofChange partOrderSpec)) partOrderCard

/-- THE TIED CARD OF 'caucuslaw30.HubOnce'. -/
def hubOnceCard : Claim7 := { stood := { row := hubOnceRow, standIns := [], harness := (true, "b0eb47576691eea61033515de389798fb34e8c50b71a31bf6d9985f5efbb9501"), looks := true }, kinds := [], alts := [], laidByText := true, laidKinds := [.handle], laidTests := true, laidLooks := .later }
def HubOnceCardSaid : Prop := Claim7.holds Tryz.pinned (.plain (OpenSpec.ofChange hubOnceSpec)) hubOnceCard

/-- THE SECOND FORM's CARD OF 'caucuslaw28.LeafSums'. -/
def leafSumsUptoCard : Claim7 := { stood := { row := leafSumsUptoRow, standIns := [], harness := (true, "b0eb47576691eea61033515de389798fb34e8c50b71a31bf6d9985f5efbb9501"), looks := true }, kinds := [], alts := [], laidByText := true, laidKinds := [.handle], laidTests := true, laidLooks := .later }
def LeafSumsUptoCardSaid : Prop := Claim7.holds Tryz.pinned (.plain (OpenSpec.upto leafSumsSpec)) leafSumsUptoCard

/-- THE SECOND FORM's CARD OF 'caucuslaw29.PartApart'. -/
def partApartUptoCard : Claim7 := { stood := { row := partApartUptoRow, standIns := [], harness := (true, "b0eb47576691eea61033515de389798fb34e8c50b71a31bf6d9985f5efbb9501"), looks := true }, kinds := [], alts := [], laidByText := true, laidKinds := [.handle], laidTests := true, laidLooks := .later }
def PartApartUptoCardSaid : Prop := Claim7.holds Tryz.pinned (.plain (OpenSpec.upto partApartSpec)) partApartUptoCard

/-- THE SECOND FORM's CARD OF 'caucuslaw29.PartOrder'. -/
def partOrderUptoCard : Claim7 := { stood := { row := partOrderUptoRow, standIns := [], harness := (true, "b0eb47576691eea61033515de389798fb34e8c50b71a31bf6d9985f5efbb9501"), looks := true }, kinds := [], alts := [], laidByText := true, laidKinds := [.handle], laidTests := true, laidLooks := .later }
def PartOrderUptoCardSaid : Prop := Claim7.holds Tryz.pinned (.plain (OpenSpec.upto partOrderSpec)) partOrderUptoCard

/-- THE SECOND FORM's CARD OF 'caucuslaw30.HubOnce'. -/
def hubOnceUptoCard : Claim7 := { stood := { row := hubOnceUptoRow, standIns := [], harness := (true, "b0eb47576691eea61033515de389798fb34e8c50b71a31bf6d9985f5efbb9501"), looks := true }, kinds := [], alts := [], laidByText := true, laidKinds := [.handle], laidTests := true, laidLooks := .later }
def HubOnceUptoCardSaid : Prop := Claim7.holds Tryz.pinned (.plain (OpenSpec.upto hubOnceSpec)) hubOnceUptoCard
end Rows
end Go.Proofs.YtedaafmfjhjfmaaGreatDoor
