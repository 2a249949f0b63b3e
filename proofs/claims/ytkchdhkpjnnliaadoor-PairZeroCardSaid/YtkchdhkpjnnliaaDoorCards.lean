/-
  DERIVED. GIVEN WITH THE SEED: THE CARDS: each row of YtkchdhkpjnnliaaDoorRows.lean that lists a variable, with what it lists TIED to the program's text (the seventh form; the later family's looks); each row that meets fmt, with fmt's text TOLD by the authors' own Lean function (tested against real Go, not proved from fmt's source: count such statements apart). THE CARD IS WHAT COUNTS. Prove the row's statement (the work); the ties are given (YtkchdhkpjnnliaaDoorTie.lean); close each card by the builder's one call (the guide's Derived/Test/ToyasCard.lean, 'card_holds'). Laid BY PROGRAM, IN A SANDBOX (cutbox-door.mjs). By AI agents, Wed Nov 11 2026. No macro, syntax, notation, axiom, sorry.
-/
import Derived.Test.YtkchdhkpjnnliaaDoorRows
import GoSem.ClaimSeven
namespace Go.Proofs.YtkchdhkpjnnliaaDoor
namespace Rows

/-- THE TIED CARD OF 'caucuslaw08.SealTells'. -/
def sealTellsCard : Claim7 := { stood := { row := sealTellsRow, standIns := [], harness := (true, "2d461312edb2cf045bfb773bb25617bc1b06ab1e0ee5ee78f1c1b186b44c7c97"), looks := true }, kinds := [], alts := [], laidByText := true, laidKinds := [.data], laidTests := true, laidLooks := .later }
def SealTellsCardSaid : Prop := Claim7.holds Tryd.pinned (.plain (OpenSpec.ofChange sealTellsSpec)) sealTellsCard

/-- THE TIED CARD OF 'caucuslaw08.SealApart'. -/
def sealApartCard : Claim7 := { stood := { row := sealApartRow, standIns := [], harness := (true, "2d461312edb2cf045bfb773bb25617bc1b06ab1e0ee5ee78f1c1b186b44c7c97"), looks := true }, kinds := [], alts := [], laidByText := true, laidKinds := [.data], laidTests := true, laidLooks := .later }
def SealApartCardSaid : Prop := Claim7.holds Tryd.pinned (.plain (OpenSpec.ofChange sealApartSpec)) sealApartCard

/-- THE TIED CARD OF 'caucuslaw06.MacSums'. -/
def macSumsCard : Claim7 := { stood := { row := macSumsRow, standIns := [], harness := (true, "2d461312edb2cf045bfb773bb25617bc1b06ab1e0ee5ee78f1c1b186b44c7c97"), looks := true }, kinds := [], alts := [], laidByText := true, laidKinds := [.data], laidTests := true, laidLooks := .later }
def MacSumsCardSaid : Prop := Claim7.holds Tryd.pinned (.plain (OpenSpec.ofChange macSumsSpec)) macSumsCard

/-- THE TIED CARD OF 'caucuslaw06.MacZeros'. -/
def macZerosCard : Claim7 := { stood := { row := macZerosRow, standIns := [], harness := (true, "2d461312edb2cf045bfb773bb25617bc1b06ab1e0ee5ee78f1c1b186b44c7c97"), looks := true }, kinds := [], alts := [], laidByText := true, laidKinds := [.data], laidTests := true, laidLooks := .later }
def MacZerosCardSaid : Prop := Claim7.holds Tryd.pinned (.plain (OpenSpec.ofChange macZerosSpec)) macZerosCard

/-- THE TIED CARD OF 'caucuslaw05.ShaSums'. -/
def shaSumsCard : Claim7 := { stood := { row := shaSumsRow, standIns := [], harness := (true, "2d461312edb2cf045bfb773bb25617bc1b06ab1e0ee5ee78f1c1b186b44c7c97"), looks := true }, kinds := [], alts := [], laidByText := true, laidKinds := [.handle, .data], laidTests := true, laidLooks := .later }
def ShaSumsCardSaid : Prop := Claim7.holds Tryd.pinned (.plain (OpenSpec.ofChange shaSumsSpec)) shaSumsCard

/-- THE TIED CARD OF 'caucuslaw05.ShaTexts'. -/
def shaTextsCard : Claim7 := { stood := { row := shaTextsRow, standIns := [], harness := (true, "2d461312edb2cf045bfb773bb25617bc1b06ab1e0ee5ee78f1c1b186b44c7c97"), looks := true }, kinds := [], alts := [], laidByText := true, laidKinds := [.handle, .data], laidTests := true, laidLooks := .later }
def ShaTextsCardSaid : Prop := Claim7.holds Tryd.pinned (.plain (OpenSpec.ofChange shaTextsSpec)) shaTextsCard

/-- THE TIED CARD OF 'caucuslaw07.PrgNums'. -/
def prgNumsCard : Claim7 := { stood := { row := prgNumsRow, standIns := [], harness := (true, "2d461312edb2cf045bfb773bb25617bc1b06ab1e0ee5ee78f1c1b186b44c7c97"), looks := true }, kinds := [], alts := [], laidByText := true, laidKinds := [.handle, .data], laidTests := true, laidLooks := .later }
def PrgNumsCardSaid : Prop := Claim7.holds Tryd.pinned (.plain (OpenSpec.ofChange prgNumsSpec)) prgNumsCard

/-- THE TIED CARD OF 'caucuslaw07.PrgFirst'. -/
def prgFirstCard : Claim7 := { stood := { row := prgFirstRow, standIns := [], harness := (true, "2d461312edb2cf045bfb773bb25617bc1b06ab1e0ee5ee78f1c1b186b44c7c97"), looks := true }, kinds := [], alts := [], laidByText := true, laidKinds := [.handle, .data], laidTests := true, laidLooks := .later }
def PrgFirstCardSaid : Prop := Claim7.holds Tryd.pinned (.plain (OpenSpec.ofChange prgFirstSpec)) prgFirstCard

/-- THE TIED CARD OF 'caucuslaw07.PrgParts'. -/
def prgPartsCard : Claim7 := { stood := { row := prgPartsRow, standIns := [], harness := (true, "2d461312edb2cf045bfb773bb25617bc1b06ab1e0ee5ee78f1c1b186b44c7c97"), looks := true }, kinds := [], alts := [], laidByText := true, laidKinds := [.handle, .data], laidTests := true, laidLooks := .later }
def PrgPartsCardSaid : Prop := Claim7.holds Tryd.pinned (.plain (OpenSpec.ofChange prgPartsSpec)) prgPartsCard

/-- THE TIED CARD OF 'caucuslaw09.PairTells'. -/
def pairTellsCard : Claim7 := { stood := { row := pairTellsRow, standIns := [], harness := (true, "2d461312edb2cf045bfb773bb25617bc1b06ab1e0ee5ee78f1c1b186b44c7c97"), looks := true }, kinds := [], alts := [], laidByText := true, laidKinds := [.handle, .data], laidTests := true, laidLooks := .later }
def PairTellsCardSaid : Prop := Claim7.holds Tryd.pinned (.plain (OpenSpec.ofChange pairTellsSpec)) pairTellsCard

/-- THE TIED CARD OF 'caucuslaw09.PairMore'. -/
def pairMoreCard : Claim7 := { stood := { row := pairMoreRow, standIns := [], harness := (true, "2d461312edb2cf045bfb773bb25617bc1b06ab1e0ee5ee78f1c1b186b44c7c97"), looks := true }, kinds := [], alts := [], laidByText := true, laidKinds := [.handle, .data], laidTests := true, laidLooks := .later }
def PairMoreCardSaid : Prop := Claim7.holds Tryd.pinned (.plain (OpenSpec.ofChange pairMoreSpec)) pairMoreCard

/-- THE TIED CARD OF 'caucuslaw09.PairZero'. -/
def pairZeroCard : Claim7 := { stood := { row := pairZeroRow, standIns := [], harness := (true, "2d461312edb2cf045bfb773bb25617bc1b06ab1e0ee5ee78f1c1b186b44c7c97"), looks := true }, kinds := [], alts := [], laidByText := true, laidKinds := [.handle, .data], laidTests := true, laidLooks := .later }
def PairZeroCardSaid : Prop := Claim7.holds Tryd.pinned (.plain (OpenSpec.ofChange pairZeroSpec)) pairZeroCard

/-- THE SECOND FORM's CARD OF 'caucuslaw08.SealTells'. -/
def sealTellsUptoCard : Claim7 := { stood := { row := sealTellsUptoRow, standIns := [], harness := (true, "2d461312edb2cf045bfb773bb25617bc1b06ab1e0ee5ee78f1c1b186b44c7c97"), looks := true }, kinds := [], alts := [], laidByText := true, laidKinds := [.data], laidTests := true, laidLooks := .later }
def SealTellsUptoCardSaid : Prop := Claim7.holds Tryd.pinned (.plain (OpenSpec.upto sealTellsSpec)) sealTellsUptoCard

/-- THE SECOND FORM's CARD OF 'caucuslaw08.SealApart'. -/
def sealApartUptoCard : Claim7 := { stood := { row := sealApartUptoRow, standIns := [], harness := (true, "2d461312edb2cf045bfb773bb25617bc1b06ab1e0ee5ee78f1c1b186b44c7c97"), looks := true }, kinds := [], alts := [], laidByText := true, laidKinds := [.data], laidTests := true, laidLooks := .later }
def SealApartUptoCardSaid : Prop := Claim7.holds Tryd.pinned (.plain (OpenSpec.upto sealApartSpec)) sealApartUptoCard

/-- THE SECOND FORM's CARD OF 'caucuslaw06.MacSums'. -/
def macSumsUptoCard : Claim7 := { stood := { row := macSumsUptoRow, standIns := [], harness := (true, "2d461312edb2cf045bfb773bb25617bc1b06ab1e0ee5ee78f1c1b186b44c7c97"), looks := true }, kinds := [], alts := [], laidByText := true, laidKinds := [.data], laidTests := true, laidLooks := .later }
def MacSumsUptoCardSaid : Prop := Claim7.holds Tryd.pinned (.plain (OpenSpec.upto macSumsSpec)) macSumsUptoCard

/-- THE SECOND FORM's CARD OF 'caucuslaw06.MacZeros'. -/
def macZerosUptoCard : Claim7 := { stood := { row := macZerosUptoRow, standIns := [], harness := (true, "2d461312edb2cf045bfb773bb25617bc1b06ab1e0ee5ee78f1c1b186b44c7c97"), looks := true }, kinds := [], alts := [], laidByText := true, laidKinds := [.data], laidTests := true, laidLooks := .later }
def MacZerosUptoCardSaid : Prop := Claim7.holds Tryd.pinned (.plain (OpenSpec.upto macZerosSpec)) macZerosUptoCard

/-- THE SECOND FORM's CARD OF 'caucuslaw05.ShaSums'. -/
def shaSumsUptoCard : Claim7 := { stood := { row := shaSumsUptoRow, standIns := [], harness := (true, "2d461312edb2cf045bfb773bb25617bc1b06ab1e0ee5ee78f1c1b186b44c7c97"), looks := true }, kinds := [], alts := [], laidByText := true, laidKinds := [.handle, .data], laidTests := true, laidLooks := .later }
def ShaSumsUptoCardSaid : Prop := Claim7.holds Tryd.pinned (.plain (OpenSpec.upto shaSumsSpec)) shaSumsUptoCard

/-- THE SECOND FORM's CARD OF 'caucuslaw05.ShaTexts'. -/
def shaTextsUptoCard : Claim7 := { stood := { row := shaTextsUptoRow, standIns := [], harness := (true, "2d461312edb2cf045bfb773bb25617bc1b06ab1e0ee5ee78f1c1b186b44c7c97"), looks := true }, kinds := [], alts := [], laidByText := true, laidKinds := [.handle, .data], laidTests := true, laidLooks := .later }
def ShaTextsUptoCardSaid : Prop := Claim7.holds Tryd.pinned (.plain (OpenSpec.upto shaTextsSpec)) shaTextsUptoCard

/-- THE SECOND FORM's CARD OF 'caucuslaw07.PrgNums'. -/
def prgNumsUptoCard : Claim7 := { stood := { row := prgNumsUptoRow, standIns := [], harness := (true, "2d461312edb2cf045bfb773bb25617bc1b06ab1e0ee5ee78f1c1b186b44c7c97"), looks := true }, kinds := [], alts := [], laidByText := true, laidKinds := [.handle, .data], laidTests := true, laidLooks := .later }
def PrgNumsUptoCardSaid : Prop := Claim7.holds Tryd.pinned (.plain (OpenSpec.upto prgNumsSpec)) prgNumsUptoCard

/-- THE SECOND FORM's CARD OF 'caucuslaw07.PrgFirst'. -/
def prgFirstUptoCard : Claim7 := { stood := { row := prgFirstUptoRow, standIns := [], harness := (true, "2d461312edb2cf045bfb773bb25617bc1b06ab1e0ee5ee78f1c1b186b44c7c97"), looks := true }, kinds := [], alts := [], laidByText := true, laidKinds := [.handle, .data], laidTests := true, laidLooks := .later }
def PrgFirstUptoCardSaid : Prop := Claim7.holds Tryd.pinned (.plain (OpenSpec.upto prgFirstSpec)) prgFirstUptoCard

/-- THE SECOND FORM's CARD OF 'caucuslaw07.PrgParts'. -/
def prgPartsUptoCard : Claim7 := { stood := { row := prgPartsUptoRow, standIns := [], harness := (true, "2d461312edb2cf045bfb773bb25617bc1b06ab1e0ee5ee78f1c1b186b44c7c97"), looks := true }, kinds := [], alts := [], laidByText := true, laidKinds := [.handle, .data], laidTests := true, laidLooks := .later }
def PrgPartsUptoCardSaid : Prop := Claim7.holds Tryd.pinned (.plain (OpenSpec.upto prgPartsSpec)) prgPartsUptoCard

/-- THE SECOND FORM's CARD OF 'caucuslaw09.PairTells'. -/
def pairTellsUptoCard : Claim7 := { stood := { row := pairTellsUptoRow, standIns := [], harness := (true, "2d461312edb2cf045bfb773bb25617bc1b06ab1e0ee5ee78f1c1b186b44c7c97"), looks := true }, kinds := [], alts := [], laidByText := true, laidKinds := [.handle, .data], laidTests := true, laidLooks := .later }
def PairTellsUptoCardSaid : Prop := Claim7.holds Tryd.pinned (.plain (OpenSpec.upto pairTellsSpec)) pairTellsUptoCard

/-- THE SECOND FORM's CARD OF 'caucuslaw09.PairMore'. -/
def pairMoreUptoCard : Claim7 := { stood := { row := pairMoreUptoRow, standIns := [], harness := (true, "2d461312edb2cf045bfb773bb25617bc1b06ab1e0ee5ee78f1c1b186b44c7c97"), looks := true }, kinds := [], alts := [], laidByText := true, laidKinds := [.handle, .data], laidTests := true, laidLooks := .later }
def PairMoreUptoCardSaid : Prop := Claim7.holds Tryd.pinned (.plain (OpenSpec.upto pairMoreSpec)) pairMoreUptoCard

/-- THE SECOND FORM's CARD OF 'caucuslaw09.PairZero'. -/
def pairZeroUptoCard : Claim7 := { stood := { row := pairZeroUptoRow, standIns := [], harness := (true, "2d461312edb2cf045bfb773bb25617bc1b06ab1e0ee5ee78f1c1b186b44c7c97"), looks := true }, kinds := [], alts := [], laidByText := true, laidKinds := [.handle, .data], laidTests := true, laidLooks := .later }
def PairZeroUptoCardSaid : Prop := Claim7.holds Tryd.pinned (.plain (OpenSpec.upto pairZeroSpec)) pairZeroUptoCard
end Rows
end Go.Proofs.YtkchdhkpjnnliaaDoor
