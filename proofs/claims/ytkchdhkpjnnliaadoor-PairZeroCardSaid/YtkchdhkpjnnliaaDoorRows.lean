/-
  NARROWER THAN 'FOR EVERY INPUT', by the rows' own cells (each row's printed sentence says how): SealTells: laid · SealApart: laid · MacSums: laid · MacZeros: laid · ShaSums: laid · ShaTexts: laid · PrgNums: laid · PrgFirst: laid · PrgParts: laid · PairTells: laid · PairMore: laid · PairZero: laid.
  DERIVED. THE GIVEN ROWS OF THIS SEAT. 12 by the template 'for every input the law returns true; each argument reads behind the call as it read before'; 0 by the template 'total and deterministic' (their statements: YtkchdhkpjnnliaaDoorTotals.lean).
  GIVEN WITH THE SEED: the statements are not yours to turn. If you find one false, say at which input.
  Laid BY PROGRAM, IN A SANDBOX (cutbox-rows.mjs): the forced cells as the released guide's own fill.sh prints them over the translation 2aa06a92f31cbbdb… (all of the seat's roots in one cut). By AI agents, Wed Nov 11 2026. No macro, syntax, notation, axiom, sorry.
-/
import Derived.Test.YtkchdhkpjnnliaaDoorChecked
import GoSem.Claim
import GoSem.ClaimJoined
import GoSem.ClaimMapViews
import Derived.JoinedTies
import Derived.KernelRfl
namespace Go.Proofs.YtkchdhkpjnnliaaDoor
/- THE CELL 'sum', in the pinned program and in every row, IS THE sha256 OF THE DUMP (.gsa) THAT YtkchdhkpjnnliaaDoorProg.lean LOADS. Nothing in Lean hashes anything: it is a label: what it is worth is what the hold of that sum in a sandbox is worth. -/
noncomputable def Tryd.pinned : Pinned := { name := "ytkchdhkpjnnliaadoor", sum := "2aa06a92f31cbbdbe649d9955a87dfd628760706a5491f1b863d07903df13b64", checked := Tryd.checked }
namespace Rows
def none {H : Type} : Left H := { results := [], args := [] }

/- WHAT THE LISTED PACKAGE-LEVEL VARIABLES READ AS WHEN THE CALL BEGINS. Each datum BY PROGRAM (the guide's laid-datum.mjs) off the statement by which the dump's own 'gosem.cut.vars' lays the variable. In a bare row this is a premise. The card (YtkchdhkpjnnliaaDoorCards.lean) ties it to the program's text. -/
def laid_caucus_sha_rounds {H : Type} : DataW H := .agg [.lit (.int .u32 1116352408), .lit (.int .u32 1899447441), .lit (.int .u32 3049323471), .lit (.int .u32 3921009573), .lit (.int .u32 961987163), .lit (.int .u32 1508970993), .lit (.int .u32 2453635748), .lit (.int .u32 2870763221), .lit (.int .u32 3624381080), .lit (.int .u32 310598401), .lit (.int .u32 607225278), .lit (.int .u32 1426881987), .lit (.int .u32 1925078388), .lit (.int .u32 2162078206), .lit (.int .u32 2614888103), .lit (.int .u32 3248222580), .lit (.int .u32 3835390401), .lit (.int .u32 4022224774), .lit (.int .u32 264347078), .lit (.int .u32 604807628), .lit (.int .u32 770255983), .lit (.int .u32 1249150122), .lit (.int .u32 1555081692), .lit (.int .u32 1996064986), .lit (.int .u32 2554220882), .lit (.int .u32 2821834349), .lit (.int .u32 2952996808), .lit (.int .u32 3210313671), .lit (.int .u32 3336571891), .lit (.int .u32 3584528711), .lit (.int .u32 113926993), .lit (.int .u32 338241895), .lit (.int .u32 666307205), .lit (.int .u32 773529912), .lit (.int .u32 1294757372), .lit (.int .u32 1396182291), .lit (.int .u32 1695183700), .lit (.int .u32 1986661051), .lit (.int .u32 2177026350), .lit (.int .u32 2456956037), .lit (.int .u32 2730485921), .lit (.int .u32 2820302411), .lit (.int .u32 3259730800), .lit (.int .u32 3345764771), .lit (.int .u32 3516065817), .lit (.int .u32 3600352804), .lit (.int .u32 4094571909), .lit (.int .u32 275423344), .lit (.int .u32 430227734), .lit (.int .u32 506948616), .lit (.int .u32 659060556), .lit (.int .u32 883997877), .lit (.int .u32 958139571), .lit (.int .u32 1322822218), .lit (.int .u32 1537002063), .lit (.int .u32 1747873779), .lit (.int .u32 1955562222), .lit (.int .u32 2024104815), .lit (.int .u32 2227730452), .lit (.int .u32 2361852424), .lit (.int .u32 2428436474), .lit (.int .u32 2756734187), .lit (.int .u32 3204031479), .lit (.int .u32 3329325298)]
def laid_errors_errorType {H : Type} : DataW H := .iface "internal/reflectlite.rtype" (.agg [.ptr (.lit (.string [101, 114, 114, 111, 114]))])

/-- 'caucuslaw08.SealTells': WHATEVER THE INPUT: true; the input reads as it did. -/
def sealTellsSpec : ChangeSpec := { name := "sealTells", fn := fun _ => fun
  | [d1, d2, d3] => { results := [.lit (.bool true)], args := [d1, d2, d3] }
  | _ => none }
def sealTellsRow : OpenClaim := { program := "ytkchdhkpjnnliaadoor", sum := "2aa06a92f31cbbdbe649d9955a87dfd628760706a5491f1b863d07903df13b64", func := "caucus/caucuslaw08.SealTells", spec := "sealTells", unfollowed := true, recurses := true, named := ["caucus/sha.rounds"], apart := false, laid := [("caucus/sha.rounds", laid_caucus_sha_rounds)] }
def SealTellsSaid : Prop := sealTellsRow.holds Tryd.pinned (OpenSpec.ofChange sealTellsSpec)

/-- ITS FALSE NEIGHBOUR: 'it returns false'. Refute it at one input. -/
def sealTellsWrong : ChangeSpec := { name := "sealTells", fn := fun _ => fun
  | [d1, d2, d3] => { results := [.lit (.bool false)], args := [d1, d2, d3] }
  | _ => none }
def SealTellsWrongFalsely : Prop := sealTellsRow.holds Tryd.pinned (OpenSpec.ofChange sealTellsWrong)

/-- 'caucuslaw08.SealApart': WHATEVER THE INPUT: true; the input reads as it did. -/
def sealApartSpec : ChangeSpec := { name := "sealApart", fn := fun _ => fun
  | [d1, d2, d3] => { results := [.lit (.bool true)], args := [d1, d2, d3] }
  | _ => none }
def sealApartRow : OpenClaim := { program := "ytkchdhkpjnnliaadoor", sum := "2aa06a92f31cbbdbe649d9955a87dfd628760706a5491f1b863d07903df13b64", func := "caucus/caucuslaw08.SealApart", spec := "sealApart", unfollowed := true, recurses := true, named := ["caucus/sha.rounds"], apart := false, laid := [("caucus/sha.rounds", laid_caucus_sha_rounds)] }
def SealApartSaid : Prop := sealApartRow.holds Tryd.pinned (OpenSpec.ofChange sealApartSpec)

/-- ITS FALSE NEIGHBOUR: 'it returns false'. Refute it at one input. -/
def sealApartWrong : ChangeSpec := { name := "sealApart", fn := fun _ => fun
  | [d1, d2, d3] => { results := [.lit (.bool false)], args := [d1, d2, d3] }
  | _ => none }
def SealApartWrongFalsely : Prop := sealApartRow.holds Tryd.pinned (OpenSpec.ofChange sealApartWrong)

/-- 'caucuslaw06.MacSums': WHATEVER THE INPUT: true; the input reads as it did. -/
def macSumsSpec : ChangeSpec := { name := "macSums", fn := fun _ => fun
  | [d1, d2, d3] => { results := [.lit (.bool true)], args := [d1, d2, d3] }
  | _ => none }
def macSumsRow : OpenClaim := { program := "ytkchdhkpjnnliaadoor", sum := "2aa06a92f31cbbdbe649d9955a87dfd628760706a5491f1b863d07903df13b64", func := "caucus/caucuslaw06.MacSums", spec := "macSums", unfollowed := true, recurses := true, named := ["caucus/sha.rounds"], apart := false, laid := [("caucus/sha.rounds", laid_caucus_sha_rounds)] }
def MacSumsSaid : Prop := macSumsRow.holds Tryd.pinned (OpenSpec.ofChange macSumsSpec)

/-- ITS FALSE NEIGHBOUR: 'it returns false'. Refute it at one input. -/
def macSumsWrong : ChangeSpec := { name := "macSums", fn := fun _ => fun
  | [d1, d2, d3] => { results := [.lit (.bool false)], args := [d1, d2, d3] }
  | _ => none }
def MacSumsWrongFalsely : Prop := macSumsRow.holds Tryd.pinned (OpenSpec.ofChange macSumsWrong)

/-- 'caucuslaw06.MacZeros': WHATEVER THE INPUT: true; the input reads as it did. -/
def macZerosSpec : ChangeSpec := { name := "macZeros", fn := fun _ => fun
  | [d1, d2, d3] => { results := [.lit (.bool true)], args := [d1, d2, d3] }
  | _ => none }
def macZerosRow : OpenClaim := { program := "ytkchdhkpjnnliaadoor", sum := "2aa06a92f31cbbdbe649d9955a87dfd628760706a5491f1b863d07903df13b64", func := "caucus/caucuslaw06.MacZeros", spec := "macZeros", unfollowed := true, recurses := true, named := ["caucus/sha.rounds"], apart := false, laid := [("caucus/sha.rounds", laid_caucus_sha_rounds)] }
def MacZerosSaid : Prop := macZerosRow.holds Tryd.pinned (OpenSpec.ofChange macZerosSpec)

/-- ITS FALSE NEIGHBOUR: 'it returns false'. Refute it at one input. -/
def macZerosWrong : ChangeSpec := { name := "macZeros", fn := fun _ => fun
  | [d1, d2, d3] => { results := [.lit (.bool false)], args := [d1, d2, d3] }
  | _ => none }
def MacZerosWrongFalsely : Prop := macZerosRow.holds Tryd.pinned (OpenSpec.ofChange macZerosWrong)

/-- 'caucuslaw05.ShaSums': WHATEVER THE INPUT: true; the input reads as it did. -/
def shaSumsSpec : ChangeSpec := { name := "shaSums", fn := fun _ => fun
  | [d] => { results := [.lit (.bool true)], args := [d] }
  | _ => none }
def shaSumsRow : OpenClaim := { program := "ytkchdhkpjnnliaadoor", sum := "2aa06a92f31cbbdbe649d9955a87dfd628760706a5491f1b863d07903df13b64", func := "caucus/caucuslaw05.ShaSums", spec := "shaSums", inPlace := ["internal/reflectlite.ValueOf", "(internal/reflectlite.Value).Type", "(internal/reflectlite.Value).IsNil", "internal/reflectlite.TypeOf", "(internal/reflectlite.Value).Elem", "(internal/reflectlite.Value).Set"], unfollowed := true, recurses := true, named := ["caucus/sha.rounds", "errors.errorType"], apart := false, laid := [("errors.errorType", laid_errors_errorType), ("caucus/sha.rounds", laid_caucus_sha_rounds)] }
def ShaSumsSaid : Prop := shaSumsRow.holds Tryd.pinned (OpenSpec.ofChange shaSumsSpec)

/-- ITS FALSE NEIGHBOUR: 'it returns false'. Refute it at one input. -/
def shaSumsWrong : ChangeSpec := { name := "shaSums", fn := fun _ => fun
  | [d] => { results := [.lit (.bool false)], args := [d] }
  | _ => none }
def ShaSumsWrongFalsely : Prop := shaSumsRow.holds Tryd.pinned (OpenSpec.ofChange shaSumsWrong)

/-- 'caucuslaw05.ShaTexts': WHATEVER THE INPUT: true; the input reads as it did. -/
def shaTextsSpec : ChangeSpec := { name := "shaTexts", fn := fun _ => fun
  | [d1, d2, d3] => { results := [.lit (.bool true)], args := [d1, d2, d3] }
  | _ => none }
def shaTextsRow : OpenClaim := { program := "ytkchdhkpjnnliaadoor", sum := "2aa06a92f31cbbdbe649d9955a87dfd628760706a5491f1b863d07903df13b64", func := "caucus/caucuslaw05.ShaTexts", spec := "shaTexts", inPlace := ["internal/reflectlite.ValueOf", "(internal/reflectlite.Value).Type", "(internal/reflectlite.Value).IsNil", "internal/reflectlite.TypeOf", "(internal/reflectlite.Value).Elem", "(internal/reflectlite.Value).Set"], unfollowed := true, recurses := true, named := ["caucus/sha.rounds", "errors.errorType"], apart := false, laid := [("errors.errorType", laid_errors_errorType), ("caucus/sha.rounds", laid_caucus_sha_rounds)] }
def ShaTextsSaid : Prop := shaTextsRow.holds Tryd.pinned (OpenSpec.ofChange shaTextsSpec)

/-- ITS FALSE NEIGHBOUR: 'it returns false'. Refute it at one input. -/
def shaTextsWrong : ChangeSpec := { name := "shaTexts", fn := fun _ => fun
  | [d1, d2, d3] => { results := [.lit (.bool false)], args := [d1, d2, d3] }
  | _ => none }
def ShaTextsWrongFalsely : Prop := shaTextsRow.holds Tryd.pinned (OpenSpec.ofChange shaTextsWrong)

/-- 'caucuslaw07.PrgNums': WHATEVER THE INPUT: true; the input reads as it did. -/
def prgNumsSpec : ChangeSpec := { name := "prgNums", fn := fun _ => fun
  | [d1, d2, d3] => { results := [.lit (.bool true)], args := [d1, d2, d3] }
  | _ => none }
def prgNumsRow : OpenClaim := { program := "ytkchdhkpjnnliaadoor", sum := "2aa06a92f31cbbdbe649d9955a87dfd628760706a5491f1b863d07903df13b64", func := "caucus/caucuslaw07.PrgNums", spec := "prgNums", inPlace := ["internal/reflectlite.ValueOf", "(internal/reflectlite.Value).Type", "(internal/reflectlite.Value).IsNil", "internal/reflectlite.TypeOf", "(internal/reflectlite.Value).Elem", "(internal/reflectlite.Value).Set"], unfollowed := true, recurses := true, named := ["caucus/sha.rounds", "errors.errorType"], apart := false, laid := [("errors.errorType", laid_errors_errorType), ("caucus/sha.rounds", laid_caucus_sha_rounds)] }
def PrgNumsSaid : Prop := prgNumsRow.holds Tryd.pinned (OpenSpec.ofChange prgNumsSpec)

/-- ITS FALSE NEIGHBOUR: 'it returns false'. Refute it at one input. -/
def prgNumsWrong : ChangeSpec := { name := "prgNums", fn := fun _ => fun
  | [d1, d2, d3] => { results := [.lit (.bool false)], args := [d1, d2, d3] }
  | _ => none }
def PrgNumsWrongFalsely : Prop := prgNumsRow.holds Tryd.pinned (OpenSpec.ofChange prgNumsWrong)

/-- 'caucuslaw07.PrgFirst': WHATEVER THE INPUT: true; the input reads as it did. -/
def prgFirstSpec : ChangeSpec := { name := "prgFirst", fn := fun _ => fun
  | [d1, d2, d3] => { results := [.lit (.bool true)], args := [d1, d2, d3] }
  | _ => none }
def prgFirstRow : OpenClaim := { program := "ytkchdhkpjnnliaadoor", sum := "2aa06a92f31cbbdbe649d9955a87dfd628760706a5491f1b863d07903df13b64", func := "caucus/caucuslaw07.PrgFirst", spec := "prgFirst", inPlace := ["internal/reflectlite.ValueOf", "(internal/reflectlite.Value).Type", "(internal/reflectlite.Value).IsNil", "internal/reflectlite.TypeOf", "(internal/reflectlite.Value).Elem", "(internal/reflectlite.Value).Set"], unfollowed := true, recurses := true, named := ["caucus/sha.rounds", "errors.errorType"], apart := false, laid := [("errors.errorType", laid_errors_errorType), ("caucus/sha.rounds", laid_caucus_sha_rounds)] }
def PrgFirstSaid : Prop := prgFirstRow.holds Tryd.pinned (OpenSpec.ofChange prgFirstSpec)

/-- ITS FALSE NEIGHBOUR: 'it returns false'. Refute it at one input. -/
def prgFirstWrong : ChangeSpec := { name := "prgFirst", fn := fun _ => fun
  | [d1, d2, d3] => { results := [.lit (.bool false)], args := [d1, d2, d3] }
  | _ => none }
def PrgFirstWrongFalsely : Prop := prgFirstRow.holds Tryd.pinned (OpenSpec.ofChange prgFirstWrong)

/-- 'caucuslaw07.PrgParts': WHATEVER THE INPUT: true; the input reads as it did. -/
def prgPartsSpec : ChangeSpec := { name := "prgParts", fn := fun _ => fun
  | [d1, d2, d3] => { results := [.lit (.bool true)], args := [d1, d2, d3] }
  | _ => none }
def prgPartsRow : OpenClaim := { program := "ytkchdhkpjnnliaadoor", sum := "2aa06a92f31cbbdbe649d9955a87dfd628760706a5491f1b863d07903df13b64", func := "caucus/caucuslaw07.PrgParts", spec := "prgParts", inPlace := ["internal/reflectlite.ValueOf", "(internal/reflectlite.Value).Type", "(internal/reflectlite.Value).IsNil", "internal/reflectlite.TypeOf", "(internal/reflectlite.Value).Elem", "(internal/reflectlite.Value).Set"], unfollowed := true, recurses := true, named := ["caucus/sha.rounds", "errors.errorType"], apart := false, laid := [("errors.errorType", laid_errors_errorType), ("caucus/sha.rounds", laid_caucus_sha_rounds)] }
def PrgPartsSaid : Prop := prgPartsRow.holds Tryd.pinned (OpenSpec.ofChange prgPartsSpec)

/-- ITS FALSE NEIGHBOUR: 'it returns false'. Refute it at one input. -/
def prgPartsWrong : ChangeSpec := { name := "prgParts", fn := fun _ => fun
  | [d1, d2, d3] => { results := [.lit (.bool false)], args := [d1, d2, d3] }
  | _ => none }
def PrgPartsWrongFalsely : Prop := prgPartsRow.holds Tryd.pinned (OpenSpec.ofChange prgPartsWrong)

/-- 'caucuslaw09.PairTells': WHATEVER THE INPUT: true; the input reads as it did. -/
def pairTellsSpec : ChangeSpec := { name := "pairTells", fn := fun _ => fun
  | [d1, d2] => { results := [.lit (.bool true)], args := [d1, d2] }
  | _ => none }
def pairTellsRow : OpenClaim := { program := "ytkchdhkpjnnliaadoor", sum := "2aa06a92f31cbbdbe649d9955a87dfd628760706a5491f1b863d07903df13b64", func := "caucus/caucuslaw09.PairTells", spec := "pairTells", inPlace := ["internal/reflectlite.ValueOf", "(internal/reflectlite.Value).Type", "(internal/reflectlite.Value).IsNil", "internal/reflectlite.TypeOf", "(internal/reflectlite.Value).Elem", "(internal/reflectlite.Value).Set"], unfollowed := true, recurses := true, named := ["caucus/sha.rounds", "errors.errorType"], apart := false, laid := [("errors.errorType", laid_errors_errorType), ("caucus/sha.rounds", laid_caucus_sha_rounds)] }
def PairTellsSaid : Prop := pairTellsRow.holds Tryd.pinned (OpenSpec.ofChange pairTellsSpec)

/-- ITS FALSE NEIGHBOUR: 'it returns false'. Refute it at one input. -/
def pairTellsWrong : ChangeSpec := { name := "pairTells", fn := fun _ => fun
  | [d1, d2] => { results := [.lit (.bool false)], args := [d1, d2] }
  | _ => none }
def PairTellsWrongFalsely : Prop := pairTellsRow.holds Tryd.pinned (OpenSpec.ofChange pairTellsWrong)

/-- 'caucuslaw09.PairMore': WHATEVER THE INPUT: true; the input reads as it did. -/
def pairMoreSpec : ChangeSpec := { name := "pairMore", fn := fun _ => fun
  | [d1, d2] => { results := [.lit (.bool true)], args := [d1, d2] }
  | _ => none }
def pairMoreRow : OpenClaim := { program := "ytkchdhkpjnnliaadoor", sum := "2aa06a92f31cbbdbe649d9955a87dfd628760706a5491f1b863d07903df13b64", func := "caucus/caucuslaw09.PairMore", spec := "pairMore", inPlace := ["internal/reflectlite.ValueOf", "(internal/reflectlite.Value).Type", "(internal/reflectlite.Value).IsNil", "internal/reflectlite.TypeOf", "(internal/reflectlite.Value).Elem", "(internal/reflectlite.Value).Set"], unfollowed := true, recurses := true, named := ["caucus/sha.rounds", "errors.errorType"], apart := false, laid := [("errors.errorType", laid_errors_errorType), ("caucus/sha.rounds", laid_caucus_sha_rounds)] }
def PairMoreSaid : Prop := pairMoreRow.holds Tryd.pinned (OpenSpec.ofChange pairMoreSpec)

/-- ITS FALSE NEIGHBOUR: 'it returns false'. Refute it at one input. -/
def pairMoreWrong : ChangeSpec := { name := "pairMore", fn := fun _ => fun
  | [d1, d2] => { results := [.lit (.bool false)], args := [d1, d2] }
  | _ => none }
def PairMoreWrongFalsely : Prop := pairMoreRow.holds Tryd.pinned (OpenSpec.ofChange pairMoreWrong)

/-- 'caucuslaw09.PairZero': WHATEVER THE INPUT: true; the input reads as it did. -/
def pairZeroSpec : ChangeSpec := { name := "pairZero", fn := fun _ => fun
  | [d1, d2, d3] => { results := [.lit (.bool true)], args := [d1, d2, d3] }
  | _ => none }
def pairZeroRow : OpenClaim := { program := "ytkchdhkpjnnliaadoor", sum := "2aa06a92f31cbbdbe649d9955a87dfd628760706a5491f1b863d07903df13b64", func := "caucus/caucuslaw09.PairZero", spec := "pairZero", inPlace := ["internal/reflectlite.ValueOf", "(internal/reflectlite.Value).Type", "(internal/reflectlite.Value).IsNil", "internal/reflectlite.TypeOf", "(internal/reflectlite.Value).Elem", "(internal/reflectlite.Value).Set"], unfollowed := true, recurses := true, named := ["caucus/sha.rounds", "errors.errorType"], apart := false, laid := [("errors.errorType", laid_errors_errorType), ("caucus/sha.rounds", laid_caucus_sha_rounds)] }
def PairZeroSaid : Prop := pairZeroRow.holds Tryd.pinned (OpenSpec.ofChange pairZeroSpec)

/-- ITS FALSE NEIGHBOUR: 'it returns false'. Refute it at one input. -/
def pairZeroWrong : ChangeSpec := { name := "pairZero", fn := fun _ => fun
  | [d1, d2, d3] => { results := [.lit (.bool false)], args := [d1, d2, d3] }
  | _ => none }
def PairZeroWrongFalsely : Prop := pairZeroRow.holds Tryd.pinned (OpenSpec.ofChange pairZeroWrong)

/- THE SECOND FORM. 'bulk': how many values and letters a reading holds, each counted each time it is reached (what is shared counts as often as it is met; a slice's spare places count too). A statement '..UptoSaid' is the law's where the arguments, and the package variables that the reading takes, are together of bulk at most 1048576: NARROWER than '..Said'. Prove '..Said' where nothing that the law and all that it calls make is longer than what came in: it says more and counts as full. Else prove '..UptoSaid'. A law counts once. -/
mutual
def uptoBulk {H : Type} : DataW H → Nat
  | .lit (.string bytes) => bytes.length + 1
  | .lit _ => 1
  | .nil => 1
  | .ptr d => uptoBulk d + 1
  | .slice elems spare => uptoBulkAll elems + uptoBulkAll spare + 1
  | .agg parts => uptoBulkAll parts + 1
  | .iface _ d => uptoBulk d + 1
  | .map entries => uptoBulkEntries entries + 1
  | .held _ => 1
def uptoBulkAll {H : Type} : List (DataW H) → Nat
  | [] => 0
  | d :: r => uptoBulk d + uptoBulkAll r
def uptoBulkEntries {H : Type} : List (Lit × DataW H) → Nat
  | [] => 0
  | x :: r => uptoBulkEntry x + uptoBulkEntries r
def uptoBulkEntry {H : Type} : Lit × DataW H → Nat
  | (.string bytes, d) => bytes.length + uptoBulk d + 1
  | (_, d) => uptoBulk d + 1
 end
def uptoSmall : (H : Type) → List (DataW H) → Bool := fun _ ds => decide (uptoBulkAll ds ≤ 1048576)
def OpenSpec.upto (s : _root_.Go.ChangeSpec) : _root_.Go.OpenSpec := { _root_.Go.OpenSpec.ofChange s with cond := some uptoSmall }

/-- 'caucuslaw08.SealTells', WHERE WHAT IT READS IS OF BULK AT MOST 1048576: true; the input reads as it did. -/
def sealTellsUptoRow : OpenClaim := { program := "ytkchdhkpjnnliaadoor", sum := "2aa06a92f31cbbdbe649d9955a87dfd628760706a5491f1b863d07903df13b64", func := "caucus/caucuslaw08.SealTells", spec := "sealTells", unfollowed := true, recurses := true, named := ["caucus/sha.rounds"], apart := false, laid := [("caucus/sha.rounds", laid_caucus_sha_rounds)], narrowed := true }
def SealTellsUptoSaid : Prop := sealTellsUptoRow.holds Tryd.pinned (OpenSpec.upto sealTellsSpec)

/-- 'caucuslaw08.SealApart', WHERE WHAT IT READS IS OF BULK AT MOST 1048576: true; the input reads as it did. -/
def sealApartUptoRow : OpenClaim := { program := "ytkchdhkpjnnliaadoor", sum := "2aa06a92f31cbbdbe649d9955a87dfd628760706a5491f1b863d07903df13b64", func := "caucus/caucuslaw08.SealApart", spec := "sealApart", unfollowed := true, recurses := true, named := ["caucus/sha.rounds"], apart := false, laid := [("caucus/sha.rounds", laid_caucus_sha_rounds)], narrowed := true }
def SealApartUptoSaid : Prop := sealApartUptoRow.holds Tryd.pinned (OpenSpec.upto sealApartSpec)

/-- 'caucuslaw06.MacSums', WHERE WHAT IT READS IS OF BULK AT MOST 1048576: true; the input reads as it did. -/
def macSumsUptoRow : OpenClaim := { program := "ytkchdhkpjnnliaadoor", sum := "2aa06a92f31cbbdbe649d9955a87dfd628760706a5491f1b863d07903df13b64", func := "caucus/caucuslaw06.MacSums", spec := "macSums", unfollowed := true, recurses := true, named := ["caucus/sha.rounds"], apart := false, laid := [("caucus/sha.rounds", laid_caucus_sha_rounds)], narrowed := true }
def MacSumsUptoSaid : Prop := macSumsUptoRow.holds Tryd.pinned (OpenSpec.upto macSumsSpec)

/-- 'caucuslaw06.MacZeros', WHERE WHAT IT READS IS OF BULK AT MOST 1048576: true; the input reads as it did. -/
def macZerosUptoRow : OpenClaim := { program := "ytkchdhkpjnnliaadoor", sum := "2aa06a92f31cbbdbe649d9955a87dfd628760706a5491f1b863d07903df13b64", func := "caucus/caucuslaw06.MacZeros", spec := "macZeros", unfollowed := true, recurses := true, named := ["caucus/sha.rounds"], apart := false, laid := [("caucus/sha.rounds", laid_caucus_sha_rounds)], narrowed := true }
def MacZerosUptoSaid : Prop := macZerosUptoRow.holds Tryd.pinned (OpenSpec.upto macZerosSpec)

/-- 'caucuslaw05.ShaSums', WHERE WHAT IT READS IS OF BULK AT MOST 1048576: true; the input reads as it did. -/
def shaSumsUptoRow : OpenClaim := { program := "ytkchdhkpjnnliaadoor", sum := "2aa06a92f31cbbdbe649d9955a87dfd628760706a5491f1b863d07903df13b64", func := "caucus/caucuslaw05.ShaSums", spec := "shaSums", inPlace := ["internal/reflectlite.ValueOf", "(internal/reflectlite.Value).Type", "(internal/reflectlite.Value).IsNil", "internal/reflectlite.TypeOf", "(internal/reflectlite.Value).Elem", "(internal/reflectlite.Value).Set"], unfollowed := true, recurses := true, named := ["caucus/sha.rounds", "errors.errorType"], apart := false, laid := [("errors.errorType", laid_errors_errorType), ("caucus/sha.rounds", laid_caucus_sha_rounds)], narrowed := true }
def ShaSumsUptoSaid : Prop := shaSumsUptoRow.holds Tryd.pinned (OpenSpec.upto shaSumsSpec)

/-- 'caucuslaw05.ShaTexts', WHERE WHAT IT READS IS OF BULK AT MOST 1048576: true; the input reads as it did. -/
def shaTextsUptoRow : OpenClaim := { program := "ytkchdhkpjnnliaadoor", sum := "2aa06a92f31cbbdbe649d9955a87dfd628760706a5491f1b863d07903df13b64", func := "caucus/caucuslaw05.ShaTexts", spec := "shaTexts", inPlace := ["internal/reflectlite.ValueOf", "(internal/reflectlite.Value).Type", "(internal/reflectlite.Value).IsNil", "internal/reflectlite.TypeOf", "(internal/reflectlite.Value).Elem", "(internal/reflectlite.Value).Set"], unfollowed := true, recurses := true, named := ["caucus/sha.rounds", "errors.errorType"], apart := false, laid := [("errors.errorType", laid_errors_errorType), ("caucus/sha.rounds", laid_caucus_sha_rounds)], narrowed := true }
def ShaTextsUptoSaid : Prop := shaTextsUptoRow.holds Tryd.pinned (OpenSpec.upto shaTextsSpec)

/-- 'caucuslaw07.PrgNums', WHERE WHAT IT READS IS OF BULK AT MOST 1048576: true; the input reads as it did. -/
def prgNumsUptoRow : OpenClaim := { program := "ytkchdhkpjnnliaadoor", sum := "2aa06a92f31cbbdbe649d9955a87dfd628760706a5491f1b863d07903df13b64", func := "caucus/caucuslaw07.PrgNums", spec := "prgNums", inPlace := ["internal/reflectlite.ValueOf", "(internal/reflectlite.Value).Type", "(internal/reflectlite.Value).IsNil", "internal/reflectlite.TypeOf", "(internal/reflectlite.Value).Elem", "(internal/reflectlite.Value).Set"], unfollowed := true, recurses := true, named := ["caucus/sha.rounds", "errors.errorType"], apart := false, laid := [("errors.errorType", laid_errors_errorType), ("caucus/sha.rounds", laid_caucus_sha_rounds)], narrowed := true }
def PrgNumsUptoSaid : Prop := prgNumsUptoRow.holds Tryd.pinned (OpenSpec.upto prgNumsSpec)

/-- 'caucuslaw07.PrgFirst', WHERE WHAT IT READS IS OF BULK AT MOST 1048576: true; the input reads as it did. -/
def prgFirstUptoRow : OpenClaim := { program := "ytkchdhkpjnnliaadoor", sum := "2aa06a92f31cbbdbe649d9955a87dfd628760706a5491f1b863d07903df13b64", func := "caucus/caucuslaw07.PrgFirst", spec := "prgFirst", inPlace := ["internal/reflectlite.ValueOf", "(internal/reflectlite.Value).Type", "(internal/reflectlite.Value).IsNil", "internal/reflectlite.TypeOf", "(internal/reflectlite.Value).Elem", "(internal/reflectlite.Value).Set"], unfollowed := true, recurses := true, named := ["caucus/sha.rounds", "errors.errorType"], apart := false, laid := [("errors.errorType", laid_errors_errorType), ("caucus/sha.rounds", laid_caucus_sha_rounds)], narrowed := true }
def PrgFirstUptoSaid : Prop := prgFirstUptoRow.holds Tryd.pinned (OpenSpec.upto prgFirstSpec)

/-- 'caucuslaw07.PrgParts', WHERE WHAT IT READS IS OF BULK AT MOST 1048576: true; the input reads as it did. -/
def prgPartsUptoRow : OpenClaim := { program := "ytkchdhkpjnnliaadoor", sum := "2aa06a92f31cbbdbe649d9955a87dfd628760706a5491f1b863d07903df13b64", func := "caucus/caucuslaw07.PrgParts", spec := "prgParts", inPlace := ["internal/reflectlite.ValueOf", "(internal/reflectlite.Value).Type", "(internal/reflectlite.Value).IsNil", "internal/reflectlite.TypeOf", "(internal/reflectlite.Value).Elem", "(internal/reflectlite.Value).Set"], unfollowed := true, recurses := true, named := ["caucus/sha.rounds", "errors.errorType"], apart := false, laid := [("errors.errorType", laid_errors_errorType), ("caucus/sha.rounds", laid_caucus_sha_rounds)], narrowed := true }
def PrgPartsUptoSaid : Prop := prgPartsUptoRow.holds Tryd.pinned (OpenSpec.upto prgPartsSpec)

/-- 'caucuslaw09.PairTells', WHERE WHAT IT READS IS OF BULK AT MOST 1048576: true; the input reads as it did. -/
def pairTellsUptoRow : OpenClaim := { program := "ytkchdhkpjnnliaadoor", sum := "2aa06a92f31cbbdbe649d9955a87dfd628760706a5491f1b863d07903df13b64", func := "caucus/caucuslaw09.PairTells", spec := "pairTells", inPlace := ["internal/reflectlite.ValueOf", "(internal/reflectlite.Value).Type", "(internal/reflectlite.Value).IsNil", "internal/reflectlite.TypeOf", "(internal/reflectlite.Value).Elem", "(internal/reflectlite.Value).Set"], unfollowed := true, recurses := true, named := ["caucus/sha.rounds", "errors.errorType"], apart := false, laid := [("errors.errorType", laid_errors_errorType), ("caucus/sha.rounds", laid_caucus_sha_rounds)], narrowed := true }
def PairTellsUptoSaid : Prop := pairTellsUptoRow.holds Tryd.pinned (OpenSpec.upto pairTellsSpec)

/-- 'caucuslaw09.PairMore', WHERE WHAT IT READS IS OF BULK AT MOST 1048576: true; the input reads as it did. -/
def pairMoreUptoRow : OpenClaim := { program := "ytkchdhkpjnnliaadoor", sum := "2aa06a92f31cbbdbe649d9955a87dfd628760706a5491f1b863d07903df13b64", func := "caucus/caucuslaw09.PairMore", spec := "pairMore", inPlace := ["internal/reflectlite.ValueOf", "(internal/reflectlite.Value).Type", "(internal/reflectlite.Value).IsNil", "internal/reflectlite.TypeOf", "(internal/reflectlite.Value).Elem", "(internal/reflectlite.Value).Set"], unfollowed := true, recurses := true, named := ["caucus/sha.rounds", "errors.errorType"], apart := false, laid := [("errors.errorType", laid_errors_errorType), ("caucus/sha.rounds", laid_caucus_sha_rounds)], narrowed := true }
def PairMoreUptoSaid : Prop := pairMoreUptoRow.holds Tryd.pinned (OpenSpec.upto pairMoreSpec)

/-- 'caucuslaw09.PairZero', WHERE WHAT IT READS IS OF BULK AT MOST 1048576: true; the input reads as it did. -/
def pairZeroUptoRow : OpenClaim := { program := "ytkchdhkpjnnliaadoor", sum := "2aa06a92f31cbbdbe649d9955a87dfd628760706a5491f1b863d07903df13b64", func := "caucus/caucuslaw09.PairZero", spec := "pairZero", inPlace := ["internal/reflectlite.ValueOf", "(internal/reflectlite.Value).Type", "(internal/reflectlite.Value).IsNil", "internal/reflectlite.TypeOf", "(internal/reflectlite.Value).Elem", "(internal/reflectlite.Value).Set"], unfollowed := true, recurses := true, named := ["caucus/sha.rounds", "errors.errorType"], apart := false, laid := [("errors.errorType", laid_errors_errorType), ("caucus/sha.rounds", laid_caucus_sha_rounds)], narrowed := true }
def PairZeroUptoSaid : Prop := pairZeroUptoRow.holds Tryd.pinned (OpenSpec.upto pairZeroSpec)

end Rows
end Go.Proofs.YtkchdhkpjnnliaaDoor
