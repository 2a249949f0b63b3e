import Derived.Test.YtombphphaoeeiaaGreatDoorRef7
import Derived.Test.YtombphphaoeeiaaGreatDoorShaW
/- What many walks use: what came in reads as it did later on; the sums, by the program and by the document, as contracts. -/
namespace Go.Proofs.YtombphphaoeeiaaGreatDoor
open Go.RowKit
set_option linter.unusedSimpArgs false
section
variable {w0 : World} {hp : List Res}
theorem laid_later {γ : List Nm} {w : World} {G : Nat} (h : LaidK G w0) (hS : Sat w0 No γ hp w) : LaidK G w := h.below (keeps_below hS.keeps) h.lt
end
end Go.Proofs.YtombphphaoeeiaaGreatDoor
