/- caucusref05: words, bytes, what stands behind, by the engine. -/
import Derived.Test.YteiifdpikcnbgaaGreatDoorEn3
import Derived.Test.YteiifdpikcnbgaaGreatDoorTy
import Derived.Test.YteiifdpikcnbgaaGreatDoorRefW
namespace Go.Proofs.YteiifdpikcnbgaaGreatDoor
open Go.RowKit
set_option linter.unusedSimpArgs false
end Go.Proofs.YteiifdpikcnbgaaGreatDoor
