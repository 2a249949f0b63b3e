/- caucusref05.Padded, by the engine. -/
import Derived.Test.YteiifdpikcnbgaaGreatDoorTy
import Derived.Test.YteiifdpikcnbgaaGreatDoorRef5
import Derived.Test.YteiifdpikcnbgaaGreatDoorRefW
namespace Go.Proofs.YteiifdpikcnbgaaGreatDoor
open Go.RowKit
set_option linter.unusedSimpArgs false
end Go.Proofs.YteiifdpikcnbgaaGreatDoor
