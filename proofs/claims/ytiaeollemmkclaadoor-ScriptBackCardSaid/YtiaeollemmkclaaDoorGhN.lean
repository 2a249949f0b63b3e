import Derived.Test.YtiaeollemmkclaaDoorDrT
import Derived.Test.YtiaeollemmkclaaDoorAbs
/- A nil slice of structs in a variable, told as one of the call's own. No program in sight. -/
namespace Go.Proofs.YtiaeollemmkclaaDoor
open Go.RowKit
set_option linter.unusedSimpArgs false
set_option linter.unusedVariables false
end Go.Proofs.YtiaeollemmkclaaDoor
