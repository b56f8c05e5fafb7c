/- FaultMay: which faults may be; of which dies they are; no condition. -/
import Derived.Test.YtnfigkoefmldiaaGreatRows
import Derived.ProofKit
import Derived.OpenShut
import Derived.ChangeOld
namespace Go.Proofs.YtnfigkoefmldiaaGreat.faultMay
open Go.ChangeShapes Go.WideShapes Go.ChangeAt Go.RowKit
open Go.ChangeMaps (open_string shut_string)
set_option linter.unusedVariables false
theorem closed : joinedFacts Tryz.pinned.checked.prog 6 Tryz.f6 Rows.faultMaySpec Rows.faultMayRow = true := by kernel_rfl
end Go.Proofs.YtnfigkoefmldiaaGreat.faultMay
