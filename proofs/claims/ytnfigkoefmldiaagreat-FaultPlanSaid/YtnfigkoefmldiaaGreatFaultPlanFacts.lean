/- FaultPlan: faults come at their time, in their order, each once; no condition. -/
import Derived.Test.YtnfigkoefmldiaaGreatRows
import Derived.ProofKit
import Derived.OpenShut
import Derived.ChangeOld
namespace Go.Proofs.YtnfigkoefmldiaaGreat.faultPlan
open Go.ChangeShapes Go.WideShapes Go.ChangeAt Go.RowKit
open Go.ChangeMaps (open_string shut_string)
set_option linter.unusedVariables false
theorem closed : joinedFacts Tryz.pinned.checked.prog 7 Tryz.f7 Rows.faultPlanSpec Rows.faultPlanRow = true := by kernel_rfl
end Go.Proofs.YtnfigkoefmldiaaGreat.faultPlan
