/- NandNone: no flash, no plan; no condition. -/
import Derived.Test.YtnfigkoefmldiaaGreatRows
import Derived.ProofKit
import Derived.OpenShut
import Derived.ChangeOld
namespace Go.Proofs.YtnfigkoefmldiaaGreat.nandNone
open Go.ChangeShapes Go.WideShapes Go.ChangeAt Go.RowKit
open Go.ChangeMaps (open_string shut_string)
set_option linter.unusedVariables false
theorem closed : joinedFacts Tryz.pinned.checked.prog 14 Tryz.f14 Rows.nandNoneSpec Rows.nandNoneRow = true := by kernel_rfl
end Go.Proofs.YtnfigkoefmldiaaGreat.nandNone
