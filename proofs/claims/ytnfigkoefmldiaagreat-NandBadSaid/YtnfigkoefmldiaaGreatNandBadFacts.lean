/- NandBad: a block whose erase failed is never erased nor programmed any more; what it has is read still; no condition. -/
import Derived.Test.YtnfigkoefmldiaaGreatRows
import Derived.ProofKit
import Derived.OpenShut
import Derived.ChangeOld
namespace Go.Proofs.YtnfigkoefmldiaaGreat.nandBad
open Go.ChangeShapes Go.WideShapes Go.ChangeAt Go.RowKit
open Go.ChangeMaps (open_string shut_string)
set_option linter.unusedVariables false
theorem closed : joinedFacts Tryz.pinned.checked.prog 10 Tryz.f10 Rows.nandBadSpec Rows.nandBadRow = true := by kernel_rfl
end Go.Proofs.YtnfigkoefmldiaaGreat.nandBad
