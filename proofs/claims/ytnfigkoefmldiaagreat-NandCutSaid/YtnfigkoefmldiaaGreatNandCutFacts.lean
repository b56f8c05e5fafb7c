/- NandCut: power goes at just the operation that was said; what was done ahead of it is done; behind it nothing is; no condition. -/
import Derived.Test.YtnfigkoefmldiaaGreatRows
import Derived.ProofKit
import Derived.OpenShut
import Derived.ChangeOld
namespace Go.Proofs.YtnfigkoefmldiaaGreat.nandCut
open Go.ChangeShapes Go.WideShapes Go.ChangeAt Go.RowKit
open Go.ChangeMaps (open_string shut_string)
set_option linter.unusedVariables false
theorem closed : joinedFacts Tryz.pinned.checked.prog 4 Tryz.f4 Rows.nandCutSpec Rows.nandCutRow = true := by kernel_rfl
end Go.Proofs.YtnfigkoefmldiaaGreat.nandCut
