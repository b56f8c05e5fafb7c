/- NandOn: a cut that did not come is forgotten when power comes; without power nothing is done; no condition. -/
import Derived.Test.YtnfigkoefmldiaaGreatRows
import Derived.ProofKit
import Derived.OpenShut
import Derived.ChangeOld
namespace Go.Proofs.YtnfigkoefmldiaaGreat.nandOn
open Go.ChangeShapes Go.WideShapes Go.ChangeAt Go.RowKit
open Go.ChangeMaps (open_string shut_string)
set_option linter.unusedVariables false
theorem closed : joinedFacts Tryz.pinned.checked.prog 13 Tryz.f13 Rows.nandOnSpec Rows.nandOnRow = true := by kernel_rfl
end Go.Proofs.YtnfigkoefmldiaaGreat.nandOn
