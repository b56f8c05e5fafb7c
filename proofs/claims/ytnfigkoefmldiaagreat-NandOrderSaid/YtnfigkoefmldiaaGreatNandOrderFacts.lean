/- NandOrder: pages of a block are programmed in their order, each once, until it is erased; another order is told, and changes nothing; no condition. -/
import Derived.Test.YtnfigkoefmldiaaGreatRows
import Derived.ProofKit
import Derived.OpenShut
import Derived.ChangeOld
namespace Go.Proofs.YtnfigkoefmldiaaGreat.nandOrder
open Go.ChangeShapes Go.WideShapes Go.ChangeAt Go.RowKit
open Go.ChangeMaps (open_string shut_string)
set_option linter.unusedVariables false
theorem closed : joinedFacts Tryz.pinned.checked.prog 3 Tryz.f3 Rows.nandOrderSpec Rows.nandOrderRow = true := by kernel_rfl
end Go.Proofs.YtnfigkoefmldiaaGreat.nandOrder
