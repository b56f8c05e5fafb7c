/- NandTurn: a byte that is turned is turned; not twice, till its block is erased; no condition. -/
import Derived.Test.YtnfigkoefmldiaaGreatRows
import Derived.ProofKit
import Derived.OpenShut
import Derived.ChangeOld
namespace Go.Proofs.YtnfigkoefmldiaaGreat.nandTurn
open Go.ChangeShapes Go.WideShapes Go.ChangeAt Go.RowKit
open Go.ChangeMaps (open_string shut_string)
set_option linter.unusedVariables false
theorem closed : joinedFacts Tryz.pinned.checked.prog 11 Tryz.f11 Rows.nandTurnSpec Rows.nandTurnRow = true := by kernel_rfl
end Go.Proofs.YtnfigkoefmldiaaGreat.nandTurn
