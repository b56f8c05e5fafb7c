/- NandDead: a die that is dead tells so for ever; others go on; no condition. -/
import Derived.Test.YtnfigkoefmldiaaGreatRows
import Derived.ProofKit
import Derived.OpenShut
import Derived.ChangeOld
namespace Go.Proofs.YtnfigkoefmldiaaGreat.nandDead
open Go.ChangeShapes Go.WideShapes Go.ChangeAt Go.RowKit
open Go.ChangeMaps (open_string shut_string)
set_option linter.unusedVariables false
theorem closed : joinedFacts Tryz.pinned.checked.prog 5 Tryz.f5 Rows.nandDeadSpec Rows.nandDeadRow = true := by kernel_rfl
end Go.Proofs.YtnfigkoefmldiaaGreat.nandDead
