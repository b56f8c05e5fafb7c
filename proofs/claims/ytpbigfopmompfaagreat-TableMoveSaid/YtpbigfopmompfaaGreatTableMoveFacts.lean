/- what is moved keeps its sequence, and stands at its new place -/
import Derived.Test.YtpbigfopmompfaaGreatRows
import Derived.ProofKit
import Derived.OpenShut
import Derived.ChangeOld
namespace Go.Proofs.YtpbigfopmompfaaGreat.tableMove
open Go.ChangeShapes Go.WideShapes Go.ChangeAt Go.RowKit
open Go.ChangeMaps (open_string shut_string)
set_option linter.unusedVariables false
theorem closed : joinedFacts Tryz.pinned.checked.prog 5 Tryz.f5 Rows.tableMoveSpec Rows.tableMoveRow = true := by kernel_rfl
end Go.Proofs.YtpbigfopmompfaaGreat.tableMove
