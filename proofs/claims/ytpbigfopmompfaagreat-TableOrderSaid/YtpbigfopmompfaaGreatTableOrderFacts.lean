/- whichever order entries come in, the newest one stands -/
import Derived.Test.YtpbigfopmompfaaGreatRows
import Derived.ProofKit
import Derived.OpenShut
import Derived.ChangeOld
namespace Go.Proofs.YtpbigfopmompfaaGreat.tableOrder
open Go.ChangeShapes Go.WideShapes Go.ChangeAt Go.RowKit
open Go.ChangeMaps (open_string shut_string)
set_option linter.unusedVariables false
theorem closed : joinedFacts Tryz.pinned.checked.prog 3 Tryz.f3 Rows.tableOrderSpec Rows.tableOrderRow = true := by kernel_rfl
end Go.Proofs.YtpbigfopmompfaaGreat.tableOrder
