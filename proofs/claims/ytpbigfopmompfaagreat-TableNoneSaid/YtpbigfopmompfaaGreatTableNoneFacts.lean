/- no table, no tally -/
import Derived.Test.YtpbigfopmompfaaGreatRows
import Derived.ProofKit
import Derived.OpenShut
import Derived.ChangeOld
namespace Go.Proofs.YtpbigfopmompfaaGreat.tableNone
open Go.ChangeShapes Go.WideShapes Go.ChangeAt Go.RowKit
open Go.ChangeMaps (open_string shut_string)
set_option linter.unusedVariables false
theorem closed : joinedFacts Tryz.pinned.checked.prog 9 Tryz.f9 Rows.tableNoneSpec Rows.tableNoneRow = true := by kernel_rfl
end Go.Proofs.YtpbigfopmompfaaGreat.tableNone
