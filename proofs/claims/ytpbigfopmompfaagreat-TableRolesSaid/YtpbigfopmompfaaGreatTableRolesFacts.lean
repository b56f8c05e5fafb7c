/- pads never stand; pages that there are not never do -/
import Derived.Test.YtpbigfopmompfaaGreatRows
import Derived.ProofKit
import Derived.OpenShut
import Derived.ChangeOld
namespace Go.Proofs.YtpbigfopmompfaaGreat.tableRoles
open Go.ChangeShapes Go.WideShapes Go.ChangeAt Go.RowKit
open Go.ChangeMaps (open_string shut_string)
set_option linter.unusedVariables false
theorem closed : joinedFacts Tryz.pinned.checked.prog 7 Tryz.f7 Rows.tableRolesSpec Rows.tableRolesRow = true := by kernel_rfl
end Go.Proofs.YtpbigfopmompfaaGreat.tableRoles
