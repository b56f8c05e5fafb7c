/- of all that stands each is counted in just one superblock -/
import Derived.Test.YtpbigfopmompfaaGreatRows
import Derived.ProofKit
import Derived.OpenShut
import Derived.ChangeOld
namespace Go.Proofs.YtpbigfopmompfaaGreat.tableCounts
open Go.ChangeShapes Go.WideShapes Go.ChangeAt Go.RowKit
open Go.ChangeMaps (open_string shut_string)
set_option linter.unusedVariables false
theorem closed : joinedFacts Tryz.pinned.checked.prog 6 Tryz.f6 Rows.tableCountsSpec Rows.tableCountsRow = true := by kernel_rfl
end Go.Proofs.YtpbigfopmompfaaGreat.tableCounts
