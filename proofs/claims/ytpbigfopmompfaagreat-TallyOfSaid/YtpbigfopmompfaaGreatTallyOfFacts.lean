/- TallyOf: of a flash, how worn each superblock is, which dies are dead; no condition. -/
import Derived.Test.YtpbigfopmompfaaGreatRows
import Derived.ProofKit
import Derived.OpenShut
import Derived.ChangeOld
namespace Go.Proofs.YtpbigfopmompfaaGreat.tallyOf
open Go.ChangeShapes Go.WideShapes Go.ChangeAt Go.RowKit
open Go.ChangeMaps (open_string shut_string)
set_option linter.unusedVariables false
theorem closed : joinedFacts Tryz.pinned.checked.prog 13 Tryz.f13 Rows.tallyOfSpec Rows.tallyOfRow = true := by kernel_rfl
end Go.Proofs.YtpbigfopmompfaaGreat.tallyOf
