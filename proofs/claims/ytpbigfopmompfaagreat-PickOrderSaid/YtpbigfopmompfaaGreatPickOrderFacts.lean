/- superblocks that are alike: the least number; others: the least worn -/
import Derived.Test.YtpbigfopmompfaaGreatRows
import Derived.ProofKit
import Derived.OpenShut
import Derived.ChangeOld
namespace Go.Proofs.YtpbigfopmompfaaGreat.pickOrder
open Go.ChangeShapes Go.WideShapes Go.ChangeAt Go.RowKit
open Go.ChangeMaps (open_string shut_string)
set_option linter.unusedVariables false
theorem closed : joinedFacts Tryz.pinned.checked.prog 8 Tryz.f8 Rows.pickOrderSpec Rows.pickOrderRow = true := by kernel_rfl
end Go.Proofs.YtpbigfopmompfaaGreat.pickOrder
