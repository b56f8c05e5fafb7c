/- what is held is not emptied, not erased; what is not blank is not opened -/
import Derived.Test.YtpbigfopmompfaaGreatRows
import Derived.ProofKit
import Derived.OpenShut
import Derived.ChangeOld
namespace Go.Proofs.YtpbigfopmompfaaGreat.pickHeld
open Go.ChangeShapes Go.WideShapes Go.ChangeAt Go.RowKit
open Go.ChangeMaps (open_string shut_string)
set_option linter.unusedVariables false
theorem closed : joinedFacts Tryz.pinned.checked.prog 11 Tryz.f11 Rows.pickHeldSpec Rows.pickHeldRow = true := by kernel_rfl
end Go.Proofs.YtpbigfopmompfaaGreat.pickHeld
