/- superblocks that are opened one by one are worn alike -/
import Derived.Test.YtpbigfopmompfaaGreatRows
import Derived.ProofKit
import Derived.OpenShut
import Derived.ChangeOld
namespace Go.Proofs.YtpbigfopmompfaaGreat.pickWear
open Go.ChangeShapes Go.WideShapes Go.ChangeAt Go.RowKit
open Go.ChangeMaps (open_string shut_string)
set_option linter.unusedVariables false
theorem closed : joinedFacts Tryz.pinned.checked.prog 4 Tryz.f4 Rows.pickWearSpec Rows.pickWearRow = true := by kernel_rfl
end Go.Proofs.YtpbigfopmompfaaGreat.pickWear
