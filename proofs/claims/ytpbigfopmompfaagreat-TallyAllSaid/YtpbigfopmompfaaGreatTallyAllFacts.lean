import Derived.Test.YtpbigfopmompfaaGreatRows
import Derived.ProofKit
import Derived.OpenShut
import Derived.ChangeOld
/- what is worn, bad, dead, and which superblocks may be used -/
namespace Go.Proofs.YtpbigfopmompfaaGreat.tallyAll
open Go.ChangeShapes Go.WideShapes Go.ChangeAt Go.RowKit
open Go.ChangeMaps (open_string shut_string)
set_option linter.unusedVariables false
theorem closed : joinedFacts Tryz.pinned.checked.prog 10 Tryz.f10 Rows.tallyAllSpec Rows.tallyAllRow = true := by kernel_rfl
end Go.Proofs.YtpbigfopmompfaaGreat.tallyAll
