/- what is bad is bad for ever, what is dead is dead for ever; wear never falls -/
import Derived.Test.YtpbigfopmompfaaGreatRows
import Derived.ProofKit
import Derived.OpenShut
import Derived.ChangeOld
namespace Go.Proofs.YtpbigfopmompfaaGreat.tallyEver
open Go.ChangeShapes Go.WideShapes Go.ChangeAt Go.RowKit
open Go.ChangeMaps (open_string shut_string)
set_option linter.unusedVariables false
theorem closed : joinedFacts Tryz.pinned.checked.prog 12 Tryz.f12 Rows.tallyEverSpec Rows.tallyEverRow = true := by kernel_rfl
end Go.Proofs.YtpbigfopmompfaaGreat.tallyEver
