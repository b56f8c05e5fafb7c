/- Any parity, any others: what is told back is the document's; of another row, of another kind, too few or too many: nothing. -/
import Derived.Test.YtakekjbbbjmdpaaRows
import Derived.ProofKit
import Derived.OpenShut
import Derived.ChangeOld
namespace Go.Proofs.Ytakekjbbbjmdpaa.weaveAny
open Go.ChangeShapes Go.WideShapes Go.ChangeAt Go.RowKit
open Go.ChangeMaps (open_string shut_string)
set_option linter.unusedVariables false
theorem closed : joinedFacts Try.pinned.checked.prog 13 Try.f13 Rows.weaveAnySpec Rows.weaveAnyRow = true := by kernel_rfl
end Go.Proofs.Ytakekjbbbjmdpaa.weaveAny
