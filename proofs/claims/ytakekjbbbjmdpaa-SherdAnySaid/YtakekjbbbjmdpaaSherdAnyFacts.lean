/- Any page is a sherd's, just its, or none's; one of which a byte was turned is none. -/
import Derived.Test.YtakekjbbbjmdpaaRows
import Derived.ProofKit
import Derived.OpenShut
import Derived.ChangeOld
namespace Go.Proofs.Ytakekjbbbjmdpaa.sherdAny
open Go.ChangeShapes Go.WideShapes Go.ChangeAt Go.RowKit
open Go.ChangeMaps (open_string shut_string)
set_option linter.unusedVariables false
theorem closed : joinedFacts Try.pinned.checked.prog 8 Try.f8 Rows.sherdAnySpec Rows.sherdAnyRow = true := by kernel_rfl
end Go.Proofs.Ytakekjbbbjmdpaa.sherdAny
