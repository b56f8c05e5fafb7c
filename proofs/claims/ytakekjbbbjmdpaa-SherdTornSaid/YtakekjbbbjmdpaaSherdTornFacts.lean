/- A page of which the end was not programmed is none, unless that end has just those bytes. -/
import Derived.Test.YtakekjbbbjmdpaaRows
import Derived.ProofKit
import Derived.OpenShut
import Derived.ChangeOld
namespace Go.Proofs.Ytakekjbbbjmdpaa.sherdTorn
open Go.ChangeShapes Go.WideShapes Go.ChangeAt Go.RowKit
open Go.ChangeMaps (open_string shut_string)
set_option linter.unusedVariables false
theorem closed : joinedFacts Try.pinned.checked.prog 9 Try.f9 Rows.sherdTornSpec Rows.sherdTornRow = true := by kernel_rfl
end Go.Proofs.Ytakekjbbbjmdpaa.sherdTorn
