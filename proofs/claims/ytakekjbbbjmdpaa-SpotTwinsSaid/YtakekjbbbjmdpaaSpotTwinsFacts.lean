/- no condition -/
import Derived.Test.YtakekjbbbjmdpaaRows
import Derived.ProofKit
import Derived.OpenShut
import Derived.ChangeOld
namespace Go.Proofs.Ytakekjbbbjmdpaa.spotTwins
open Go.ChangeShapes Go.WideShapes Go.ChangeAt Go.RowKit
open Go.ChangeMaps (open_string shut_string)
set_option linter.unusedVariables false
theorem closed : joinedFacts Try.pinned.checked.prog 20 Try.f20 Rows.spotTwinsSpec Rows.spotTwinsRow = true := by kernel_rfl
end Go.Proofs.Ytakekjbbbjmdpaa.spotTwins
