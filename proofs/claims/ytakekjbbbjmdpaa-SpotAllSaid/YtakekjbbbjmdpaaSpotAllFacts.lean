/- no condition -/
import Derived.Test.YtakekjbbbjmdpaaRows
import Derived.ProofKit
import Derived.OpenShut
import Derived.ChangeOld
namespace Go.Proofs.Ytakekjbbbjmdpaa.spotAll
open Go.ChangeShapes Go.WideShapes Go.ChangeAt Go.RowKit
open Go.ChangeMaps (open_string shut_string)
set_option linter.unusedVariables false
theorem closed : joinedFacts Try.pinned.checked.prog 18 Try.f18 Rows.spotAllSpec Rows.spotAllRow = true := by kernel_rfl
end Go.Proofs.Ytakekjbbbjmdpaa.spotAll
