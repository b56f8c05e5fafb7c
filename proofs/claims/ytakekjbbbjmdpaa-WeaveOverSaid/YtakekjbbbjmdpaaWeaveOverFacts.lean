/- WeaveOver: laid over one another twice nothing is left; in any order it is the same. -/
import Derived.Test.YtakekjbbbjmdpaaRows
import Derived.ProofKit
import Derived.OpenShut
import Derived.ChangeOld
namespace Go.Proofs.Ytakekjbbbjmdpaa.weaveOver
open Go.ChangeShapes Go.WideShapes Go.ChangeAt Go.RowKit
open Go.ChangeMaps (open_string shut_string)
set_option linter.unusedVariables false
theorem closed : joinedFacts Try.pinned.checked.prog 16 Try.f16 Rows.weaveOverSpec Rows.weaveOverRow = true := by kernel_rfl
end Go.Proofs.Ytakekjbbbjmdpaa.weaveOver
