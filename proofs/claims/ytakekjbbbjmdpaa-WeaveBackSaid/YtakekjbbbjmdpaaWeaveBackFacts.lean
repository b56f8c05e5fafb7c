/- WeaveBack: whichever entry of a row is missing, the others tell it. -/
import Derived.Test.YtakekjbbbjmdpaaRows
import Derived.ProofKit
import Derived.OpenShut
import Derived.ChangeOld
namespace Go.Proofs.Ytakekjbbbjmdpaa.weaveBack
open Go.ChangeShapes Go.WideShapes Go.ChangeAt Go.RowKit
open Go.ChangeMaps (open_string shut_string)
set_option linter.unusedVariables false
theorem closed : joinedFacts Try.pinned.checked.prog 12 Try.f12 Rows.weaveBackSpec Rows.weaveBackRow = true := by kernel_rfl
end Go.Proofs.Ytakekjbbbjmdpaa.weaveBack
