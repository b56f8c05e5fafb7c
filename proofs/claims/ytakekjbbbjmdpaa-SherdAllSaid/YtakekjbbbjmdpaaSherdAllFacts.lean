/- Which sherds may be; their pages, and back; unlike ones have unlike pages. -/
import Derived.Test.YtakekjbbbjmdpaaRows
import Derived.ProofKit
import Derived.OpenShut
import Derived.ChangeOld
namespace Go.Proofs.Ytakekjbbbjmdpaa.sherdAll
open Go.ChangeShapes Go.WideShapes Go.ChangeAt Go.RowKit
open Go.ChangeMaps (open_string shut_string)
set_option linter.unusedVariables false
theorem closed : joinedFacts Try.pinned.checked.prog 7 Try.f7 Rows.sherdAllSpec Rows.sherdAllRow = true := by kernel_rfl
end Go.Proofs.Ytakekjbbbjmdpaa.sherdAll
