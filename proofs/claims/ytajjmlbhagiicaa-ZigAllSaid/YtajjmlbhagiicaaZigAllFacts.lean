/- no condition -/
import Derived.Test.YtajjmlbhagiicaaRows
import Derived.ProofKit
import Derived.OpenShut
import Derived.ChangeOld
namespace Go.Proofs.Ytajjmlbhagiicaa.zigAll
open Go.ChangeShapes Go.WideShapes Go.ChangeAt Go.RowKit
open Go.ChangeMaps (open_string shut_string)
set_option linter.unusedVariables false
theorem closed : joinedFacts Try.pinned.checked.prog 3 Try.f3 Rows.zigAllSpec Rows.zigAllRow = true := by kernel_rfl
end Go.Proofs.Ytajjmlbhagiicaa.zigAll
