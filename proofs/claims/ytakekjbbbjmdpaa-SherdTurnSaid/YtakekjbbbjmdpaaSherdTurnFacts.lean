/- A sherd of which one part is another one: which ones may be, and that pages are alike just if sherds are. -/
import Derived.Test.YtakekjbbbjmdpaaRows
import Derived.ProofKit
import Derived.OpenShut
import Derived.ChangeOld
namespace Go.Proofs.Ytakekjbbbjmdpaa.sherdTurn
open Go.ChangeShapes Go.WideShapes Go.ChangeAt Go.RowKit
open Go.ChangeMaps (open_string shut_string)
set_option linter.unusedVariables false
theorem closed : joinedFacts Try.pinned.checked.prog 10 Try.f10 Rows.sherdTurnSpec Rows.sherdTurnRow = true := by kernel_rfl
end Go.Proofs.Ytakekjbbbjmdpaa.sherdTurn
