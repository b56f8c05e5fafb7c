/- NandEraseCut: power goes within an erase: nothing of the block can be read, nothing programmed, till it is erased again; no condition. -/
import Derived.Test.YtnfigkoefmldiaaGreatRows
import Derived.ProofKit
import Derived.OpenShut
import Derived.ChangeOld
namespace Go.Proofs.YtnfigkoefmldiaaGreat.nandEraseCut
open Go.ChangeShapes Go.WideShapes Go.ChangeAt Go.RowKit
open Go.ChangeMaps (open_string shut_string)
set_option linter.unusedVariables false
theorem closed : joinedFacts Tryz.pinned.checked.prog 12 Tryz.f12 Rows.nandEraseCutSpec Rows.nandEraseCutRow = true := by kernel_rfl
end Go.Proofs.YtnfigkoefmldiaaGreat.nandEraseCut
