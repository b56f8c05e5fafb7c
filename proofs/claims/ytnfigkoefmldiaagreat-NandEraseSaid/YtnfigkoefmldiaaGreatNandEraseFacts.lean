/- NandErase: an erase makes a block as new, and wears it by one; others stay; no condition. -/
import Derived.Test.YtnfigkoefmldiaaGreatRows
import Derived.ProofKit
import Derived.OpenShut
import Derived.ChangeOld
namespace Go.Proofs.YtnfigkoefmldiaaGreat.nandErase
open Go.ChangeShapes Go.WideShapes Go.ChangeAt Go.RowKit
open Go.ChangeMaps (open_string shut_string)
set_option linter.unusedVariables false
theorem closed : joinedFacts Tryz.pinned.checked.prog 8 Tryz.f8 Rows.nandEraseSpec Rows.nandEraseRow = true := by kernel_rfl
end Go.Proofs.YtnfigkoefmldiaaGreat.nandErase
