/- NandProgram: a program's fault is met once: the page can't be read, the next one can be programmed; no condition. -/
import Derived.Test.YtnfigkoefmldiaaGreatRows
import Derived.ProofKit
import Derived.OpenShut
import Derived.ChangeOld
namespace Go.Proofs.YtnfigkoefmldiaaGreat.nandProgram
open Go.ChangeShapes Go.WideShapes Go.ChangeAt Go.RowKit
open Go.ChangeMaps (open_string shut_string)
set_option linter.unusedVariables false
theorem closed : joinedFacts Tryz.pinned.checked.prog 9 Tryz.f9 Rows.nandProgramSpec Rows.nandProgramRow = true := by kernel_rfl
end Go.Proofs.YtnfigkoefmldiaaGreat.nandProgram
