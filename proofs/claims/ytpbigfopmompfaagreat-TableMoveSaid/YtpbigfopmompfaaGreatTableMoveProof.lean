/- what is moved keeps its sequence, and stands at its new place -/
import Derived.Test.YtpbigfopmompfaaGreatTableMoveLift
import Derived.Test.YtpbigfopmompfaaGreatTableMoveFacts
import Derived.ProofKit
import Derived.OpenShut
import Derived.ChangeOld
namespace Go.Proofs.YtpbigfopmompfaaGreat.tableMove
open Go.ChangeShapes Go.WideShapes Go.ChangeAt Go.RowKit
open Go.ChangeMaps (open_string shut_string)
set_option linter.unusedVariables false
theorem named : Tryz.pinned.checked.prog.funcNamed Rows.tableMoveRow.func = some 5 := by kernel_rfl
theorem inst : Tryz.f5.isInstance Tryz.pinned.checked.prog Rows.tableMoveRow.origin Rows.tableMoveRow.targs := of_decide_eq_true (by kernel_rfl)
theorem wrap : Tryz.f5.isWrapper Tryz.pinned.checked.prog Rows.tableMoveRow.wrapper Rows.tableMoveRow.mainSum := by
  unfold Func.isWrapper; first | (rw [if_pos (by decide +kernel)]; kernel_rfl) | (rw [if_neg (by decide +kernel)]; exact ⟨rfl, rfl⟩)
theorem over : Rows.tableMoveRow.holds Tryz.pinned (OpenSpec.ofChange Rows.tableMoveSpec) :=
  OpenClaim.holds_of_wide 5 Tryz.f5 rfl rfl rfl rfl rfl rfl rfl ⟨rfl, rfl, rfl, rfl, rfl⟩ rfl rfl rfl rfl rfl named Tryz.func5 closed inst wrap (fun os started H enc _ => lifted os started H enc)
theorem proved : Rows.TableMoveSaid := over
#print axioms proved
end Go.Proofs.YtpbigfopmompfaaGreat.tableMove
