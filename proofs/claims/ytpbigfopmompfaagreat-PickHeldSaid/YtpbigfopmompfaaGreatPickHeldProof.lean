/- what is held is not emptied, not erased; what is not blank is not opened -/
import Derived.Test.YtpbigfopmompfaaGreatPickHeldLift
import Derived.Test.YtpbigfopmompfaaGreatPickHeldFacts
import Derived.ProofKit
import Derived.OpenShut
import Derived.ChangeOld
namespace Go.Proofs.YtpbigfopmompfaaGreat.pickHeld
open Go.ChangeShapes Go.WideShapes Go.ChangeAt Go.RowKit
open Go.ChangeMaps (open_string shut_string)
set_option linter.unusedVariables false
theorem named : Tryz.pinned.checked.prog.funcNamed Rows.pickHeldRow.func = some 11 := by kernel_rfl
theorem inst : Tryz.f11.isInstance Tryz.pinned.checked.prog Rows.pickHeldRow.origin Rows.pickHeldRow.targs := of_decide_eq_true (by kernel_rfl)
theorem wrap : Tryz.f11.isWrapper Tryz.pinned.checked.prog Rows.pickHeldRow.wrapper Rows.pickHeldRow.mainSum := by
 unfold Func.isWrapper; first | (rw [if_pos (by decide +kernel)]; kernel_rfl) | (rw [if_neg (by decide +kernel)]; exact ⟨rfl, rfl⟩)
theorem over : Rows.pickHeldRow.holds Tryz.pinned (OpenSpec.ofChange Rows.pickHeldSpec) :=
 OpenClaim.holds_of_wide 11 Tryz.f11 rfl rfl rfl rfl rfl rfl rfl ⟨rfl, rfl, rfl, rfl, rfl⟩ rfl rfl rfl rfl rfl named Tryz.func11 closed inst wrap (fun os started H enc _ => lifted os started H enc)
theorem proved : Rows.PickHeldSaid := over
#print axioms proved
end Go.Proofs.YtpbigfopmompfaaGreat.pickHeld
