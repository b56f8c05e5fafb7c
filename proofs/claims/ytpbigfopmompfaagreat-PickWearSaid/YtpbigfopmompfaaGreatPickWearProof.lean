/- superblocks that are opened one by one are worn alike -/
import Derived.Test.YtpbigfopmompfaaGreatPickWearLift
import Derived.Test.YtpbigfopmompfaaGreatPickWearFacts
import Derived.ProofKit
import Derived.OpenShut
import Derived.ChangeOld
namespace Go.Proofs.YtpbigfopmompfaaGreat.pickWear
open Go.ChangeShapes Go.WideShapes Go.ChangeAt Go.RowKit
open Go.ChangeMaps (open_string shut_string)
set_option linter.unusedVariables false
theorem named : Tryz.pinned.checked.prog.funcNamed Rows.pickWearRow.func = some 4 := by kernel_rfl
theorem inst : Tryz.f4.isInstance Tryz.pinned.checked.prog Rows.pickWearRow.origin Rows.pickWearRow.targs := of_decide_eq_true (by kernel_rfl)
theorem wrap : Tryz.f4.isWrapper Tryz.pinned.checked.prog Rows.pickWearRow.wrapper Rows.pickWearRow.mainSum := by
  unfold Func.isWrapper; first | (rw [if_pos (by decide +kernel)]; kernel_rfl) | (rw [if_neg (by decide +kernel)]; exact ⟨rfl, rfl⟩)
theorem over : Rows.pickWearRow.holds Tryz.pinned (OpenSpec.ofChange Rows.pickWearSpec) :=
  OpenClaim.holds_of_wide 4 Tryz.f4 rfl rfl rfl rfl rfl rfl rfl ⟨rfl, rfl, rfl, rfl, rfl⟩ rfl rfl rfl rfl rfl named Tryz.func4 closed inst wrap (fun os started H enc _ => lifted os started H enc)
theorem proved : Rows.PickWearSaid := over
#print axioms proved
end Go.Proofs.YtpbigfopmompfaaGreat.pickWear
