/- superblocks that are alike: the least number; others: the least worn -/
import Derived.Test.YtpbigfopmompfaaGreatPickOrderLift
import Derived.Test.YtpbigfopmompfaaGreatPickOrderFacts
import Derived.ProofKit
import Derived.OpenShut
import Derived.ChangeOld
namespace Go.Proofs.YtpbigfopmompfaaGreat.pickOrder
open Go.ChangeShapes Go.WideShapes Go.ChangeAt Go.RowKit
open Go.ChangeMaps (open_string shut_string)
set_option linter.unusedVariables false
theorem named : Tryz.pinned.checked.prog.funcNamed Rows.pickOrderRow.func = some 8 := by kernel_rfl
theorem inst : Tryz.f8.isInstance Tryz.pinned.checked.prog Rows.pickOrderRow.origin Rows.pickOrderRow.targs := of_decide_eq_true (by kernel_rfl)
theorem wrap : Tryz.f8.isWrapper Tryz.pinned.checked.prog Rows.pickOrderRow.wrapper Rows.pickOrderRow.mainSum := by
  unfold Func.isWrapper; first | (rw [if_pos (by decide +kernel)]; kernel_rfl) | (rw [if_neg (by decide +kernel)]; exact ⟨rfl, rfl⟩)
theorem over : Rows.pickOrderRow.holds Tryz.pinned (OpenSpec.ofChange Rows.pickOrderSpec) :=
  OpenClaim.holds_of_wide 8 Tryz.f8 rfl rfl rfl rfl rfl rfl rfl ⟨rfl, rfl, rfl, rfl, rfl⟩ rfl rfl rfl rfl rfl named Tryz.func8 closed inst wrap (fun os started H enc _ => lifted os started H enc)
theorem proved : Rows.PickOrderSaid := over
#print axioms proved
end Go.Proofs.YtpbigfopmompfaaGreat.pickOrder
