/- FaultPlan: faults come at their time, in their order, each once; no condition. -/
import Derived.Test.YtnfigkoefmldiaaGreatFaultPlanLift
import Derived.Test.YtnfigkoefmldiaaGreatFaultPlanFacts
import Derived.ProofKit
import Derived.OpenShut
import Derived.ChangeOld
namespace Go.Proofs.YtnfigkoefmldiaaGreat.faultPlan
open Go.ChangeShapes Go.WideShapes Go.ChangeAt Go.RowKit
open Go.ChangeMaps (open_string shut_string)
set_option linter.unusedVariables false
theorem named : Tryz.pinned.checked.prog.funcNamed Rows.faultPlanRow.func = some 7 := by kernel_rfl
theorem inst : Tryz.f7.isInstance Tryz.pinned.checked.prog Rows.faultPlanRow.origin Rows.faultPlanRow.targs := of_decide_eq_true (by kernel_rfl)
theorem wrap : Tryz.f7.isWrapper Tryz.pinned.checked.prog Rows.faultPlanRow.wrapper Rows.faultPlanRow.mainSum := by
  unfold Func.isWrapper; first | (rw [if_pos (by decide +kernel)]; kernel_rfl) | (rw [if_neg (by decide +kernel)]; exact ⟨rfl, rfl⟩)
theorem over : Rows.faultPlanRow.holds Tryz.pinned (OpenSpec.ofChange Rows.faultPlanSpec) :=
  OpenClaim.holds_of_wide 7 Tryz.f7 rfl rfl rfl rfl rfl rfl rfl ⟨rfl, rfl, rfl, rfl, rfl⟩ rfl rfl rfl rfl rfl named Tryz.func7 closed inst wrap (fun os started H enc _ => lifted os started H enc)
/-- The statement. -/
theorem proved : Rows.FaultPlanSaid := over
#print axioms proved
end Go.Proofs.YtnfigkoefmldiaaGreat.faultPlan
