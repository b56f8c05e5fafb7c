/- WeaveOver: laid over one another twice nothing is left; in any order it is the same. -/
import Derived.Test.YtakekjbbbjmdpaaWeaveOverLift
import Derived.Test.YtakekjbbbjmdpaaWeaveOverFacts
import Derived.ProofKit
import Derived.OpenShut
import Derived.ChangeOld
namespace Go.Proofs.Ytakekjbbbjmdpaa.weaveOver
open Go.ChangeShapes Go.WideShapes Go.ChangeAt Go.RowKit
open Go.ChangeMaps (open_string shut_string)
set_option linter.unusedVariables false
theorem named : Try.pinned.checked.prog.funcNamed Rows.weaveOverRow.func = some 16 := by kernel_rfl
theorem inst : Try.f16.isInstance Try.pinned.checked.prog Rows.weaveOverRow.origin Rows.weaveOverRow.targs := of_decide_eq_true (by kernel_rfl)
theorem wrap : Try.f16.isWrapper Try.pinned.checked.prog Rows.weaveOverRow.wrapper Rows.weaveOverRow.mainSum := by
  unfold Func.isWrapper; first | (rw [if_pos (by decide +kernel)]; kernel_rfl) | (rw [if_neg (by decide +kernel)]; exact ⟨rfl, rfl⟩)
theorem over : Rows.weaveOverRow.holds Try.pinned (OpenSpec.ofChange Rows.weaveOverSpec) :=
  OpenClaim.holds_of_wide 16 Try.f16 rfl rfl rfl rfl rfl rfl rfl ⟨rfl, rfl, rfl, rfl, rfl⟩ rfl rfl rfl rfl rfl named Try.func16 closed inst wrap (fun os started H enc _ => lifted os started H enc)
/-- The statement. -/
theorem proved : Rows.WeaveOverSaid := over
#print axioms proved
end Go.Proofs.Ytakekjbbbjmdpaa.weaveOver
