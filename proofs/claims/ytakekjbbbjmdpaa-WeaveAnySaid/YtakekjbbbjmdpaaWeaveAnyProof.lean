/- Any parity, any others: what is told back is the document's; of another row, of another kind, too few or too many: nothing. -/
import Derived.Test.YtakekjbbbjmdpaaWeaveAnyLift
import Derived.Test.YtakekjbbbjmdpaaWeaveAnyFacts
import Derived.ProofKit
import Derived.OpenShut
import Derived.ChangeOld
namespace Go.Proofs.Ytakekjbbbjmdpaa.weaveAny
open Go.ChangeShapes Go.WideShapes Go.ChangeAt Go.RowKit
open Go.ChangeMaps (open_string shut_string)
set_option linter.unusedVariables false
theorem named : Try.pinned.checked.prog.funcNamed Rows.weaveAnyRow.func = some 13 := by kernel_rfl
theorem inst : Try.f13.isInstance Try.pinned.checked.prog Rows.weaveAnyRow.origin Rows.weaveAnyRow.targs := of_decide_eq_true (by kernel_rfl)
theorem wrap : Try.f13.isWrapper Try.pinned.checked.prog Rows.weaveAnyRow.wrapper Rows.weaveAnyRow.mainSum := by
  unfold Func.isWrapper; first | (rw [if_pos (by decide +kernel)]; kernel_rfl) | (rw [if_neg (by decide +kernel)]; exact ⟨rfl, rfl⟩)
theorem over : Rows.weaveAnyRow.holds Try.pinned (OpenSpec.ofChange Rows.weaveAnySpec) :=
  OpenClaim.holds_of_wide 13 Try.f13 rfl rfl rfl rfl rfl rfl rfl ⟨rfl, rfl, rfl, rfl, rfl⟩ rfl rfl rfl rfl rfl named Try.func13 closed inst wrap (fun os started H enc _ => lifted os started H enc)
/-- The statement. -/
theorem proved : Rows.WeaveAnySaid := over
#print axioms proved
end Go.Proofs.Ytakekjbbbjmdpaa.weaveAny
