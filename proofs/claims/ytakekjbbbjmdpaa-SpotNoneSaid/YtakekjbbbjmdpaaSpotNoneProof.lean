/- no condition -/
import Derived.Test.YtakekjbbbjmdpaaSpotNoneLift
import Derived.Test.YtakekjbbbjmdpaaSpotNoneFacts
import Derived.ProofKit
import Derived.OpenShut
import Derived.ChangeOld
namespace Go.Proofs.Ytakekjbbbjmdpaa.spotNone
open Go.ChangeShapes Go.WideShapes Go.ChangeAt Go.RowKit
open Go.ChangeMaps (open_string shut_string)
set_option linter.unusedVariables false
theorem named : Try.pinned.checked.prog.funcNamed Rows.spotNoneRow.func = some 21 := by kernel_rfl
theorem inst : Try.f21.isInstance Try.pinned.checked.prog Rows.spotNoneRow.origin Rows.spotNoneRow.targs := of_decide_eq_true (by kernel_rfl)
theorem wrap : Try.f21.isWrapper Try.pinned.checked.prog Rows.spotNoneRow.wrapper Rows.spotNoneRow.mainSum := by
  unfold Func.isWrapper; first | (rw [if_pos (by decide +kernel)]; kernel_rfl) | (rw [if_neg (by decide +kernel)]; exact ⟨rfl, rfl⟩)
theorem over : Rows.spotNoneRow.holds Try.pinned (OpenSpec.ofChange Rows.spotNoneSpec) :=
  OpenClaim.holds_of_wide 21 Try.f21 rfl rfl rfl rfl rfl rfl rfl ⟨rfl, rfl, rfl, rfl, rfl⟩ rfl rfl rfl rfl rfl named Try.func21 closed inst wrap (fun os started H enc _ => lifted os started H enc)
/-- The statement. -/
theorem proved : Rows.SpotNoneSaid := over
#print axioms proved
end Go.Proofs.Ytakekjbbbjmdpaa.spotNone
