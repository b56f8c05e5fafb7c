/- no condition -/
import Derived.Test.YtakekjbbbjmdpaaSpotTwinsLift
import Derived.Test.YtakekjbbbjmdpaaSpotTwinsFacts
import Derived.ProofKit
import Derived.OpenShut
import Derived.ChangeOld
namespace Go.Proofs.Ytakekjbbbjmdpaa.spotTwins
open Go.ChangeShapes Go.WideShapes Go.ChangeAt Go.RowKit
open Go.ChangeMaps (open_string shut_string)
set_option linter.unusedVariables false
theorem named : Try.pinned.checked.prog.funcNamed Rows.spotTwinsRow.func = some 20 := by kernel_rfl
theorem inst : Try.f20.isInstance Try.pinned.checked.prog Rows.spotTwinsRow.origin Rows.spotTwinsRow.targs := of_decide_eq_true (by kernel_rfl)
theorem wrap : Try.f20.isWrapper Try.pinned.checked.prog Rows.spotTwinsRow.wrapper Rows.spotTwinsRow.mainSum := by
  unfold Func.isWrapper; first | (rw [if_pos (by decide +kernel)]; kernel_rfl) | (rw [if_neg (by decide +kernel)]; exact ⟨rfl, rfl⟩)
theorem over : Rows.spotTwinsRow.holds Try.pinned (OpenSpec.ofChange Rows.spotTwinsSpec) :=
  OpenClaim.holds_of_wide 20 Try.f20 rfl rfl rfl rfl rfl rfl rfl ⟨rfl, rfl, rfl, rfl, rfl⟩ rfl rfl rfl rfl rfl named Try.func20 closed inst wrap (fun os started H enc _ => lifted os started H enc)
/-- The statement. -/
theorem proved : Rows.SpotTwinsSaid := over
#print axioms proved
end Go.Proofs.Ytakekjbbbjmdpaa.spotTwins
