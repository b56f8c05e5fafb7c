/- no condition -/
import Derived.Test.YtakekjbbbjmdpaaSpotBlockLift
import Derived.Test.YtakekjbbbjmdpaaSpotBlockFacts
import Derived.ProofKit
import Derived.OpenShut
import Derived.ChangeOld
namespace Go.Proofs.Ytakekjbbbjmdpaa.spotBlock
open Go.ChangeShapes Go.WideShapes Go.ChangeAt Go.RowKit
open Go.ChangeMaps (open_string shut_string)
set_option linter.unusedVariables false
theorem named : Try.pinned.checked.prog.funcNamed Rows.spotBlockRow.func = some 19 := by kernel_rfl
theorem inst : Try.f19.isInstance Try.pinned.checked.prog Rows.spotBlockRow.origin Rows.spotBlockRow.targs := of_decide_eq_true (by kernel_rfl)
theorem wrap : Try.f19.isWrapper Try.pinned.checked.prog Rows.spotBlockRow.wrapper Rows.spotBlockRow.mainSum := by
  unfold Func.isWrapper; first | (rw [if_pos (by decide +kernel)]; kernel_rfl) | (rw [if_neg (by decide +kernel)]; exact ⟨rfl, rfl⟩)
theorem over : Rows.spotBlockRow.holds Try.pinned (OpenSpec.ofChange Rows.spotBlockSpec) :=
  OpenClaim.holds_of_wide 19 Try.f19 rfl rfl rfl rfl rfl rfl rfl ⟨rfl, rfl, rfl, rfl, rfl⟩ rfl rfl rfl rfl rfl named Try.func19 closed inst wrap (fun os started H enc _ => lifted os started H enc)
/-- The statement. -/
theorem proved : Rows.SpotBlockSaid := over
#print axioms proved
end Go.Proofs.Ytakekjbbbjmdpaa.spotBlock
