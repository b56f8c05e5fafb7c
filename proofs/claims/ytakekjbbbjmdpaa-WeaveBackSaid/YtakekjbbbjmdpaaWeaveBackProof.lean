/- WeaveBack: whichever entry of a row is missing, the others tell it. -/
import Derived.Test.YtakekjbbbjmdpaaWeaveBackLift
import Derived.Test.YtakekjbbbjmdpaaWeaveBackFacts
import Derived.ProofKit
import Derived.OpenShut
import Derived.ChangeOld
namespace Go.Proofs.Ytakekjbbbjmdpaa.weaveBack
open Go.ChangeShapes Go.WideShapes Go.ChangeAt Go.RowKit
open Go.ChangeMaps (open_string shut_string)
set_option linter.unusedVariables false
theorem named : Try.pinned.checked.prog.funcNamed Rows.weaveBackRow.func = some 12 := by kernel_rfl
theorem inst : Try.f12.isInstance Try.pinned.checked.prog Rows.weaveBackRow.origin Rows.weaveBackRow.targs := of_decide_eq_true (by kernel_rfl)
theorem wrap : Try.f12.isWrapper Try.pinned.checked.prog Rows.weaveBackRow.wrapper Rows.weaveBackRow.mainSum := by
  unfold Func.isWrapper; first | (rw [if_pos (by decide +kernel)]; kernel_rfl) | (rw [if_neg (by decide +kernel)]; exact ⟨rfl, rfl⟩)
theorem over : Rows.weaveBackRow.holds Try.pinned (OpenSpec.ofChange Rows.weaveBackSpec) :=
  OpenClaim.holds_of_wide 12 Try.f12 rfl rfl rfl rfl rfl rfl rfl ⟨rfl, rfl, rfl, rfl, rfl⟩ rfl rfl rfl rfl rfl named Try.func12 closed inst wrap (fun os started H enc _ => lifted os started H enc)
/-- The statement. -/
theorem proved : Rows.WeaveBackSaid := over
#print axioms proved
end Go.Proofs.Ytakekjbbbjmdpaa.weaveBack
