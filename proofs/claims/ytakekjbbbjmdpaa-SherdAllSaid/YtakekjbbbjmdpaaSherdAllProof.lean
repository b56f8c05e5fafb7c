/- Which sherds may be; their pages, and back; unlike ones have unlike pages. -/
import Derived.Test.YtakekjbbbjmdpaaSherdAllLift
import Derived.Test.YtakekjbbbjmdpaaSherdAllFacts
import Derived.ProofKit
import Derived.OpenShut
import Derived.ChangeOld
namespace Go.Proofs.Ytakekjbbbjmdpaa.sherdAll
open Go.ChangeShapes Go.WideShapes Go.ChangeAt Go.RowKit
open Go.ChangeMaps (open_string shut_string)
set_option linter.unusedVariables false
theorem named : Try.pinned.checked.prog.funcNamed Rows.sherdAllRow.func = some 7 := by kernel_rfl
theorem inst : Try.f7.isInstance Try.pinned.checked.prog Rows.sherdAllRow.origin Rows.sherdAllRow.targs := of_decide_eq_true (by kernel_rfl)
theorem wrap : Try.f7.isWrapper Try.pinned.checked.prog Rows.sherdAllRow.wrapper Rows.sherdAllRow.mainSum := by
  unfold Func.isWrapper; first | (rw [if_pos (by decide +kernel)]; kernel_rfl) | (rw [if_neg (by decide +kernel)]; exact ⟨rfl, rfl⟩)
theorem over : Rows.sherdAllRow.holds Try.pinned (OpenSpec.ofChange Rows.sherdAllSpec) :=
  OpenClaim.holds_of_wide 7 Try.f7 rfl rfl rfl rfl rfl rfl rfl ⟨rfl, rfl, rfl, rfl, rfl⟩ rfl rfl rfl rfl rfl named Try.func7 closed inst wrap (fun os started H enc _ => lifted os started H enc)
/-- The statement. -/
theorem proved : Rows.SherdAllSaid := over
#print axioms proved
end Go.Proofs.Ytakekjbbbjmdpaa.sherdAll
