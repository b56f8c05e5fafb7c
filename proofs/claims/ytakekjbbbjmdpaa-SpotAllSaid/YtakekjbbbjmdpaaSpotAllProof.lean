/- no condition -/
import Derived.Test.YtakekjbbbjmdpaaSpotAllLift
import Derived.Test.YtakekjbbbjmdpaaSpotAllFacts
import Derived.ProofKit
import Derived.OpenShut
import Derived.ChangeOld
namespace Go.Proofs.Ytakekjbbbjmdpaa.spotAll
open Go.ChangeShapes Go.WideShapes Go.ChangeAt Go.RowKit
open Go.ChangeMaps (open_string shut_string)
set_option linter.unusedVariables false
theorem named : Try.pinned.checked.prog.funcNamed Rows.spotAllRow.func = some 18 := by kernel_rfl
theorem inst : Try.f18.isInstance Try.pinned.checked.prog Rows.spotAllRow.origin Rows.spotAllRow.targs := of_decide_eq_true (by kernel_rfl)
theorem wrap : Try.f18.isWrapper Try.pinned.checked.prog Rows.spotAllRow.wrapper Rows.spotAllRow.mainSum := by
  unfold Func.isWrapper; first | (rw [if_pos (by decide +kernel)]; kernel_rfl) | (rw [if_neg (by decide +kernel)]; exact ⟨rfl, rfl⟩)
theorem over : Rows.spotAllRow.holds Try.pinned (OpenSpec.ofChange Rows.spotAllSpec) :=
  OpenClaim.holds_of_wide 18 Try.f18 rfl rfl rfl rfl rfl rfl rfl ⟨rfl, rfl, rfl, rfl, rfl⟩ rfl rfl rfl rfl rfl named Try.func18 closed inst wrap (fun os started H enc _ => lifted os started H enc)
/-- The statement. -/
theorem proved : Rows.SpotAllSaid := over
#print axioms proved
end Go.Proofs.Ytakekjbbbjmdpaa.spotAll
