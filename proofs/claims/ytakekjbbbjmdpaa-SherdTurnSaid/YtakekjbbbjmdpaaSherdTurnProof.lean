/- A sherd of which one part is another one: which ones may be, and that pages are alike just if sherds are. -/
import Derived.Test.YtakekjbbbjmdpaaSherdTurnLift
import Derived.Test.YtakekjbbbjmdpaaSherdTurnFacts
import Derived.ProofKit
import Derived.OpenShut
import Derived.ChangeOld
namespace Go.Proofs.Ytakekjbbbjmdpaa.sherdTurn
open Go.ChangeShapes Go.WideShapes Go.ChangeAt Go.RowKit
open Go.ChangeMaps (open_string shut_string)
set_option linter.unusedVariables false
theorem named : Try.pinned.checked.prog.funcNamed Rows.sherdTurnRow.func = some 10 := by kernel_rfl
theorem inst : Try.f10.isInstance Try.pinned.checked.prog Rows.sherdTurnRow.origin Rows.sherdTurnRow.targs := of_decide_eq_true (by kernel_rfl)
theorem wrap : Try.f10.isWrapper Try.pinned.checked.prog Rows.sherdTurnRow.wrapper Rows.sherdTurnRow.mainSum := by
  unfold Func.isWrapper; first | (rw [if_pos (by decide +kernel)]; kernel_rfl) | (rw [if_neg (by decide +kernel)]; exact ⟨rfl, rfl⟩)
theorem over : Rows.sherdTurnRow.holds Try.pinned (OpenSpec.ofChange Rows.sherdTurnSpec) :=
  OpenClaim.holds_of_wide 10 Try.f10 rfl rfl rfl rfl rfl rfl rfl ⟨rfl, rfl, rfl, rfl, rfl⟩ rfl rfl rfl rfl rfl named Try.func10 closed inst wrap (fun os started H enc _ => lifted os started H enc)
/-- The statement. -/
theorem proved : Rows.SherdTurnSaid := over
#print axioms proved
end Go.Proofs.Ytakekjbbbjmdpaa.sherdTurn
