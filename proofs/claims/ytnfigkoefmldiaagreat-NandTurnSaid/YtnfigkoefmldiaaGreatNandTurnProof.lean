/- NandTurn: a byte that is turned is turned; not twice, till its block is erased; no condition. -/
import Derived.Test.YtnfigkoefmldiaaGreatNandTurnLift
import Derived.Test.YtnfigkoefmldiaaGreatNandTurnFacts
import Derived.ProofKit
import Derived.OpenShut
import Derived.ChangeOld
namespace Go.Proofs.YtnfigkoefmldiaaGreat.nandTurn
open Go.ChangeShapes Go.WideShapes Go.ChangeAt Go.RowKit
open Go.ChangeMaps (open_string shut_string)
set_option linter.unusedVariables false
theorem named : Tryz.pinned.checked.prog.funcNamed Rows.nandTurnRow.func = some 11 := by kernel_rfl
theorem inst : Tryz.f11.isInstance Tryz.pinned.checked.prog Rows.nandTurnRow.origin Rows.nandTurnRow.targs := of_decide_eq_true (by kernel_rfl)
theorem wrap : Tryz.f11.isWrapper Tryz.pinned.checked.prog Rows.nandTurnRow.wrapper Rows.nandTurnRow.mainSum := by
  unfold Func.isWrapper; first | (rw [if_pos (by decide +kernel)]; kernel_rfl) | (rw [if_neg (by decide +kernel)]; exact ⟨rfl, rfl⟩)
theorem over : Rows.nandTurnRow.holds Tryz.pinned (OpenSpec.ofChange Rows.nandTurnSpec) :=
  OpenClaim.holds_of_wide 11 Tryz.f11 rfl rfl rfl rfl rfl rfl rfl ⟨rfl, rfl, rfl, rfl, rfl⟩ rfl rfl rfl rfl rfl named Tryz.func11 closed inst wrap (fun os started H enc _ => lifted os started H enc)
/-- The statement. -/
theorem proved : Rows.NandTurnSaid := over
#print axioms proved
end Go.Proofs.YtnfigkoefmldiaaGreat.nandTurn
