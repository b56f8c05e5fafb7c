/- NandBad: a block whose erase failed is never erased nor programmed any more; what it has is read still; no condition. -/
import Derived.Test.YtnfigkoefmldiaaGreatNandBadLift
import Derived.Test.YtnfigkoefmldiaaGreatNandBadFacts
import Derived.ProofKit
import Derived.OpenShut
import Derived.ChangeOld
namespace Go.Proofs.YtnfigkoefmldiaaGreat.nandBad
open Go.ChangeShapes Go.WideShapes Go.ChangeAt Go.RowKit
open Go.ChangeMaps (open_string shut_string)
set_option linter.unusedVariables false
theorem named : Tryz.pinned.checked.prog.funcNamed Rows.nandBadRow.func = some 10 := by kernel_rfl
theorem inst : Tryz.f10.isInstance Tryz.pinned.checked.prog Rows.nandBadRow.origin Rows.nandBadRow.targs := of_decide_eq_true (by kernel_rfl)
theorem wrap : Tryz.f10.isWrapper Tryz.pinned.checked.prog Rows.nandBadRow.wrapper Rows.nandBadRow.mainSum := by
  unfold Func.isWrapper; first | (rw [if_pos (by decide +kernel)]; kernel_rfl) | (rw [if_neg (by decide +kernel)]; exact ⟨rfl, rfl⟩)
theorem over : Rows.nandBadRow.holds Tryz.pinned (OpenSpec.ofChange Rows.nandBadSpec) :=
  OpenClaim.holds_of_wide 10 Tryz.f10 rfl rfl rfl rfl rfl rfl rfl ⟨rfl, rfl, rfl, rfl, rfl⟩ rfl rfl rfl rfl rfl named Tryz.func10 closed inst wrap (fun os started H enc _ => lifted os started H enc)
/-- The statement. -/
theorem proved : Rows.NandBadSaid := over
#print axioms proved
end Go.Proofs.YtnfigkoefmldiaaGreat.nandBad
