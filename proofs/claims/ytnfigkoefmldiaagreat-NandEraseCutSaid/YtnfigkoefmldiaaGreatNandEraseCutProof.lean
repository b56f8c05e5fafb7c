/- NandEraseCut: power goes within an erase: nothing of the block can be read, nothing programmed, till it is erased again; no condition. -/
import Derived.Test.YtnfigkoefmldiaaGreatNandEraseCutLift
import Derived.Test.YtnfigkoefmldiaaGreatNandEraseCutFacts
import Derived.ProofKit
import Derived.OpenShut
import Derived.ChangeOld
namespace Go.Proofs.YtnfigkoefmldiaaGreat.nandEraseCut
open Go.ChangeShapes Go.WideShapes Go.ChangeAt Go.RowKit
open Go.ChangeMaps (open_string shut_string)
set_option linter.unusedVariables false
theorem named : Tryz.pinned.checked.prog.funcNamed Rows.nandEraseCutRow.func = some 12 := by kernel_rfl
theorem inst : Tryz.f12.isInstance Tryz.pinned.checked.prog Rows.nandEraseCutRow.origin Rows.nandEraseCutRow.targs := of_decide_eq_true (by kernel_rfl)
theorem wrap : Tryz.f12.isWrapper Tryz.pinned.checked.prog Rows.nandEraseCutRow.wrapper Rows.nandEraseCutRow.mainSum := by
  unfold Func.isWrapper; first | (rw [if_pos (by decide +kernel)]; kernel_rfl) | (rw [if_neg (by decide +kernel)]; exact ⟨rfl, rfl⟩)
theorem over : Rows.nandEraseCutRow.holds Tryz.pinned (OpenSpec.ofChange Rows.nandEraseCutSpec) :=
  OpenClaim.holds_of_wide 12 Tryz.f12 rfl rfl rfl rfl rfl rfl rfl ⟨rfl, rfl, rfl, rfl, rfl⟩ rfl rfl rfl rfl rfl named Tryz.func12 closed inst wrap (fun os started H enc _ => lifted os started H enc)
/-- The statement. -/
theorem proved : Rows.NandEraseCutSaid := over
#print axioms proved
end Go.Proofs.YtnfigkoefmldiaaGreat.nandEraseCut
