/- NandErase: an erase makes a block as new, and wears it by one; others stay; no condition. -/
import Derived.Test.YtnfigkoefmldiaaGreatNandEraseLift
import Derived.Test.YtnfigkoefmldiaaGreatNandEraseFacts
import Derived.ProofKit
import Derived.OpenShut
import Derived.ChangeOld
namespace Go.Proofs.YtnfigkoefmldiaaGreat.nandErase
open Go.ChangeShapes Go.WideShapes Go.ChangeAt Go.RowKit
open Go.ChangeMaps (open_string shut_string)
set_option linter.unusedVariables false
theorem named : Tryz.pinned.checked.prog.funcNamed Rows.nandEraseRow.func = some 8 := by kernel_rfl
theorem inst : Tryz.f8.isInstance Tryz.pinned.checked.prog Rows.nandEraseRow.origin Rows.nandEraseRow.targs := of_decide_eq_true (by kernel_rfl)
theorem wrap : Tryz.f8.isWrapper Tryz.pinned.checked.prog Rows.nandEraseRow.wrapper Rows.nandEraseRow.mainSum := by
  unfold Func.isWrapper; first | (rw [if_pos (by decide +kernel)]; kernel_rfl) | (rw [if_neg (by decide +kernel)]; exact ⟨rfl, rfl⟩)
theorem over : Rows.nandEraseRow.holds Tryz.pinned (OpenSpec.ofChange Rows.nandEraseSpec) :=
  OpenClaim.holds_of_wide 8 Tryz.f8 rfl rfl rfl rfl rfl rfl rfl ⟨rfl, rfl, rfl, rfl, rfl⟩ rfl rfl rfl rfl rfl named Tryz.func8 closed inst wrap (fun os started H enc _ => lifted os started H enc)
/-- The statement. -/
theorem proved : Rows.NandEraseSaid := over
#print axioms proved
end Go.Proofs.YtnfigkoefmldiaaGreat.nandErase
