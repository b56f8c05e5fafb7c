/- NandOn: a cut that did not come is forgotten when power comes; without power nothing is done; no condition. -/
import Derived.Test.YtnfigkoefmldiaaGreatNandOnLift
import Derived.Test.YtnfigkoefmldiaaGreatNandOnFacts
import Derived.ProofKit
import Derived.OpenShut
import Derived.ChangeOld
namespace Go.Proofs.YtnfigkoefmldiaaGreat.nandOn
open Go.ChangeShapes Go.WideShapes Go.ChangeAt Go.RowKit
open Go.ChangeMaps (open_string shut_string)
set_option linter.unusedVariables false
theorem named : Tryz.pinned.checked.prog.funcNamed Rows.nandOnRow.func = some 13 := by kernel_rfl
theorem inst : Tryz.f13.isInstance Tryz.pinned.checked.prog Rows.nandOnRow.origin Rows.nandOnRow.targs := of_decide_eq_true (by kernel_rfl)
theorem wrap : Tryz.f13.isWrapper Tryz.pinned.checked.prog Rows.nandOnRow.wrapper Rows.nandOnRow.mainSum := by
  unfold Func.isWrapper; first | (rw [if_pos (by decide +kernel)]; kernel_rfl) | (rw [if_neg (by decide +kernel)]; exact ⟨rfl, rfl⟩)
theorem over : Rows.nandOnRow.holds Tryz.pinned (OpenSpec.ofChange Rows.nandOnSpec) :=
  OpenClaim.holds_of_wide 13 Tryz.f13 rfl rfl rfl rfl rfl rfl rfl ⟨rfl, rfl, rfl, rfl, rfl⟩ rfl rfl rfl rfl rfl named Tryz.func13 closed inst wrap (fun os started H enc _ => lifted os started H enc)
/-- The statement. -/
theorem proved : Rows.NandOnSaid := over
#print axioms proved
end Go.Proofs.YtnfigkoefmldiaaGreat.nandOn
