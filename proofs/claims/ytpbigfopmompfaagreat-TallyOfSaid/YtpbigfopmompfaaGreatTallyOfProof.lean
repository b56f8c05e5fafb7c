/- TallyOf: of a flash, how worn each superblock is, which dies are dead; no condition. -/
import Derived.Test.YtpbigfopmompfaaGreatTallyOfLift
import Derived.Test.YtpbigfopmompfaaGreatTallyOfFacts
import Derived.ProofKit
import Derived.OpenShut
import Derived.ChangeOld
namespace Go.Proofs.YtpbigfopmompfaaGreat.tallyOf
open Go.ChangeShapes Go.WideShapes Go.ChangeAt Go.RowKit
open Go.ChangeMaps (open_string shut_string)
set_option linter.unusedVariables false
theorem named : Tryz.pinned.checked.prog.funcNamed Rows.tallyOfRow.func = some 13 := by kernel_rfl
theorem inst : Tryz.f13.isInstance Tryz.pinned.checked.prog Rows.tallyOfRow.origin Rows.tallyOfRow.targs := of_decide_eq_true (by kernel_rfl)
theorem wrap : Tryz.f13.isWrapper Tryz.pinned.checked.prog Rows.tallyOfRow.wrapper Rows.tallyOfRow.mainSum := by
 unfold Func.isWrapper; first | (rw [if_pos (by decide +kernel)]; kernel_rfl) | (rw [if_neg (by decide +kernel)]; exact ⟨rfl, rfl⟩)
theorem over : Rows.tallyOfRow.holds Tryz.pinned (OpenSpec.ofChange Rows.tallyOfSpec) :=
 OpenClaim.holds_of_wide 13 Tryz.f13 rfl rfl rfl rfl rfl rfl rfl ⟨rfl, rfl, rfl, rfl, rfl⟩ rfl rfl rfl rfl rfl named Tryz.func13 closed inst wrap (fun os started H enc _ => lifted os started H enc)
theorem proved : Rows.TallyOfSaid := over
#print axioms proved
end Go.Proofs.YtpbigfopmompfaaGreat.tallyOf
