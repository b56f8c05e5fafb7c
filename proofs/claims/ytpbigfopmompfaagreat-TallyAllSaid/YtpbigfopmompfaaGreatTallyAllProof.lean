import Derived.Test.YtpbigfopmompfaaGreatTallyAllLift
import Derived.Test.YtpbigfopmompfaaGreatTallyAllFacts
import Derived.ProofKit
import Derived.OpenShut
import Derived.ChangeOld
/- what is worn, bad, dead, and which superblocks may be used -/
namespace Go.Proofs.YtpbigfopmompfaaGreat.tallyAll
open Go.ChangeShapes Go.WideShapes Go.ChangeAt Go.RowKit
open Go.ChangeMaps (open_string shut_string)
set_option linter.unusedVariables false
theorem named : Tryz.pinned.checked.prog.funcNamed Rows.tallyAllRow.func = some 10 := by kernel_rfl
theorem inst : Tryz.f10.isInstance Tryz.pinned.checked.prog Rows.tallyAllRow.origin Rows.tallyAllRow.targs := of_decide_eq_true (by kernel_rfl)
theorem wrap : Tryz.f10.isWrapper Tryz.pinned.checked.prog Rows.tallyAllRow.wrapper Rows.tallyAllRow.mainSum := by
 unfold Func.isWrapper; first | (rw [if_pos (by decide +kernel)]; kernel_rfl) | (rw [if_neg (by decide +kernel)]; exact ⟨rfl, rfl⟩)
theorem over : Rows.tallyAllRow.holds Tryz.pinned (OpenSpec.ofChange Rows.tallyAllSpec) :=
 OpenClaim.holds_of_wide 10 Tryz.f10 rfl rfl rfl rfl rfl rfl rfl ⟨rfl, rfl, rfl, rfl, rfl⟩ rfl rfl rfl rfl rfl named Tryz.func10 closed inst wrap (fun os started H enc _ => lifted os started H enc)
theorem proved : Rows.TallyAllSaid := over
#print axioms proved
end Go.Proofs.YtpbigfopmompfaaGreat.tallyAll
