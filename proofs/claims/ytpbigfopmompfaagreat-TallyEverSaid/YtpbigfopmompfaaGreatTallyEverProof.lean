/- what is bad is bad for ever, what is dead is dead for ever; wear never falls -/
import Derived.Test.YtpbigfopmompfaaGreatTallyEverLift
import Derived.Test.YtpbigfopmompfaaGreatTallyEverFacts
import Derived.ProofKit
import Derived.OpenShut
import Derived.ChangeOld
namespace Go.Proofs.YtpbigfopmompfaaGreat.tallyEver
open Go.ChangeShapes Go.WideShapes Go.ChangeAt Go.RowKit
open Go.ChangeMaps (open_string shut_string)
set_option linter.unusedVariables false
theorem named : Tryz.pinned.checked.prog.funcNamed Rows.tallyEverRow.func = some 12 := by kernel_rfl
theorem inst : Tryz.f12.isInstance Tryz.pinned.checked.prog Rows.tallyEverRow.origin Rows.tallyEverRow.targs := of_decide_eq_true (by kernel_rfl)
theorem wrap : Tryz.f12.isWrapper Tryz.pinned.checked.prog Rows.tallyEverRow.wrapper Rows.tallyEverRow.mainSum := by
 unfold Func.isWrapper; first | (rw [if_pos (by decide +kernel)]; kernel_rfl) | (rw [if_neg (by decide +kernel)]; exact ⟨rfl, rfl⟩)
theorem over : Rows.tallyEverRow.holds Tryz.pinned (OpenSpec.ofChange Rows.tallyEverSpec) :=
 OpenClaim.holds_of_wide 12 Tryz.f12 rfl rfl rfl rfl rfl rfl rfl ⟨rfl, rfl, rfl, rfl, rfl⟩ rfl rfl rfl rfl rfl named Tryz.func12 closed inst wrap (fun os started H enc _ => lifted os started H enc)
theorem proved : Rows.TallyEverSaid := over
#print axioms proved
end Go.Proofs.YtpbigfopmompfaaGreat.tallyEver
