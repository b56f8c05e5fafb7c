/- of all that stands each is counted in just one superblock -/
import Derived.Test.YtpbigfopmompfaaGreatTableCountsLift
import Derived.Test.YtpbigfopmompfaaGreatTableCountsFacts
import Derived.ProofKit
import Derived.OpenShut
import Derived.ChangeOld
namespace Go.Proofs.YtpbigfopmompfaaGreat.tableCounts
open Go.ChangeShapes Go.WideShapes Go.ChangeAt Go.RowKit
open Go.ChangeMaps (open_string shut_string)
set_option linter.unusedVariables false
theorem named : Tryz.pinned.checked.prog.funcNamed Rows.tableCountsRow.func = some 6 := by kernel_rfl
theorem inst : Tryz.f6.isInstance Tryz.pinned.checked.prog Rows.tableCountsRow.origin Rows.tableCountsRow.targs := of_decide_eq_true (by kernel_rfl)
theorem wrap : Tryz.f6.isWrapper Tryz.pinned.checked.prog Rows.tableCountsRow.wrapper Rows.tableCountsRow.mainSum := by
 unfold Func.isWrapper; first | (rw [if_pos (by decide +kernel)]; kernel_rfl) | (rw [if_neg (by decide +kernel)]; exact ⟨rfl, rfl⟩)
theorem over : Rows.tableCountsRow.holds Tryz.pinned (OpenSpec.ofChange Rows.tableCountsSpec) :=
 OpenClaim.holds_of_wide 6 Tryz.f6 rfl rfl rfl rfl rfl rfl rfl ⟨rfl, rfl, rfl, rfl, rfl⟩ rfl rfl rfl rfl rfl named Tryz.func6 closed inst wrap (fun os started H enc _ => lifted os started H enc)
theorem proved : Rows.TableCountsSaid := over
#print axioms proved
end Go.Proofs.YtpbigfopmompfaaGreat.tableCounts
