/- no table, no tally -/
import Derived.Test.YtpbigfopmompfaaGreatTableNoneLift
import Derived.Test.YtpbigfopmompfaaGreatTableNoneFacts
import Derived.ProofKit
import Derived.OpenShut
import Derived.ChangeOld
namespace Go.Proofs.YtpbigfopmompfaaGreat.tableNone
open Go.ChangeShapes Go.WideShapes Go.ChangeAt Go.RowKit
open Go.ChangeMaps (open_string shut_string)
set_option linter.unusedVariables false
theorem named : Tryz.pinned.checked.prog.funcNamed Rows.tableNoneRow.func = some 9 := by kernel_rfl
theorem inst : Tryz.f9.isInstance Tryz.pinned.checked.prog Rows.tableNoneRow.origin Rows.tableNoneRow.targs := of_decide_eq_true (by kernel_rfl)
theorem wrap : Tryz.f9.isWrapper Tryz.pinned.checked.prog Rows.tableNoneRow.wrapper Rows.tableNoneRow.mainSum := by
  unfold Func.isWrapper; first | (rw [if_pos (by decide +kernel)]; kernel_rfl) | (rw [if_neg (by decide +kernel)]; exact ⟨rfl, rfl⟩)
theorem over : Rows.tableNoneRow.holds Tryz.pinned (OpenSpec.ofChange Rows.tableNoneSpec) :=
  OpenClaim.holds_of_wide 9 Tryz.f9 rfl rfl rfl rfl rfl rfl rfl ⟨rfl, rfl, rfl, rfl, rfl⟩ rfl rfl rfl rfl rfl named Tryz.func9 closed inst wrap (fun os started H enc _ => lifted os started H enc)
/-- The statement. -/
theorem proved : Rows.TableNoneSaid := over
#print axioms proved
end Go.Proofs.YtpbigfopmompfaaGreat.tableNone
