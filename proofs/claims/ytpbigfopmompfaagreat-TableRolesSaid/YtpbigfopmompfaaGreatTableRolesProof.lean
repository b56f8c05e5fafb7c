/- pads never stand; pages that there are not never do -/
import Derived.Test.YtpbigfopmompfaaGreatTableRolesLift
import Derived.Test.YtpbigfopmompfaaGreatTableRolesFacts
import Derived.ProofKit
import Derived.OpenShut
import Derived.ChangeOld
namespace Go.Proofs.YtpbigfopmompfaaGreat.tableRoles
open Go.ChangeShapes Go.WideShapes Go.ChangeAt Go.RowKit
open Go.ChangeMaps (open_string shut_string)
set_option linter.unusedVariables false
theorem named : Tryz.pinned.checked.prog.funcNamed Rows.tableRolesRow.func = some 7 := by kernel_rfl
theorem inst : Tryz.f7.isInstance Tryz.pinned.checked.prog Rows.tableRolesRow.origin Rows.tableRolesRow.targs := of_decide_eq_true (by kernel_rfl)
theorem wrap : Tryz.f7.isWrapper Tryz.pinned.checked.prog Rows.tableRolesRow.wrapper Rows.tableRolesRow.mainSum := by
  unfold Func.isWrapper; first | (rw [if_pos (by decide +kernel)]; kernel_rfl) | (rw [if_neg (by decide +kernel)]; exact ⟨rfl, rfl⟩)
theorem over : Rows.tableRolesRow.holds Tryz.pinned (OpenSpec.ofChange Rows.tableRolesSpec) :=
  OpenClaim.holds_of_wide 7 Tryz.f7 rfl rfl rfl rfl rfl rfl rfl ⟨rfl, rfl, rfl, rfl, rfl⟩ rfl rfl rfl rfl rfl named Tryz.func7 closed inst wrap (fun os started H enc _ => lifted os started H enc)
theorem proved : Rows.TableRolesSaid := over
#print axioms proved
end Go.Proofs.YtpbigfopmompfaaGreat.tableRoles
