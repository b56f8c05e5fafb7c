import Derived.ChangeOld
import Derived.OpenShut
import Derived.ProofKit
import Derived.Test.YtlkpfnjdbgeifaaGreatRows
set_option linter.unusedVariables false
open Go.Proofs.Tryz renaming f8→ed
namespace Go.Proofs.YtlkpfnjdbgeifaaGreat
open Go.Proofs.Tryz
open Go.Proofs.Tryz
namespace topEmpty
open Go.ChangeShapes Go.WideShapes Go.ChangeAt Go.RowKit
open Go.ChangeMaps (open_string shut_string)
theorem j0:(Rows.topEmptyRow.wf (OpenSpec.ofChange Rows.topEmptySpec))=true:=by kernel_rfl
theorem j1:(laidOutB Tryz.pinned.checked.prog)=true:=by kernel_rfl
theorem j2:(mapsRowed Tryz.pinned.checked.prog)=true:=by kernel_rfl
theorem j3:(ed.params.all (Tryz.pinned.checked.prog.readableRec ·))=true:=by kernel_rfl
theorem j4:(namedTie Tryz.pinned.checked.prog Rows.topEmptyRow.named Rows.topEmptySpec.vars)=true:=by kernel_rfl
theorem j5:((Rows.topEmptyRow.stops==[]))=true:=by kernel_rfl
theorem j6:((Tryz.pinned.checked.prog.stops==[]))=true:=by kernel_rfl
theorem j7:((Rows.topEmptyRow.knobs==[]))=true:=by kernel_rfl
theorem j8:((Tryz.pinned.checked.prog.stopKnobs==[]))=true:=by kernel_rfl
theorem j9:((Rows.topEmptyRow.inPlace== Tryz.pinned.checked.prog.inPlace 8))=true:=by kernel_rfl
theorem j10:((Rows.topEmptyRow.unfollowed== Tryz.pinned.checked.prog.unfollowed 8))=true:=by kernel_rfl
theorem j11:((Rows.topEmptyRow.recurses== Tryz.pinned.checked.prog.recurses 8))=true:=by kernel_rfl
theorem j12:((Rows.topEmptyRow.named== Tryz.pinned.checked.prog.varsNamed 8))=true:=by kernel_rfl
theorem j13:((Rows.topEmptyRow.maps==(ed.params.toList++Rows.topEmptySpec.plain.varTypes Tryz.pinned.checked.prog).any (Tryz.pinned.checked.prog.mapsRec ·)))=true:=by kernel_rfl
theorem j14:((Rows.topEmptyRow.ifaces==(ed.params.toList++Rows.topEmptySpec.plain.varTypes Tryz.pinned.checked.prog).any (Tryz.pinned.checked.prog.ifacesRec ·)))=true:=by kernel_rfl
theorem j15:((Rows.topEmptyRow.mapsOut== Tryz.pinned.checked.prog.mapsAmong ed.resultTypes.toList))=true:=by kernel_rfl
theorem j16:((Rows.topEmptyRow.loops==(ed.params.toList++Rows.topEmptySpec.plain.varTypes Tryz.pinned.checked.prog).any (Tryz.pinned.checked.prog.loopsFrom ·)))=true:=by kernel_rfl
theorem j17:((Rows.topEmptyRow.wideKeys==(ed.params.toList++Rows.topEmptySpec.plain.varTypes Tryz.pinned.checked.prog++ ed.resultTypes.toList).any (Tryz.pinned.checked.prog.wideKeysFrom ·)))=true:=by kernel_rfl
theorem j18:(Rows.topEmptySpec.vars.all (Tryz.pinned.checked.prog.varReadable ·))=true:=by kernel_rfl
theorem j19:(ed.resultTypes.all (fun t=> Tryz.pinned.checked.prog.readableRec t&&decide (t< Tryz.pinned.checked.prog.types.size)))=true:=by kernel_rfl
theorem j20:((Rows.topEmptyRow.ifacesOut== ed.resultTypes.toList.any (Tryz.pinned.checked.prog.ifacesRec ·)))=true:=by kernel_rfl
theorem j21:((Rows.topEmptyRow.loopsOut== ed.resultTypes.toList.any (Tryz.pinned.checked.prog.loopsFrom ·)))=true:=by kernel_rfl
theorem j22:((Rows.topEmptyRow.plainKeys== Tryz.pinned.checked.prog.plainKeys))=true:=by kernel_rfl
theorem j23:(Rows.topEmptyRow.shortTexts.isNone)=true:=by kernel_rfl
theorem j24:(Tryz.pinned.checked.prog.stopsHeard)=true:=by kernel_rfl
theorem j25:(Tryz.pinned.checked.prog.mayEnter)=true:=by kernel_rfl
theorem j26:((Rows.topEmptyRow.lifted== Tryz.pinned.checked.prog.liftsFinal))=true:=by kernel_rfl
theorem j27:((Tryz.pinned.checked.prog.make==some Rows.topEmptyRow.make))=true:=by kernel_rfl
theorem j28:((Rows.topEmptyRow.kinds==(if Rows.topEmptyRow.domain.isEmpty then []else ed.params.toList.map fun t=>match Tryz.pinned.checked.prog.underlying t with|some (.int k)=>some k|_=>none)))=true:=by kernel_rfl
theorem j29:((Rows.topEmptyRow.pinned==Rows.topEmptyRow.pinnedBy))=true:=by kernel_rfl
theorem j30:((Rows.topEmptyRow.veiled==(ed.params.toList++Rows.topEmptySpec.plain.varTypes Tryz.pinned.checked.prog++ ed.resultTypes.toList).any (Tryz.pinned.checked.prog.veiledRec ·)))=true:=by kernel_rfl
theorem j31:(Rows.topEmptyRow.veiledFits Tryz.pinned.checked.prog ed.params.toList (ed.params.toList++Rows.topEmptySpec.plain.varTypes Tryz.pinned.checked.prog++ ed.resultTypes.toList))=true:=by kernel_rfl
end topEmpty
end Go.Proofs.YtlkpfnjdbgeifaaGreat
