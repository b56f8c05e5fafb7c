/- TopEmpty: a new device has nothing: each page reads as nothing, behind power cycles, too, and mounting it takes no work: for every geometry and every number of cycles; no condition. -/
import Derived.Test.YtlkpfnjdbgeifaaGreatFTopEmpty
import Derived.Test.YtlkpfnjdbgeifaaGreatFTopEmptyFacts
set_option linter.unusedSimpArgs false
set_option linter.unusedVariables false
set_option maxRecDepth 100000
namespace Go.Proofs.YtlkpfnjdbgeifaaGreat
open Go.Proofs.Tryz
open Go.Proofs.Tryz
namespace topEmpty
open Go.ChangeShapes Go.WideShapes Go.ChangeAt Go.RowKit
open Go.ChangeMaps (open_string shut_string)
theorem bt{a b:Bool}(h:a=true)(k:b=true):(a&&b)=true:=by simp_all
theorem Ij:joinedFacts Tryz.pinned.checked.prog 8 Tryz.f8 Rows.topEmptySpec Rows.topEmptyRow=true:=by
 unfold joinedFacts;exact bt (bt (bt (bt (bt (bt (bt (bt (bt (bt (bt (bt (bt (bt (bt (bt (bt (bt (bt (bt (bt (bt (bt (bt (bt (bt (bt (bt (bt (bt (bt j0 j1) j2) j3) j4) j5) j6) j7) j8) j9) j10) j11) j12) j13) j14) j15) j16) j17) j18) j19) j20) j21) j22) j23) j24) j25) j26) j27) j28) j29) j30) j31
theorem named: Tryz.pinned.checked.prog.funcNamed Rows.topEmptyRow.func=some 8 :=by kernel_rfl
theorem inst: Tryz.f8.isInstance Tryz.pinned.checked.prog Rows.topEmptyRow.origin Rows.topEmptyRow.targs:=of_decide_eq_true (by rfl)
theorem wrap: Tryz.f8.isWrapper Tryz.pinned.checked.prog Rows.topEmptyRow.wrapper Rows.topEmptyRow.mainSum:=by
 unfold Func.isWrapper;first|(rw[if_pos (by decide+kernel)];kernel_rfl)|(rw[if_neg (by decide+kernel)];exact⟨rfl,rfl⟩)
theorem over:Rows.topEmptyRow.holds Tryz.pinned (OpenSpec.ofChange Rows.topEmptySpec):=
 OpenClaim.holds_of_wide 8 Tryz.f8 rfl rfl rfl rfl rfl rfl rfl ⟨rfl,rfl,rfl,rfl,rfl⟩ rfl rfl rfl rfl rfl named func8 Ij inst wrap (fun b started H c _=>lifted b started H c)
theorem proved:Rows.TopEmptySaid:=over
#print axioms proved
end topEmpty
end Go.Proofs.YtlkpfnjdbgeifaaGreat
