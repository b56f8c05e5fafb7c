import Derived.Shelf.Slices.CompactI
import Derived.Test.YtlkpfnjdbgeifaaGreatChecked
namespace Go.Proofs
open Go.Shelf
def Tryz.Qx:Go.Shelf.Ren:=⟨fun|20=> 102|_=>0,fun|0=> 0|3=> 3|4=> 4|22=> 43|_=>0,fun _=>0⟩
theorem Tryz.Q5:Go.Proofs.Lays2.n20 Tryz.prog Tryz.Qx:={
 mixed:=by rfl
 f20:= Tryz.func102.trans (congrArg some (by rfl))
 t0:= Tryz.underlying0
 a0:= Tryz.isAgg0
 z0:= Tryz.sizeOf0
 v0:= Tryz.zeroValue0
 t3:= Tryz.underlying3
 a3:= Tryz.isAgg3
 z3:= Tryz.sizeOf3
 v3:= Tryz.zeroValue3
 t4:= Tryz.underlying4
 a4:= Tryz.isAgg4
 z4:= Tryz.sizeOf4
 v4:= Tryz.zeroValue4
 t22:= Tryz.underlying43
 a22:= Tryz.isAgg43
 z22:= Tryz.sizeOf43
 v22:= Tryz.zeroValue43
 i3:=by kernel_rfl}
end Go.Proofs
