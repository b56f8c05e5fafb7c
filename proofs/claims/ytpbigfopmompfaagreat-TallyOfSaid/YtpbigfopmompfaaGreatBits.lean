import Derived.Test.YtpbigfopmompfaaGreatLane
import Derived.Test.YtpbigfopmompfaaGreatZig
import Derived.Test.YtpbigfopmompfaaGreatBase
import Derived.Test.YtpbigfopmompfaaGreatBunP
import Derived.Deep.DeepMust
/- The contracts of the reference's lists of bits. -/
namespace Go.Proofs.YtpbigfopmompfaaGreat
open Go.RowKit
theorem u8Info : (Tryz.prog.info? 5).map (fun i => (i.zero, i.size, i.bytes)) = some (some (.int .u8 0), 1, 1) := by kernel_rfl
theorem intInfo : (Tryz.prog.info? 3).map (fun i => (i.zero, i.size, i.bytes)) = some (some (.int .i64 0), 1, 8) := by kernel_rfl

end Go.Proofs.YtpbigfopmompfaaGreat
