import Derived.Test.YtpbigfopmompfaaGreatKoop
import Derived.RegionTactic
import Derived.ChangeAlike
import Derived.BigRegion
/- What a claim's proof leans on: RefStep, RefMore. -/
namespace Go.Proofs.YtpbigfopmompfaaGreat
open Go.RowKit

end Go.Proofs.YtpbigfopmompfaaGreat
namespace Go.Proofs.YtpbigfopmompfaaGreat
open Go.RowKit

end Go.Proofs.YtpbigfopmompfaaGreat
