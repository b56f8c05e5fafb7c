import Derived.Test.YtpbigfopmompfaaGreatKoop
import Derived.RegionTactic
import Derived.ChangeAlike
import Derived.BigRegion
/- What a claim's proof leans on: RefStep, RefMore. -/
/- The contract of the reference's step of a sum. -/
namespace Go.Proofs.YtpbigfopmompfaaGreat
open Go.RowKit

end Go.Proofs.YtpbigfopmompfaaGreat
/- The contracts of the reference's sum, narrowing and turning. -/
namespace Go.Proofs.YtpbigfopmompfaaGreat
open Go.RowKit

end Go.Proofs.YtpbigfopmompfaaGreat
