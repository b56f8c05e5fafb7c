import Derived.Test.YtnfigkoefmldiaaGreatKoop
import Derived.RegionTactic
import Derived.ChangeAlike
import Derived.BigRegion
/- What a claim's proof leans on: RefStep, RefMore. -/
/- The contract of the reference's step of a sum. -/
namespace Go.Proofs.YtnfigkoefmldiaaGreat
open Go.RowKit

end Go.Proofs.YtnfigkoefmldiaaGreat
/- The contracts of the reference's sum, narrowing and turning. -/
namespace Go.Proofs.YtnfigkoefmldiaaGreat
open Go.RowKit

end Go.Proofs.YtnfigkoefmldiaaGreat
