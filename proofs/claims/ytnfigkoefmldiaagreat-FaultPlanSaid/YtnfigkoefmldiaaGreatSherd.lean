import Derived.Test.YtnfigkoefmldiaaGreatBunC
import Derived.Test.YtnfigkoefmldiaaGreatFlatEq
import Derived.Test.YtnfigkoefmldiaaGreatBunP
/- The contracts of the layer sherd: numbers. -/
namespace Go.Proofs.YtnfigkoefmldiaaGreat
open Go.RowKit
def inB (n to : Int) : Bool := decide (0 ≤ n) && decide (n ≤ to)
end Go.Proofs.YtnfigkoefmldiaaGreat
