import Derived.Test.YtnfigkoefmldiaaGreatSherdMay
import Derived.Deep.DeepCutAuto
/- The contract of May of the layer sherd. -/
namespace Go.Proofs.YtnfigkoefmldiaaGreat
open Go.RowKit
def placeB (b o m : Int) : Bool := inB b 15 && (inB o 7 && decide (2 ≤ countI m))
def numbersB (r l s : Int) : Bool := inB s 1099511627775 && (inB l 65535 && inB r 255)
def maySh (d : List Nat) (r l s k b o m : Int) : Bool := (placeB b o m && numbersB r l s) && (k == 2 || (k == 1 && entryB d r l s))
end Go.Proofs.YtnfigkoefmldiaaGreat
