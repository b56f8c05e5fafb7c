import Derived.StillTailTactics
import Derived.Test.YtlkpfnjdbgeifaaGreatFRegion
namespace Go.Proofs.YtlkpfnjdbgeifaaGreat
open Go.RowKit
section
theorem bm{P:Program}{id:Nat}{Q:Exit→Act→World→Prop}{a:Act}{w:World}{l:List Oper}(n:Nat)(c:P.follows .mixedOrders=true)(e:Region.lexTailB .any l.toArray n=true)(h:∀b,b=w.drew→wpStill P l.toArray b (fun f=>wpList P l.toArray Q (l.drop n) f b) (l.take n) a):(Code.region id l.toArray true).wp P Q a w:=wp_region_still_tail n c e (h _ rfl)
end
end Go.Proofs.YtlkpfnjdbgeifaaGreat
