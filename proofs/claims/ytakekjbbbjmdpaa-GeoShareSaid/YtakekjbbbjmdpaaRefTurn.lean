import Derived.Test.YtakekjbbbjmdpaaRefMore
import Derived.Deep.RegionLaw
/- The contract of the reference's turning of bits. -/
namespace Go.Proofs.Ytakekjbbbjmdpaa
open Go.RowKit

end Go.Proofs.Ytakekjbbbjmdpaa
