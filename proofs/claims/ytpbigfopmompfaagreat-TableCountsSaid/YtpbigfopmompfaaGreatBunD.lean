import Derived.Test.YtpbigfopmompfaaGreatSherdMay2
/- What a claim's proof leans on: RefMay, RefMay2. -/
namespace Go.Proofs.YtpbigfopmompfaaGreat
open Go.RowKit
theorem inB_iff {n t : Int} : inB n t = true ↔ 0 ≤ n ∧ n ≤ t := by simp [inB]
end Go.Proofs.YtpbigfopmompfaaGreat
namespace Go.Proofs.YtpbigfopmompfaaGreat
open Go.RowKit
end Go.Proofs.YtpbigfopmompfaaGreat
