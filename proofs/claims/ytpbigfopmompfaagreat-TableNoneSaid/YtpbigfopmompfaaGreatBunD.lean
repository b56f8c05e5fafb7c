import Derived.Test.YtpbigfopmompfaaGreatSherdMay2
/- What a claim's proof leans on: RefMay, RefMay2. -/
/- The reference of which sherds may be. -/
namespace Go.Proofs.YtpbigfopmompfaaGreat
open Go.RowKit
theorem inB_iff {n t : Int} : inB n t = true ↔ 0 ≤ n ∧ n ≤ t := by simp [inB]
theorem inB_no {n t : Int} : inB n t = false ↔ n < 0 ∨ t < n := by simp [inB]; omega
end Go.Proofs.YtpbigfopmompfaaGreat
/- The reference of which sherds may be, whole. -/
namespace Go.Proofs.YtpbigfopmompfaaGreat
open Go.RowKit
end Go.Proofs.YtpbigfopmompfaaGreat
