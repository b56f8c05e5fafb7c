import Derived.Test.YtpbigfopmompfaaGreatBegun
import Derived.Test.YtpbigfopmompfaaGreatFlat
/- What a claim's proof leans on: PutAll, OpenF. -/
namespace Go.Proofs.YtpbigfopmompfaaGreat
open Go.RowKit
theorem IsOut.owner {w : World} {B g : Nat} {r : Option Nat} {l : List Bool} (h : IsOut w B g r l) : ∀ k, r = some k → B ≤ k := by
 obtain ⟨hBg, v, hv, hg, hown⟩ := h
 intro k hk
 exact (hown.lt k (by rw [hv]; exact hk)).1
theorem IsOut.base {w : World} {B g : Nat} {r : Option Nat} {l : List Bool} (h : IsOut w B g r l) : B ≤ g := h.1
theorem IsOut.blk {w : World} {B g : Nat} {r : Option Nat} {l : List Bool} (h : IsOut w B g r l) : g < w.heap.size := by
 obtain ⟨hBg, v, hv, hg, hown⟩ := h
 exact lt_of_cells hg
end Go.Proofs.YtpbigfopmompfaaGreat
namespace Go.Proofs.YtpbigfopmompfaaGreat
open Go.RowKit
end Go.Proofs.YtpbigfopmompfaaGreat
