import Derived.Test.YtlahcmldbgeifaaRows
import Derived.Test.YtlahcmldbgeifaaBase
import Derived.WalkKit
import Derived.ProofKit
import Derived.OpenShut
import Derived.BigQuiet
import Derived.Deep.QuietTactic
import Derived.WalkLawsBesides
import Derived.Lib.Hide
import Derived.Handy
import Derived.Great.Walk
/- The names of package api stand for the document's numbers: the closed statement Names, with no condition. -/
namespace Go.Proofs.Ytlahcmldbgeifaa.names
open Go.RowKit

def nums : List Int := [0, 1, 2, 3, 4, 5, 6, 7, 8, 9, 10, 11, 12, 13, 3, 6, 8, 16, 2, 8, 16, 32, 1099511627775, 65535, 4, 1, 2, 3, 4, 1, 2, 1, 2, 3, 4, 5, 1, 2, 3, 4, 5, 6, 7, 8]
def numsA : Array Value := (nums.map (Value.int .i64)).toArray
theorem numsA_at (k : Nat) (h : k < 44) : numsA[k]? = some (.int .i64 (nums.getD k 0)) := by
  have hl : nums.length = 44 := rfl
  simp [numsA, List.getD, List.getElem?_eq_getElem (show k < nums.length by omega)]
theorem cell0 (w : World) (k : Nat) (h : k < 44) : ((w.alloc (.cells numsA 3)).alloc (.cells numsA 3)).cell? ⟨w.heap.size, k, none⟩ = some (.int .i64 (nums.getD k 0)) := by
  rw [World.cell?_alloc_past _ _ _ (by simp), World.cell?_alloc_at _ _ _ _ rfl]; exact numsA_at k h
theorem cell1 (w : World) (k : Nat) (h : k < 44) : ((w.alloc (.cells numsA 3)).alloc (.cells numsA 3)).cell? ⟨w.heap.size + 1, k, none⟩ = some (.int .i64 (nums.getD k 0)) := by
  rw [World.cell?_alloc_at _ _ _ _ (by simp)]; exact numsA_at k h
def Both (B : Nat) (w : World) : Prop := ∀ k, k < 44 → w.cell? ⟨B, k, none⟩ = some (.int .i64 (nums.getD k 0)) ∧ w.cell? ⟨B + 1, k, none⟩ = some (.int .i64 (nums.getD k 0))
theorem Both.drewN {B : Nat} {w : World} (h : Both B w) (k : Nat) : Both B (w.drewN k) := h
theorem walk (w : World) : Calls Try.prog 3 #[] w fun e w' => e = .returned (.bool true) ∧ Below w.heap.size w w' := by
  go_enter Try.func3, Try.ntmps3
  go_wp2_with (first
    | (with_reducible refine Great.wpList_buildSliceTo (dst := some 4) (by rfl) 22 3 44 _ (by rfl) w.heap.size (by rfl) (by rfl) Try.underlying22 numsA (by kernel_rfl) ?_)
    | (with_reducible refine Great.wpList_buildSliceTo (dst := some 5) (by rfl) 22 3 44 _ (by rfl) (w.heap.size + 1) (by simp) (by rfl) Try.underlying22 numsA (by kernel_rfl) ?_))
  go_loopw [3] (fun i wr => ∃ k : Nat, k ≤ 44 ∧ i = .int .i64 k ∧ Both w.heap.size wr ∧ Below w.heap.size w wr) (fun i _ => 44 - (intOf i).toNat)
  case atStart => exact ⟨0, by omega, rfl, fun k hk => ⟨cell0 w k hk, cell1 w k hk⟩, by go_grown⟩
  case round =>
    obtain ⟨k, hk, rfl, hb, hbel⟩ := hrel
    by_cases hlt : k < 44
    · obtain ⟨c0, c1⟩ := hb k hlt
      have hl : (k : Int) < 44 := by omega
      go_wp2
      go_quiet (fail)
      go_wp2
      go_roundw
      case rel => exact ⟨k + 1, by omega, by go_num, hb.drewN _, below_drewN hbel _⟩
      case measure => simp [intOf]; omega
    · obtain rfl : k = 44 := by omega
      go_wp2
      go_ret
      exact ⟨rfl, hbel⟩

end Go.Proofs.Ytlahcmldbgeifaa.names
