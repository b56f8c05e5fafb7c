import Derived.Test.YtpbigfopmompfaaGreatLane
import Derived.Test.YtpbigfopmompfaaGreatZig
import Derived.Test.YtpbigfopmompfaaGreatBase
import Derived.Test.YtpbigfopmompfaaGreatBunP
import Derived.Deep.DeepMust
/- The contracts of the reference's lists of bits. -/
namespace Go.Proofs.YtpbigfopmompfaaGreat
open Go.RowKit
theorem pow_any (n : Int) (w : World) (h0 : 0 ≤ n) (h1 : n ≤ 63) : Calls Tryz.prog 98 #[.int .i64 n] w fun e w' => e = .returned (.int .u64 (powI n)) ∧ w = w' := by
 obtain ⟨N, rfl⟩ := Int.eq_ofNat_of_zero_le h0
 go_enter Tryz.func98, Tryz.ntmps98
 go_wp2
 go_loop [3, 4] (fun p i => ∃ k : Nat, k ≤ N ∧ i = .int .i64 k ∧ p = .int .u64 (powI k)) (fun _ i => N - (intOf i).toNat)
 case atStart => exact ⟨0, by omega, rfl, rfl⟩
 case round =>
  obtain ⟨k, hk, rfl, rfl⟩ := hrel; by_cases hlt : k < N
  · have E := Lib.hid (powI_step k (by omega))
    go_wp2
    go_round
    case rel => exact ⟨k + 1, by omega, by go_num, by rw [E.out]; rfl⟩
    case measure => simp [intOf]; omega
  · obtain rfl : k = N := by omega
    go_wp2
    go_ret
    exact ⟨rfl, rfl⟩
theorem u8Info : (Tryz.prog.info? 5).map (fun i => (i.zero, i.size, i.bytes)) = some (some (.int .u8 0), 1, 1) := by kernel_rfl
theorem intInfo : (Tryz.prog.info? 3).map (fun i => (i.zero, i.size, i.bytes)) = some (some (.int .i64 0), 1, 8) := by kernel_rfl

end Go.Proofs.YtpbigfopmompfaaGreat
