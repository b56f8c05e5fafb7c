import Derived.Test.YtpbigfopmompfaaGreatLane
import Derived.Test.YtpbigfopmompfaaGreatPlainZig
import Derived.Handy
/- The contracts of the layer zig and of the reference's numbers. -/
namespace Go.Proofs.YtpbigfopmompfaaGreat
open Go.RowKit

theorem zig_any (n : Int) (w : World) (h1 : -9223372036854775808 ≤ n) (h2 : n ≤ 9223372036854775807) : Calls Tryz.prog 193 #[.int .i64 n] w fun e w' => e = .returned (.int .u64 (zigI n)) ∧ w = w' := by
 have H := Lib.hid (zig_form n h1 h2)
 go_enter Tryz.func193, Tryz.ntmps193
 go_wp2
 go_ret
 exact ⟨by rw [← H.out]; rfl, rfl⟩
theorem zag_any (u : Int) (w : World) (h0 : 0 ≤ u) (h1 : u < 18446744073709551616) : Calls Tryz.prog 194 #[.int .u64 u] w fun e w' => e = .returned (.int .i64 (zagI u)) ∧ w = w' := by
 have H := Lib.hid (zag_form u h0 h1)
 go_enter Tryz.func194, Tryz.ntmps194
 go_wp2
 go_ret
 exact ⟨by rw [← H.out]; rfl, rfl⟩
theorem narrow_any (n k : Int) (w : World) : Calls Tryz.prog 195 #[.int .i64 n, .int .i64 k] w fun e w' => e = .returned (.int .i64 (narrowI n k)) ∧ w = w' := by
 by_cases h1 : k < 1
 · have H := Lib.hid (show narrowI n k = 0 by simp [narrowI, h1])
   go_enter Tryz.func195, Tryz.ntmps195
   go_wp2
   go_ret
   exact ⟨by rw [H.out]; rfl, rfl⟩
 · by_cases h2 : 64 < k
   · have H := Lib.hid (show narrowI n k = 0 by simp [narrowI, h2])
     go_enter Tryz.func195, Tryz.ntmps195
     go_wp2
     go_ret
     exact ⟨by rw [H.out]; rfl, rfl⟩
   · have H := Lib.hid (narrow_form n k (by omega) (by omega))
     go_enter Tryz.func195, Tryz.ntmps195
     go_wp2
     go_ret
     exact ⟨by rw [← H.out]; rfl, rfl⟩
theorem turn_any (u n : Int) (w : World) (h0 : 0 ≤ u) (h1 : u < 4294967296) : Calls Tryz.prog 196 #[.int .u32 u, .int .i64 n] w fun e w' => e = .returned (.int .u32 (turnI u n)) ∧ ∃ k, w' = w.drewN k := by
 have H := Lib.hid (turn_form u n h0 h1)
 have e := and31 n
 have b1 : 0 ≤ n % 32 := by omega
 have b2 : n % 32 ≤ 31 := by omega
 go_enter Tryz.func196, Tryz.ntmps196
 go_wp2
 go_quiet (fail)
 go_wp2
 go_ret
 exact ⟨by rw [← H.out]; rfl, _, rfl⟩
end Go.Proofs.YtpbigfopmompfaaGreat
