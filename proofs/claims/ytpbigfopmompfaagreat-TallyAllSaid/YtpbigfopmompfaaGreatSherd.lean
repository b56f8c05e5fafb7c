import Derived.Test.YtpbigfopmompfaaGreatBunC
import Derived.Test.YtpbigfopmompfaaGreatFlatEq
import Derived.Test.YtpbigfopmompfaaGreatBunP
/- The contracts of the layer sherd: numbers. -/
namespace Go.Proofs.YtpbigfopmompfaaGreat
open Go.RowKit
theorem meta_any (r l s : Int) (w : World) : Calls Tryz.prog 119 #[.int .i64 r, .int .i64 l, .int .i64 s] w fun e w' => e = .returned (.int .u64 (metaN r l s : Int)) ∧ w = w' := by
 have H := Lib.hid (meta_form r l s)
 go_enter Tryz.func119, Tryz.ntmps119
 go_wp2
 go_ret
 exact ⟨by rw [← H.out]; rfl, rfl⟩
theorem of_sherd (m : Int) (w : World) (h0 : 0 ≤ m) (h1 : m < 18446744073709551616) : Calls Tryz.prog 118 #[.int .u64 m] w fun e w' => e = .returned (.tuple #[.int .i64 (roleI m), .int .i64 (lpnI m), .int .i64 (seqI m)]) ∧ w = w' := by
 have H := Lib.hid (of_form m h0 h1)
 clear h0 h1
 go_enter Tryz.func118, Tryz.ntmps118
 go_wp2
 go_ret3
 exact ⟨by rw [← H.out.1, ← H.out.2.1, ← H.out.2.2]; rfl, rfl⟩
def inB (n to : Int) : Bool := decide (0 ≤ n) && decide (n ≤ to)
theorem in_any (n to : Int) (w : World) : Calls Tryz.prog 141 #[.int .i64 n, .int .i64 to] w fun e w' => e = .returned (.bool (inB n to)) ∧ w = w' := by
 unfold inB
 by_cases h : 0 ≤ n
 · by_cases h2 : n ≤ to
   · go_enter Tryz.func141, Tryz.ntmps141
     go_wp2
     go_ret
     exact ⟨by simp [h, h2], rfl⟩
   · go_enter Tryz.func141, Tryz.ntmps141
     go_wp2
     go_ret
     exact ⟨by simp [h2], rfl⟩
 · go_enter Tryz.func141, Tryz.ntmps141
   go_wp2
   go_ret
   exact ⟨by simp; omega, rfl⟩
end Go.Proofs.YtpbigfopmompfaaGreat
