import Derived.Test.YtlahcmldbgeifaaBegun
/- BitsNone: nothing to write to, nothing to read; no condition. -/
namespace Go.Proofs.Ytlahcmldbgeifaa.bitsNone
open Go.RowKit
theorem walk (w : World) : Calls Try.prog 9 #[] w fun e w' => e = .returned (.bool true) ∧ Below w.heap.size w w' := by
  go_enter Try.func9, Try.ntmps9
  go_wp2_with fail
  refine (get_none _ _).mono ?_
  rintro e w' ⟨rfl, rfl⟩
  go_wp2_with fail
  refine (begun_any _).mono ?_
  rintro e w1 ⟨rfl, hb1⟩
  go_wp2_with fail
  refine (put_none _ _ _).mono ?_
  rintro e w' ⟨rfl, rfl⟩
  go_wp2_with fail
  refine (len_none _).mono ?_
  rintro e w' ⟨rfl, rfl⟩
  go_wp2_with fail
  refine (outbytes_none _).mono ?_
  rintro e w' ⟨rfl, rfl⟩
  go_wp2_with fail
  refine (left_none _).mono ?_
  rintro e w' ⟨rfl, rfl⟩
  go_wp2_with fail
  refine (read_any none 0 0 0 [] _ Rd.nil (Nat.zero_le _)).mono ?_
  rintro e w2 ⟨rfl, hi, hb2⟩
  go_wp2_with fail
  refine (left_any _ _ _ _ _ hi (by simp) (by simp)).mono ?_
  rintro e w' ⟨rfl, nd, rfl⟩
  rw [show (8 * (([] : List Nat).length : Int) - ((0 : Nat) : Int)) = 0 from by decide]
  go_wp2_with fail
  go_ret
  exact ⟨rfl, below_drewN (below_then hb1 hb2) _⟩
end Go.Proofs.Ytlahcmldbgeifaa.bitsNone
