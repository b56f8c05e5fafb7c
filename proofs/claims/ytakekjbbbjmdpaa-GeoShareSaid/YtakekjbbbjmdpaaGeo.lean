import Derived.Test.YtakekjbbbjmdpaaBegun
import Derived.Test.YtakekjbbbjmdpaaPlainGeo
import Derived.IntWalk
/- The contracts of the layer geo. -/
namespace Go.Proofs.Ytakekjbbbjmdpaa
open Go.RowKit
theorem parity_any (m b r : Int) (w : World) : Calls Try.prog 23 #[.int .i64 m, .int .i64 b, .int .i64 r] w fun e w' => e = .returned (.int .i64 (parityI m b r)) ∧ ∃ k, w' = w.drewN k := by
  have hc := countI_le m
  by_cases h : countI m < 2 ∨ b < 0 ∨ r < 0
  · have H := Lib.hid (show parityI m b r = -1 by unfold parityI; rw [if_pos h])
    rw [H.out]
    clear H
    rcases h with h | h | h
    all_goals
      generalize hq : countI m = q at *
      have HQ := Lib.hid hq
      clear hq
      go_enter Try.func23, Try.ntmps23
      go_wp2_with fail
      refine (count_any _ _).mono ?_
      rw [HQ.out]; rintro e w' ⟨rfl, rfl⟩
      go_wp2_with fail
      all_goals go_ret
      all_goals exact ⟨rfl, 0, rfl⟩
  · have H := Lib.hid (show parityI m b r = atI m ((b % countI m + r % countI m) % countI m) by unfold parityI; rw [if_neg h])
    rw [H.out]
    clear H
    generalize hq : countI m = q at *
    have HQ := Lib.hid hq
    clear hq
    have h1 : ¬ q < 2 := by omega
    have h2 : ¬ b < 0 := by omega
    have h3 : ¬ r < 0 := by omega
    have h2' : 0 ≤ b := by omega
    have h3' : 0 ≤ r := by omega
    have hq0 : 0 < q := by omega
    have hqn : ¬ q = 0 := by omega
    have hqb : (q == 0) = false := by simp; omega
    have x0 := Int.emod_nonneg b (show q ≠ 0 by omega)
    have x1 := Int.emod_lt_of_pos b hq0
    have y0 := Int.emod_nonneg r (show q ≠ 0 by omega)
    have y1 := Int.emod_lt_of_pos r hq0
    have eX : (wrap64 (b % q + r % q)).tmod q = (b % q + r % q) % q := by
      rw [wrap64_in' _ (by omega) (by omega), Int.tmod_eq_emod_of_nonneg (by omega)]
    have z0 := Int.emod_nonneg (b % q + r % q) (show q ≠ 0 by omega)
    have z1 := Int.emod_lt_of_pos (b % q + r % q) hq0
    have X1 : -9223372036854775808 ≤ (wrap64 (b % q + r % q)).tmod q := by rw [eX]; omega
    have X2 : (wrap64 (b % q + r % q)).tmod q ≤ 9223372036854775807 := by rw [eX]; omega
    have HA := Lib.hid (show Ending.returned (.int .i64 (atI m ((wrap64 (b % q + r % q)).tmod q))) = Ending.returned (.int .i64 (atI m ((b % q + r % q) % q))) by rw [eX])
    have HX := Lib.hid (And.intro X1 X2)
    clear eX X1 X2 x0 x1 y0 y1 z0 z1
    clear h
    go_enter Try.func23, Try.ntmps23
    go_wp2_with fail
    refine (count_any _ _).mono ?_
    rw [HQ.out]; rintro e w' ⟨rfl, rfl⟩
    go_wp2_with fail
    go_quiet ((go_at_call 71; exact Calls.quiet_of_same ((at_any m _ _ HX.out.1 HX.out.2).mono fun _ _ h => ⟨h.1.trans HA.out, h.2.symm⟩)))
    go_wp2_with fail
    go_ret
    exact ⟨rfl, _, rfl⟩
theorem slots_any (m : Int) (w : World) : Calls Try.prog 25 #[.int .i64 m] w fun e w' => e = .returned (.int .i64 (slotsI m)) ∧ w = w' := by
  have hc := countI_le m
  unfold slotsI
  generalize hq : countI m = q at *
  have HQ := Lib.hid hq
  clear hq
  by_cases h : q < 2
  · rw [if_pos h]
    go_enter Try.func25, Try.ntmps25
    go_wp2_with fail
    refine (count_any _ _).mono ?_
    rw [HQ.out]; rintro e w' ⟨rfl, rfl⟩
    go_wp2_with fail
    go_ret
    exact ⟨rfl, rfl⟩
  · rw [if_neg h]
    go_enter Try.func25, Try.ntmps25
    go_wp2_with fail
    refine (count_any _ _).mono ?_
    rw [HQ.out]; rintro e w' ⟨rfl, rfl⟩
    go_wp2_with fail
    go_ret
    exact ⟨rfl, rfl⟩
theorem die_any (m b r s : Int) (w : World) (h1 : -9223372036854775808 ≤ s) (h2 : s ≤ 9223372036854775807) : Calls Try.prog 27 #[.int .i64 m, .int .i64 b, .int .i64 r, .int .i64 s] w fun e w' => e = .returned (.int .i64 (dieI m b r s)) ∧ ∃ k, w' = w.drewN k := by
  unfold dieI
  by_cases h : parityI m b r < 0
  · rw [if_pos h]
    go_enter Try.func27, Try.ntmps27
    go_wp2_with fail
    refine (parity_any _ _ _ _).mono ?_
    rintro e w' ⟨rfl, k, rfl⟩
    go_wp2_with fail
    go_ret
    exact ⟨rfl, _, rfl⟩
  · rw [if_neg h]
    go_enter Try.func27, Try.ntmps27
    go_wp2_with fail
    refine (parity_any _ _ _ _).mono ?_
    rintro e w' ⟨rfl, k, rfl⟩
    go_wp2_with fail
    refine (without_any _ _ _).mono ?_
    rintro e w' ⟨rfl, rfl⟩
    go_wp2_with fail
    refine (at_any _ _ _ h1 h2).mono ?_
    rintro e w' ⟨rfl, rfl⟩
    go_wp2_with fail
    go_ret
    exact ⟨rfl, _, rfl⟩
theorem slot_any (m b r d : Int) (w : World) : Calls Try.prog 29 #[.int .i64 m, .int .i64 b, .int .i64 r, .int .i64 d] w fun e w' => e = .returned (.int .i64 (slotI m b r d)) ∧ ∃ k, w' = w.drewN k := by
  unfold slotI
  by_cases h : parityI m b r < 0
  · rw [if_pos h]
    go_enter Try.func29, Try.ntmps29
    go_wp2_with fail
    refine (parity_any _ _ _ _).mono ?_
    rintro e w' ⟨rfl, k, rfl⟩
    go_wp2_with fail
    go_ret
    exact ⟨rfl, _, rfl⟩
  · rw [if_neg h]
    go_enter Try.func29, Try.ntmps29
    go_wp2_with fail
    refine (parity_any _ _ _ _).mono ?_
    rintro e w' ⟨rfl, k, rfl⟩
    go_wp2_with fail
    refine (without_any _ _ _).mono ?_
    rintro e w' ⟨rfl, rfl⟩
    go_wp2_with fail
    refine (spot_any _ _ _).mono ?_
    rintro e w' ⟨rfl, rfl⟩
    go_wp2_with fail
    go_ret
    exact ⟨rfl, _, rfl⟩
end Go.Proofs.Ytakekjbbbjmdpaa
