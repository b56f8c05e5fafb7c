import Derived.Test.YtlahcmldbgeifaaBegun
/- ZigNarrow: what fits stays as it is; one bit more is enough, one fewer is not; no condition. -/
namespace Go.Proofs.Ytlahcmldbgeifaa.zigNarrow
open Go.RowKit
set_option linter.unusedVariables false
theorem bmod_range (n : Int) (K : Nat) (h : 1 ≤ K) : -((2 ^ (K - 1) : Nat) : Int) ≤ Int.bmod n (2 ^ K) ∧ Int.bmod n (2 ^ K) < ((2 ^ (K - 1) : Nat) : Int) := by
  have hK : (2 : Nat) ^ K = 2 * 2 ^ (K - 1) := by rw [← Nat.pow_succ']; congr 1; omega
  have hp := Nat.two_pow_pos (K - 1)
  have h1 := Int.le_bmod (x := n) (m := 2 ^ K) (by omega)
  have h2 := Int.bmod_lt (x := n) (m := 2 ^ K) (by omega)
  rw [hK] at h1 h2 ⊢
  omega
theorem bmod_id (m : Int) (K : Nat) (h : 1 ≤ K) (h1 : -((2 ^ (K - 1) : Nat) : Int) ≤ m) (h2 : m < ((2 ^ (K - 1) : Nat) : Int)) : Int.bmod m (2 ^ K) = m := by
  have hK : (2 : Nat) ^ K = 2 * 2 ^ (K - 1) := by rw [← Nat.pow_succ']; congr 1; omega
  rw [hK]
  exact Int.bmod_eq_of_le (by omega) (by omega)
theorem nar (n : Int) (K : Nat) (h1 : 1 ≤ K) (h2 : K ≤ 64) : narrowI n (K : Int) = Int.bmod n (2 ^ K) := by rw [narrowI, if_neg (by omega)]; rfl
theorem nar_nar (n : Int) (K : Nat) (h1 : 1 ≤ K) (h2 : K ≤ 64) : narrowI (narrowI n K) K = narrowI n K := by
  have := bmod_range n K h1
  rw [nar n K h1 h2, nar _ K h1 h2]
  exact bmod_id _ K h1 this.1 this.2
theorem nar_more (n : Int) (K : Nat) (h1 : 1 ≤ K) (h2 : K < 64) : narrowI (narrowI n K) ((K : Int) + 1) = narrowI n K := by
  have := bmod_range n K h1
  have hp := Nat.two_pow_pos (K - 1)
  have hK : (2 : Nat) ^ K = 2 * 2 ^ (K - 1) := by rw [← Nat.pow_succ']; congr 1; omega
  have e := nar (narrowI n K) (K + 1) (by omega) (by omega)
  rw [show (((K + 1 : Nat)) : Int) = (K : Int) + 1 by omega] at e
  rw [e, nar n K h1 (by omega)]
  exact bmod_id _ (K + 1) (by omega) (by rw [show K + 1 - 1 = K by omega]; omega) (by rw [show K + 1 - 1 = K by omega]; omega)
theorem pow_small (K : Nat) (h1 : 1 ≤ K) (h2 : K < 64) : wrap64 (2 ^ (K - 1)) = ((2 ^ (K - 1) : Nat) : Int) ∧ wrap64 (-(2 ^ (K - 1))) = -((2 ^ (K - 1) : Nat) : Int) := by
  have hle : (2 : Nat) ^ (K - 1) ≤ 4611686018427387904 := Nat.le_trans (Nat.pow_le_pow_right (by omega) (show K - 1 ≤ 62 by omega)) (by decide)
  have e : (2 : Int) ^ (K - 1) = ((2 ^ (K - 1) : Nat) : Int) := by rw [Int.natCast_pow]; rfl
  rw [e]
  generalize 2 ^ (K - 1) = q at *
  unfold wrap64; omega
theorem nar_pow (K : Nat) (h1 : 1 ≤ K) (h2 : K < 64) : narrowI ((2 ^ (K - 1) : Nat) : Int) K = -((2 ^ (K - 1) : Nat) : Int) := by
  have hK : (2 : Nat) ^ K = 2 * 2 ^ (K - 1) := by rw [← Nat.pow_succ']; congr 1; omega
  have hp := Nat.two_pow_pos (K - 1)
  rw [nar _ K h1 (by omega), Int.bmod_def, hK, Int.emod_eq_of_lt (by omega) (by omega), if_neg (by omega)]
  omega
theorem walk (n k : Int) (w : World) (w0 : (Lit.int .i64 n).wf = true) (w1 : (Lit.int .i64 k).wf = true) :
    Calls Try.prog 14 #[.int .i64 n, .int .i64 k] w fun e w' => e = .returned (.bool true) ∧ Below w.heap.size w w' := by
  clear w0 w1
  by_cases hk : k < 1 ∨ 64 < k
  · have e1 := Lib.hid (show narrowI n k = 0 by rw [narrowI, if_pos hk])
    have e2 : Hid ((narrowI n k == n) = (n == 0)) := by
      rw [e1.out]
      exact Bool.beq_comm
    go_enter Try.func14, Try.ntmps14
    go_wp2_with fail
    refine (begun_any _).mono ?_
    rintro e w1 ⟨rfl, hb1⟩
    rcases hk with hk | hk
    all_goals
      go_wp2_with fail
      refine (narrow_any _ _ _).mono ?_
      rw [e1.out]; rintro e w' ⟨rfl, rfl⟩
      go_wp2_with fail
      refine (fit_any _ _ _).mono ?_
      rw [e2.out]; rintro e w' ⟨rfl, rfl⟩
      go_wp2_with fail
      go_ret
      exact ⟨rfl, hb1⟩
  · obtain ⟨K, rfl⟩ := Int.eq_ofNat_of_zero_le (show 0 ≤ k by omega)
    have hK1 : 1 ≤ K := by omega
    have hK2 : K ≤ 64 := by omega
    have b1 : 1 ≤ (K : Int) := by omega
    have b2 : (K : Int) ≤ 64 := by omega
    have e1 := Lib.hid (nar_nar n K hK1 hK2)
    by_cases h64 : K = 64
    · have t64 : ((K : Int) == 64) = true := by simp; omega
      clear hk h64
      generalize hm : narrowI n (K : Int) = m at *
      have HM := Lib.hid hm
      clear hm
      go_enter Try.func14, Try.ntmps14
      go_wp2_with fail
      refine (begun_any _).mono ?_
      rintro e w1 ⟨rfl, hb1⟩
      go_wp2_with fail
      refine (narrow_any _ _ _).mono ?_
      rw [HM.out]; rintro e w' ⟨rfl, rfl⟩
      go_wp2_with fail
      refine (narrow_any _ _ _).mono ?_
      rw [e1.out]; rintro e w' ⟨rfl, rfl⟩
      go_wp2_with fail
      refine (fit_any _ _ _).mono ?_
      rw [e1.out]; rintro e w' ⟨rfl, rfl⟩
      go_wp2_with fail
      go_ret
      exact ⟨rfl, hb1⟩
    · have t64 : ((K : Int) == 64) = false := by simp; omega
      have e2 := Lib.hid (nar_more n K hK1 (by omega))
      have e3 := Lib.hid (pow_small K hK1 (by omega))
      have e4 := Lib.hid (nar_pow K hK1 (by omega))
      have b3 : (K : Int) < 64 := by omega
      have hpos : 0 < ((2 ^ (K - 1) : Nat) : Int) := by have := Nat.two_pow_pos (K - 1); omega
      obtain ⟨p1, p2⟩ := e3.out
      have E4 := e4.out
      clear e3 e4
      generalize ((2 ^ (K - 1) : Nat) : Int) = P at *
      have e4 := Lib.hid E4
      have e5 : Hid ((narrowI P (K : Int) == P) = false) := by
        show _ = _
        rw [E4]; simp; omega
      clear E4
      clear hk h64 hpos
      generalize hm : narrowI n (K : Int) = m at *
      have HM := Lib.hid hm
      clear hm
      go_enter Try.func14, Try.ntmps14
      go_wp2_with fail
      refine (begun_any _).mono ?_
      rintro e w1 ⟨rfl, hb1⟩
      go_wp2_with fail
      refine (narrow_any _ _ _).mono ?_
      rw [HM.out]; rintro e w' ⟨rfl, rfl⟩
      go_wp2_with fail
      refine (narrow_any _ _ _).mono ?_
      rw [e1.out]; rintro e w' ⟨rfl, rfl⟩
      go_wp2_with fail
      refine (fit_any _ _ _).mono ?_
      rw [e1.out]; rintro e w' ⟨rfl, rfl⟩
      go_wp2_with fail
      refine (fit_any _ _ _).mono ?_
      rw [e2.out]; rintro e w' ⟨rfl, rfl⟩
      go_wp2_with fail
      refine (narrow_any _ _ _).mono ?_
      rw [p1, e4.out]; rintro e w' ⟨rfl, rfl⟩
      go_wp2_with fail
      refine (fit_any _ _ _).mono ?_
      rw [e5.out]; rintro e w' ⟨rfl, rfl⟩
      go_wp2_with fail
      go_ret
      exact ⟨rfl, hb1⟩
end Go.Proofs.Ytlahcmldbgeifaa.zigNarrow
