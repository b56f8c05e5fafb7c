import Derived.Test.YtlahcmldbgeifaaBegun
/- KoopZero: noughts by parts; of nought nothing comes; no condition. -/
namespace Go.Proofs.Ytlahcmldbgeifaa.koopZero
open Go.RowKit
set_option linter.unusedVariables false
theorem kzero_add (s m n : Nat) : kzero (kzero s m) n = kzero s (m + n) := by
  induction n with
  | zero => rfl
  | succ n ih => rw [← Nat.add_assoc]; simp only [kzero, ih]
theorem kstep_nought : kstep 0 0 = 0 := by decide +kernel
theorem kzero_nought (n : Nat) : kzero 0 n = 0 := by
  induction n with
  | zero => rfl
  | succ n ih => simp only [kzero, ih, kstep_nought]
set_option maxRecDepth 100000 in
theorem walk (s m n : Int) (w : World) (w0 : (Lit.int .u32 s).wf = true) (w1 : (Lit.int .i64 m).wf = true) (w2 : (Lit.int .i64 n).wf = true) :
    Calls Try.prog 17 #[.int .u32 s, .int .i64 m, .int .i64 n] w fun e w' => e = .returned (.bool true) ∧ Below w.heap.size w w' := by
  obtain ⟨s0, s1⟩ := wf_u32 w0
  clear w0 w1 w2
  by_cases h : m < 0 ∨ 300 < m ∨ n < 0 ∨ 300 < n
  · go_enter Try.func17, Try.ntmps17
    go_wp2_with fail
    refine (begun_any _).mono ?_
    rintro e w1 ⟨rfl, hb1⟩
    rcases h with h | h | h | h
    all_goals
      go_wp2_with fail
      all_goals go_ret
      all_goals exact ⟨rfl, hb1⟩
  · obtain ⟨S, rfl⟩ := Int.eq_ofNat_of_zero_le s0
    obtain ⟨M, rfl⟩ := Int.eq_ofNat_of_zero_le (show 0 ≤ m by omega)
    obtain ⟨N, rfl⟩ := Int.eq_ofNat_of_zero_le (show 0 ≤ n by omega)
    have hM : (M : Int) ≤ 300 := by omega
    have hN : (N : Int) ≤ 300 := by omega
    have kI : ∀ a b : Nat, b ≤ 1000 → kzeroI (a : Int) (b : Int) = (kzero a b : Int) := by
      intro a b hb
      rw [kzeroI, if_neg (by omega)]; rfl
    have e1 := Lib.hid (kI S M (by omega))
    have e2 := Lib.hid (kI (kzero S M) N (by omega))
    have e3 : Hid (kzeroI (S : Int) ((M : Int) + (N : Int)) = (kzero S (M + N) : Int)) := kI S (M + N) (by omega)
    have e4 : Hid (kzeroI 0 (N : Int) = 0) := by
      have := kI 0 N (by omega)
      rw [kzero_nought] at this
      exact this
    have e5 : Hid (kzeroI (S : Int) 0 = (S : Int)) := kI S 0 (by omega)
    have e6 : Hid (kzeroI (S : Int) 1 = (kstep S 0 : Int)) := kI S 1 (by omega)
    have b1 := kzero_lt S M (by omega)
    have b2 : ((kzero S M : Nat) : Int) < 4294967296 := by omega
    have HA := kzero_add S M N
    have e7 : Hid (((kstep (Int.toNat (S : Int)) (Int.toNat 0) : Nat) : Int) = (kstep S 0 : Int)) := rfl
    clear kI h
    generalize kzero S M = K1 at *
    rw [HA] at e2
    clear HA
    generalize kzero S (M + N) = K2 at *
    generalize kstep S 0 = K3 at *
    have B1 := Lib.hid b1
    have B2 := Lib.hid b2
    clear b1 b2
    have d1 : decide ((M : Int) < 0) = false := by simp
    have d2 : decide (300 < (M : Int)) = false := by simp; omega
    have d3 : decide ((N : Int) < 0) = false := by simp
    have d4 : decide (300 < (N : Int)) = false := by simp; omega
    go_enter Try.func17, Try.ntmps17
    go_wp2_with fail
    refine (begun_any _).mono ?_
    rintro e w1 ⟨rfl, hb1⟩
    go_wp2_with fail
    refine (kzero_any _ _ _ (by omega) (by omega)).mono ?_
    rw [e1.out]; rintro e w' ⟨rfl, rfl⟩
    go_wp2_with fail
    refine (kzero_any _ _ _ (by omega) B2.out).mono ?_
    rw [e2.out]; rintro e w' ⟨rfl, rfl⟩
    go_wp2_with fail
    refine (kzero_any _ _ _ (by omega) (by omega)).mono ?_
    rw [e3.out]; rintro e w' ⟨rfl, rfl⟩
    go_wp2_with fail
    refine (kzero_any _ _ _ (by omega) (by omega)).mono ?_
    rw [e4.out]; rintro e w' ⟨rfl, rfl⟩
    go_wp2_with fail
    refine (kzero_any _ _ _ (by omega) (by omega)).mono ?_
    rw [e5.out]; rintro e w' ⟨rfl, rfl⟩
    go_wp2_with fail
    refine (kzero_any _ _ _ (by omega) (by omega)).mono ?_
    rw [e6.out]; rintro e w' ⟨rfl, rfl⟩
    go_wp2_with fail
    refine (kstep_any _ _ _ (by omega) (by omega) (by omega) (by omega)).mono ?_
    rw [e7.out]; rintro e w' ⟨rfl, rfl⟩
    go_wp2_with fail
    go_ret
    exact ⟨rfl, hb1⟩
end Go.Proofs.Ytlahcmldbgeifaa.koopZero
