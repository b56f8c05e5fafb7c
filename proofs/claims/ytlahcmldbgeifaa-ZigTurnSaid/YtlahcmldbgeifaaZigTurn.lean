import Derived.Test.YtlahcmldbgeifaaBegun
import Derived.Test.YtlahcmldbgeifaaPlainTurn
/- ZigTurn: by thirty-two it is as it was; no bit is lost; no condition. -/
namespace Go.Proofs.Ytlahcmldbgeifaa.zigTurn
open Go.RowKit
set_option linter.unusedVariables false
theorem tmod1000 (b : Int) : -1000 < b.tmod 1000 ∧ b.tmod 1000 < 1000 ∧ True := by
  have h1 := Int.lt_tmod_of_pos b (show (0 : Int) < 1000 by decide)
  have h2 := Int.tmod_lt_of_pos b (show (0 : Int) < 1000 by decide)
  exact ⟨by omega, by omega, trivial⟩
theorem walk (u b : Int) (w : World) (w0 : (Lit.int .u32 u).wf = true) (w1 : (Lit.int .i64 b).wf = true) :
    Calls Try.prog 10 #[.int .u32 u, .int .i64 b] w fun e w' => e = .returned (.bool true) ∧ Below w.heap.size w w' := by
  obtain ⟨u0, u1⟩ := wf_u32 w0
  obtain ⟨U, rfl⟩ := Int.eq_ofNat_of_zero_le u0
  have hU : U < 4294967296 := by omega
  have HU := Lib.hid hU
  clear w0 w1 u0 u1
  obtain ⟨A, hA⟩ : ∃ A, A = turnN U (b % 32).toNat := ⟨_, rfl⟩
  have hAl : A < 4294967296 := by rw [hA]; exact turnN_lt _ _ (by omega)
  have HA := Lib.hid (show turnI (U : Int) b = (A : Int) by rw [hA]; exact turnI_N U b hU)
  have HAl := Lib.hid hAl
  have HC := Lib.hid (show cnt A 32 = cnt U 32 by rw [hA]; exact cnt_turn U _ (by omega))
  clear hU hA hAl
  go_enter Try.func10, Try.ntmps10
  go_wp2_with fail
  refine (begun_any _).mono ?_
  rintro e w1 ⟨rfl, hb1⟩
  go_wp2_with fail
  refine (turn_any _ _ _ (by omega) (by have := HU.out; omega)).mono ?_
  rw [HA.out]; rintro e w' ⟨rfl, n1, rfl⟩
  go_wp2_with fail
  go_loop [7, 8] (fun s i => ∃ k : Nat, k ≤ 32 ∧ i = .int .i64 k ∧ s = .int .i64 ((cnt A k : Int) - (cnt U k : Int))) (fun _ i => 32 - (intOf i).toNat)
  case atStart => exact ⟨0, by omega, rfl, rfl⟩
  case round =>
    obtain ⟨k, hk, rfl, rfl⟩ := hrel
    by_cases hlt : k < 32
    · have hkl : (k : Int) < 32 := by omega
      have c1 := cnt_le A k
      have c2 := cnt_le U k
      have s1 : cnt A (k + 1) = cnt A k + (A.testBit k).toNat := by rw [cnt_succ]; cases A.testBit k <;> rfl
      have s2 : cnt U (k + 1) = cnt U k + (U.testBit k).toNat := by rw [cnt_succ]; cases U.testBit k <;> rfl
      have e1 := u32_bit A k HAl.out
      have e2 := u32_bit U k HU.out
      have x1 : (A.testBit k).toNat ≤ 1 := by cases A.testBit k <;> simp
      have x2 : (U.testBit k).toNat ≤ 1 := by cases U.testBit k <;> simp
      generalize (A.testBit k).toNat = x at *
      generalize (U.testBit k).toNat = y at *
      have S1 := Lib.hid s1
      have S2 := Lib.hid s2
      clear s1 s2
      generalize cnt A k = p at *
      generalize cnt U k = q at *
      go_wp2
      go_round
      case rel => exact ⟨k + 1, by omega, by go_num, by rw [S1.out, S2.out]; go_num⟩
      case measure => simp [intOf]; omega
    · obtain rfl : k = 32 := by omega
      rw [HC.out, show ((cnt U 32 : Nat) : Int) - ((cnt U 32 : Nat) : Int) = 0 by omega, show ((32 : Nat) : Int) = 32 from rfl]
      have t1 : Hid (turnI (A : Int) 32 = A) := turn_nought _ _ (by omega) (by have := HAl.out; omega) (by decide)
      have hb := tmod1000 b
      obtain ⟨hb1', hb2', hb3⟩ := hb
      obtain ⟨B, hB⟩ : ∃ B, turnI (U : Int) (b.tmod 1000) = B := ⟨_, rfl⟩
      have HB := Lib.hid hB
      have hBd := turnI_bd U (b.tmod 1000) HU.out
      have t3 : Hid (turnI B (-(b.tmod 1000)) = (U : Int)) := by
        show _ = _
        rw [← hB, turn_turn U _ _ HU.out]
        exact turn_nought _ _ (by omega) (by have := HU.out; omega) (by omega)
      rw [hB] at hBd
      have HBd := Lib.hid hBd
      clear hBd hB
      go_wp2_with fail
      refine (turn_any _ _ _ (by omega) (by have := HAl.out; omega)).mono ?_
      rw [t1.out]; rintro e w' ⟨rfl, n2, rfl⟩
      go_wp2_with fail
      refine (turn_any _ _ _ (by omega) (by have := HU.out; omega)).mono ?_
      rw [HB.out]; rintro e w' ⟨rfl, n3, rfl⟩
      go_wp2_with fail
      refine (turn_any _ _ _ HBd.out.1 HBd.out.2).mono ?_
      rw [t3.out]; rintro e w' ⟨rfl, n4, rfl⟩
      go_wp2_with fail
      go_ret
      exact ⟨rfl, below_drewN hb1 _⟩
end Go.Proofs.Ytlahcmldbgeifaa.zigTurn
