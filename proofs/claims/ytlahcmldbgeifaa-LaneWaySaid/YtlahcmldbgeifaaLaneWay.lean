import Derived.Test.YtlahcmldbgeifaaBegun
/- LaneWay: by places through a set, and back; no condition. -/
namespace Go.Proofs.Ytlahcmldbgeifaa.laneWay
open Go.RowKit
set_option linter.unusedVariables false
/-- What the round's tests come to, at each set and place. -/
def roundOk (m i : Nat) : Bool :=
  let d := atI m i
  (!decide (d < 0)) && (spotI m d == (i : Int)) && hasB m d && (!hasB (withoutI m d) d) && (withI (withoutI m d) d == (m : Int))
theorem rounds_ok : ∀ m : Fin 256, ∀ i : Fin 9, i.val < cnt m.val 8 → roundOk m.val i.val = true := by decide +kernel
/-- The set of the first dies. -/
def setTo (m : Nat) : Nat → Int
  | 0 => 0
  | i + 1 => withI (setTo m i) (atI m i)
theorem set_all : ∀ m : Fin 256, setTo m.val (cnt m.val 8) = (m.val : Int) := by decide +kernel
theorem set_in : ∀ m : Fin 256, ∀ i : Fin 9, 0 ≤ setTo m.val i.val ∧ setTo m.val i.val < 256 := by decide +kernel
theorem walk (m : Int) (w : World) (_w0 : (Lit.int .i64 m).wf = true) :
    Calls Try.prog 19 #[.int .i64 m] w fun e w' => e = .returned (.bool true) ∧ Below w.heap.size w w' := by
  obtain ⟨M, hM⟩ := Int.eq_ofNat_of_zero_le (show 0 ≤ m % 256 by omega)
  have hM2 : M < 256 := by omega
  have e1 : bits .and .i64 m 255 = (M : Int) := by rw [and255, hM]
  have HC := Lib.hid (show countI (M : Int) = (cnt M 8 : Int) by rw [countI, setB_of (by omega) (by omega)]; rfl)
  have hc := cnt_le M 8
  clear hM
  go_enter Try.func19, Try.ntmps19
  go_wp2_with fail
  refine (begun_any _).mono ?_
  rintro e w1 ⟨rfl, hb1⟩
  go_wp2_with fail
  go_loop [4, 5, 6] (fun n i _ => ∃ k : Nat, k ≤ cnt M 8 ∧ i = .int .i64 k ∧ n = .int .i64 (setTo M k)) (fun _ i _ => 9 - (intOf i).toNat)
  case atStart => exact ⟨0, by omega, rfl, rfl⟩
  case round =>
    obtain ⟨k, hk, rfl, rfl⟩ := hrel
    by_cases hlt : k < cnt M 8
    · have R := rounds_ok ⟨M, hM2⟩ ⟨k, by omega⟩ hlt
      have HS : Hid (setTo M (k + 1) = withI (setTo M k) (atI M k)) := rfl
      have hkl : (k : Int) < ((cnt M 8 : Nat) : Int) := by omega
      have hk8 : (k : Int) ≤ 8 := by omega
      simp only [roundOk, Bool.and_eq_true] at R
      obtain ⟨⟨⟨⟨R1, R2⟩, R3⟩, R4⟩, R5⟩ := R
      obtain ⟨D, hD⟩ : ∃ D, D = atI (M : Int) (k : Int) := ⟨_, rfl⟩
      rw [← hD] at R1 R2 R3 R4 R5 HS
      have HD := Lib.hid hD.symm
      clear hD
      have T1 : decide (D < 0) = false := by simpa using R1
      have T2 := Lib.hid (show spotI (M : Int) D = k by simpa using R2)
      have T3 := Lib.hid R3
      have T4 := Lib.hid (show hasB (withoutI M D) D = false by simpa using R4)
      have T5 := Lib.hid (show withI (withoutI M D) D = (M : Int) by simpa using R5)
      clear R1 R2 R3 R4 R5
      generalize setTo M k = s at *
      generalize hcm : cnt M 8 = q at *
      clear hcm
      go_wp2_with fail
      refine (count_any _ _).mono ?_
      rw [HC.out]; rintro e w' ⟨rfl, rfl⟩
      go_wp2_with fail
      refine (at_any _ _ _ (by omega) (by omega)).mono ?_
      rw [HD.out]; rintro e w' ⟨rfl, rfl⟩
      go_wp2_with fail
      refine (spot_any _ _ _).mono ?_
      rw [T2.out]; rintro e w' ⟨rfl, rfl⟩
      go_wp2_with fail
      refine (has_any _ _ _).mono ?_
      rw [T3.out]; rintro e w' ⟨rfl, rfl⟩
      go_wp2_with fail
      refine (without_any _ _ _).mono ?_
      rintro e w' ⟨rfl, rfl⟩
      go_wp2_with fail
      refine (has_any _ _ _).mono ?_
      rw [T4.out]; rintro e w' ⟨rfl, rfl⟩
      go_wp2_with fail
      refine (without_any _ _ _).mono ?_
      rintro e w' ⟨rfl, rfl⟩
      go_wp2_with fail
      refine (with_any _ _ _).mono ?_
      rw [T5.out]; rintro e w' ⟨rfl, rfl⟩
      go_wp2_with fail
      refine (with_any _ _ _).mono ?_
      rintro e w' ⟨rfl, rfl⟩
      go_wp2_with fail
      go_round
      case rel => exact ⟨k + 1, by omega, by go_num, by rw [HS.out]⟩
      case measure => simp [intOf]; omega
    · obtain rfl : k = cnt M 8 := by omega
      have HS := Lib.hid (set_all ⟨M, hM2⟩)
      simp only at HS
      rw [HS.out]
      generalize hcm : cnt M 8 = q at *
      clear hcm HS
      go_wp2_with fail
      refine (count_any _ _).mono ?_
      rw [HC.out]; rintro e w' ⟨rfl, rfl⟩
      go_wp2_with fail
      go_ret
      exact ⟨rfl, hb1⟩
end Go.Proofs.Ytlahcmldbgeifaa.laneWay
