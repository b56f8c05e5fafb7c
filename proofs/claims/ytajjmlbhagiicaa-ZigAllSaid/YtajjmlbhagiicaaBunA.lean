import Derived.Test.YtajjmlbhagiicaaKoop
import Derived.RegionTactic
import Derived.ChangeAlike
import Derived.BigRegion
/- What a claim's proof leans on: RefStep, RefMore. -/
/- The contract of the reference's step of a sum. -/
namespace Go.Proofs.Ytajjmlbhagiicaa
open Go.RowKit

end Go.Proofs.Ytajjmlbhagiicaa
/- The contracts of the reference's sum, narrowing and turning. -/
namespace Go.Proofs.Ytajjmlbhagiicaa
open Go.RowKit

theorem refnarrow_nat (n : Int) (K : Nat) (w : World) (hK : 1 ≤ K) (hK2 : K ≤ 64) : Calls Try.prog 5 #[.int .i64 n, .int .i64 (K : Int)] w fun e w' => e = .returned (.int .i64 (Int.bmod n (2 ^ K))) ∧ Below w.heap.size w w' := by
  obtain ⟨J, hJ⟩ : ∃ J : Nat, J + K = 64 := ⟨64 - K, by omega⟩
  have eJ : (64 : Int) - (K : Int) = (J : Int) := by omega
  have hu : IntKind.u64.wrap n = n % 18446744073709551616 := IntKind.wrap_u64 n
  have hu0 : 0 ≤ IntKind.u64.wrap n := by rw [hu]; omega
  have hu1 : IntKind.u64.wrap n < 18446744073709551616 := by rw [hu]; omega
  have HF := Lib.hid (nT_final n K (by omega) (by omega))
  have HU := Lib.hid hu
  have d1 : decide ((K : Int) < 1) = false := by simp; omega
  have d2 : decide (64 < (K : Int)) = false := by simp; omega
  clear hu
  go_enter Try.func5, Try.ntmps5
  go_wp2_with (go_at_call 18; go_must (refine (bits_any _ _ _ hu0 hu1 (by omega) (by omega)).mono ?_; rw [HU.out]; rintro e w1 ⟨v1, rfl, hown0, hb1⟩; have hown1 : w1.ownsRow w.heap.size 4 1 v1 64 (bools (bitsL (n % 18446744073709551616).toNat 64)) := hown0; clear hown0; obtain ⟨g1, c1, rfl, g1a, g1b, g1c, g1d⟩ := own_form hown1 (by omega); have hJc : J < c1 := (by omega); have hJc2 : ¬ c1 = J := (by omega); unfold maxLen at g1d))
  rw [show 64 - J = K by omega]
  have hL := bitsL_length (n % 18446744073709551616).toNat K
  have hcell : ∀ k (h : k < (bitsL (n % 18446744073709551616).toNat K).length), w1.cell? ⟨g1, J + k, none⟩ = some (.bool (bitsL (n % 18446744073709551616).toNat K)[k]) := by
    intro k h
    have e := bitsL_get (n % 18446744073709551616).toNat K k (by omega)
    rw [List.getElem?_eq_getElem h] at e
    rw [hown1.cellAt (J + k) (by omega), bools, List.getElem?_map, bitsL_get _ _ _ (by omega), show 64 - 1 - (J + k) = K - 1 - k by omega]
    injection e with e
    rw [e]; rfl
  have HC := Lib.hid hcell
  clear hown1 hcell eJ hu0 hu1 HU
  generalize bitsL (n % 18446744073709551616).toNat K = L at *
  go_loop [6, 7] (fun a i => ∃ k : Nat, k ≤ K ∧ i = .int .i64 k ∧ a = .int .i64 (nT L k)) (fun _ i => K - (intOf i).toNat)
  case atStart => exact ⟨0, by omega, rfl, by rw [nT_zero]⟩
  case round =>
    obtain ⟨k, hk, rfl, rfl⟩ := hrel
    by_cases hlt : k < K
    · have hc := HC.out k (by omega)
      have hkl : (k : Int) < (K : Int) := by omega
      by_cases h0 : k = 0
      · subst h0
        have HS := Lib.hid (nT_one L (by omega))
        have e0 := nT_zero L
        generalize L[0]'(by omega) = x at hc HS
        simp only [Nat.add_zero] at hc
        cases x
        · go_wp2
          go_round
          case rel => exact ⟨0 + 1, by omega, by go_num, by rw [HS.out]; rfl⟩
          case measure => simp [intOf]; omega
        · go_wp2
          go_round
          case rel => exact ⟨0 + 1, by omega, by go_num, by rw [HS.out]; rfl⟩
          case measure => simp [intOf]; omega
      · have HS := Lib.hid (nT_succ L k (by omega) (by omega))
        have hb := nT_small L k (by omega) (by omega) (by omega)
        obtain ⟨hb1, hb2⟩ := hb
        have hk0 : 0 < (k : Int) := by omega
        generalize L[k]'(by omega) = x at hc HS
        cases x
        · go_wp2
          go_round
          case rel => exact ⟨k + 1, by omega, by go_num, by rw [HS.out]; simp⟩
          case measure => simp [intOf]; omega
        · go_wp2
          go_round
          case rel => exact ⟨k + 1, by omega, by go_num, by rw [HS.out]; rfl⟩
          case measure => simp [intOf]; omega
    · obtain rfl : k = K := by omega
      rw [HF.out]
      go_wp2
      go_ret
      exact ⟨rfl, hb1⟩
theorem refnarrow_any (n k : Int) (w : World) : Calls Try.prog 5 #[.int .i64 n, .int .i64 k] w fun e w' => e = .returned (.int .i64 (narrowI n k)) ∧ Below w.heap.size w w' := by
  by_cases hk1 : k < 1
  · have H := Lib.hid (show narrowI n k = 0 by simp [narrowI, hk1])
    go_enter Try.func5, Try.ntmps5
    go_wp2
    go_ret
    exact ⟨by rw [H.out]; rfl, Below.refl _ _⟩
  · by_cases hk2 : 64 < k
    · have H := Lib.hid (show narrowI n k = 0 by simp [narrowI, hk2])
      go_enter Try.func5, Try.ntmps5
      go_wp2
      go_ret
      exact ⟨by rw [H.out]; rfl, Below.refl _ _⟩
    · obtain ⟨K, rfl⟩ := Int.eq_ofNat_of_zero_le (show 0 ≤ k by omega)
      have e : narrowI n (K : Int) = Int.bmod n (2 ^ K) := by rw [narrowI, if_neg (by omega)]; rfl
      rw [e]
      exact refnarrow_nat n K w (by omega) (by omega)
end Go.Proofs.Ytajjmlbhagiicaa
