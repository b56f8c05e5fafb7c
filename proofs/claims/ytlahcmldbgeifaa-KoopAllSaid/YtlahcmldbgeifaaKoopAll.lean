import Derived.Test.YtlahcmldbgeifaaBegun
import Derived.Test.YtlahcmldbgeifaaRefMore
/- KoopAll: sums of any bytes, by steps; noughts behind; no condition. -/
namespace Go.Proofs.Ytlahcmldbgeifaa.koopAll
open Go.RowKit
set_option linter.unusedVariables false
theorem walk (A : Option Addr) (n c : Nat) (z : List Int) (s x m : Int) (w : World) (w0 : IsRow .u8 w A n c z) (w1 : (Lit.int .u32 s).wf = true) (w2 : (Lit.int .u8 x).wf = true) (w3 : (Lit.int .i64 m).wf = true) :
    Calls Try.prog 16 #[.slice A n c, .int .u32 s, .int .u8 x, .int .i64 m] w fun e w' => e = .returned (.bool true) ∧ Below w.heap.size w w' := by
  obtain ⟨hr, hnc, hcm, hlen, hwf⟩ := w0.rd
  rw [ints_nats fun k hk => (wf_u8 (hwf k hk)).1] at hr
  have hb : ∀ k ∈ (z.take n).map Int.toNat, k < 256 := by
    intro k hk
    obtain ⟨j, hj, rfl⟩ := List.mem_map.1 hk
    have := wf_u8 (hwf j hj)
    omega
  generalize (z.take n).map Int.toNat = l at hr hb
  obtain ⟨s0, s1⟩ := wf_u32 w1
  obtain ⟨x0, x1⟩ := wf_u8 w2
  have HS := Lib.hid (And.intro s0 s1)
  have HX := Lib.hid (And.intro x0 x1)
  clear hwf hlen w0 w1 w2 w3 s0 s1 x0 x1
  have hb80 : ∀ k ∈ l.take 80, k < 256 := fun k hk => hb k (List.mem_of_mem_take hk)
  have hll : l.length = n := by have := hr.1; rwa [nats_length] at this
  obtain ⟨Q, hQ⟩ : ∃ Q, kof (l.take 80) = Q := ⟨_, rfl⟩
  have HQ := Lib.hid hQ
  obtain ⟨T, hT⟩ : ∃ T, kstep s.toNat x.toNat = T := ⟨_, rfl⟩
  have HT := Lib.hid hT
  clear hQ hT
  go_enter Try.func16, Try.ntmps16
  go_wp2_with fail
  refine (begun_any _).mono ?_
  rintro e w1 ⟨rfl, hb1⟩
  have hr1 := hr.below hb1 (Nat.le_refl _)
  go_wp2_with fail
  refine (short_any A n c _ l 80 _ hr1 hnc hcm (by omega) (by omega)).mono ?_
  rintro e w2 ⟨v, rfl, hown, hb2⟩
  have hb3 := below_then hb1 hb2
  obtain ⟨A', c', rfl, hc1, hc2⟩ := own_slice hown
  have hr2 := Rd.of_own hown
  clear hr hr1 hown hnc hcm
  generalize min n (Int.toNat 80) = q at *
  go_wp2_with fail
  refine (kof_any A' q c' _ _ _ hr2 hb80 (by omega)).mono ?_
  rw [show (80 : Int).toNat = 80 from rfl, HQ.out]; rintro e w' ⟨rfl, rfl⟩
  go_wp2_with fail
  refine (refsum_any A' q c' _ _ _ hr2 (Nat.le_refl _) hb80 (by omega)).mono ?_
  rw [show (80 : Int).toNat = 80 from rfl, HQ.out]; rintro e w3 ⟨rfl, hb4⟩
  have hb5 := below_then hb3 hb4
  go_wp2_with fail
  refine (kstep_any _ _ _ HS.out.1 HS.out.2 HX.out.1 HX.out.2).mono ?_
  rw [HT.out]; rintro e w' ⟨rfl, rfl⟩
  go_wp2_with fail
  refine (refstep_any _ _ _ HS.out.1 HS.out.2 HX.out.1 HX.out.2).mono ?_
  rw [HT.out]; rintro e w4 ⟨rfl, hb6⟩
  have hb7 := below_then hb5 hb6
  clear hb80 hr2 hb1 hb2 hb3 hb4 hb5 hb6 hb hc1 hc2
  by_cases hm : m < 0 ∨ 1048576 < m
  · have K := Lib.hid (show kzeroI s m = 0 by rw [kzeroI, if_pos hm])
    rcases hm with hm | hm
    all_goals
      go_wp2_with fail
      refine (kzero_any _ _ _ HS.out.1 HS.out.2).mono ?_
      rw [K.out]; rintro e w' ⟨rfl, rfl⟩
      go_wp2_with fail
      go_ret
      exact ⟨rfl, hb7⟩
  · obtain ⟨M, rfl⟩ := Int.eq_ofNat_of_zero_le (show 0 ≤ m by omega)
    have hM2 : (M : Int) ≤ 1048576 := by omega
    have d1 : decide ((M : Int) < 0) = false := by simp
    have d2 : decide (1048576 < (M : Int)) = false := by simp; omega
    obtain ⟨S, rfl⟩ := Int.eq_ofNat_of_zero_le HS.out.1
    have e1 : (M : Int).tmod 60 = ((M % 60 : Nat) : Int) := rfl
    have K := Lib.hid (show kzeroI (S : Int) ((M % 60 : Nat) : Int) = (kzero S (M % 60) : Int) by rw [kzeroI, if_neg (by omega)]; rfl)
    have hM3 : M % 60 < 60 := Nat.mod_lt _ (by decide)
    generalize M % 60 = N at *
    clear hm
    go_wp2_with fail
    go_loopw [10, 11] (fun t i w' => ∃ k : Nat, k ≤ N ∧ i = .int .i64 k ∧ t = .int .u32 (kzero S k) ∧ Below w.heap.size w w') (fun _ i _ => 60 - (intOf i).toNat)
    case atStart => exact ⟨0, by omega, rfl, rfl, hb7⟩
    case round =>
      obtain ⟨k, hk, rfl, rfl, hbk⟩ := hrel
      by_cases hlt : k < N
      · have KS : Hid (kzero S (k + 1) = kstep (kzero S k) 0) := rfl
        have KB := Lib.hid (kzero_lt S k (by have := HS.out.2; omega))
        generalize kzero S k = t at *
        go_wp2_with fail
        refine (refstep_any _ _ _ (by omega) (by have := KB.out; omega) (by omega) (by omega)).mono ?_
        rintro e w5 ⟨rfl, hb8⟩
        have hb9 := below_then hbk hb8
        go_wp2_with fail
        go_roundw
        case rel => exact ⟨k + 1, by omega, by go_num, by rw [KS.out], hb9⟩
        case measure => simp [intOf]; omega
      · obtain rfl : k = N := by omega
        go_wp2_with fail
        refine (kzero_any _ _ _ HS.out.1 HS.out.2).mono ?_
        rw [K.out]; rintro e w' ⟨rfl, rfl⟩
        go_wp2_with fail
        go_ret
        exact ⟨rfl, hbk⟩
end Go.Proofs.Ytlahcmldbgeifaa.koopAll
