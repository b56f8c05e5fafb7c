import Derived.Test.YtpbigfopmompfaaGreatDies
import Derived.Test.YtpbigfopmompfaaGreatBunP
/- The contracts of the layer koop. -/
namespace Go.Proofs.YtpbigfopmompfaaGreat
open Go.RowKit
theorem kstep_nat (s x : Nat) (w : World) (hs : s < 4294967296) (hx : x < 256) : Calls Tryz.prog 166 #[.int .u32 (s : Int), .int .u8 (x : Int)] w fun e w' => e = .returned (.int .u32 (kstep s x)) ∧ w = w' := by
 have S := Lib.hid (k_start s x hs hx)
 go_enter Tryz.func166, Tryz.ntmps166
 go_wp2
 go_loop [0, 5, 11] (fun a _ i => ∃ k : Nat, k ≤ 8 ∧ i = .int .i64 k ∧ a = .int .u32 (kiter k (s ^^^ (x * 16777216)))) (fun _ _ i => 8 - (intOf i).toNat)
 case atStart => exact ⟨0, by omega, rfl, by rw [S.out]; rfl⟩
 case round =>
  obtain ⟨k, hk, rfl, rfl⟩ := hrel; by_cases hlt : k < 8
  · have hlt' : (k : Int) < 8 := by omega
    have hb := kiter_lt k _ (kstart_lt s x hs hx); have HS : Hid (kiter (k + 1) (s ^^^ (x * 16777216)) = kround (kiter k (s ^^^ (x * 16777216)))) := rfl; generalize kiter k (s ^^^ (x * 16777216)) = t at *; have hh := k_high t hb; cases ht : t.testBit 31 with
    | true =>
     rw [ht] at hh; simp only [if_true] at hh; have R := Lib.hid (k_one t ht); clear ht; go_wp2
     go_round
     case rel => exact ⟨k + 1, by omega, by go_num, by rw [HS.out, ← R.out]⟩
     case measure => simp [intOf]; omega
    | false =>
     rw [ht] at hh; simp only [Bool.false_eq_true, if_false] at hh; have R := Lib.hid (k_nought t ht); clear ht; go_wp2
     go_round
     case rel => exact ⟨k + 1, by omega, by go_num, by rw [HS.out, ← R.out]⟩
     case measure => simp [intOf]; omega
  · obtain rfl : k = 8 := by omega
    go_wp2
    go_ret
    exact ⟨rfl, rfl⟩
theorem kstep_any (s x : Int) (w : World) (hs0 : 0 ≤ s) (hs : s < 4294967296) (hx0 : 0 ≤ x) (hx : x < 256) : Calls Tryz.prog 166 #[.int .u32 s, .int .u8 x] w fun e w' => e = .returned (.int .u32 (kstep s.toNat x.toNat)) ∧ w = w' := by
 obtain ⟨S, rfl⟩ := Int.eq_ofNat_of_zero_le hs0
 obtain ⟨X, rfl⟩ := Int.eq_ofNat_of_zero_le hx0
 exact kstep_nat S X w (by omega) (by omega)
theorem kof_any (A : Option Addr) (n c B : Nat) (l : List Nat) (w : World) (hr : Rd w B A n (nats .u8 l)) (hb : ∀ x ∈ l, x < 256) (hnm : n ≤ maxLen) : Calls Tryz.prog 135 #[.slice A n c] w fun e w' => e = .returned (.int .u32 (kof l)) ∧ w = w' := by
 have hl : l.length = n := by have := hr.1; rwa [zaj] at this
 unfold maxLen at hnm
 go_enter Tryz.func135, Tryz.ntmps135
 go_wp2
 go_loop [3, 5, 8] (fun a _ i => ∃ k : Nat, k ≤ n ∧ i = .int .i64 k ∧ a = .int .u32 (ksum 4294967295 (l.take k))) (fun _ _ i => n - (intOf i).toNat)
 case atStart => exact ⟨0, by omega, rfl, rfl⟩
 case round =>
  obtain ⟨k, hk, rfl, rfl⟩ := hrel; by_cases hlt : k < n
  · obtain ⟨b, o, rfl, hb2, hc⟩ := hr.at_ hlt
    rw [nats_at _ l k (by omega)] at hc; have hx : l[k] < 256 := hb _ (List.getElem_mem _); have HS := Lib.hid (show ksum 4294967295 (l.take (k + 1)) = kstep (ksum 4294967295 (l.take k)) l[k] by rw [take_snoc' l k (by omega), ksum_snoc]); have hlt32 := ksum_lt (l.take k) 4294967295 (by decide) fun x hx => hb x (List.mem_of_mem_take hx)
    generalize l[k]'(by omega) = x at hc hx HS; generalize ksum 4294967295 (l.take k) = t at *; go_wp2_with (go_at_call 166; go_must (refine (kstep_any _ _ _ (by omega) (by omega) (by omega) (by omega)).mono ?_; rintro e w' ⟨rfl, rfl⟩))
    go_round
    case rel => exact ⟨k + 1, by omega, by go_num, by rw [HS.out]⟩
    case measure => simp [intOf]; omega
  · obtain rfl : k = n := by omega
    have E := Lib.hid (show ksum 4294967295 (l.take k) = kof l by rw [List.take_of_length_le (by omega)]; rfl); go_wp2
    go_ret
    exact ⟨by rw [← E.out]; rfl, rfl⟩
end Go.Proofs.YtpbigfopmompfaaGreat
