import Derived.Test.YtpbigfopmompfaaGreatRows
import Derived.Test.YtpbigfopmompfaaGreatPlainLane
import Derived.WalkKit
import Derived.BigQuiet
import Derived.Deep.QuietTactic
import Derived.WalkLawsBesides
import Derived.Lib.Hide
/- The contracts of the layer lane: what each function of sets of dies answers, at all arguments. -/
namespace Go.Proofs.YtpbigfopmompfaaGreat
open Go.RowKit

theorem set_any (m : Int) (w : World) : Calls Tryz.prog 95 #[.int .i64 m] w fun e w' => e = .returned (.bool (setB m)) ∧ w = w' := by
 by_cases h : 0 ≤ m
 · by_cases h2 : m < 256
   · go_enter Tryz.func95, Tryz.ntmps95
     go_wp2
     go_ret
     exact ⟨by simp [setB, h, h2], rfl⟩
   · go_enter Tryz.func95, Tryz.ntmps95
     go_wp2
     go_ret
     exact ⟨by simp [setB, h2], rfl⟩
 · go_enter Tryz.func95, Tryz.ntmps95
   go_wp2
   go_ret
   exact ⟨by rw [setB_neg (by omega)]; rfl, rfl⟩

theorem one_any (d : Int) (w : World) : Calls Tryz.prog 96 #[.int .i64 d] w fun e w' => e = .returned (.int .i64 (oneI d)) ∧ w = w' := by
 by_cases h : d < 0
 · go_enter Tryz.func96, Tryz.ntmps96
   go_wp2
   go_ret
   exact ⟨by simp [oneI, h], rfl⟩
 · by_cases h2 : 8 ≤ d
   · go_enter Tryz.func96, Tryz.ntmps96
     go_wp2
     go_ret
     exact ⟨by simp [oneI, h2], rfl⟩
   · go_enter Tryz.func96, Tryz.ntmps96
     go_wp2
     go_ret
     exact ⟨by rw [← one_wrap (by omega) (by omega)]; rfl, rfl⟩

theorem all_any (n : Int) (w : World) : Calls Tryz.prog 65 #[.int .i64 n] w fun e w' => e = .returned (.int .i64 (allI n)) ∧ w = w' := by
 by_cases h : n < 0
 · go_enter Tryz.func65, Tryz.ntmps65
   go_wp2
   go_ret
   exact ⟨by simp [allI, h], rfl⟩
 · by_cases h2 : 8 < n
   · go_enter Tryz.func65, Tryz.ntmps65
     go_wp2
     go_ret
     exact ⟨by simp [allI, h2], rfl⟩
   · go_enter Tryz.func65, Tryz.ntmps65
     go_wp2
     go_ret
     exact ⟨by rw [← all_wrap (by omega) (by omega)]; rfl, rfl⟩

theorem has_any (m d : Int) (w : World) : Calls Tryz.prog 86 #[.int .i64 m, .int .i64 d] w fun e w' => e = .returned (.bool (hasB m d)) ∧ w = w' := by
 cases hs : setB m with
 | false =>
  have hr : hasB m d = false := by simp [hasB, hs]
  have H := Lib.hid hr; have H2 := Lib.hid hs; clear hr hs; go_enter Tryz.func86, Tryz.ntmps86
  go_wp2_with (go_at_call 95; refine (set_any _ _).mono ?_; rw [H2.out]; rintro e w' ⟨rfl, rfl⟩)
  go_ret
  exact ⟨by rw [H.out]; rfl, rfl⟩
 | true =>
  have hr : (bits .and .i64 m (oneI d) != 0) = hasB m d := by
   simp only [setB, Bool.and_eq_true, decide_eq_true_eq] at hs; obtain ⟨M, rfl⟩ := Int.eq_ofNat_of_zero_le hs.1; by_cases hd : d < 0 ∨ 8 ≤ d
   · have e : (decide (0 ≤ d) && decide (d < 8)) = false := by simp; omega
     have e2 := i64_and M 0 (by omega) (by omega); simp only [hasB, e, oneI, if_pos hd, Bool.and_false, Bool.false_and]; simp only [Int.natCast_zero] at e2; rw [e2]; simp
   · obtain ⟨D, rfl⟩ := Int.eq_ofNat_of_zero_le (show 0 ≤ d by omega)
     have e2 := and_oneI ⟨M, by omega⟩ ⟨D, by omega⟩; simp only [oneI, if_neg hd, Int.toNat_natCast]; rw [e2, hasB, setB_of (by omega) (by omega)]; simp; omega
  have H := Lib.hid hr; have H2 := Lib.hid hs; clear hr hs; go_enter Tryz.func86, Tryz.ntmps86
  go_wp2_with (first | (go_at_call 95; refine (set_any _ _).mono ?_; rw [H2.out]; rintro e w' ⟨rfl, rfl⟩) | (go_at_call 96; refine (one_any _ _).mono ?_; rintro e w' ⟨rfl, rfl⟩))
  go_ret
  exact ⟨by rw [← H.out]; rfl, rfl⟩

theorem with_any (m d : Int) (w : World) : Calls Tryz.prog 67 #[.int .i64 m, .int .i64 d] w fun e w' => e = .returned (.int .i64 (withI m d)) ∧ w = w' := by
 cases hs : setB m with
 | false =>
  have hr : withI m d = 0 := by simp [withI, hs]
  have H := Lib.hid hr; have H2 := Lib.hid hs; clear hr hs; go_enter Tryz.func67, Tryz.ntmps67
  go_wp2_with (go_at_call 95; refine (set_any _ _).mono ?_; rw [H2.out]; rintro e w' ⟨rfl, rfl⟩)
  go_ret
  exact ⟨by rw [H.out]; rfl, rfl⟩
 | true =>
  have hr : bits .or .i64 m (oneI d) = withI m d := by
   have h := hs; simp only [setB, Bool.and_eq_true, decide_eq_true_eq] at h; obtain ⟨M, rfl⟩ := Int.eq_ofNat_of_zero_le h.1; have ho := oneI_le d; obtain ⟨D, hD⟩ := Int.eq_ofNat_of_zero_le ho.1; simp only [withI, hs, if_true]; rw [hD, i64_or M D (by omega) (by omega)]; rfl
  have H := Lib.hid hr; have H2 := Lib.hid hs; clear hr hs; go_enter Tryz.func67, Tryz.ntmps67
  go_wp2_with (first | (go_at_call 95; refine (set_any _ _).mono ?_; rw [H2.out]; rintro e w' ⟨rfl, rfl⟩) | (go_at_call 96; refine (one_any _ _).mono ?_; rintro e w' ⟨rfl, rfl⟩))
  go_ret
  exact ⟨by rw [← H.out]; rfl, rfl⟩

theorem without_any (m d : Int) (w : World) : Calls Tryz.prog 185 #[.int .i64 m, .int .i64 d] w fun e w' => e = .returned (.int .i64 (withoutI m d)) ∧ w = w' := by
 cases hs : setB m with
 | false =>
  have hr : withoutI m d = 0 := by simp [withoutI, hs]
  have H := Lib.hid hr; have H2 := Lib.hid hs; clear hr hs; go_enter Tryz.func185, Tryz.ntmps185
  go_wp2_with (go_at_call 95; refine (set_any _ _).mono ?_; rw [H2.out]; rintro e w' ⟨rfl, rfl⟩)
  go_ret
  exact ⟨by rw [H.out]; rfl, rfl⟩
 | true =>
  have hr : bits .andNot .i64 m (oneI d) = withoutI m d := by
   have h := hs; simp only [setB, Bool.and_eq_true, decide_eq_true_eq] at h; obtain ⟨M, rfl⟩ := Int.eq_ofNat_of_zero_le h.1; simp only [withoutI, hs, if_true]; by_cases hd : d < 0 ∨ 8 ≤ d
   · have e2 := fin_andNot ⟨M, by omega⟩ ⟨8, by omega⟩
     simp only [if_true] at e2; simp only [oneI, if_pos hd]; exact e2
   · obtain ⟨D, rfl⟩ := Int.eq_ofNat_of_zero_le (show 0 ≤ d by omega)
     have e2 := fin_andNot ⟨M, by omega⟩ ⟨D, by omega⟩; have hD : ¬ D = 8 := by omega
     simp only [if_neg hD] at e2; simp only [oneI, if_neg hd, Int.toNat_natCast, toNat_two_pow']; exact e2
  have H := Lib.hid hr; have H2 := Lib.hid hs; clear hr hs; go_enter Tryz.func185, Tryz.ntmps185
  go_wp2_with (first | (go_at_call 95; refine (set_any _ _).mono ?_; rw [H2.out]; rintro e w' ⟨rfl, rfl⟩) | (go_at_call 96; refine (one_any _ _).mono ?_; rintro e w' ⟨rfl, rfl⟩))
  go_ret
  exact ⟨by rw [← H.out]; rfl, rfl⟩

theorem ones_any (m : Nat) (hm : m < 256) (w : World) : Calls Tryz.prog 146 #[.int .u64 (m : Int)] w fun e w' => e = .returned (.int .i64 (cnt m 8)) ∧ w = w' := by
 have H := Lib.hid (onesF_eq m hm)
 go_enter Tryz.func146, Tryz.ntmps146
 go_wp2
 go_ret
 exact ⟨by rw [← H.out]; rfl, rfl⟩
theorem onesc_any (m : Nat) (hm : m < 256) (w : World) : Calls Tryz.prog 122 #[.int .u64 (m : Int)] w fun e w' => e = .returned (.int .i64 (cnt m 8)) ∧ w = w' := by
 go_enter Tryz.func122, Tryz.ntmps122
 go_wp2_with (go_at_call 146; refine (ones_any _ (by omega) _).mono ?_; rintro e w' ⟨rfl, rfl⟩)
 go_ret
 exact ⟨rfl, rfl⟩
theorem zb8 (m : Int) (w : World) : Calls Tryz.prog 97 #[.int .i64 m] w fun e w' => e = .returned (.int .i64 (countI m)) ∧ w = w' := by
 cases hs : setB m with
 | false =>
  have hr : countI m = 0 := by simp [countI, hs]
  have H := Lib.hid hr; have H2 := Lib.hid hs; clear hr hs; go_enter Tryz.func97, Tryz.ntmps97
  go_wp2_with (go_at_call 95; refine (set_any _ _).mono ?_; rw [H2.out]; rintro e w' ⟨rfl, rfl⟩)
  go_ret
  exact ⟨by rw [H.out]; rfl, rfl⟩
 | true =>
  have h := hs; simp only [setB, Bool.and_eq_true, decide_eq_true_eq] at h; obtain ⟨M, rfl⟩ := Int.eq_ofNat_of_zero_le h.1; have hM : M < 256 := by omega
  have hr : countI (M : Int) = (cnt M 8 : Int) := by simp only [countI, hs, if_true]; rfl
  have H := Lib.hid hr; have H2 := Lib.hid hs; have hw := u64_wrap_nat M (by omega); clear hr hs h; go_enter Tryz.func97, Tryz.ntmps97
  go_wp2_with (first | (go_at_call 95; refine (set_any _ _).mono ?_; rw [H2.out]; rintro e w' ⟨rfl, rfl⟩) | (go_at_call 122; refine (onesc_any _ (by omega) _).mono ?_; rintro e w' ⟨rfl, rfl⟩))
  go_ret
  exact ⟨by rw [H.out]; rfl, rfl⟩
theorem hasB_nat {m d : Int} : hasB m d = true ↔ ∃ M D : Nat, m = M ∧ d = D ∧ M < 256 ∧ D < 8 ∧ M.testBit D = true := by
 simp only [hasB, setB, Bool.and_eq_true, decide_eq_true_eq]
 constructor
 · rintro ⟨⟨⟨h1, h2⟩, h3, h4⟩, h5⟩
   exact ⟨m.toNat, d.toNat, by omega, by omega, by omega, by omega, h5⟩
 · rintro ⟨M, D, rfl, rfl, h1, h2, h3⟩
   exact ⟨⟨⟨by omega, by omega⟩, by omega, by omega⟩, by simpa using h3⟩
theorem spot_any (m d : Int) (w : World) : Calls Tryz.prog 186 #[.int .i64 m, .int .i64 d] w fun e w' => e = .returned (.int .i64 (spotI m d)) ∧ w = w' := by
 cases hs : hasB m d with
 | false =>
  have hr : spotI m d = -1 := by simp [spotI, hs]
  have H := Lib.hid hr; have H2 := Lib.hid hs; clear hr hs; go_enter Tryz.func186, Tryz.ntmps186
  go_wp2_with (go_at_call 86; refine (has_any _ _ _).mono ?_; rw [H2.out]; rintro e w' ⟨rfl, rfl⟩)
  go_ret
  exact ⟨by rw [H.out]; rfl, rfl⟩
 | true =>
  obtain ⟨M, D, rfl, rfl, hM, hD, hb⟩ := hasB_nat.1 hs
  have ha : bits .and .i64 (M : Int) (allI D) = ((M &&& (2 ^ D - 1) : Nat) : Int) := by
   have := and_allI ⟨M, hM⟩ ⟨D, by omega⟩; simp only [allI]; rw [if_neg (by omega)]; exact this
  have hl : M &&& (2 ^ D - 1) < 256 := Nat.lt_of_le_of_lt Nat.and_le_left hM
  have hc : countI ((M &&& (2 ^ D - 1) : Nat) : Int) = (cnt M D : Int) := by
   rw [countI, setB_of (by omega) (by omega)]; simp only [if_true, Int.toNat_natCast]; exact congrArg _ (cnt_and ⟨M, hM⟩ ⟨D, by omega⟩)
  have hr : spotI (M : Int) (D : Int) = (cnt M D : Int) := by simp only [spotI, hs, if_true]; rfl
  have H := Lib.hid hr; have H2 := Lib.hid hs; have Ha := Lib.hid ha; have Hc := Lib.hid hc; clear hr hs ha hc hb hl; go_enter Tryz.func186, Tryz.ntmps186
  go_wp2_with (first | (go_at_call 86; refine (has_any _ _ _).mono ?_; rw [H2.out]; rintro e w' ⟨rfl, rfl⟩) | (go_at_call 65; refine (all_any _ _).mono ?_; rintro e w' ⟨rfl, rfl⟩) | (go_at_call 97; refine (zb8 _ _).mono ?_; rw [Ha.out, Hc.out]; rintro e w' ⟨rfl, rfl⟩))
  go_ret
  exact ⟨by rw [H.out]; rfl, rfl⟩


def AtInv (m i : Int) (k : Nat) : Prop := i < 0 ∨ cI m k ≤ i
theorem atInv_miss {m i : Int} {k : Nat} (hk : k < 8) (h : hasB m k = false) (hi : AtInv m i k) : AtInv m i (k + 1) := by
 unfold AtInv at *; rw [cI_succ m k hk, h]; simpa using hi
theorem atInv_hit {m i : Int} {k : Nat} (hk : k < 8) (h1 : -9223372036854775808 ≤ i) (h2 : i ≤ 9223372036854775807) (h : hasB m k = true) (hr : restI m i k ≠ 0) (hi : AtInv m i k) : AtInv m i (k + 1) := by
 have := mt (restI_eq m i k (by omega) h1 h2).2 hr
 unfold AtInv at *; rw [cI_succ m k hk, h]; simp; omega
theorem at_any (m i : Int) (w : World) (h1 : -9223372036854775808 ≤ i) (h2 : i ≤ 9223372036854775807) : Calls Tryz.prog 184 #[.int .i64 m, .int .i64 i] w fun e w' => e = .returned (.int .i64 (atI m i)) ∧ w = w' := by
 go_enter Tryz.func184, Tryz.ntmps184
 go_wp2
 go_loop [1, 5, 6] (fun a _ b => ∃ k : Nat, k ≤ 8 ∧ b = .int .i64 k ∧ a = .int .i64 (restI m i k) ∧ AtInv m i k) (fun _ _ b => 8 - (intOf b).toNat)
 case atStart => exact ⟨0, by omega, rfl, by rw [restI_zero m i h1 h2], by unfold AtInv; rw [cI_zero]; omega⟩
 case round =>
  obtain ⟨k, hk, rfl, rfl, hinv⟩ := hrel; by_cases hk8 : k < 8
  · cases hh : hasB m k with
    | false =>
     have R := restI_miss m i k hk8 hh; have I := atInv_miss hk8 hh hinv; have H := Lib.hid hh; have R' := Lib.hid R; clear hh R hinv; go_wp2_with (go_at_call 86; refine (has_any _ _ _).mono ?_; rw [H.out]; rintro e w' ⟨rfl, rfl⟩)
     go_round
     case rel => exact ⟨k + 1, by omega, by go_num, by rw [R'.out], I⟩
     case measure => simp [intOf]; omega
    | true =>
     have R := restI_hit m i k hk8 hh; have H := Lib.hid hh; have R' := Lib.hid R; clear R; by_cases hz : restI m i k = 0
     · have E := atI_hit m i k hk8 hh ((restI_eq m i k (by omega) h1 h2).1 hz)
       have hz' : (restI m i k == 0) = true := by simpa using hz
       have E' := Lib.hid E; clear hh hinv hz E; go_wp2_with (go_at_call 86; refine (has_any _ _ _).mono ?_; rw [H.out]; rintro e w' ⟨rfl, rfl⟩)
       go_ret
       exact ⟨by rw [E'.out]; rfl, rfl⟩
     · have I := atInv_hit hk8 h1 h2 hh hz hinv
       have hz' : (restI m i k == 0) = false := by simpa using hz
       clear hh hinv hz; go_wp2_with (go_at_call 86; refine (has_any _ _ _).mono ?_; rw [H.out]; rintro e w' ⟨rfl, rfl⟩)
       go_round
       case rel => exact ⟨k + 1, by omega, by go_num, by rw [R'.out], I⟩
       case measure => simp [intOf]; omega
  · obtain rfl : k = 8 := by omega
    have E := Lib.hid (atI_out m i hinv); clear hinv; go_wp2
    go_ret
    exact ⟨by rw [E.out]; rfl, rfl⟩

end Go.Proofs.YtpbigfopmompfaaGreat
