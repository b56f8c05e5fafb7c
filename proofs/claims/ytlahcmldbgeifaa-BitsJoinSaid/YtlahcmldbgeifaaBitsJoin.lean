import Derived.Test.YtlahcmldbgeifaaBegun
import Derived.Test.YtlahcmldbgeifaaPlainJoin
import Derived.Test.YtlahcmldbgeifaaStr
import Derived.Deep.Heap
import Derived.Deep.RegionWith
import Derived.Deep.DrawnRows
import Derived.Deep.RegionHeld
import Derived.Deep.DeepCutAuto
/- BitsJoin: one field as two: the higher bits, the lower ones; no condition. -/
namespace Go.Proofs.Ytlahcmldbgeifaa.bitsJoin
open Go.RowKit
set_option linter.unusedVariables false
attribute [local go_sem ↓] Go.wp_at_zero Go.wp_at_succ
theorem owner {w : World} {B g : Nat} {r : Option Nat} {l : List Bool} (h : IsOut w B g r l) : ∀ k, some k = r → B ≤ k := by
  obtain ⟨hBg, v, hv, hg, hown⟩ := h
  intro k hk
  exact (hown.lt k (by rw [hv]; exact hk.symm)).1
theorem size_alloc (w : World) (o : Obj) : (w.alloc o).heap.size = w.heap.size + 1 := Go.Deep.nblk_alloc w o
theorem mask_val (U K : Nat) (hU : U < 18446744073709551616) (hK : K < 64) : bits .and .u64 (U : Int) (IntKind.u64.wrap (IntKind.u64.wrap (2 ^ K) - 1)) = ((U % 2 ^ K : Nat) : Int) := by
  have hp : (2 : Nat) ^ K ≤ 9223372036854775808 := Nat.le_trans (Nat.pow_le_pow_right (by decide) (show K ≤ 63 by omega)) (by decide)
  have hp1 := Nat.two_pow_pos K
  have e1 : (2 : Int) ^ K = ((2 ^ K : Nat) : Int) := by rw [Int.natCast_pow]; rfl
  rw [e1, u64_wrap_nat _ (by omega), show (((2 ^ K : Nat) : Int) - 1) = ((2 ^ K - 1 : Nat) : Int) by omega, u64_wrap_nat _ (by omega), u64_and_nat U _ hU (by omega), Nat.and_two_pow_sub_one_eq_mod]
set_option maxRecDepth 100000 in
set_option maxHeartbeats 1000000 in
theorem walk_none (u width cut : Int) (w : World) (h : width < 2 ∨ 64 < width ∨ cut < 1 ∨ width ≤ cut) :
    Calls Try.prog 11 #[.int .u64 u, .int .i64 width, .int .i64 cut] w fun e w' => e = .returned (.bool true) ∧ Below w.heap.size w w' := by
  go_enter Try.func11, Try.ntmps11
  go_wp2_with fail
  refine (begun_any _).mono ?_
  rintro e w1 ⟨rfl, hb1⟩
  rcases h with h | h | h | h
  all_goals
    go_wp2_with fail
    all_goals go_ret
    all_goals exact ⟨rfl, hb1⟩
set_option maxRecDepth 100000 in
set_option maxHeartbeats 16000000 in
theorem walk_some (U K C : Nat) (w : World) (hU : U < 18446744073709551616) (hK : K ≤ 64) (hC : 1 ≤ C) (hCK : C < K) :
    Calls Try.prog 11 #[.int .u64 (U : Int), .int .i64 (K : Int), .int .i64 (C : Int)] w fun e w' => e = .returned (.bool true) ∧ Below w.heap.size w w' := by
  have HU := Lib.hid hU
  clear hU
  have c1 : decide ((K : Int) < 2) = false := by simp; omega
  have c2 : decide (64 < (K : Int)) = false := by simp; omega
  have c3 : decide ((C : Int) < 1) = false := by simp; omega
  have c4 : decide ((K : Int) ≤ (C : Int)) = false := by simp; omega
  go_enter Try.func11, Try.ntmps11
  go_wp2_with fail
  refine (begun_any _).mono ?_
  rintro e w1 ⟨rfl, hb1⟩
  go_upto_if 34 with fail
  go_cut [0] (fun u wx => ∃ X : Nat, u = .int .u64 (X : Int) ∧ Hid (X < 2 ^ K) ∧ wx = w1)
  case first =>
    by_cases h64 : K < 64
    · have h64' : (K : Int) < 64 := by omega
      have HM := Lib.hid (mask_val U K HU.out h64)
      have HX : Hid (U % 2 ^ K < 2 ^ K) := Nat.mod_lt _ (Nat.two_pow_pos _)
      go_wp2_with fail
      rw [HM.out]
      go_meet
      exact ⟨_, rfl, HX, rfl⟩
    · have h64' : 64 ≤ (K : Int) := by omega
      have HX : Hid (U < 2 ^ K) := by
        obtain rfl : K = 64 := by omega
        exact Nat.lt_of_lt_of_le HU.out (by decide)
      clear h64
      go_wp2_with fail
      go_meet
      exact ⟨_, rfl, HX, rfl⟩
  case rest =>
    obtain ⟨X, rfl, hX, rfl⟩ := hcut
    obtain ⟨w1, rfl⟩ : ∃ x : World, x = wc := ⟨_, rfl⟩
    replace hX := hX.out
    have hX64 := Lib.hid (show X < 18446744073709551616 from Nat.lt_of_lt_of_le hX (Nat.le_trans (Nat.pow_le_pow_right (by decide) hK) (by decide)))
    go_wp2_with fail
    have hoA := isOut_new w1 w.heap.size hb1.size
    have hoB := isOut_new (w1.alloc (.cells #[.slice none 0 0, .int .i64 0] 34)) w.heap.size (by have := hb1.size; rw [size_alloc]; omega)
    have hA := hoA.keep (Keep.of_new (S := fun _ => False) ((Below.refl _ _).alloc (Nat.le_refl _) (.cells #[.slice none 0 0, .int .i64 0] 34))) (fun h => h) (fun k h => by cases h)
    have hb2 := (hb1.alloc hb1.size (.cells #[.slice none 0 0, .int .i64 0] 34)).alloc (by rw [size_alloc]; have := hb1.size; omega) (.cells #[.slice none 0 0, .int .i64 0] 34)
    have hge := hb1.size
    have hs2 : ((w1.alloc (.cells #[.slice none 0 0, .int .i64 0] 34)).alloc (.cells #[.slice none 0 0, .int .i64 0] 34)).heap.size = w1.heap.size + 2 := by rw [size_alloc, size_alloc]
    rw [size_alloc] at hoB
    clear hoA hb1
    generalize (w1.alloc (.cells #[.slice none 0 0, .int .i64 0] 34)).alloc (.cells #[.slice none 0 0, .int .i64 0] 34) = w2 at *
    generalize w1.heap.size = g at *
    refine (put_true w.heap.size g none [] X K _ hA (by omega) (by omega) hX (by simp; omega) (by omega)).mono ?_
    rintro e w3 ⟨rfl, ra, hA3, hra, hk3⟩
    have hB3 := hoB.keep hk3 (by rintro (h | h); omega; cases h) (fun k h => by cases h)
    have hb3 := hb2.trans (hk3.below (by omega) (by rintro i (rfl | hi); omega; cases hi))
    rw [List.nil_append] at hA3
    have hs3 := hk3.size
    have hA3lt : g < w3.heap.size := by omega
    have hraA : ∀ k, ra = some k → w2.heap.size ≤ k ∧ k < w3.heap.size := by
      intro k hk
      refine ⟨?_, hA3.lt k hk⟩
      rcases hra with h | ⟨j, h, hj⟩
      · rw [h] at hk; cases hk
      · rw [h] at hk; cases hk; exact hj
    clear hoB hA hk3 hb2 hra
    have hXC : X / 2 ^ C < 2 ^ (K - C) := by
      rw [Nat.div_lt_iff_lt_mul (Nat.two_pow_pos _), ← Nat.pow_add, show K - C + C = K by omega]; exact hX
    have hsplit := bitsL_split X K C (by omega)
    obtain ⟨H, hH⟩ : ∃ H, H = X / 2 ^ C := ⟨_, rfl⟩
    have eXC : (X : Int) / 2 ^ C = (H : Int) := by rw [hH, Int.natCast_ediv, Int.natCast_pow]; rfl
    have hC64 : (C : Int) < 64 := by omega
    rw [← hH] at hXC hsplit
    obtain ⟨J, hJ⟩ : ∃ J, K = C + J := ⟨K - C, by omega⟩
    have eJ : (K : Int) - (C : Int) = (J : Int) := by omega
    have hJ0 : 1 ≤ J := by omega
    have hJ64 : J ≤ 64 := by omega
    rw [show K - C = J by omega] at hXC hsplit
    replace hJ := Lib.hid hJ
    replace hX := Lib.hid hX
    replace hXC := Lib.hid hXC
    replace hsplit := Lib.hid hsplit
    clear hH
    go_wp2_with fail
    refine (put_true w.heap.size (g + 1) none [] H J _ hB3 hJ0 hJ64 hXC.out (by show 0 + J ≤ 4096; omega) (by omega)).mono ?_
    rintro e w4 ⟨rfl, rb, hB4, hrb, hk4⟩
    have hA4 := hA3.keep hk4 (by rintro (h | h); omega; cases h) (fun k h => by have := hraA k h; rintro (h2 | h2); omega; cases h2)
    have hb4 := hb3.trans (hk4.below (by omega) (by rintro i (rfl | hi); omega; cases hi))
    rw [List.nil_append] at hB4
    have hs4 := hk4.size
    have hrbB : ∀ k, rb = some k → w3.heap.size ≤ k := by
      intro k hk
      rcases hrb with h | ⟨j, h, hj⟩
      · rw [h] at hk; cases hk
      · rw [h] at hk; cases hk; exact hj
    clear hB3 hA3 hk4 hb3 hrb
    go_wp2_with fail
    rw [mask_val X C hX64.out (by omega)]
    have hL : X % 2 ^ C < 2 ^ C := Nat.mod_lt _ (Nat.two_pow_pos _)
    generalize hLo : X % 2 ^ C = L at *
    replace hL := Lib.hid hL
    replace hLo := Lib.hid hLo
    refine (put_true w.heap.size (g + 1) rb (bitsL H J) L C _ hB4 hC (by omega) hL.out (by rw [bitsL_length]; omega) (by omega)).mono ?_
    rintro e w5 ⟨rfl, rb2, hB5, hrb2, hk5⟩
    have hA5 := hA4.keep hk5 (by rintro (h | h); omega; have := hrbB _ h.symm; omega) (fun k h => by have := hraA k h; rintro (h2 | h2); omega; have := hrbB _ h2.symm; omega)
    have hb5 := hb4.trans (hk5.below (by omega) (by rintro i (rfl | hi); omega; have := hrbB _ hi.symm; omega))
    have hs5 := hk5.size
    rw [← hsplit.out] at hB5
    clear hB4 hA4 hk5 hb4 hrb2
    go_wp2_with fail
    refine (outbytes_any _ _ _ _ _ hA5 (by rw [bitsL_length]; omega)).mono ?_
    rintro e w6 ⟨v6, rfl, hown6, hb6⟩
    have hbl := bytesN_lt (bitsL X K)
    have hA6 := hA5.keep (Keep.of_new (S := fun _ => False) hb6) (fun h => h) (fun _ _ h => h)
    have hB6 := hB5.keep (Keep.of_new (S := fun _ => False) hb6) (fun h => h) (fun _ _ h => h)
    have hb7 := hb5.trans (hb6.mono hb5.size)
    have hs6 := hb6.size
    have V1 := Lib.hid (show numN (cutB (ofN (bytesN (bitsL X K))) 0 J) = H by
      rw [cut_bytes _ _ _ (by rw [bitsL_length]; have := hJ.out; omega), hsplit.out]
      have := (cut_app (bitsL H J) (bitsL L C)).1
      rw [bitsL_length] at this
      rw [this, numN_bitsL _ _ hXC.out])
    have V2 := Lib.hid (show numN (cutB (ofN (bytesN (bitsL X K))) (0 + J) C) = L by
      rw [cut_bytes _ _ _ (by rw [bitsL_length]; have := hJ.out; omega), hsplit.out, Nat.zero_add]
      have := (cut_app (bitsL H J) (bitsL L C)).2
      rw [bitsL_length, bitsL_length] at this
      rw [this, numN_bitsL _ _ hL.out])
    have hlen : (bytesN (bitsL X K)).length = (K + 7) / 8 := by rw [bytesN_len, bitsL_length]
    rw [bitsL_length] at hown6
    obtain ⟨A6, c6, rfl, hc1, hc2⟩ := own_slice hown6
    have hrd := Rd.of_own hown6
    clear hown6 hb6 hb5 hA5 hB5
    go_wp2_with fail
    refine (read_any A6 _ c6 _ _ _ hrd (Nat.le_refl _)).mono ?_
    rintro e w7 ⟨rfl, hi7, hb8⟩
    have hA7 := hA6.keep (Keep.of_new (S := fun _ => False) hb8) (fun h => h) (fun _ _ h => h)
    have hB7 := hB6.keep (Keep.of_new (S := fun _ => False) hb8) (fun h => h) (fun _ _ h => h)
    have hb9 := hb7.trans (hb8.mono hb7.size)
    have hs7 := hb8.size
    have hrlA := hA6.lt
    have hrlB := hB6.lt
    clear hb8 hb7 hrd hA6 hB6
    go_wp2_with fail
    refine (get_yes _ _ _ 0 J _ hi7 hbl (by omega) hJ0 hJ64 (by rw [hlen]; have := hJ.out; omega)).mono ?_
    rw [V1.out]
    rintro e w8 ⟨rfl, hi8, hk8⟩
    have hA8 := hA7.keep hk8 (by omega) (fun k hk e => by have := hrlA k hk; omega)
    have hB8 := hB7.keep hk8 (by omega) (fun k hk e => by have := hrlB k hk; omega)
    have hb10 := hb9.trans (hk8.below (by omega) (by omega))
    have hs8 := hk8.size
    clear hi7 hk8 hA7 hB7 hb9
    go_wp2_with fail
    refine (get_yes _ _ _ (0 + J) C _ hi8 hbl (by omega) hC (by omega) (by rw [hlen]; have := hJ.out; omega)).mono ?_
    rw [V2.out]
    rintro e w9 ⟨rfl, hi9, hk9⟩
    have hA9 := hA8.keep hk9 (by omega) (fun k hk e => by have := hrlA k hk; omega)
    have hB9 := hB8.keep hk9 (by omega) (fun k hk e => by have := hrlB k hk; omega)
    have hb11 := hb10.trans (hk9.below (by omega) (by omega))
    clear hi8 hi9 hk9 hA8 hB8 hb10
    go_wp2_with fail
    have eM := mask_val X C hX64.out (by omega)
    rw [hLo.out] at eM
    have hKl : (bitsL X K).length ≤ 4096 := by rw [bitsL_length]; omega
    have HKL := Lib.hid (bitsL_length X K)
    have hs9 := hb11.size
    generalize bitsL X K = bb at *
    replace hlen := Lib.hid hlen
    clear hc1 hc2 hbl V1 V2 hsplit hrlA hrlB hraA hrbB
    have hA9 : IsOut w9.drew w.heap.size g ra bb := hA9
    have hB9 : IsOut w9.drew w.heap.size (g + 1) rb2 bb := hB9
    have hb11 : Below w.heap.size w w9.drew := ⟨hb11.os, hb11.tape, hb11.output, hb11.size, hb11.block⟩
    obtain ⟨str, hstr⟩ : ∃ s, s = strN (bytesN bb) := ⟨_, rfl⟩
    replace hstr := Lib.hid hstr.symm
    have hwC : IntKind.u64.wrap (C : Int) = (C : Int) := u64_wrap_nat _ (by omega)
    have hmC : min C 64 = C := by omega
    go_region_held (fun _ => True) (trivial) (first
      | (go_at_call_of 28 (Value.pointer (some ⟨g, 0, none⟩)); refine (outbytes_any _ g ra bb w9.drew hA9 hKl).mono ?_; rintro e w10 ⟨v10, rfl, hown10, hb12⟩; obtain ⟨A10, c10, rfl, -, -⟩ := own_slice hown10; have r10 := run_str A10 _ c10 _ _ w10 (Rd.of_own hown10); rw [hstr.out] at r10; have hB10 := hB9.keep (Keep.of_new (S := fun _ => False) hb12) (fun h => h) (fun _ _ h => h); have hA10 := hA9.keep (Keep.of_new (S := fun _ => False) hb12) (fun h => h) (fun _ _ h => h); have hb13 := hb11.trans (hb12.mono hb11.size); replace hb12 := Lib.hid hb12.size)
      | (go_at_call 28; go_must (refine (outbytes_any _ (g + 1) rb2 bb w10 hB10 hKl).mono ?_); rintro e w11 ⟨v11, rfl, hown11, hb14⟩; obtain ⟨A11, c11, rfl, -, -⟩ := own_slice hown11; have r11 := run_str A11 _ c11 _ _ w11 (Rd.of_own hown11); rw [hstr.out] at r11; have r12 := run_str A10 _ c10 _ _ w11 ((Rd.of_own hown10).below hb14 (Nat.le_refl _)); rw [hstr.out] at r12; have hA11 := hA10.keep (Keep.of_new (S := fun _ => False) hb14) (fun h => h) (fun _ _ h => h); have hb15 := hb13.trans (hb14.mono hb13.size))
      | (go_at_call 29; refine (len_any _ g ra bb w11 hA11).mono ?_; rw [HKL.out]; rintro e w12 ⟨rfl, rfl⟩))
    all_goals (go_wp2_with fail; go_ret; exact ⟨rfl, hb15⟩)
theorem walk (u width cut : Int) (w : World) (w0 : (Lit.int .u64 u).wf = true) (w1 : (Lit.int .i64 width).wf = true) (w2 : (Lit.int .i64 cut).wf = true) :
    Calls Try.prog 11 #[.int .u64 u, .int .i64 width, .int .i64 cut] w fun e w' => e = .returned (.bool true) ∧ Below w.heap.size w w' := by
  by_cases h : width < 2 ∨ 64 < width ∨ cut < 1 ∨ width ≤ cut
  · exact walk_none u width cut w h
  · have hu := wf_u64 w0
    obtain ⟨U, rfl⟩ := Int.eq_ofNat_of_zero_le hu.1
    obtain ⟨K, rfl⟩ := Int.eq_ofNat_of_zero_le (show 0 ≤ width by omega)
    obtain ⟨C, rfl⟩ := Int.eq_ofNat_of_zero_le (show 0 ≤ cut by omega)
    exact walk_some U K C w (by omega) (by omega) (by omega) (by omega)
end Go.Proofs.Ytlahcmldbgeifaa.bitsJoin
