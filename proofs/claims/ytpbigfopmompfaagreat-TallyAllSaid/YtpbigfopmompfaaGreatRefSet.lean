import Derived.Test.YtpbigfopmompfaaGreatDies
import Derived.Test.YtpbigfopmompfaaGreatBunC
import Derived.Test.YtpbigfopmompfaaGreatBunH
/- The reference: a set out of a list of dies; which places are in. -/
namespace Go.Proofs.YtpbigfopmompfaaGreat
open Go.RowKit
set_option linter.unusedVariables false
def setN (l : List Nat) : Nat := l.foldl (fun m d => m + 2 ^ d) 0
theorem setN_snoc (l : List Nat) (d : Nat) : setN (l ++ [d]) = setN l + 2 ^ d := by simp [setN, List.foldl_append]
theorem setN_le : ∀ {l : List Nat}, (∀ d ∈ l, d < 8) → setN l ≤ l.length * 128 := by
 intro l h
 induction l using snoc_ind with
 | h0 => simp [setN]
 | h1 l x ih =>
  rw [setN_snoc, List.length_append]; have h1 := ih fun d hd => h d (by simp [hd])
  have h2 : 2 ^ x ≤ 2 ^ 7 := Nat.pow_le_pow_right (by omega) (by have := h x (by simp); omega); simp; omega
theorem powI_nat (d : Nat) : powI (d : Int) = ((2 ^ d : Nat) : Int) := by
 unfold powI
 rw [Int.toNat_natCast, Int.natCast_pow]; rfl
set_option maxRecDepth 100000 in
theorem refset_any (A : Option Addr) (n c B : Nat) (l : List Nat) (w : World) (hr : Rd w B A n (nats .i64 l)) (hd : ∀ d ∈ l, d < 8) (hn : n ≤ 1000) :
 Calls Tryz.prog 72 #[.slice A n c] w fun e w' => e = .returned (.int .i64 (setN l : Int)) ∧ w = w' := by
 have hl : l.length = n := by have := hr.1; rwa [zaj] at this
 have HR := Lib.hid hr
 have HL := Lib.hid hl
 have HD := Lib.hid hd
 clear hr hl hd
 go_enter Tryz.func72, Tryz.ntmps72
 go_wp2_with fail
 go_loop [3, 4] (fun m i => ∃ k : Nat, k ≤ n ∧ i = .int .i64 k ∧ m = .int .i64 (setN (l.take k) : Int)) (fun _ i => n - (intOf i).toNat)
 case atStart => exact ⟨0, by omega, rfl, rfl⟩
 case round =>
  obtain ⟨k, hk, rfl, rfl⟩ := hrel; by_cases hlt : k < n
  · have hkl : k < l.length := by rw [HL.out]; exact hlt
    obtain ⟨b, o, rfl, hb, hc⟩ := HR.out.at_ hlt; rw [nats_at .i64 l k hkl] at hc; have hd8 := HD.out l[k] (List.getElem_mem hkl); have hs := setN_snoc (l.take k) l[k]; rw [show l.take k ++ [l[k]] = l.take (k + 1) by rw [List.take_succ_eq_append_getElem hkl]] at hs; have hle := setN_le (l := l.take (k + 1)) (fun d hd => HD.out d (List.mem_of_mem_take hd)); have hle2 : (l.take (k + 1)).length ≤ n := by rw [List.length_take, HL.out]; omega
    generalize l[k] = d at *; have hp := powI_nat d; have hpl : 2 ^ d ≤ 2 ^ 7 := Nat.pow_le_pow_right (by omega) (by omega); generalize 2 ^ d = q at *; generalize setN (l.take k) = x at *; generalize hy : setN (l.take (k + 1)) = y at *; generalize (l.take (k + 1)).length = z at *; have hltI : (k : Int) < (n : Int) := by omega
    have HY := Lib.hid hy; have HS := Lib.hid hs; have hxb : (x : Int) + (q : Int) ≤ 1000000 := by omega
    have hq0 : (q : Int) ≤ 128 := by omega
    clear hy hs hle hle2 hpl; go_wp2_with (go_at_call 98; refine (pow_any _ _ (by omega) (by omega)).mono ?_; rw [hp]; rintro e w' ⟨rfl, rfl⟩)
    go_round
    case rel => exact ⟨k + 1, by omega, by go_num, by rw [HY.out, HS.out]; go_num⟩
    case measure => simp [intOf]; omega
  · obtain rfl : k = n := by omega
    have HE := Lib.hid (show setN (l.take k) = setN l by rw [List.take_of_length_le (by rw [HL.out]; exact Nat.le_refl _)]); generalize setN (l.take k) = s at *; go_wp2_with fail
    go_ret
    exact ⟨by rw [← HE.out]; rfl, rfl⟩
end Go.Proofs.YtpbigfopmompfaaGreat
