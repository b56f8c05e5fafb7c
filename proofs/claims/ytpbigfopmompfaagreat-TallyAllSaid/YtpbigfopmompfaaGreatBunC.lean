import Derived.Test.YtpbigfopmompfaaGreatBegun
import Derived.Test.YtpbigfopmompfaaGreatBunP
import Derived.IntWalk
/- What a claim's proof leans on: Geo, GeoRef, GeoMay, GeoBegun. -/
namespace Go.Proofs.YtpbigfopmompfaaGreat
open Go.RowKit
theorem parity_any (m b r : Int) (w : World) : Calls Tryz.prog 159 #[.int .i64 m, .int .i64 b, .int .i64 r] w fun e w' => e = .returned (.int .i64 (parityI m b r)) ∧ ∃ k, w' = w.drewN k := by
 have hc := countI_le m
 by_cases h : countI m < 2 ∨ b < 0 ∨ r < 0
 · have H := Lib.hid (show parityI m b r = -1 by unfold parityI; rw [if_pos h])
   rw [H.out]; clear H; rcases h with h | h | h
   all_goals
    generalize hq : countI m = q at *; have HQ := Lib.hid hq; clear hq; go_enter Tryz.func159, Tryz.ntmps159
    go_wp2_with fail
    refine (zb8 _ _).mono ?_; rw [HQ.out]; rintro e w' ⟨rfl, rfl⟩; go_wp2_with fail
    all_goals go_ret
    all_goals exact ⟨rfl, 0, rfl⟩
 · have H := Lib.hid (show parityI m b r = atI m ((b % countI m + r % countI m) % countI m) by unfold parityI; rw [if_neg h])
   rw [H.out]; clear H; generalize hq : countI m = q at *; have HQ := Lib.hid hq; clear hq; have h1 : ¬ q < 2 := by omega
   have h2 : ¬ b < 0 := by omega
   have h3 : ¬ r < 0 := by omega
   have h2' : 0 ≤ b := by omega
   have h3' : 0 ≤ r := by omega
   have hq0 : 0 < q := by omega
   have hqn : ¬ q = 0 := by omega
   have hqb : (q == 0) = false := by simp; omega
   have x0 := Int.emod_nonneg b (show q ≠ 0 by omega); have x1 := Int.emod_lt_of_pos b hq0; have y0 := Int.emod_nonneg r (show q ≠ 0 by omega); have y1 := Int.emod_lt_of_pos r hq0
   have eX : (wrap64 (b % q + r % q)).tmod q = (b % q + r % q) % q := by
    rw [za0 _ (by omega) (by omega), Int.tmod_eq_emod_of_nonneg (by omega)]
   have z0 := Int.emod_nonneg (b % q + r % q) (show q ≠ 0 by omega); have z1 := Int.emod_lt_of_pos (b % q + r % q) hq0; have X1 : -9223372036854775808 ≤ (wrap64 (b % q + r % q)).tmod q := by rw [eX]; omega
   have X2 : (wrap64 (b % q + r % q)).tmod q ≤ 9223372036854775807 := by rw [eX]; omega
   have HA := Lib.hid (show Ending.returned (.int .i64 (atI m ((wrap64 (b % q + r % q)).tmod q))) = Ending.returned (.int .i64 (atI m ((b % q + r % q) % q))) by rw [eX]); have HX := Lib.hid (And.intro X1 X2); clear eX X1 X2 x0 x1 y0 y1 z0 z1; clear h; go_enter Tryz.func159, Tryz.ntmps159
   go_wp2_with fail
   refine (zb8 _ _).mono ?_; rw [HQ.out]; rintro e w' ⟨rfl, rfl⟩; go_wp2_with fail
   go_quiet ((go_at_call 184; exact Calls.quiet_of_same ((at_any m _ _ HX.out.1 HX.out.2).mono fun _ _ h => ⟨h.1.trans HA.out, h.2.symm⟩)))
   go_wp2_with fail
   go_ret
   exact ⟨rfl, _, rfl⟩
theorem slots_any (m : Int) (w : World) : Calls Tryz.prog 68 #[.int .i64 m] w fun e w' => e = .returned (.int .i64 (slotsI m)) ∧ w = w' := by
 have hc := countI_le m
 unfold slotsI
 generalize hq : countI m = q at *
 have HQ := Lib.hid hq
 clear hq
 by_cases h : q < 2
 · rw [if_pos h]
   go_enter Tryz.func68, Tryz.ntmps68
   go_wp2_with fail
   refine (zb8 _ _).mono ?_; rw [HQ.out]; rintro e w' ⟨rfl, rfl⟩; go_wp2_with fail
   go_ret
   exact ⟨rfl, rfl⟩
 · rw [if_neg h]
   go_enter Tryz.func68, Tryz.ntmps68
   go_wp2_with fail
   refine (zb8 _ _).mono ?_; rw [HQ.out]; rintro e w' ⟨rfl, rfl⟩; go_wp2_with fail
   go_ret
   exact ⟨rfl, rfl⟩
theorem die_any (m b r s : Int) (w : World) (h1 : -9223372036854775808 ≤ s) (h2 : s ≤ 9223372036854775807) : Calls Tryz.prog 160 #[.int .i64 m, .int .i64 b, .int .i64 r, .int .i64 s] w fun e w' => e = .returned (.int .i64 (dieI m b r s)) ∧ ∃ k, w' = w.drewN k := by
 unfold dieI
 by_cases h : parityI m b r < 0
 · rw [if_pos h]
   go_enter Tryz.func160, Tryz.ntmps160
   go_wp2_with fail
   refine (parity_any _ _ _ _).mono ?_; rintro e w' ⟨rfl, k, rfl⟩; go_wp2_with fail
   go_ret
   exact ⟨rfl, _, rfl⟩
 · rw [if_neg h]
   go_enter Tryz.func160, Tryz.ntmps160
   go_wp2_with fail
   refine (parity_any _ _ _ _).mono ?_; rintro e w' ⟨rfl, k, rfl⟩; go_wp2_with fail
   refine (without_any _ _ _).mono ?_; rintro e w' ⟨rfl, rfl⟩; go_wp2_with fail
   refine (at_any _ _ _ h1 h2).mono ?_; rintro e w' ⟨rfl, rfl⟩; go_wp2_with fail
   go_ret
   exact ⟨rfl, _, rfl⟩
theorem slot_any (m b r d : Int) (w : World) : Calls Tryz.prog 161 #[.int .i64 m, .int .i64 b, .int .i64 r, .int .i64 d] w fun e w' => e = .returned (.int .i64 (slotI m b r d)) ∧ ∃ k, w' = w.drewN k := by
 unfold slotI
 by_cases h : parityI m b r < 0
 · rw [if_pos h]
   go_enter Tryz.func161, Tryz.ntmps161
   go_wp2_with fail
   refine (parity_any _ _ _ _).mono ?_; rintro e w' ⟨rfl, k, rfl⟩; go_wp2_with fail
   go_ret
   exact ⟨rfl, _, rfl⟩
 · rw [if_neg h]
   go_enter Tryz.func161, Tryz.ntmps161
   go_wp2_with fail
   refine (parity_any _ _ _ _).mono ?_; rintro e w' ⟨rfl, k, rfl⟩; go_wp2_with fail
   refine (without_any _ _ _).mono ?_; rintro e w' ⟨rfl, rfl⟩; go_wp2_with fail
   refine (spot_any _ _ _).mono ?_; rintro e w' ⟨rfl, rfl⟩; go_wp2_with fail
   go_ret
   exact ⟨rfl, _, rfl⟩
end Go.Proofs.YtpbigfopmompfaaGreat
namespace Go.Proofs.YtpbigfopmompfaaGreat
open Go.RowKit
end Go.Proofs.YtpbigfopmompfaaGreat
namespace Go.Proofs.YtpbigfopmompfaaGreat
open Go.RowKit
def wiB (n a b : Int) : Bool := decide (a ≤ n) && decide (n ≤ b)
def mayG (d b p : Int) : Bool := wiB d 3 6 && (wiB b 8 16 && wiB p 2 8)
theorem wiB_true {n a b : Int} : wiB n a b = true ↔ a ≤ n ∧ n ≤ b := by simp [wiB]
theorem wiB_false {n a b : Int} : wiB n a b = false ↔ n < a ∨ b < n := by simp [wiB]; omega
theorem zbg (n a b : Int) (w : World) : Calls Tryz.prog 90 #[.int .i64 n, .int .i64 a, .int .i64 b] w fun e w' => e = .returned (.bool (wiB n a b)) ∧ w = w' := by
 by_cases h : a ≤ n
 · by_cases h2 : n ≤ b
   · rw [wiB_true.2 ⟨h, h2⟩]
     go_enter Tryz.func90, Tryz.ntmps90
     go_wp2
     go_ret
     exact ⟨rfl, rfl⟩
   · rw [wiB_false.2 (by omega)]
     go_enter Tryz.func90, Tryz.ntmps90
     go_wp2
     go_ret
     exact ⟨by simp, rfl⟩
 · rw [wiB_false.2 (by omega)]
   go_enter Tryz.func90, Tryz.ntmps90
   go_wp2
   go_ret
   exact ⟨by simp, rfl⟩
theorem may_geo (d b p : Int) (w : World) : Calls Tryz.prog 52 #[.agg #[.int .i64 d, .int .i64 b, .int .i64 p]] w fun e w' => e = .returned (.bool (mayG d b p)) ∧ Below w.heap.size w w' := by
 unfold mayG
 cases h1 : wiB d 3 6
 · have H1 := Lib.hid h1
   clear h1; go_enter Tryz.func52, Tryz.ntmps52
   go_wp2_with fail
   refine (zbg _ _ _ _).mono ?_; rw [H1.out]; rintro e w' ⟨rfl, rfl⟩; go_wp2_with fail
   go_ret
   exact ⟨rfl, (Below.refl _ _).alloc (Nat.le_refl _) _⟩
 · cases h2 : wiB b 8 16
   · have H1 := Lib.hid h1
     have H2 := Lib.hid h2; clear h1 h2; go_enter Tryz.func52, Tryz.ntmps52
     go_wp2_with fail
     refine (zbg _ _ _ _).mono ?_; rw [H1.out]; rintro e w' ⟨rfl, rfl⟩; go_wp2_with fail
     refine (zbg _ _ _ _).mono ?_; rw [H2.out]; rintro e w' ⟨rfl, rfl⟩; go_wp2_with fail
     go_ret
     exact ⟨rfl, (Below.refl _ _).alloc (Nat.le_refl _) _⟩
   · have H1 := Lib.hid h1
     have H2 := Lib.hid h2; clear h1 h2; go_enter Tryz.func52, Tryz.ntmps52
     go_wp2_with fail
     refine (zbg _ _ _ _).mono ?_; rw [H1.out]; rintro e w' ⟨rfl, rfl⟩; go_wp2_with fail
     refine (zbg _ _ _ _).mono ?_; rw [H2.out]; rintro e w' ⟨rfl, rfl⟩; go_wp2_with fail
     refine (zbg _ _ _ _).mono ?_; rintro e w' ⟨rfl, rfl⟩; go_wp2_with fail
     go_ret
     exact ⟨by simp, (Below.refl _ _).alloc (Nat.le_refl _) _⟩

def inG (D B P d b p : Int) : Bool := wiB d 0 (D - 1) && (wiB b 0 (B - 1) && wiB p 0 (P - 1))
theorem in_geo (D B P d b p : Int) (w : World) (hD : 0 ≤ D ∧ D ≤ 4611686018427387904) (hB : 0 ≤ B ∧ B ≤ 4611686018427387904) (hP : 0 ≤ P ∧ P ≤ 4611686018427387904) :
 Calls Tryz.prog 80 #[.agg #[.int .i64 D, .int .i64 B, .int .i64 P], .agg #[.int .i64 d, .int .i64 b, .int .i64 p]] w fun e w' => e = .returned (.bool (inG D B P d b p)) ∧ Below w.heap.size w w' := by
 obtain ⟨D1, D2⟩ := hD
 obtain ⟨B1, B2⟩ := hB
 obtain ⟨P1, P2⟩ := hP
 unfold inG
 cases h1 : wiB d 0 (D - 1)
 · have H1 := Lib.hid h1
   clear h1; go_enter Tryz.func80, Tryz.ntmps80
   go_wp2_with fail
   refine (zbg _ _ _ _).mono ?_; rw [H1.out]; rintro e w' ⟨rfl, rfl⟩; go_wp2_with fail
   go_ret
   exact ⟨rfl, ((Below.refl _ _).alloc (Nat.le_refl _) _).alloc (by simp) _⟩
 · cases h2 : wiB b 0 (B - 1)
   · have H1 := Lib.hid h1
     have H2 := Lib.hid h2; clear h1 h2; go_enter Tryz.func80, Tryz.ntmps80
     go_wp2_with fail
     refine (zbg _ _ _ _).mono ?_; rw [H1.out]; rintro e w' ⟨rfl, rfl⟩; go_wp2_with fail
     refine (zbg _ _ _ _).mono ?_; rw [H2.out]; rintro e w' ⟨rfl, rfl⟩; go_wp2_with fail
     go_ret
     exact ⟨rfl, ((Below.refl _ _).alloc (Nat.le_refl _) _).alloc (by simp) _⟩
   · have H1 := Lib.hid h1
     have H2 := Lib.hid h2; clear h1 h2; go_enter Tryz.func80, Tryz.ntmps80
     go_wp2_with fail
     refine (zbg _ _ _ _).mono ?_; rw [H1.out]; rintro e w' ⟨rfl, rfl⟩; go_wp2_with fail
     refine (zbg _ _ _ _).mono ?_; rw [H2.out]; rintro e w' ⟨rfl, rfl⟩; go_wp2_with fail
     refine (zbg _ _ _ _).mono ?_; rintro e w' ⟨rfl, rfl⟩; go_wp2_with fail
     go_ret
     exact ⟨by simp, ((Below.refl _ _).alloc (Nat.le_refl _) _).alloc (by simp) _⟩
def logI (d b p : Int) : Int := if mayG d b p then ((b - 5) * p * (d - 2) + 1) / 2 else 0
theorem mayG_bd {d b p : Int} (h : mayG d b p = true) : 3 ≤ d ∧ d ≤ 6 ∧ 8 ≤ b ∧ b ≤ 16 ∧ 2 ≤ p ∧ p ≤ 8 := by
 unfold mayG at h
 simp only [Bool.and_eq_true, wiB_true] at h
 omega
theorem log_bd {d b p : Int} (h : mayG d b p = true) : 6 ≤ (b - 5) * p ∧ (b - 5) * p ≤ 88 ∧ 6 ≤ (b - 5) * p * (d - 2) ∧ (b - 5) * p * (d - 2) ≤ 352 := by
 obtain ⟨h1, h2, h3, h4, h5, h6⟩ := mayG_bd h
 have a1 := Int.mul_le_mul (show (3 : Int) ≤ b - 5 by omega) h5 (by omega) (by omega)
 have a2 := Int.mul_le_mul (show b - 5 ≤ (11 : Int) by omega) h6 (by omega) (by omega)
 have a3 := Int.mul_le_mul (show (6 : Int) ≤ (b - 5) * p by omega) (show (1 : Int) ≤ d - 2 by omega) (by omega) (by omega)
 have a4 := Int.mul_le_mul (show (b - 5) * p ≤ (88 : Int) by omega) (show d - 2 ≤ (4 : Int) by omega) (by omega) (by omega)
 omega
theorem logical_any (d b p : Int) (w : World) : Calls Tryz.prog 162 #[.agg #[.int .i64 d, .int .i64 b, .int .i64 p]] w fun e w' => e = .returned (.int .i64 (logI d b p)) ∧ Below w.heap.size w w' := by
 unfold logI
 cases h : mayG d b p
 · have H := Lib.hid h
   clear h; go_enter Tryz.func162, Tryz.ntmps162
   go_wp2_with fail
   refine (may_geo _ _ _ _).mono ?_; rw [H.out]; rintro e w1 ⟨rfl, hb1⟩; have hb2 := ((Below.refl _ w).alloc (Nat.le_refl _) (.cells #[.int .i64 d, .int .i64 b, .int .i64 p] 39)).trans (hb1.mono (by simp)); go_wp2_with fail
   go_ret
   exact ⟨rfl, hb2⟩
 · obtain ⟨l1, l2, l3, l4⟩ := log_bd h
   obtain ⟨h1, h2, h3, h4, h5, h6⟩ := mayG_bd h; have H := Lib.hid h; clear h; go_enter Tryz.func162, Tryz.ntmps162
   go_wp2_with fail
   refine (may_geo _ _ _ _).mono ?_; rw [H.out]; rintro e w1 ⟨rfl, hb1⟩; have hb2 := ((Below.refl _ w).alloc (Nat.le_refl _) (.cells #[.int .i64 d, .int .i64 b, .int .i64 p] 39)).trans (hb1.mono (by simp))
   have hc : ∀ i, w1.cell? ⟨w.heap.size, i, none⟩ = #[.int .i64 d, .int .i64 b, .int .i64 p][i]? := by
    intro i; rw [hb1.cell (p := ⟨w.heap.size, i, none⟩) (by simp), zaf (heap_alloc_new w _)]
   have c0 := hc 0; have c1 := hc 1; have c2 := hc 2; simp at c0 c1 c2; clear hc hb1; go_wp2_with fail
   go_ret
   exact ⟨rfl, hb2⟩
end Go.Proofs.YtpbigfopmompfaaGreat
namespace Go.Proofs.YtpbigfopmompfaaGreat
open Go.RowKit
theorem tmod_norm (x n : Int) (h : 0 < n) : (x.tmod n + n).tmod n = x % n := by
 have h1 := Int.lt_tmod_of_pos x h
 rw [Int.tmod_eq_emod_of_nonneg (a := x.tmod n + n) (by omega), Int.add_emod_right]
 have h3 : x = n * (x.tdiv n) + x.tmod n := (Int.mul_tdiv_add_tmod x n).symm
 have : x % n = (n * (x.tdiv n) + x.tmod n) % n := by rw [← h3]
 rw [this, Int.mul_add_emod_self_left]
theorem norm_wrap (x n : Int) (h : 0 < n) (h2 : n ≤ 1000) : (wrap64 (x.tmod n + n)).tmod n = x % n := by
 have h1 := Int.lt_tmod_of_pos x h
 have h2 := Int.tmod_lt_of_pos x h
 rw [za0 _ (by omega) (by omega), tmod_norm x n h]
theorem geo_any (a b c : Int) (w : World) : Calls Tryz.prog 19 #[.int .i64 a, .int .i64 b, .int .i64 c] w fun e w' => e = .returned (.agg #[.int .i64 (3 + a % 4), .int .i64 (8 + b % 9), .int .i64 (2 + c % 7)]) ∧ Below w.heap.size w w' := by
 have ea := norm_wrap a 4 (by decide) (by decide)
 have eb := norm_wrap b 9 (by decide) (by decide)
 have ec := norm_wrap c 7 (by decide) (by decide)
 have a0 : wrap64 (3 + a % 4) = 3 + a % 4 := za0 _ (by omega) (by omega)
 have b0 : wrap64 (8 + b % 9) = 8 + b % 9 := za0 _ (by omega) (by omega)
 have c0 : wrap64 (2 + c % 7) = 2 + c % 7 := za0 _ (by omega) (by omega)
 have H := Lib.hid (And.intro ea (And.intro eb (And.intro ec (And.intro a0 (And.intro b0 c0)))))
 clear ea eb ec a0 b0 c0
 go_enter Tryz.func19, Tryz.ntmps19
 go_wp2_with fail
 exact bodyPost_ret (v := .agg #[.int .i64 (3 + a % 4), .int .i64 (8 + b % 9), .int .i64 (2 + c % 7)]) (by simp [results, Tryz.results19, go_sem, H.out.1, H.out.2.1, H.out.2.2.1, H.out.2.2.2.1, H.out.2.2.2.2.1, H.out.2.2.2.2.2]) rfl ⟨rfl, (Below.refl _ _).alloc (Nat.le_refl _) _⟩
theorem begun1_any (w : World) : Calls Tryz.prog 158 #[] w fun e w' => e = .returned (.bool true) ∧ Below w.heap.size w w' := by
 go_enter Tryz.func158, Tryz.ntmps158
 go_wp2_with fail
 refine (begun_any _).mono ?_
 rintro e w1 ⟨rfl, hb1⟩
 go_wp2_with fail
 go_ret
 exact ⟨rfl, hb1⟩
set_option maxHeartbeats 1000000 in
theorem begun6_any (w : World) : Calls Tryz.prog 130 #[] w fun e w' => e = .returned (.bool true) ∧ Below w.heap.size w w' := by
 have z1 : mayG 3 8 2 = true := by decide
 have z2 : mayG 0 0 0 = false := by decide
 have z3 : inG 3 8 2 2 7 1 = true := by decide
 have z4 : inG 3 8 2 3 0 0 = false := by decide
 have z5 : parityI 7 1 1 = 2 := by decide
 have z6 : slotsI 7 = 2 := by decide
 have z7 : dieI 7 0 0 0 = 1 := by decide
 have z8 : slotI 7 0 0 2 = 1 := by decide
 have z9 : slotI 7 0 0 0 = -1 := by decide
 have z10 : logI 3 8 2 = 3 := by decide
 have HZ := Lib.hid (And.intro z1 (And.intro z2 (And.intro z3 (And.intro z4 (And.intro z5 (And.intro z6 (And.intro z7 (And.intro z8 (And.intro z9 z10)))))))))
 clear z1 z2 z3 z4 z5 z6 z7 z8 z9 z10
 go_enter Tryz.func130, Tryz.ntmps130
 go_wp2_with fail
 refine (begun1_any _).mono ?_
 rintro e w1 ⟨rfl, hb1⟩
 have h1 := ((Below.refl _ w).alloc (Nat.le_refl _) (.cells #[.int .i64 3, .int .i64 8, .int .i64 2] 39)).trans (hb1.mono (by simp))
 have B1 : w1.heap[w.heap.size]? = some (.cells #[.int .i64 3, .int .i64 8, .int .i64 2] 39 (0, 0)) := zad (heap_alloc_new w _) hb1
 clear hb1
 have c01 : w1.cell? ⟨w.heap.size, 0, none⟩ = some (.int .i64 3) := by rw [zaf B1]; rfl
 have c11 : w1.cell? ⟨w.heap.size, 1, none⟩ = some (.int .i64 8) := by rw [zaf B1]; rfl
 have c21 : w1.cell? ⟨w.heap.size, 2, none⟩ = some (.int .i64 2) := by rw [zaf B1]; rfl
 go_wp2_with fail
 refine (may_geo _ _ _ _).mono ?_
 rw [HZ.out.1]
 rintro e w2 ⟨rfl, hb⟩
 have B2 := zad B1 hb
 have h2 := h1.trans (hb.mono h1.size)
 clear hb B1 h1
 clear c01 c11 c21
 go_wp2_with fail
 refine (may_geo _ _ _ _).mono ?_
 rw [HZ.out.2.1]
 rintro e w3 ⟨rfl, hb⟩
 have B3 := zad B2 hb
 have h3 := h2.trans (hb.mono h2.size)
 clear hb B2 h2
 have c03 : w3.cell? ⟨w.heap.size, 0, none⟩ = some (.int .i64 3) := by rw [zaf B3]; rfl
 have c13 : w3.cell? ⟨w.heap.size, 1, none⟩ = some (.int .i64 8) := by rw [zaf B3]; rfl
 have c23 : w3.cell? ⟨w.heap.size, 2, none⟩ = some (.int .i64 2) := by rw [zaf B3]; rfl
 go_wp2_with fail
 refine (in_geo _ _ _ _ _ _ _ (by decide) (by decide) (by decide)).mono ?_
 rw [HZ.out.2.2.1]
 rintro e w4 ⟨rfl, hb⟩
 have B4 := zad B3 hb
 have h4 := h3.trans (hb.mono h3.size)
 clear hb B3 h3
 clear c03 c13 c23
 have c04 : w4.cell? ⟨w.heap.size, 0, none⟩ = some (.int .i64 3) := by rw [zaf B4]; rfl
 have c14 : w4.cell? ⟨w.heap.size, 1, none⟩ = some (.int .i64 8) := by rw [zaf B4]; rfl
 have c24 : w4.cell? ⟨w.heap.size, 2, none⟩ = some (.int .i64 2) := by rw [zaf B4]; rfl
 go_wp2_with fail
 refine (in_geo _ _ _ _ _ _ _ (by decide) (by decide) (by decide)).mono ?_
 rw [HZ.out.2.2.2.1]
 rintro e w5 ⟨rfl, hb⟩
 have B5 := zad B4 hb
 have h5 := h4.trans (hb.mono h4.size)
 clear hb B4 h4
 clear c04 c14 c24
 go_wp2_with fail
 refine (parity_any _ _ _ _).mono ?_
 rw [HZ.out.2.2.2.2.1]
 rintro e w' ⟨rfl, n6, rfl⟩
 obtain ⟨w6, hw6⟩ : ∃ x : World, x = w5.drewN n6 := ⟨_, rfl⟩
 rw [← hw6]
 have B6 : w6.heap[w.heap.size]? = some (.cells #[.int .i64 3, .int .i64 8, .int .i64 2] 39 (0, 0)) := by rw [hw6]; exact B5
 have h6 : Below w.heap.size w w6 := by rw [hw6]; exact zau h5 _
 clear hw6 B5 h5
 go_wp2_with fail
 refine (slots_any _ _).mono ?_
 rw [HZ.out.2.2.2.2.2.1]
 rintro e w' ⟨rfl, rfl⟩
 go_wp2_with fail
 refine (die_any _ _ _ _ _ (by decide) (by decide)).mono ?_
 rw [HZ.out.2.2.2.2.2.2.1]
 rintro e w' ⟨rfl, n7, rfl⟩
 obtain ⟨w7, hw7⟩ : ∃ x : World, x = w6.drewN n7 := ⟨_, rfl⟩
 rw [← hw7]
 have B7 : w7.heap[w.heap.size]? = some (.cells #[.int .i64 3, .int .i64 8, .int .i64 2] 39 (0, 0)) := by rw [hw7]; exact B6
 have h7 : Below w.heap.size w w7 := by rw [hw7]; exact zau h6 _
 clear hw7 B6 h6
 go_wp2_with fail
 refine (slot_any _ _ _ _ _).mono ?_
 rw [HZ.out.2.2.2.2.2.2.2.1]
 rintro e w' ⟨rfl, n8, rfl⟩
 obtain ⟨w8, hw8⟩ : ∃ x : World, x = w7.drewN n8 := ⟨_, rfl⟩
 rw [← hw8]
 have B8 : w8.heap[w.heap.size]? = some (.cells #[.int .i64 3, .int .i64 8, .int .i64 2] 39 (0, 0)) := by rw [hw8]; exact B7
 have h8 : Below w.heap.size w w8 := by rw [hw8]; exact zau h7 _
 clear hw8 B7 h7
 go_wp2_with fail
 refine (slot_any _ _ _ _ _).mono ?_
 rw [HZ.out.2.2.2.2.2.2.2.2.1]
 rintro e w' ⟨rfl, n9, rfl⟩
 obtain ⟨w9, hw9⟩ : ∃ x : World, x = w8.drewN n9 := ⟨_, rfl⟩
 rw [← hw9]
 have B9 : w9.heap[w.heap.size]? = some (.cells #[.int .i64 3, .int .i64 8, .int .i64 2] 39 (0, 0)) := by rw [hw9]; exact B8
 have h9 : Below w.heap.size w w9 := by rw [hw9]; exact zau h8 _
 clear hw9 B8 h8
 have c09 : w9.cell? ⟨w.heap.size, 0, none⟩ = some (.int .i64 3) := by rw [zaf B9]; rfl
 have c19 : w9.cell? ⟨w.heap.size, 1, none⟩ = some (.int .i64 8) := by rw [zaf B9]; rfl
 have c29 : w9.cell? ⟨w.heap.size, 2, none⟩ = some (.int .i64 2) := by rw [zaf B9]; rfl
 go_wp2_with fail
 refine (logical_any _ _ _ _).mono ?_
 rw [HZ.out.2.2.2.2.2.2.2.2.2]
 rintro e w10 ⟨rfl, hb⟩
 have B10 := zad B9 hb
 have h10 := h9.trans (hb.mono h9.size)
 clear hb B9 h9
 clear c09 c19 c29
 go_wp2_with fail
 go_ret
 exact ⟨rfl, h10⟩
end Go.Proofs.YtpbigfopmompfaaGreat
