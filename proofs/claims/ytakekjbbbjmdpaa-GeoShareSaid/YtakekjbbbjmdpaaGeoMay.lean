import Derived.Test.YtakekjbbbjmdpaaGeoRef
/- Measures: which may be; which places are in; how many logical pages there are. -/
namespace Go.Proofs.Ytakekjbbbjmdpaa
open Go.RowKit
def wiB (n a b : Int) : Bool := decide (a ≤ n) && decide (n ≤ b)
def mayG (d b p : Int) : Bool := wiB d 3 6 && (wiB b 8 16 && wiB p 2 8)
theorem wiB_true {n a b : Int} : wiB n a b = true ↔ a ≤ n ∧ n ≤ b := by simp [wiB]
theorem wiB_false {n a b : Int} : wiB n a b = false ↔ n < a ∨ b < n := by simp [wiB]; omega
theorem within_any (n a b : Int) (w : World) : Calls Try.prog 110 #[.int .i64 n, .int .i64 a, .int .i64 b] w fun e w' => e = .returned (.bool (wiB n a b)) ∧ w = w' := by
  by_cases h : a ≤ n
  · by_cases h2 : n ≤ b
    · rw [wiB_true.2 ⟨h, h2⟩]
      go_enter Try.func110, Try.ntmps110
      go_wp2
      go_ret
      exact ⟨rfl, rfl⟩
    · rw [wiB_false.2 (by omega)]
      go_enter Try.func110, Try.ntmps110
      go_wp2
      go_ret
      exact ⟨by simp, rfl⟩
  · rw [wiB_false.2 (by omega)]
    go_enter Try.func110, Try.ntmps110
    go_wp2
    go_ret
    exact ⟨by simp, rfl⟩
theorem may_geo (d b p : Int) (w : World) : Calls Try.prog 68 #[.agg #[.int .i64 d, .int .i64 b, .int .i64 p]] w fun e w' => e = .returned (.bool (mayG d b p)) ∧ Below w.heap.size w w' := by
  unfold mayG
  cases h1 : wiB d 3 6
  · have H1 := Lib.hid h1
    clear h1
    go_enter Try.func68, Try.ntmps68
    go_wp2_with fail
    refine (within_any _ _ _ _).mono ?_
    rw [H1.out]; rintro e w' ⟨rfl, rfl⟩
    go_wp2_with fail
    go_ret
    exact ⟨rfl, (Below.refl _ _).alloc (Nat.le_refl _) _⟩
  · cases h2 : wiB b 8 16
    · have H1 := Lib.hid h1
      have H2 := Lib.hid h2
      clear h1 h2
      go_enter Try.func68, Try.ntmps68
      go_wp2_with fail
      refine (within_any _ _ _ _).mono ?_
      rw [H1.out]; rintro e w' ⟨rfl, rfl⟩
      go_wp2_with fail
      refine (within_any _ _ _ _).mono ?_
      rw [H2.out]; rintro e w' ⟨rfl, rfl⟩
      go_wp2_with fail
      go_ret
      exact ⟨rfl, (Below.refl _ _).alloc (Nat.le_refl _) _⟩
    · have H1 := Lib.hid h1
      have H2 := Lib.hid h2
      clear h1 h2
      go_enter Try.func68, Try.ntmps68
      go_wp2_with fail
      refine (within_any _ _ _ _).mono ?_
      rw [H1.out]; rintro e w' ⟨rfl, rfl⟩
      go_wp2_with fail
      refine (within_any _ _ _ _).mono ?_
      rw [H2.out]; rintro e w' ⟨rfl, rfl⟩
      go_wp2_with fail
      refine (within_any _ _ _ _).mono ?_
      rintro e w' ⟨rfl, rfl⟩
      go_wp2_with fail
      go_ret
      exact ⟨by simp, (Below.refl _ _).alloc (Nat.le_refl _) _⟩

def inG (D B P d b p : Int) : Bool := wiB d 0 (D - 1) && (wiB b 0 (B - 1) && wiB p 0 (P - 1))
theorem in_geo (D B P d b p : Int) (w : World) (hD : 0 ≤ D ∧ D ≤ 4611686018427387904) (hB : 0 ≤ B ∧ B ≤ 4611686018427387904) (hP : 0 ≤ P ∧ P ≤ 4611686018427387904) :
    Calls Try.prog 69 #[.agg #[.int .i64 D, .int .i64 B, .int .i64 P], .agg #[.int .i64 d, .int .i64 b, .int .i64 p]] w fun e w' => e = .returned (.bool (inG D B P d b p)) ∧ Below w.heap.size w w' := by
  obtain ⟨D1, D2⟩ := hD
  obtain ⟨B1, B2⟩ := hB
  obtain ⟨P1, P2⟩ := hP
  unfold inG
  cases h1 : wiB d 0 (D - 1)
  · have H1 := Lib.hid h1
    clear h1
    go_enter Try.func69, Try.ntmps69
    go_wp2_with fail
    refine (within_any _ _ _ _).mono ?_
    rw [H1.out]; rintro e w' ⟨rfl, rfl⟩
    go_wp2_with fail
    go_ret
    exact ⟨rfl, ((Below.refl _ _).alloc (Nat.le_refl _) _).alloc (by simp) _⟩
  · cases h2 : wiB b 0 (B - 1)
    · have H1 := Lib.hid h1
      have H2 := Lib.hid h2
      clear h1 h2
      go_enter Try.func69, Try.ntmps69
      go_wp2_with fail
      refine (within_any _ _ _ _).mono ?_
      rw [H1.out]; rintro e w' ⟨rfl, rfl⟩
      go_wp2_with fail
      refine (within_any _ _ _ _).mono ?_
      rw [H2.out]; rintro e w' ⟨rfl, rfl⟩
      go_wp2_with fail
      go_ret
      exact ⟨rfl, ((Below.refl _ _).alloc (Nat.le_refl _) _).alloc (by simp) _⟩
    · have H1 := Lib.hid h1
      have H2 := Lib.hid h2
      clear h1 h2
      go_enter Try.func69, Try.ntmps69
      go_wp2_with fail
      refine (within_any _ _ _ _).mono ?_
      rw [H1.out]; rintro e w' ⟨rfl, rfl⟩
      go_wp2_with fail
      refine (within_any _ _ _ _).mono ?_
      rw [H2.out]; rintro e w' ⟨rfl, rfl⟩
      go_wp2_with fail
      refine (within_any _ _ _ _).mono ?_
      rintro e w' ⟨rfl, rfl⟩
      go_wp2_with fail
      go_ret
      exact ⟨by simp, ((Below.refl _ _).alloc (Nat.le_refl _) _).alloc (by simp) _⟩
def logI (d b p : Int) : Int := if mayG d b p then ((b - 5) * p * (d - 2) + 1) / 2 else 0
theorem mayG_bd {d b p : Int} (h : mayG d b p = true) : 3 ≤ d ∧ d ≤ 6 ∧ 8 ≤ b ∧ b ≤ 16 ∧ 2 ≤ p ∧ p ≤ 8 := by
  unfold mayG at h
  simp only [Bool.and_eq_true, wiB_true] at h
  omega
theorem log_bd {d b p : Int} (h : mayG d b p = true) : 6 ≤ (b - 5) * p ∧ (b - 5) * p ≤ 88 ∧ 6 ≤ (b - 5) * p * (d - 2) ∧ (b - 5) * p * (d - 2) ≤ 352 := by
  obtain ⟨h1, h2, h3, h4, h5, h6⟩ := mayG_bd h
  have a1 := Int.mul_le_mul (show (3 : Int) ≤ b - 5 by omega) h5 (by omega) (by omega)
  have a2 := Int.mul_le_mul (show b - 5 ≤ (11 : Int) by omega) h6 (by omega) (by omega)
  have a3 := Int.mul_le_mul (show (6 : Int) ≤ (b - 5) * p by omega) (show (1 : Int) ≤ d - 2 by omega) (by omega) (by omega)
  have a4 := Int.mul_le_mul (show (b - 5) * p ≤ (88 : Int) by omega) (show d - 2 ≤ (4 : Int) by omega) (by omega) (by omega)
  omega
theorem logical_any (d b p : Int) (w : World) : Calls Try.prog 33 #[.agg #[.int .i64 d, .int .i64 b, .int .i64 p]] w fun e w' => e = .returned (.int .i64 (logI d b p)) ∧ Below w.heap.size w w' := by
  unfold logI
  cases h : mayG d b p
  · have H := Lib.hid h
    clear h
    go_enter Try.func33, Try.ntmps33
    go_wp2_with fail
    refine (may_geo _ _ _ _).mono ?_
    rw [H.out]; rintro e w1 ⟨rfl, hb1⟩
    have hb2 := ((Below.refl _ w).alloc (Nat.le_refl _) (.cells #[.int .i64 d, .int .i64 b, .int .i64 p] 32)).trans (hb1.mono (by simp))
    go_wp2_with fail
    go_ret
    exact ⟨rfl, hb2⟩
  · obtain ⟨l1, l2, l3, l4⟩ := log_bd h
    obtain ⟨h1, h2, h3, h4, h5, h6⟩ := mayG_bd h
    have H := Lib.hid h
    clear h
    go_enter Try.func33, Try.ntmps33
    go_wp2_with fail
    refine (may_geo _ _ _ _).mono ?_
    rw [H.out]; rintro e w1 ⟨rfl, hb1⟩
    have hb2 := ((Below.refl _ w).alloc (Nat.le_refl _) (.cells #[.int .i64 d, .int .i64 b, .int .i64 p] 32)).trans (hb1.mono (by simp))
    have hc : ∀ i, w1.cell? ⟨w.heap.size, i, none⟩ = #[.int .i64 d, .int .i64 b, .int .i64 p][i]? := by
      intro i
      rw [hb1.cell (p := ⟨w.heap.size, i, none⟩) (by simp), blk_cell (heap_alloc_new w _)]
    have c0 := hc 0
    have c1 := hc 1
    have c2 := hc 2
    simp at c0 c1 c2
    clear hc hb1
    go_wp2_with fail
    go_ret
    exact ⟨rfl, hb2⟩
end Go.Proofs.Ytakekjbbbjmdpaa
