import Derived.Test.YtakekjbbbjmdpaaGeoBegun
/- GeoSmall: what stands fits many times over; no condition. -/
namespace Go.Proofs.Ytakekjbbbjmdpaa.geoSmall
open Go.RowKit
set_option linter.unusedVariables false
set_option maxHeartbeats 1000000 in
theorem walk (a b c : Int) (w : World) (w0 : (Lit.int .i64 a).wf = true) (w1 : (Lit.int .i64 b).wf = true) (w2 : (Lit.int .i64 c).wf = true) :
    Calls Try.prog 5 #[.int .i64 a, .int .i64 b, .int .i64 c] w fun e w' => e = .returned (.bool true) ∧ Below w.heap.size w w' := by
  clear w0 w1 w2
  go_enter Try.func5, Try.ntmps5
  go_wp2_with fail
  refine (begun6_any _).mono ?_
  rintro e w1 ⟨rfl, h1⟩
  go_wp2_with fail
  refine (geo_any _ _ _ _).mono ?_
  have hm : mayG (3 + a % 4) (8 + b % 9) (2 + c % 7) = true := by
    unfold mayG
    simp only [Bool.and_eq_true, wiB_true]
    omega
  generalize 3 + a % 4 = D at *
  generalize 8 + b % 9 = B at *
  generalize 2 + c % 7 = P at *
  rintro e w2 ⟨rfl, h2⟩
  replace h2 := h1.trans (h2.mono h1.size)
  clear h1
  obtain ⟨l1, l2, l3, l4⟩ := log_bd hm
  obtain ⟨b1, b2, b3, b4, b5, b6⟩ := mayG_bd hm
  have hL : logI D B P = ((B - 5) * P * (D - 2) + 1) / 2 := by unfold logI; rw [hm]; rfl
  obtain ⟨L, hLL⟩ : ∃ L, L = logI D B P := ⟨_, rfl⟩
  have g1 : 1 ≤ L := by omega
  have g2 : 2 * L ≤ (B - 5) * P * (D - 2) + 1 := by omega
  have g3 : L ≤ 200 := by omega
  have HL := Lib.hid hLL.symm
  have HM := Lib.hid hm
  clear hL hLL hm
  have h3 := h2.alloc h2.size (.cells #[.int .i64 D, .int .i64 B, .int .i64 P] 32)
  have hsz := h2.size
  go_wp2_with fail
  refine (logical_any _ _ _ _).mono ?_
  rw [HL.out]
  rintro e w3 ⟨rfl, hb⟩
  have B3 := blk_below (heap_alloc_new w2 (.cells #[.int .i64 D, .int .i64 B, .int .i64 P] 32)) hb
  have h4 := h3.trans (hb.mono h3.size)
  have c0 : w3.cell? ⟨w2.heap.size, 0, none⟩ = some (.int .i64 D) := by rw [blk_cell B3]; rfl
  have c1 : w3.cell? ⟨w2.heap.size, 1, none⟩ = some (.int .i64 B) := by rw [blk_cell B3]; rfl
  have c2 : w3.cell? ⟨w2.heap.size, 2, none⟩ = some (.int .i64 P) := by rw [blk_cell B3]; rfl
  clear h3 hb B3
  go_wp2_with fail
  refine (reflogical_yes _ _ _ _ HM.out).mono ?_
  rw [HL.out]
  rintro e w4 ⟨rfl, hb⟩
  replace h4 := h4.trans (hb.mono h4.size)
  go_wp2_with fail
  go_ret
  exact ⟨rfl, h4⟩
end Go.Proofs.Ytakekjbbbjmdpaa.geoSmall
