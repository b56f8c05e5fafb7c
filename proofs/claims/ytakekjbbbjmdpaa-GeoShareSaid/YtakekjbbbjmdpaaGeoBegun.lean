import Derived.Test.YtakekjbbbjmdpaaGeoMay
/- Measures by the reference; the contract of 'begun' of the stage's statements: it answers true. -/
namespace Go.Proofs.Ytakekjbbbjmdpaa
open Go.RowKit
theorem refmay_yes (d b p : Int) (w : World) (h : mayG d b p = true) : Calls Try.prog 76 #[.agg #[.int .i64 d, .int .i64 b, .int .i64 p]] w fun e w' => e = .returned (.bool true) ∧ Below w.heap.size w w' := by
  obtain ⟨h1, h2, h3, h4, h5, h6⟩ := mayG_bd h
  clear h
  go_enter Try.func76, Try.ntmps76
  go_wp2_with fail
  go_ret
  exact ⟨rfl, (Below.refl _ _).alloc (Nat.le_refl _) _⟩
theorem reflogical_yes (d b p : Int) (w : World) (h : mayG d b p = true) : Calls Try.prog 34 #[.agg #[.int .i64 d, .int .i64 b, .int .i64 p]] w fun e w' => e = .returned (.int .i64 (logI d b p)) ∧ Below w.heap.size w w' := by
  unfold logI
  rw [h]
  obtain ⟨l1, l2, l3, l4⟩ := log_bd h
  obtain ⟨h1, h2, h3, h4, h5, h6⟩ := mayG_bd h
  have H := Lib.hid h
  clear h
  go_enter Try.func34, Try.ntmps34
  go_wp2_with fail
  refine (refmay_yes _ _ _ _ H.out).mono ?_
  rintro e w1 ⟨rfl, hb1⟩
  have hb2 := ((Below.refl _ w).alloc (Nat.le_refl _) (.cells #[.int .i64 d, .int .i64 b, .int .i64 p] 32)).trans (hb1.mono (by simp))
  have hc : ∀ i, w1.cell? ⟨w.heap.size, i, none⟩ = #[.int .i64 d, .int .i64 b, .int .i64 p][i]? := by
    intro i
    rw [hb1.cell (p := ⟨w.heap.size, i, none⟩) (by simp), blk_cell (heap_alloc_new w _)]
  have c0 := hc 0
  have c1 := hc 1
  have c2 := hc 2
  simp at c0 c1 c2
  clear hc hb1
  go_wp2_with fail
  go_ret
  exact ⟨rfl, hb2⟩
theorem tmod_norm (x n : Int) (h : 0 < n) : (x.tmod n + n).tmod n = x % n := by
  have h1 := Int.lt_tmod_of_pos x h
  rw [Int.tmod_eq_emod_of_nonneg (a := x.tmod n + n) (by omega), Int.add_emod_right]
  have h3 : x = n * (x.tdiv n) + x.tmod n := (Int.mul_tdiv_add_tmod x n).symm
  have : x % n = (n * (x.tdiv n) + x.tmod n) % n := by rw [← h3]
  rw [this, Int.mul_add_emod_self_left]
theorem norm_wrap (x n : Int) (h : 0 < n) (h2 : n ≤ 1000) : (wrap64 (x.tmod n + n)).tmod n = x % n := by
  have h1 := Int.lt_tmod_of_pos x h
  have h2 := Int.tmod_lt_of_pos x h
  rw [wrap64_in' _ (by omega) (by omega), tmod_norm x n h]
theorem geo_any (a b c : Int) (w : World) : Calls Try.prog 32 #[.int .i64 a, .int .i64 b, .int .i64 c] w fun e w' => e = .returned (.agg #[.int .i64 (3 + a % 4), .int .i64 (8 + b % 9), .int .i64 (2 + c % 7)]) ∧ Below w.heap.size w w' := by
  have ea := norm_wrap a 4 (by decide) (by decide)
  have eb := norm_wrap b 9 (by decide) (by decide)
  have ec := norm_wrap c 7 (by decide) (by decide)
  have a0 : wrap64 (3 + a % 4) = 3 + a % 4 := wrap64_in' _ (by omega) (by omega)
  have b0 : wrap64 (8 + b % 9) = 8 + b % 9 := wrap64_in' _ (by omega) (by omega)
  have c0 : wrap64 (2 + c % 7) = 2 + c % 7 := wrap64_in' _ (by omega) (by omega)
  have H := Lib.hid (And.intro ea (And.intro eb (And.intro ec (And.intro a0 (And.intro b0 c0)))))
  clear ea eb ec a0 b0 c0
  go_enter Try.func32, Try.ntmps32
  go_wp2_with fail
  exact bodyPost_ret (v := .agg #[.int .i64 (3 + a % 4), .int .i64 (8 + b % 9), .int .i64 (2 + c % 7)]) (by simp [results, Try.results32, go_sem, H.out.1, H.out.2.1, H.out.2.2.1, H.out.2.2.2.1, H.out.2.2.2.2.1, H.out.2.2.2.2.2]) rfl ⟨rfl, (Below.refl _ _).alloc (Nat.le_refl _) _⟩
theorem begun1_any (w : World) : Calls Try.prog 67 #[] w fun e w' => e = .returned (.bool true) ∧ Below w.heap.size w w' := by
  go_enter Try.func67, Try.ntmps67
  go_wp2_with fail
  refine (begun_any _).mono ?_
  rintro e w1 ⟨rfl, hb1⟩
  go_wp2_with fail
  go_ret
  exact ⟨rfl, hb1⟩
set_option maxHeartbeats 1000000 in
theorem begun6_any (w : World) : Calls Try.prog 22 #[] w fun e w' => e = .returned (.bool true) ∧ Below w.heap.size w w' := by
  have z1 : mayG 3 8 2 = true := by decide
  have z2 : mayG 0 0 0 = false := by decide
  have z3 : inG 3 8 2 2 7 1 = true := by decide
  have z4 : inG 3 8 2 3 0 0 = false := by decide
  have z5 : parityI 7 1 1 = 2 := by decide
  have z6 : slotsI 7 = 2 := by decide
  have z7 : dieI 7 0 0 0 = 1 := by decide
  have z8 : slotI 7 0 0 2 = 1 := by decide
  have z9 : slotI 7 0 0 0 = -1 := by decide
  have z10 : logI 3 8 2 = 3 := by decide
  have HZ := Lib.hid (And.intro z1 (And.intro z2 (And.intro z3 (And.intro z4 (And.intro z5 (And.intro z6 (And.intro z7 (And.intro z8 (And.intro z9 z10)))))))))
  clear z1 z2 z3 z4 z5 z6 z7 z8 z9 z10
  go_enter Try.func22, Try.ntmps22
  go_wp2_with fail
  refine (begun1_any _).mono ?_
  rintro e w1 ⟨rfl, hb1⟩
  have h1 := ((Below.refl _ w).alloc (Nat.le_refl _) (.cells #[.int .i64 3, .int .i64 8, .int .i64 2] 32)).trans (hb1.mono (by simp))
  have B1 : w1.heap[w.heap.size]? = some (.cells #[.int .i64 3, .int .i64 8, .int .i64 2] 32 (0, 0)) := blk_below (heap_alloc_new w _) hb1
  clear hb1
  have c01 : w1.cell? ⟨w.heap.size, 0, none⟩ = some (.int .i64 3) := by rw [blk_cell B1]; rfl
  have c11 : w1.cell? ⟨w.heap.size, 1, none⟩ = some (.int .i64 8) := by rw [blk_cell B1]; rfl
  have c21 : w1.cell? ⟨w.heap.size, 2, none⟩ = some (.int .i64 2) := by rw [blk_cell B1]; rfl
  go_wp2_with fail
  refine (may_geo _ _ _ _).mono ?_
  rw [HZ.out.1]
  rintro e w2 ⟨rfl, hb⟩
  have B2 := blk_below B1 hb
  have h2 := h1.trans (hb.mono h1.size)
  clear hb B1 h1
  clear c01 c11 c21
  go_wp2_with fail
  refine (may_geo _ _ _ _).mono ?_
  rw [HZ.out.2.1]
  rintro e w3 ⟨rfl, hb⟩
  have B3 := blk_below B2 hb
  have h3 := h2.trans (hb.mono h2.size)
  clear hb B2 h2
  have c03 : w3.cell? ⟨w.heap.size, 0, none⟩ = some (.int .i64 3) := by rw [blk_cell B3]; rfl
  have c13 : w3.cell? ⟨w.heap.size, 1, none⟩ = some (.int .i64 8) := by rw [blk_cell B3]; rfl
  have c23 : w3.cell? ⟨w.heap.size, 2, none⟩ = some (.int .i64 2) := by rw [blk_cell B3]; rfl
  go_wp2_with fail
  refine (in_geo _ _ _ _ _ _ _ (by decide) (by decide) (by decide)).mono ?_
  rw [HZ.out.2.2.1]
  rintro e w4 ⟨rfl, hb⟩
  have B4 := blk_below B3 hb
  have h4 := h3.trans (hb.mono h3.size)
  clear hb B3 h3
  clear c03 c13 c23
  have c04 : w4.cell? ⟨w.heap.size, 0, none⟩ = some (.int .i64 3) := by rw [blk_cell B4]; rfl
  have c14 : w4.cell? ⟨w.heap.size, 1, none⟩ = some (.int .i64 8) := by rw [blk_cell B4]; rfl
  have c24 : w4.cell? ⟨w.heap.size, 2, none⟩ = some (.int .i64 2) := by rw [blk_cell B4]; rfl
  go_wp2_with fail
  refine (in_geo _ _ _ _ _ _ _ (by decide) (by decide) (by decide)).mono ?_
  rw [HZ.out.2.2.2.1]
  rintro e w5 ⟨rfl, hb⟩
  have B5 := blk_below B4 hb
  have h5 := h4.trans (hb.mono h4.size)
  clear hb B4 h4
  clear c04 c14 c24
  go_wp2_with fail
  refine (parity_any _ _ _ _).mono ?_
  rw [HZ.out.2.2.2.2.1]
  rintro e w' ⟨rfl, n6, rfl⟩
  obtain ⟨w6, hw6⟩ : ∃ x : World, x = w5.drewN n6 := ⟨_, rfl⟩
  rw [← hw6]
  have B6 : w6.heap[w.heap.size]? = some (.cells #[.int .i64 3, .int .i64 8, .int .i64 2] 32 (0, 0)) := by rw [hw6]; exact B5
  have h6 : Below w.heap.size w w6 := by rw [hw6]; exact below_drewN h5 _
  clear hw6 B5 h5
  go_wp2_with fail
  refine (slots_any _ _).mono ?_
  rw [HZ.out.2.2.2.2.2.1]
  rintro e w' ⟨rfl, rfl⟩
  go_wp2_with fail
  refine (die_any _ _ _ _ _ (by decide) (by decide)).mono ?_
  rw [HZ.out.2.2.2.2.2.2.1]
  rintro e w' ⟨rfl, n7, rfl⟩
  obtain ⟨w7, hw7⟩ : ∃ x : World, x = w6.drewN n7 := ⟨_, rfl⟩
  rw [← hw7]
  have B7 : w7.heap[w.heap.size]? = some (.cells #[.int .i64 3, .int .i64 8, .int .i64 2] 32 (0, 0)) := by rw [hw7]; exact B6
  have h7 : Below w.heap.size w w7 := by rw [hw7]; exact below_drewN h6 _
  clear hw7 B6 h6
  go_wp2_with fail
  refine (slot_any _ _ _ _ _).mono ?_
  rw [HZ.out.2.2.2.2.2.2.2.1]
  rintro e w' ⟨rfl, n8, rfl⟩
  obtain ⟨w8, hw8⟩ : ∃ x : World, x = w7.drewN n8 := ⟨_, rfl⟩
  rw [← hw8]
  have B8 : w8.heap[w.heap.size]? = some (.cells #[.int .i64 3, .int .i64 8, .int .i64 2] 32 (0, 0)) := by rw [hw8]; exact B7
  have h8 : Below w.heap.size w w8 := by rw [hw8]; exact below_drewN h7 _
  clear hw8 B7 h7
  go_wp2_with fail
  refine (slot_any _ _ _ _ _).mono ?_
  rw [HZ.out.2.2.2.2.2.2.2.2.1]
  rintro e w' ⟨rfl, n9, rfl⟩
  obtain ⟨w9, hw9⟩ : ∃ x : World, x = w8.drewN n9 := ⟨_, rfl⟩
  rw [← hw9]
  have B9 : w9.heap[w.heap.size]? = some (.cells #[.int .i64 3, .int .i64 8, .int .i64 2] 32 (0, 0)) := by rw [hw9]; exact B8
  have h9 : Below w.heap.size w w9 := by rw [hw9]; exact below_drewN h8 _
  clear hw9 B8 h8
  have c09 : w9.cell? ⟨w.heap.size, 0, none⟩ = some (.int .i64 3) := by rw [blk_cell B9]; rfl
  have c19 : w9.cell? ⟨w.heap.size, 1, none⟩ = some (.int .i64 8) := by rw [blk_cell B9]; rfl
  have c29 : w9.cell? ⟨w.heap.size, 2, none⟩ = some (.int .i64 2) := by rw [blk_cell B9]; rfl
  go_wp2_with fail
  refine (logical_any _ _ _ _).mono ?_
  rw [HZ.out.2.2.2.2.2.2.2.2.2]
  rintro e w10 ⟨rfl, hb⟩
  have B10 := blk_below B9 hb
  have h10 := h9.trans (hb.mono h9.size)
  clear hb B9 h9
  clear c09 c19 c29
  go_wp2_with fail
  go_ret
  exact ⟨rfl, h10⟩
end Go.Proofs.Ytakekjbbbjmdpaa
