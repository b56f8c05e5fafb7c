import Derived.Test.YtakekjbbbjmdpaaBegun9
/- SherdPlaces: of which blocks, rows, sets a sherd may be; no condition. -/
namespace Go.Proofs.Ytakekjbbbjmdpaa.sherdPlaces
open Go.RowKit
set_option linter.unusedVariables false
theorem two_fin : ∀ M : Fin 256, (bits .and .i64 (M.val : Int) ((M.val : Int) - 1) != 0) = decide (2 ≤ cnt M.val 8) := by decide +kernel
def twoB (m : Int) : Bool := decide (2 ≤ countI m)
theorem two_in {m : Int} (h0 : 0 ≤ m) (h1 : m ≤ 255) : (bits .and .i64 m (m - 1) != 0) = twoB m := by
  obtain ⟨M, rfl⟩ := Int.eq_ofNat_of_zero_le h0
  have := two_fin ⟨M, by omega⟩
  unfold twoB
  rw [countI_nat (by omega)]
  simp only at this
  rw [this]
  simp
  omega
theorem two_out {m : Int} (h : m < 0 ∨ 255 < m) : twoB m = false := by
  unfold twoB countI
  have : setB m = false := by
    rcases h with h | h
    · exact setB_neg h
    · exact setB_big (by omega)
  rw [this]; rfl
theorem may_place (b o m : Int) : maySh zero16 1 0 0 1 b o m = (decide (0 ≤ b ∧ b ≤ 15 ∧ 0 ≤ o ∧ o ≤ 7) && twoB m) := by
  have h1 : numbersB 1 0 0 = true := by decide
  have h2 : entryB zero16 1 0 0 = true := by decide
  unfold maySh placeB
  rw [h1, h2]
  unfold inB twoB
  rw [Bool.eq_iff_iff]
  simp
  omega
theorem built_place (b o m : Int) : Try.prog.built 40 [(1, .int .i64 1), (4, .int .i64 1), (5, .int .i64 b), (6, .int .i64 o), (7, .int .i64 m)] = some (shV zero16 1 0 0 1 b o m).toArray := by kernel_rfl
set_option maxRecDepth 100000 in
set_option maxHeartbeats 4000000 in
theorem walk (b o m : Int) (w : World) (w0 : (Lit.int .i64 b).wf = true) (w1 : (Lit.int .i64 o).wf = true) (w2 : (Lit.int .i64 m).wf = true) :
    Calls Try.prog 15 #[.int .i64 b, .int .i64 o, .int .i64 m] w fun e w' => e = .returned (.bool true) ∧ Below w.heap.size w w' := by
  obtain ⟨m0, m1⟩ := wf_i64 w2
  clear w0 w1 w2
  go_enter Try.func15, Try.ntmps15
  go_wp2_with fail
  refine (begun9_any _).mono ?_
  rintro e w1 ⟨rfl, hb1⟩
  go_upto_region 4 with fail
  have hV := shInfo zero16 rfl 1 0 0 1 b o m
  go_upto_region 5 with (first | (refine wpList_build_l rfl 40 _ rfl _ rfl _ (built_place b o m) ?_) | (refine wpList_put_row rfl 40 (.tmp 8) (.tmp 16) rfl w1.heap.size (shV zero16 1 0 0 1 b o m) rfl rfl 40 _ (heap_new' w1 _ _ rfl) hV rfl (one_shV _ _ _ _ _ _ _ _) ?_; intro w2 hU2; have hS := hU2.at_; have hb2 := hU2.below (hb1.alloc hb1.size _) hb1.size))
  try go_simp
  go_cut [9] (fun v wx => v = .bool (twoB m) ∧ wx = w2)
  case first =>
    by_cases h0 : 0 ≤ m
    · by_cases h1 : m ≤ 255
      · have h2 := two_in h0 h1
        go_wp2_with fail
        go_meet
        exact ⟨rfl, rfl⟩
      · have h2 := Lib.hid (two_out (m := m) (by omega))
        go_wp2_with fail
        go_meet
        exact ⟨by rw [h2.out], rfl⟩
    · have h2 := Lib.hid (two_out (m := m) (by omega))
      go_wp2_with fail
      go_meet
      exact ⟨by rw [h2.out], rfl⟩
  case rest =>
    obtain ⟨rfl, rfl⟩ := hcut
    obtain ⟨w2, rfl⟩ : ∃ x : World, x = wc := ⟨_, rfl⟩
    have hM := may_place b o m
    generalize twoB m = T at *
    have main : ∀ (x : Bool), maySh zero16 1 0 0 1 b o m = x → True := fun _ _ => trivial
    by_cases c0 : 0 ≤ b
    · by_cases c1 : b < 16
      · by_cases c2 : 0 ≤ o
        · by_cases c3 : o < 8
          · have HM := Lib.hid (show maySh zero16 1 0 0 1 b o m = T by rw [hM, decide_eq_true (by omega)]; simp)
            clear hM main
            go_wp2_with (refine wpList_load_mid rfl 40 (.tmp 8) rfl w1.heap.size 0 rfl _ _ (range_blk hS) Try.underlying40 rfl hV ?_)
            refine (smay_any _ _ _ _ _ _ _ _ _ rfl zeros16).mono ?_
            rw [HM.out]; rintro e w3 ⟨rfl, hb3⟩
            have hb4 := hb2.trans (hb3.mono hb2.size)
            go_wp2_with fail
            go_ret
            exact ⟨by simp, hb4⟩
          · have HM := Lib.hid (show maySh zero16 1 0 0 1 b o m = false by rw [hM, decide_eq_false (by omega)]; rfl)
            clear hM main
            go_wp2_with (refine wpList_load_mid rfl 40 (.tmp 8) rfl w1.heap.size 0 rfl _ _ (range_blk hS) Try.underlying40 rfl hV ?_)
            refine (smay_any _ _ _ _ _ _ _ _ _ rfl zeros16).mono ?_
            rw [HM.out]; rintro e w3 ⟨rfl, hb3⟩
            have hb4 := hb2.trans (hb3.mono hb2.size)
            go_wp2_with fail
            go_ret
            exact ⟨by simp, hb4⟩
        · have HM := Lib.hid (show maySh zero16 1 0 0 1 b o m = false by rw [hM, decide_eq_false (by omega)]; rfl)
          clear hM main
          go_wp2_with (refine wpList_load_mid rfl 40 (.tmp 8) rfl w1.heap.size 0 rfl _ _ (range_blk hS) Try.underlying40 rfl hV ?_)
          refine (smay_any _ _ _ _ _ _ _ _ _ rfl zeros16).mono ?_
          rw [HM.out]; rintro e w3 ⟨rfl, hb3⟩
          have hb4 := hb2.trans (hb3.mono hb2.size)
          go_wp2_with fail
          go_ret
          exact ⟨by simp, hb4⟩
      · have HM := Lib.hid (show maySh zero16 1 0 0 1 b o m = false by rw [hM, decide_eq_false (by omega)]; rfl)
        clear hM main
        go_wp2_with (refine wpList_load_mid rfl 40 (.tmp 8) rfl w1.heap.size 0 rfl _ _ (range_blk hS) Try.underlying40 rfl hV ?_)
        refine (smay_any _ _ _ _ _ _ _ _ _ rfl zeros16).mono ?_
        rw [HM.out]; rintro e w3 ⟨rfl, hb3⟩
        have hb4 := hb2.trans (hb3.mono hb2.size)
        go_wp2_with fail
        go_ret
        exact ⟨by simp, hb4⟩
    · have HM := Lib.hid (show maySh zero16 1 0 0 1 b o m = false by rw [hM, decide_eq_false (by omega)]; rfl)
      clear hM main
      go_wp2_with (refine wpList_load_mid rfl 40 (.tmp 8) rfl w1.heap.size 0 rfl _ _ (range_blk hS) Try.underlying40 rfl hV ?_)
      refine (smay_any _ _ _ _ _ _ _ _ _ rfl zeros16).mono ?_
      rw [HM.out]; rintro e w3 ⟨rfl, hb3⟩
      have hb4 := hb2.trans (hb3.mono hb2.size)
      go_wp2_with fail
      go_ret
      exact ⟨by simp, hb4⟩
end Go.Proofs.Ytakekjbbbjmdpaa.sherdPlaces
