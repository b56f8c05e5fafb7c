import Derived.Test.YtakekjbbbjmdpaaSherdMay2
/- What a claim's proof leans on: RefMay, RefMay2. -/
/- The reference of which sherds may be. -/
namespace Go.Proofs.Ytakekjbbbjmdpaa
open Go.RowKit
theorem inB_iff {n t : Int} : inB n t = true ↔ 0 ≤ n ∧ n ≤ t := by simp [inB]
theorem inB_no {n t : Int} : inB n t = false ↔ n < 0 ∨ t < n := by simp [inB]; omega
set_option maxRecDepth 100000 in
set_option maxHeartbeats 4000000 in
theorem refmay_bad (d : List Nat) (r l s k b o m : Int) (w : World) (hd : d.length = 16)
    (h : (k ≠ 1 ∧ k ≠ 2) ∨ b < 0 ∨ 16 ≤ b ∨ o < 0 ∨ 8 ≤ o ∨ countI m < 2 ∨ s < 0 ∨ 1099511627775 < s ∨ l < 0 ∨ 65535 < l) :
    Calls Try.prog 39 #[.agg (shV d r l s k b o m).toArray] w fun e w' => e = .returned (.bool false) ∧ Below w.heap.size w w' := by
  have hB := heap_alloc_new w (.cells (shV d r l s k b o m).toArray 40)
  obtain ⟨c16, c17, c18, c19, c20, c21, c22⟩ := sh_cells hd hB
  have hbel := (Below.refl _ w).alloc (Nat.le_refl _) (.cells (shV d r l s k b o m).toArray 40)
  have HD := Lib.hid hd
  clear hd
  have hlen := length_diesL m
  generalize hn : (diesL m).length = n at *
  have HN := Lib.hid hn
  clear hn
  rw [← hlen] at h
  have hn8 : n ≤ 8 := by have := (countI_le m).2; omega
  clear hlen
  by_cases k0 : k ≠ 1 ∧ k ≠ 2
  · obtain ⟨k1, k2⟩ := k0
    have t1 : (k != 1) = true := by simpa using k1
    have t2 : (k != 2) = true := by simpa using k2
    clear k1 k2 h hB
    go_enter Try.func39, Try.ntmps39
    go_wp2_with fail
    go_ret
    exact ⟨rfl, hbel⟩
  · have h2 : b < 0 ∨ 16 ≤ b ∨ o < 0 ∨ 8 ≤ o ∨ (n : Int) < 2 ∨ s < 0 ∨ 1099511627775 < s ∨ l < 0 ∨ 65535 < l := by
      rcases h with h | h
      · exact absurd h k0
      · exact h
    have hk : k = 1 ∨ k = 2 := by omega
    clear h k0
    have bad : (b < 0) ∨ (0 ≤ b ∧ 16 ≤ b) ∨ (0 ≤ b ∧ b < 16 ∧ o < 0) ∨ (0 ≤ b ∧ b < 16 ∧ 0 ≤ o ∧ 8 ≤ o) ∨ (0 ≤ b ∧ b < 16 ∧ 0 ≤ o ∧ o < 8 ∧ (n : Int) < 2) ∨ (0 ≤ b ∧ b < 16 ∧ 0 ≤ o ∧ o < 8 ∧ 2 ≤ (n : Int) ∧ s < 0) ∨ (0 ≤ b ∧ b < 16 ∧ 0 ≤ o ∧ o < 8 ∧ 2 ≤ (n : Int) ∧ 0 ≤ s ∧ 1099511627775 < s) ∨ (0 ≤ b ∧ b < 16 ∧ 0 ≤ o ∧ o < 8 ∧ 2 ≤ (n : Int) ∧ 0 ≤ s ∧ s ≤ 1099511627775 ∧ l < 0) ∨ (0 ≤ b ∧ b < 16 ∧ 0 ≤ o ∧ o < 8 ∧ 2 ≤ (n : Int) ∧ 0 ≤ s ∧ s ≤ 1099511627775 ∧ 0 ≤ l ∧ 65535 < l) := by omega
    clear h2
    rcases hk with rfl | rfl
    all_goals
      rcases bad with h | h | h | h | h | h | h | h | h
      · go_enter Try.func39, Try.ntmps39
        go_wp2_with fail
        go_ret
        exact ⟨rfl, hbel⟩
      · obtain ⟨e1, e2⟩ := h
        go_enter Try.func39, Try.ntmps39
        go_wp2_with fail
        go_ret
        exact ⟨rfl, hbel⟩
      · obtain ⟨e1, e2, e3⟩ := h
        go_enter Try.func39, Try.ntmps39
        go_wp2_with fail
        go_ret
        exact ⟨rfl, hbel⟩
      · obtain ⟨e1, e2, e3, e4⟩ := h
        go_enter Try.func39, Try.ntmps39
        go_wp2_with fail
        go_ret
        exact ⟨rfl, hbel⟩
      · obtain ⟨e1, e2, e3, e4, e5⟩ := h
        go_enter Try.func39, Try.ntmps39
        go_wp2_with fail
        refine (dies_any _ _).mono ?_
        rw [HN.out]
        rintro e w1 ⟨v1, rfl, hown, hb1⟩
        obtain ⟨A1, c1, rfl, -, -⟩ := own_slice hown
        have hB1 := blk_below hB hb1
        obtain ⟨x16, x17, x18, x19, x20, x21, x22⟩ := sh_cells HD.out hB1
        have hbel1 := hbel.trans (hb1.mono (by simp))
        clear hown hB1
        go_wp2_with fail
        go_ret
        exact ⟨rfl, hbel1⟩
      · obtain ⟨e1, e2, e3, e4, e5, e6⟩ := h
        go_enter Try.func39, Try.ntmps39
        go_wp2_with fail
        refine (dies_any _ _).mono ?_
        rw [HN.out]
        rintro e w1 ⟨v1, rfl, hown, hb1⟩
        obtain ⟨A1, c1, rfl, -, -⟩ := own_slice hown
        have hB1 := blk_below hB hb1
        obtain ⟨x16, x17, x18, x19, x20, x21, x22⟩ := sh_cells HD.out hB1
        have hbel1 := hbel.trans (hb1.mono (by simp))
        clear hown hB1
        go_wp2_with fail
        go_ret
        exact ⟨rfl, hbel1⟩
      · obtain ⟨e1, e2, e3, e4, e5, e6, e7⟩ := h
        go_enter Try.func39, Try.ntmps39
        go_wp2_with fail
        refine (dies_any _ _).mono ?_
        rw [HN.out]
        rintro e w1 ⟨v1, rfl, hown, hb1⟩
        obtain ⟨A1, c1, rfl, -, -⟩ := own_slice hown
        have hB1 := blk_below hB hb1
        obtain ⟨x16, x17, x18, x19, x20, x21, x22⟩ := sh_cells HD.out hB1
        have hbel1 := hbel.trans (hb1.mono (by simp))
        clear hown hB1
        go_wp2_with fail
        go_ret
        exact ⟨rfl, hbel1⟩
      · obtain ⟨e1, e2, e3, e4, e5, e6, e7, e8⟩ := h
        go_enter Try.func39, Try.ntmps39
        go_wp2_with fail
        refine (dies_any _ _).mono ?_
        rw [HN.out]
        rintro e w1 ⟨v1, rfl, hown, hb1⟩
        obtain ⟨A1, c1, rfl, -, -⟩ := own_slice hown
        have hB1 := blk_below hB hb1
        obtain ⟨x16, x17, x18, x19, x20, x21, x22⟩ := sh_cells HD.out hB1
        have hbel1 := hbel.trans (hb1.mono (by simp))
        clear hown hB1
        go_wp2_with fail
        go_ret
        exact ⟨rfl, hbel1⟩
      · obtain ⟨e1, e2, e3, e4, e5, e6, e7, e8, e9⟩ := h
        go_enter Try.func39, Try.ntmps39
        go_wp2_with fail
        refine (dies_any _ _).mono ?_
        rw [HN.out]
        rintro e w1 ⟨v1, rfl, hown, hb1⟩
        obtain ⟨A1, c1, rfl, -, -⟩ := own_slice hown
        have hB1 := blk_below hB hb1
        obtain ⟨x16, x17, x18, x19, x20, x21, x22⟩ := sh_cells HD.out hB1
        have hbel1 := hbel.trans (hb1.mono (by simp))
        clear hown hB1
        go_wp2_with fail
        go_ret
        exact ⟨rfl, hbel1⟩
end Go.Proofs.Ytakekjbbbjmdpaa
/- The reference of which sherds may be, whole. -/
namespace Go.Proofs.Ytakekjbbbjmdpaa
open Go.RowKit
set_option maxRecDepth 100000 in
set_option maxHeartbeats 4000000 in
theorem refmay_good (d : List Nat) (r l s k b o m : Int) (w : World) (hd : d.length = 16) (hb : ∀ x ∈ d, x < 256)
    (h : k = 1 ∨ k = 2) (b0 : 0 ≤ b) (b1 : b < 16) (o0 : 0 ≤ o) (o1 : o < 8) (hm : 2 ≤ countI m) (s0 : 0 ≤ s) (s1 : s ≤ 1099511627775) (l0 : 0 ≤ l) (l1 : l ≤ 65535) :
    Calls Try.prog 39 #[.agg (shV d r l s k b o m).toArray] w fun e w' => e = .returned (.bool (if k = 2 then inB r 255 else entryB d r l s)) ∧ Below w.heap.size w w' := by
  have hB := heap_alloc_new w (.cells (shV d r l s k b o m).toArray 40)
  obtain ⟨c16, c17, c18, c19, c20, c21, c22⟩ := sh_cells hd hB
  have hbel := (Below.refl _ w).alloc (Nat.le_refl _) (.cells (shV d r l s k b o m).toArray 40)
  have HD := Lib.hid hd
  have hz : ∀ w, (binOp .eql 38 (.agg (nats .u8 d).toArray) (.agg #[.int .u8 0, .int .u8 0, .int .u8 0, .int .u8 0, .int .u8 0, .int .u8 0, .int .u8 0, .int .u8 0, .int .u8 0, .int .u8 0, .int .u8 0, .int .u8 0, .int .u8 0, .int .u8 0, .int .u8 0, .int .u8 0])).run Try.prog w = .ok (.bool (noneB d)) w := fun w => eql_data w d zero16 hb zeros16 hd rfl
  clear hd hb
  have hlen := length_diesL m
  generalize hn : (diesL m).length = n at *
  have HN := Lib.hid hn
  clear hn
  have hn2 : 2 ≤ (n : Int) := by omega
  have hn8 : n ≤ 8 := by have := (countI_le m).2; omega
  clear hlen hm
  generalize hNN : noneB d = N at *
  have HNN := Lib.hid hNN
  clear hNN
  rcases h with rfl | rfl
  · rw [if_neg (by decide)]
    by_cases h1 : r = 1
    · have E := Lib.hid (show entryB d r l s = true by unfold entryB; rw [if_pos h1])
      rw [E.out]
      subst h1
      go_enter Try.func39, Try.ntmps39
      go_wp2_with fail
      refine (dies_any _ _).mono ?_
      rw [HN.out]
      rintro e w1 ⟨v1, rfl, hown, hb1⟩
      obtain ⟨A1, c1, rfl, -, -⟩ := own_slice hown
      have hB1 := blk_below hB hb1
      obtain ⟨x16, x17, x18, x19, x20, x21, x22⟩ := sh_cells HD.out hB1
      have hR1 := range_data hB1
      have hbel1 := hbel.trans (hb1.mono (by simp))
      clear hown hB1
      go_wp2_with (refine wpList_load_mid rfl 38 (.tmp 70) rfl w.heap.size 0 rfl _ _ hR1 Try.underlying38 rfl (by rw [nats_length, HD.out]; kernel_rfl) ?_)
      go_ret
      exact ⟨rfl, hbel1⟩
    · have t1 : (r == 1) = false := by simpa using h1
      by_cases h2 : r = 2
      · have E := Lib.hid (show entryB d r l s = N by unfold entryB; rw [if_neg h1, if_pos (.inl h2)]; exact HNN.out)
        rw [E.out]
        subst h2
        go_enter Try.func39, Try.ntmps39
        go_wp2_with fail
        refine (dies_any _ _).mono ?_
        rw [HN.out]
        rintro e w1 ⟨v1, rfl, hown, hb1⟩
        obtain ⟨A1, c1, rfl, -, -⟩ := own_slice hown
        have hB1 := blk_below hB hb1
        obtain ⟨x16, x17, x18, x19, x20, x21, x22⟩ := sh_cells HD.out hB1
        have hR1 := range_data hB1
        have hbel1 := hbel.trans (hb1.mono (by simp))
        clear hown hB1
        go_wp2_with (refine wpList_load_mid rfl 38 (.tmp 70) rfl w.heap.size 0 rfl _ _ hR1 Try.underlying38 rfl (by rw [nats_length, HD.out]; kernel_rfl) ?_)
        go_ret
        exact ⟨rfl, hbel1⟩
      · have t2 : (r == 2) = false := by simpa using h2
        by_cases h4 : r = 4
        · have E := Lib.hid (show entryB d r l s = N by unfold entryB; rw [if_neg h1, if_pos (.inr h4)]; exact HNN.out)
          rw [E.out]
          subst h4
          go_enter Try.func39, Try.ntmps39
          go_wp2_with fail
          refine (dies_any _ _).mono ?_
          rw [HN.out]
          rintro e w1 ⟨v1, rfl, hown, hb1⟩
          obtain ⟨A1, c1, rfl, -, -⟩ := own_slice hown
          have hB1 := blk_below hB hb1
          obtain ⟨x16, x17, x18, x19, x20, x21, x22⟩ := sh_cells HD.out hB1
          have hR1 := range_data hB1
          have hbel1 := hbel.trans (hb1.mono (by simp))
          clear hown hB1
          go_wp2_with (refine wpList_load_mid rfl 38 (.tmp 70) rfl w.heap.size 0 rfl _ _ hR1 Try.underlying38 rfl (by rw [nats_length, HD.out]; kernel_rfl) ?_)
          go_ret
          exact ⟨rfl, hbel1⟩
        · have t4 : (r == 4) = false := by simpa using h4
          by_cases h3 : r = 3
          · have E := Lib.hid (show entryB d r l s = (N && (l == 0 && s == 0)) by unfold entryB; rw [if_neg h1, if_neg (by omega), if_pos h3, HNN.out])
            rw [E.out]
            subst h3
            cases N
            · clear t1 t2 t4 h1 h2 h4
              go_enter Try.func39, Try.ntmps39
              go_wp2_with fail
              refine (dies_any _ _).mono ?_
              rw [HN.out]
              rintro e w1 ⟨v1, rfl, hown, hb1⟩
              obtain ⟨A1, c1, rfl, -, -⟩ := own_slice hown
              have hB1 := blk_below hB hb1
              obtain ⟨x16, x17, x18, x19, x20, x21, x22⟩ := sh_cells HD.out hB1
              have hR1 := range_data hB1
              have hbel1 := hbel.trans (hb1.mono (by simp))
              clear hown hB1
              go_wp2_with (refine wpList_load_mid rfl 38 (.tmp 70) rfl w.heap.size 0 rfl _ _ hR1 Try.underlying38 rfl (by rw [nats_length, HD.out]; kernel_rfl) ?_)
              go_ret
              exact ⟨rfl, hbel1⟩
            · by_cases hl : l = 0
              · subst hl
                clear t1 t2 t4 h1 h2 h4
                go_enter Try.func39, Try.ntmps39
                go_wp2_with fail
                refine (dies_any _ _).mono ?_
                rw [HN.out]
                rintro e w1 ⟨v1, rfl, hown, hb1⟩
                obtain ⟨A1, c1, rfl, -, -⟩ := own_slice hown
                have hB1 := blk_below hB hb1
                obtain ⟨x16, x17, x18, x19, x20, x21, x22⟩ := sh_cells HD.out hB1
                have hR1 := range_data hB1
                have hbel1 := hbel.trans (hb1.mono (by simp))
                clear hown hB1
                go_wp2_with (refine wpList_load_mid rfl 38 (.tmp 70) rfl w.heap.size 0 rfl _ _ hR1 Try.underlying38 rfl (by rw [nats_length, HD.out]; kernel_rfl) ?_)
                go_ret
                exact ⟨by simp, hbel1⟩
              · have tl : (l == 0) = false := by simpa using hl
                rw [tl]
                clear t1 t2 t4 h1 h2 h4 hl
                go_enter Try.func39, Try.ntmps39
                go_wp2_with fail
                refine (dies_any _ _).mono ?_
                rw [HN.out]
                rintro e w1 ⟨v1, rfl, hown, hb1⟩
                obtain ⟨A1, c1, rfl, -, -⟩ := own_slice hown
                have hB1 := blk_below hB hb1
                obtain ⟨x16, x17, x18, x19, x20, x21, x22⟩ := sh_cells HD.out hB1
                have hR1 := range_data hB1
                have hbel1 := hbel.trans (hb1.mono (by simp))
                clear hown hB1
                go_wp2_with (refine wpList_load_mid rfl 38 (.tmp 70) rfl w.heap.size 0 rfl _ _ hR1 Try.underlying38 rfl (by rw [nats_length, HD.out]; kernel_rfl) ?_)
                go_ret
                exact ⟨rfl, hbel1⟩
          · have t3 : (r == 3) = false := by simpa using h3
            have E := Lib.hid (show entryB d r l s = false by unfold entryB; rw [if_neg h1, if_neg (by omega), if_neg h3])
            rw [E.out]
            clear h1 h2 h3 h4
            go_enter Try.func39, Try.ntmps39
            go_wp2_with fail
            refine (dies_any _ _).mono ?_
            rw [HN.out]
            rintro e w1 ⟨v1, rfl, hown, hb1⟩
            obtain ⟨A1, c1, rfl, -, -⟩ := own_slice hown
            have hB1 := blk_below hB hb1
            obtain ⟨x16, x17, x18, x19, x20, x21, x22⟩ := sh_cells HD.out hB1
            have hR1 := range_data hB1
            have hbel1 := hbel.trans (hb1.mono (by simp))
            clear hown hB1
            go_wp2_with (refine wpList_load_mid rfl 38 (.tmp 70) rfl w.heap.size 0 rfl _ _ hR1 Try.underlying38 rfl (by rw [nats_length, HD.out]; kernel_rfl) ?_)
            go_ret
            exact ⟨rfl, hbel1⟩
  · rw [if_pos rfl]
    unfold inB
    by_cases r0 : 0 ≤ r
    · by_cases r1 : r ≤ 255
      · go_enter Try.func39, Try.ntmps39
        go_wp2_with fail
        refine (dies_any _ _).mono ?_
        rw [HN.out]
        rintro e w1 ⟨v1, rfl, hown, hb1⟩
        obtain ⟨A1, c1, rfl, -, -⟩ := own_slice hown
        have hB1 := blk_below hB hb1
        obtain ⟨x16, x17, x18, x19, x20, x21, x22⟩ := sh_cells HD.out hB1
        have hbel1 := hbel.trans (hb1.mono (by simp))
        clear hown hB1
        go_wp2_with fail
        go_ret
        exact ⟨by simp [r0, r1], hbel1⟩
      · go_enter Try.func39, Try.ntmps39
        go_wp2_with fail
        refine (dies_any _ _).mono ?_
        rw [HN.out]
        rintro e w1 ⟨v1, rfl, hown, hb1⟩
        obtain ⟨A1, c1, rfl, -, -⟩ := own_slice hown
        have hB1 := blk_below hB hb1
        obtain ⟨x16, x17, x18, x19, x20, x21, x22⟩ := sh_cells HD.out hB1
        have hbel1 := hbel.trans (hb1.mono (by simp))
        clear hown hB1
        go_wp2_with fail
        go_ret
        exact ⟨by simp; omega, hbel1⟩
    · go_enter Try.func39, Try.ntmps39
      go_wp2_with fail
      refine (dies_any _ _).mono ?_
      rw [HN.out]
      rintro e w1 ⟨v1, rfl, hown, hb1⟩
      obtain ⟨A1, c1, rfl, -, -⟩ := own_slice hown
      have hB1 := blk_below hB hb1
      obtain ⟨x16, x17, x18, x19, x20, x21, x22⟩ := sh_cells HD.out hB1
      have hbel1 := hbel.trans (hb1.mono (by simp))
      clear hown hB1
      go_wp2_with fail
      go_ret
      exact ⟨by simp; omega, hbel1⟩
theorem refmay_any (d : List Nat) (r l s k b o m : Int) (w : World) (hd : d.length = 16) (hb : ∀ x ∈ d, x < 256) :
    Calls Try.prog 39 #[.agg (shV d r l s k b o m).toArray] w fun e w' => e = .returned (.bool (maySh d r l s k b o m)) ∧ Below w.heap.size w w' := by
  by_cases h : (k ≠ 1 ∧ k ≠ 2) ∨ b < 0 ∨ 16 ≤ b ∨ o < 0 ∨ 8 ≤ o ∨ countI m < 2 ∨ s < 0 ∨ 1099511627775 < s ∨ l < 0 ∨ 65535 < l
  · have e : maySh d r l s k b o m = false := by
      cases hm : maySh d r l s k b o m with
      | false => rfl
      | true =>
        unfold maySh placeB numbersB at hm
        simp only [Bool.and_eq_true, Bool.or_eq_true, inB_iff, decide_eq_true_eq, beq_iff_eq] at hm
        omega
    rw [e]
    exact refmay_bad d r l s k b o m w hd h
  · have hk : k = 1 ∨ k = 2 := by omega
    have e : maySh d r l s k b o m = if k = 2 then inB r 255 else entryB d r l s := by
      have h1 : placeB b o m = true := by
        unfold placeB
        simp only [Bool.and_eq_true, inB_iff, decide_eq_true_eq]
        omega
      have h2 : numbersB r l s = inB r 255 := by
        unfold numbersB
        rw [inB_iff.2 (by omega), inB_iff.2 (by omega), Bool.true_and, Bool.true_and]
      unfold maySh
      rw [h1, h2, Bool.true_and]
      rcases hk with rfl | rfl
      · rw [if_neg (by decide)]
        cases he : entryB d r l s with
        | false => simp
        | true =>
          have hr : inB r 255 = true := by
            rw [inB_iff]
            unfold entryB at he
            split at he
            · omega
            · split at he
              · omega
              · split at he
                · omega
                · cases he
          rw [hr]; rfl
      · rw [if_pos rfl]; simp
    rw [e]
    exact refmay_good d r l s k b o m w hd hb hk (by omega) (by omega) (by omega) (by omega) (by omega) (by omega) (by omega) (by omega) (by omega)
end Go.Proofs.Ytakekjbbbjmdpaa
