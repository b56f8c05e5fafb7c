import Derived.Test.YtakekjbbbjmdpaaGeoBegun
/- GeoTurns: the parity goes round; slots are all other dies; no condition. -/
namespace Go.Proofs.Ytakekjbbbjmdpaa.geoTurns
open Go.RowKit
set_option linter.unusedVariables false
theorem cnt_len (M : Nat) (hM : M < 256) : (diesL (M : Int)).length = cnt M 8 := by rw [diesL_nat hM, dies_length]
theorem shr_bit (S P : Nat) : bits .and .i64 ((S : Int) / 2 ^ P) 1 = ((S.testBit P).toNat : Int) := by
  have e : (S : Int) / 2 ^ P = ((S / 2 ^ P : Nat) : Int) := by rw [Int.natCast_ediv, Int.natCast_pow]; rfl
  have h := i64_mask ((S : Int) / 2 ^ P) 1 (by omega)
  rw [show ((2 ^ 1 - 1 : Nat) : Int) = 1 from rfl] at h
  rw [h, e, Nat.testBit_eq_decide_div_mod_eq]
  have h2 := Nat.mod_two_eq_zero_or_one (S / 2 ^ P)
  rcases h2 with h2 | h2
  · simp [h2]; omega
  · simp [h2]; omega
theorem shr_false {S P : Nat} (h : S.testBit P = false) : (bits .and .i64 ((S : Int) / 2 ^ P) 1 == 1) = false := by
  rw [shr_bit, h]; rfl
theorem shl_nat (P : Nat) (h : P < 8) : wrap64 (2 ^ P) = ((2 ^ P : Nat) : Int) := by
  have h2 : 2 ^ P < 256 := Nat.pow_lt_pow_right (by decide) h
  rw [show (2 : Int) ^ P = ((2 ^ P : Nat) : Int) by rw [Int.natCast_pow]; rfl]
  generalize 2 ^ P = T at *
  exact wrap64_in' _ (by omega) (by omega)
theorem or_nat (S P : Nat) (h : P < 8) (hS : S < 256) : bits .or .i64 (S : Int) ((2 ^ P : Nat) : Int) = ((S ||| 2 ^ P : Nat) : Int) := by
  have h2 : 2 ^ P < 256 := Nat.pow_lt_pow_right (by decide) h
  exact i64_or _ _ (by omega) (by omega)
set_option maxRecDepth 100000 in
set_option maxHeartbeats 1000000 in
theorem walk_out (m b r : Int) (M : Nat) (w : World) (e1 : bits .and .i64 m 255 = (M : Int)) (hM : M < 256) (h : cnt M 8 < 2 ∨ b < 0 ∨ r < 0 ∨ 1073741824 < b ∨ 1073741824 < r) :
    Calls Try.prog 4 #[.int .i64 m, .int .i64 b, .int .i64 r] w fun e w' => e = .returned (.bool true) ∧ Below w.heap.size w w' := by
  have hl := cnt_len M hM
  rw [← hl] at h
  generalize hL : diesL (M : Int) = l at *
  have HL := Lib.hid hL
  generalize hn : l.length = n at *
  have HN := Lib.hid hn
  have h8 : n ≤ 8 := by have := cnt_le M 8; omega
  clear hl hL hn
  rcases h with h | h | h | h | h
  all_goals
    go_enter Try.func4, Try.ntmps4
    go_wp2_with fail
    refine (begun6_any _).mono ?_
    rintro e w1 ⟨rfl, h1⟩
    go_wp2_with fail
    refine (dies_any _ _).mono ?_
    rw [HL.out, HN.out]
    rintro e w2 ⟨v2, rfl, hown, h2⟩
    obtain ⟨A2, c2, rfl, -, -⟩ := own_slice hown
    replace h2 := below_then h1 h2
    clear hown h1
    go_wp2_with fail
    all_goals go_ret
    all_goals exact ⟨rfl, h2⟩
set_option maxRecDepth 100000 in
set_option maxHeartbeats 4000000 in
theorem walk_in (m : Int) (b r : Nat) (M n : Nat) (w : World) (e1 : bits .and .i64 m 255 = (M : Int)) (hM : M < 256) (hn : cnt M 8 = n) (h2 : 2 ≤ n) (hb : b ≤ 1073741824) (hr : r ≤ 1073741824) :
    Calls Try.prog 4 #[.int .i64 m, .int .i64 (b : Int), .int .i64 (r : Int)] w fun e w' => e = .returned (.bool true) ∧ Below w.heap.size w w' := by
  have hl := cnt_len M hM
  have HN := Lib.hid hn
  have h8 : n ≤ 8 := by have := cnt_le M 8; omega
  have hslots : slotsI (M : Int) = (n : Int) - 1 := by rw [slotsI, countI_nat hM, hn, if_neg (by omega)]
  have HSL := Lib.hid hslots
  have HAll := Lib.hid (show seenTo M (b + r) n = M by rw [← hn]; exact seen_all hM _ (by omega))
  have b1 : (b : Int) ≤ 1073741824 := by omega
  have r1 : (r : Int) ≤ 1073741824 := by omega
  have n2 : ¬ (n : Int) < 2 := by omega
  rw [hn] at hl
  have HL := Lib.hid hl
  clear hn hl hslots
  go_enter Try.func4, Try.ntmps4
  go_wp2_with fail
  refine (begun6_any _).mono ?_
  rintro e w1 ⟨rfl, h1⟩
  go_wp2_with fail
  refine (dies_any _ _).mono ?_
  rw [HL.out]
  rintro e w2 ⟨v2, rfl, hown, hbel⟩
  obtain ⟨A2, c2, rfl, -, -⟩ := own_slice hown
  replace hbel := below_then h1 hbel
  clear hown h1
  go_wp2_with fail
  go_loopw [9, 10, 11, 12, 13, 14] (fun s i _ _ _ _ wr => ∃ k : Nat, k ≤ n ∧ i = .int .i64 k ∧ s = .int .i64 (seenTo M (b + r) k : Nat) ∧ Below w.heap.size w wr) (fun _ i _ _ _ _ _ => n - (intOf i).toNat)
  case atStart => exact ⟨0, by omega, rfl, rfl, hbel⟩
  case round =>
    obtain ⟨k, hk, rfl, rfl, hbk⟩ := hrel
    clear hbel
    by_cases hlt : k < n
    · have hkn : (k : Int) < (n : Int) := by omega
      obtain ⟨s1, s2⟩ := seen_step hM (b + r) k (by rw [HN.out]; exact hlt)
      obtain ⟨p1, p2⟩ := rowDie_in hM (by rw [HN.out]; omega) (b + r + k)
      have HP := Lib.hid (show parityI (M : Int) (b : Int) ((r : Int) + (k : Int)) = (rowDie M (b + r + k) : Int) by
        rw [show (r : Int) + (k : Int) = ((r + k : Nat) : Int) by omega, parity_nat hM (by rw [HN.out]; exact h2), Nat.add_assoc])
      have HS := Lib.hid (show seenTo M (b + r) (k + 1) = seenTo M (b + r) k ||| 2 ^ rowDie M (b + r + k) from rfl)
      generalize hPP : rowDie M (b + r + k) = P at *
      generalize hSS : seenTo M (b + r) k = S at *
      clear hPP hSS
      have hT := Lib.hid (And.intro p2 s1)
      clear p2 s1
      go_wp2_with fail
      refine (parity_any _ _ _ _).mono ?_
      rw [HP.out]
      rintro e w3 ⟨rfl, n3, rfl⟩
      replace hbk := below_drewN hbk n3
      have ht := shr_false hT.out.2
      have e2 := shl_nat P p1
      have e3 := or_nat S P p1 s2
      rw [← HS.out] at e3
      have HO0 := Lib.hid (show ownTo M P 0 = 2 ^ P from rfl)
      rw [← HO0.out] at e2 e3
      generalize hSn : seenTo M (b + r) (k + 1) = Sn at *
      replace hSn := Lib.hid hSn
      have HOA := Lib.hid (show ownTo M P (n - 1) = M by
        have := own_all_fin ⟨M, hM⟩ ⟨P, p1⟩ hT.out.1
        simp only [HN.out] at this
        exact this)
      clear HS
      have hnk : (r : Int) + (k : Int) ≤ 1073741840 := by omega
      go_wp2_with fail
      try rw [e2]
      try rw [e3]
      go_loopw [12, 13, 14] (fun o s _ wx => ∃ j : Nat, j ≤ n - 1 ∧ s = .int .i64 j ∧ o = .int .i64 (ownTo M P j : Nat) ∧ Below w.heap.size w wx) (fun _ s _ _ => n - (intOf s).toNat)
      case atStart => exact ⟨0, by omega, rfl, rfl, hbk⟩
      case round =>
        obtain ⟨j, hj, rfl, rfl, hbj⟩ := hrel
        clear hbk e2 e3 ht
        by_cases hjn : j < n - 1
        · have hjn' : (j : Int) < (n : Int) - 1 := by omega
          obtain ⟨d1, d2, d3, d4⟩ := own_step hM p1 hT.out.1 (show j < cnt M 8 - 1 by rw [HN.out]; exact hjn)
          obtain ⟨d5, d6⟩ := die_nat (b := b) (r := r + k) hM p1 (by rw [Int.natCast_add]; exact HP.out) d4
          rw [Int.natCast_add] at d5 d6
          have HS2 := Lib.hid (show ownTo M P (j + 1) = ownTo M P j ||| 2 ^ ((othersN M P).getD j 0) from rfl)
          generalize hDD : (othersN M P).getD j 0 = D at *
          generalize hOO : ownTo M P j = O at *
          clear hDD hOO d4
          have H5 := Lib.hid d5
          have H6 := Lib.hid d6
          clear d5 d6
          have ht := shr_false d2
          have e2 := shl_nat D d1
          have e3 := or_nat O D d1 d3
          rw [← HS2.out] at e3
          generalize hTT : (2 ^ D : Nat) = T at e2 e3
          clear hTT d2
          generalize hOn : ownTo M P (j + 1) = On at *
          replace hOn := Lib.hid hOn
          clear HS2
          go_wp2_with fail
          refine (slots_any _ _).mono ?_
          rw [HSL.out]
          rintro e w' ⟨rfl, rfl⟩
          go_wp2_with fail
          refine (die_any _ _ _ _ _ (by omega) (by omega)).mono ?_
          rw [H5.out]
          rintro e w' ⟨rfl, n5, rfl⟩
          go_wp2_with fail
          refine (slot_any _ _ _ _ _).mono ?_
          rw [H6.out]
          rintro e w' ⟨rfl, n6, rfl⟩
          go_wp2_with fail
          go_roundw
          case rel => exact ⟨j + 1, by omega, by go_num, by rw [hOn.out, ← e3, ← e2], below_drewN hbj _⟩
          case measure => simp [intOf]; omega
        · obtain rfl : j = n - 1 := by omega
          have hjx : decide (((n - 1 : Nat) : Int) < (n : Int) - 1) = false := by simp; omega
          rw [HOA.out]
          go_wp2_with fail
          refine (slots_any _ _).mono ?_
          rw [HSL.out]
          rintro e w' ⟨rfl, rfl⟩
          go_wp2_with fail
          go_roundw
          case rel => exact ⟨k + 1, by omega, by go_num, by rw [hSn.out], hbj⟩
          case measure => simp [intOf]; omega
    · obtain rfl : k = n := by omega
      have hkx : decide ((k : Int) < (k : Int)) = false := by simp
      rw [HAll.out]
      go_wp2_with fail
      go_ret
      exact ⟨rfl, hbk⟩
theorem walk (m b r : Int) (w : World) (w0 : (Lit.int .i64 m).wf = true) (w1 : (Lit.int .i64 b).wf = true) (w2 : (Lit.int .i64 r).wf = true) :
    Calls Try.prog 4 #[.int .i64 m, .int .i64 b, .int .i64 r] w fun e w' => e = .returned (.bool true) ∧ Below w.heap.size w w' := by
  obtain ⟨M, hM⟩ := Int.eq_ofNat_of_zero_le (show 0 ≤ m % 256 by omega)
  have hM2 : M < 256 := by omega
  have e1 : bits .and .i64 m 255 = (M : Int) := by rw [and255, hM]
  by_cases h : cnt M 8 < 2 ∨ b < 0 ∨ r < 0 ∨ 1073741824 < b ∨ 1073741824 < r
  · exact walk_out m b r M w e1 hM2 h
  · obtain ⟨B, rfl⟩ := Int.eq_ofNat_of_zero_le (show 0 ≤ b by omega)
    obtain ⟨R, rfl⟩ := Int.eq_ofNat_of_zero_le (show 0 ≤ r by omega)
    exact walk_in m B R M _ w e1 hM2 rfl (by omega) (by omega) (by omega)
end Go.Proofs.Ytakekjbbbjmdpaa.geoTurns
