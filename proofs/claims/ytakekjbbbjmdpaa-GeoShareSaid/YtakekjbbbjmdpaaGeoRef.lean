import Derived.Test.YtakekjbbbjmdpaaGeo
/- The contracts of the reference of geo. -/
namespace Go.Proofs.Ytakekjbbbjmdpaa
open Go.RowKit
theorem refparity_any (m b r : Int) (w : World) : Calls Try.prog 24 #[.int .i64 m, .int .i64 b, .int .i64 r] w fun e w' => e = .returned (.int .i64 (parityI m b r)) ∧ Below w.heap.size w w' := by
  have hc := countI_le m
  have hl := length_diesL m
  by_cases h : countI m < 2 ∨ b < 0 ∨ r < 0
  · have H := Lib.hid (show parityI m b r = -1 by unfold parityI; rw [if_pos h])
    rw [H.out]
    clear H
    rw [← hl] at h hc
    clear hl
    generalize hL : diesL m = l at *
    have HL := Lib.hid hL
    clear hL
    generalize hq : l.length = q at *
    have HQ := Lib.hid hq
    clear hq
    have q8 : q ≤ 8 := by omega
    clear hc
    rcases h with h | h | h
    all_goals
      go_enter Try.func24, Try.ntmps24
      go_wp2_with fail
      refine (dies_any _ _).mono ?_
      rw [HL.out, HQ.out]
      rintro e w1 ⟨v1, rfl, hown, hbel⟩
      obtain ⟨A1, c1, rfl, -, -⟩ := own_slice hown
      clear hown
      go_wp2_with fail
      all_goals go_ret
      all_goals exact ⟨rfl, hbel⟩
  · have H := Lib.hid (show parityI m b r = atI m ((b % countI m + r % countI m) % countI m) by unfold parityI; rw [if_neg h])
    rw [H.out]
    clear H
    have h0 := h
    rw [← hl] at h hc ⊢
    obtain ⟨M, rfl⟩ := Int.eq_ofNat_of_zero_le (set_of_count (m := m) (by omega)).1
    have hM := (set_of_count (m := (M : Int)) (by omega)).2
    clear hl h0
    have hat : ∀ i D : Nat, (diesL (M : Int))[i]? = some D → atI (M : Int) (i : Int) = (D : Int) := fun i D h => atI_some h
    generalize hL : diesL (M : Int) = l at *
    have HL := Lib.hid hL
    clear hL
    generalize hq : l.length = q at *
    have q8 : q ≤ 8 := by omega
    have q2 : 2 ≤ q := by omega
    have b0 : 0 ≤ b := by omega
    have r0 : 0 ≤ r := by omega
    have d1 : decide ((q : Int) < 2) = false := by simp; omega
    have d2 : decide (b < 0) = false := by simp; omega
    have d3 : decide (r < 0) = false := by simp; omega
    have x0 := Int.emod_nonneg b (show (q : Int) ≠ 0 by omega)
    have x1 := Int.emod_lt_of_pos b (show 0 < (q : Int) by omega)
    have y0 := Int.emod_nonneg r (show (q : Int) ≠ 0 by omega)
    have y1 := Int.emod_lt_of_pos r (show 0 < (q : Int) by omega)
    have eX : (wrap64 (b % (q : Int) + r % (q : Int))).tmod (q : Int) = (b % q + r % q) % q := by
      rw [wrap64_in' _ (by omega) (by omega), Int.tmod_eq_emod_of_nonneg (by omega)]
    have z0 := Int.emod_nonneg (b % q + r % q) (show (q : Int) ≠ 0 by omega)
    have z1 := Int.emod_lt_of_pos (b % q + r % q) (show 0 < (q : Int) by omega)
    obtain ⟨K, hK⟩ := Int.eq_ofNat_of_zero_le z0
    rw [hK] at eX z1 ⊢
    have hKq : K < l.length := by omega
    rw [hat K _ (List.getElem?_eq_getElem hKq)]
    generalize hD : l[K]'hKq = D at *
    have HD := Lib.hid (show (nats .i64 l)[K]? = some (.int .i64 (D : Int)) by rw [nats_at _ l K hKq, hD])
    have HQ := Lib.hid hq
    have q0 : (0 : Int) < (q : Int) := by omega
    have qn : ¬ (q : Int) = 0 := by omega
    have kq : (K : Int) < (q : Int) := by omega
    have kq' : K < q := by omega
    clear hD hat hq hK hKq h x0 x1 y0 y1 z0 z1 hc
    go_enter Try.func24, Try.ntmps24
    go_wp2_with fail
    refine (dies_any _ _).mono ?_
    rw [HL.out, HQ.out]
    rintro e w1 ⟨v1, rfl, hown, hbel⟩
    obtain ⟨A1, c1, rfl, -, -⟩ := own_slice hown
    obtain ⟨bb, o, rfl, hbb, hcell⟩ := (Rd.of_own hown).at_ kq'
    rw [HD.out] at hcell
    clear hown
    go_wp2_with fail
    go_quiet (fail)
    go_wp2_with fail
    go_ret
    exact ⟨rfl, below_drewN hbel _⟩

def othTo (l : List Nat) (p : Int) (k : Nat) : List Nat := (l.take k).filter fun d : Nat => !((d : Int) == p)
theorem othTo_hit (l : List Nat) (p : Int) (k : Nat) (h : k < l.length) (hp : ((l[k] : Nat) : Int) = p) : othTo l p (k + 1) = othTo l p k := by
  unfold othTo
  rw [take_snoc' l k h, List.filter_append]
  simp [hp]
theorem othTo_miss (l : List Nat) (p : Int) (k : Nat) (h : k < l.length) (hp : ((l[k] : Nat) : Int) ≠ p) : othTo l p (k + 1) = othTo l p k ++ [l[k]] := by
  unfold othTo
  rw [take_snoc' l k h, List.filter_append]
  simp [hp]
theorem othTo_length (l : List Nat) (p : Int) (k : Nat) : (othTo l p k).length ≤ k :=
  Nat.le_trans (List.length_filter_le _ _) (List.length_take_le _ _)
theorem others_any (m b r : Int) (w : World) : Calls Try.prog 73 #[.int .i64 m, .int .i64 b, .int .i64 r] w fun e w' =>
    ∃ v, e = .returned v ∧ w'.ownsRow w.heap.size 3 1 v (othersL m (parityI m b r)).length (nats .i64 (othersL m (parityI m b r))) ∧ Below w.heap.size w w' := by
  have hO := others_eq m b r
  have hl8 : (diesL m).length ≤ 8 := by have := length_diesL m; have := countI_le m; omega
  generalize hp : parityI m b r = p at *
  have HP := Lib.hid hp
  clear hp
  generalize hL : diesL m = l at *
  have HL := Lib.hid hL
  clear hL
  by_cases h0 : p < 0
  · rw [if_pos h0] at hO
    rw [hO]
    clear hO
    have d1 : decide (0 ≤ p) = false := by simp; omega
    clear h0
    go_enter Try.func73, Try.ntmps73
    go_wp2_with fail
    refine (dies_any _ _).mono ?_
    rw [HL.out]
    rintro e w1 ⟨v1, rfl, hown, hbel⟩
    obtain ⟨A1, c1, rfl, -, -⟩ := own_slice hown
    clear hown
    go_wp2_with fail
    refine (refparity_any _ _ _ _).mono ?_
    rw [HP.out]
    rintro e w2 ⟨rfl, hb2⟩
    have hb3 := below_then hbel hb2
    by_cases hz : 0 < l.length
    · go_wp2_with fail
      go_rounds 1
      go_ret
      exact ⟨_, rfl, World.ownsRow_nil _ _ _ _, hb3⟩
    · have hz : l.length = 0 := by omega
      rw [hz]
      go_wp2_with fail
      go_rounds 1
      go_ret
      exact ⟨_, rfl, World.ownsRow_nil _ _ _ _, hb3⟩
  · rw [if_neg h0] at hO
    have HO := Lib.hid (show othersL m p = othTo l p l.length by rw [hO, othTo, List.take_length])
    clear hO
    rw [HO.out]
    generalize hn : l.length = n at *
    have HLn := Lib.hid hn
    clear hn
    have d1 : decide (0 ≤ p) = true := by simp; omega
    clear h0
    go_enter Try.func73, Try.ntmps73
    go_wp2_with fail
    refine (dies_any _ _).mono ?_
    rw [HL.out, HLn.out]
    rintro e w1 ⟨v1, rfl, hown, hbel⟩
    obtain ⟨A1, c1, rfl, -, -⟩ := own_slice hown
    have hrd := Rd.of_own hown
    clear hown
    go_wp2_with fail
    refine (refparity_any _ _ _ _).mono ?_
    rw [HP.out]
    rintro e w2 ⟨rfl, hb2⟩
    have hb3 := below_then hbel hb2
    have hrd2 := (hrd.below hb2 (Nat.le_refl _)).mono hb2.size
    have hs2 := hb3.size
    clear hrd hbel hb2
    go_wp2_with fail
    go_loopw [7, 10] (fun v i wr => ∃ k : Nat, k ≤ n ∧ i = .int .i64 k ∧ wr.ownsRow w2.heap.size 3 1 v (othTo l p k).length (nats .i64 (othTo l p k)) ∧ Below w2.heap.size w2 wr) (fun _ i _ => n - (intOf i).toNat)
    case atStart => exact ⟨0, by omega, rfl, World.ownsRow_nil _ _ _ _, Below.refl _ _⟩
    case round =>
      obtain ⟨k, hk, rfl, hown, hbel⟩ := hrel
      by_cases hlt : k < n
      · obtain ⟨bb, o, rfl, hbb, hc⟩ := (hrd2.below hbel (Nat.le_refl _)).at_ hlt
        rw [nats_at _ l k (by rw [HLn.out]; exact hlt)] at hc
        have hkl : (k : Int) < (n : Int) := by omega
        have hlen := othTo_length l p k
        have hsz := hbel.size
        have hlt' : k < l.length := by rw [HLn.out]; exact hlt
        by_cases hx : ((l[k] : Nat) : Int) = p
        · have HS := Lib.hid (othTo_hit l p k hlt' hx)
          rw [hx] at hc
          have ht : (p != p) = false := by simp
          clear hx
          go_wp2_with fail
          go_roundw
          case rel => exact ⟨k + 1, by omega, by go_num, by rw [HS.out]; exact hown, hbel⟩
          case measure => simp [intOf]; omega
        · have HS := Lib.hid (othTo_miss l p k hlt' hx)
          generalize l[k] = x at *
          have ht : ((x : Int) != p) = true := by simpa using hx
          clear hx
          go_wp2_with (at_builtin; go_must (refine wpList_append1 rfl (.tmp 33) (.tmp 38) 27 rfl 3 _ _ Try.underlying27 intInfo rfl hown hbel rfl rfl rfl (by unfold maxLen; omega) (by omega) hsz (Nat.le_refl _) ?_))
          intro v1 w1 hown1 hbel1 _ _
          go_wp2
          go_roundw
          case rel => exact ⟨k + 1, by omega, by go_num, by rw [HS.out]; simpa [nats] using hown1, hbel1⟩
          case measure => simp [intOf]; omega
      · obtain rfl : k = n := by omega
        have hf := below_then hb3 (hbel.mono (Nat.le_refl _))
        have hown2 := own_base hown hs2
        clear hown
        go_wp2_with fail
        go_ret
        exact ⟨_, rfl, hown2, hf⟩

theorem refslots_any (m : Int) (w : World) : Calls Try.prog 26 #[.int .i64 m] w fun e w' => e = .returned (.int .i64 (slotsI m)) ∧ Below w.heap.size w w' := by
  have hl := length_diesL m
  have hl8 : (diesL m).length ≤ 8 := by have := countI_le m; omega
  unfold slotsI
  rw [← hl]
  clear hl
  generalize hL : diesL m = l at *
  have HL := Lib.hid hL
  clear hL
  generalize hq : l.length = q at *
  have HQ := Lib.hid hq
  clear hq
  by_cases h : (q : Int) < 2
  · rw [if_pos h]
    go_enter Try.func26, Try.ntmps26
    go_wp2_with fail
    refine (dies_any _ _).mono ?_
    rw [HL.out, HQ.out]
    rintro e w1 ⟨v1, rfl, hown, hbel⟩
    obtain ⟨A1, c1, rfl, -, -⟩ := own_slice hown
    clear hown
    go_wp2_with fail
    go_ret
    exact ⟨rfl, hbel⟩
  · rw [if_neg h]
    go_enter Try.func26, Try.ntmps26
    go_wp2_with fail
    refine (dies_any _ _).mono ?_
    rw [HL.out, HQ.out]
    rintro e w1 ⟨v1, rfl, hown, hbel⟩
    obtain ⟨A1, c1, rfl, -, -⟩ := own_slice hown
    clear hown
    go_wp2_with fail
    go_ret
    exact ⟨rfl, hbel⟩
theorem refdie_any (m b r s : Int) (w : World) : Calls Try.prog 28 #[.int .i64 m, .int .i64 b, .int .i64 r, .int .i64 s] w fun e w' => e = .returned (.int .i64 (dieI m b r s)) ∧ Below w.heap.size w w' := by
  have hl8 := othersL_le m (parityI m b r)
  by_cases h0 : s < 0
  · rw [dieI_neg _ _ _ _ h0]
    go_enter Try.func28, Try.ntmps28
    go_wp2_with fail
    refine (others_any _ _ _ _).mono ?_
    rintro e w1 ⟨v1, rfl, hown, hbel⟩
    obtain ⟨A1, c1, rfl, -, -⟩ := own_slice hown
    clear hown
    go_wp2_with fail
    go_ret
    exact ⟨rfl, hbel⟩
  · have s0 : 0 ≤ s := by omega
    obtain ⟨S, rfl⟩ := Int.eq_ofNat_of_zero_le s0
    by_cases h1 : S < (othersL m (parityI m b r)).length
    · have hD := dieI_some (List.getElem?_eq_getElem h1)
      rw [hD]
      clear hD
      have hD := nats_at .i64 _ S h1
      have hs : (S : Int) < ((othersL m (parityI m b r)).length : Int) := by omega
      generalize (othersL m (parityI m b r))[S] = D at *
      generalize hl : othersL m (parityI m b r) = l at *
      have HL := Lib.hid hl
      clear hl
      have HD := Lib.hid hD
      clear hD
      generalize hq : l.length = q at *
      have HQ := Lib.hid hq
      clear hq
      go_enter Try.func28, Try.ntmps28
      go_wp2_with fail
      refine (others_any _ _ _ _).mono ?_
      rw [HL.out, HQ.out]
      rintro e w1 ⟨v1, rfl, hown, hbel⟩
      obtain ⟨A1, c1, rfl, -, -⟩ := own_slice hown
      obtain ⟨bb, o, rfl, hbb, hcell⟩ := (Rd.of_own hown).at_ h1
      rw [HD.out] at hcell
      clear hown
      go_wp2_with fail
      go_ret
      exact ⟨rfl, hbel⟩
    · have hs : ((othersL m (parityI m b r)).length : Int) ≤ (S : Int) := by omega
      rw [dieI_none s0 hs]
      go_enter Try.func28, Try.ntmps28
      go_wp2_with fail
      refine (others_any _ _ _ _).mono ?_
      rintro e w1 ⟨v1, rfl, hown, hbel⟩
      obtain ⟨A1, c1, rfl, -, -⟩ := own_slice hown
      clear hown
      go_wp2_with fail
      go_ret
      exact ⟨rfl, hbel⟩
theorem refslot_any (m b r d : Int) (w : World) : Calls Try.prog 30 #[.int .i64 m, .int .i64 b, .int .i64 r, .int .i64 d] w fun e w' => e = .returned (.int .i64 (slotI m b r d)) ∧ Below w.heap.size w w' := by
  have hlen := othersL_le m (parityI m b r)
  obtain ⟨hyes, hno⟩ := slotI_list m b r d
  generalize hR : slotI m b r d = R at *
  clear hR
  have HN := Lib.hid hno
  have HY := Lib.hid hyes
  clear hno hyes
  generalize hl : othersL m (parityI m b r) = l at *
  have HL := Lib.hid hl
  clear hl
  go_enter Try.func30, Try.ntmps30
  go_wp2_with fail
  refine (others_any _ _ _ _).mono ?_
  rw [HL.out]
  rintro e w1 ⟨v1, rfl, hown, hbel⟩
  obtain ⟨A1, c1, rfl, -, -⟩ := own_slice hown
  have hrd := Rd.of_own hown
  clear hown
  go_wp2_with fail
  go_loop [10] (fun i => ∃ k : Nat, k ≤ l.length ∧ i = .int .i64 k ∧ Hid (∀ (j D : Nat), j < k → l[j]? = some D → (D : Int) ≠ d)) (fun i => l.length - (intOf i).toNat)
  case atStart => exact ⟨0, by omega, rfl, fun j D hj => by omega⟩
  case round =>
    obtain ⟨k, hk, rfl, hn⟩ := hrel
    by_cases hlt : k < l.length
    · obtain ⟨b, o, rfl, hb2, hc⟩ := hrd.at_ hlt
      rw [nats_at _ l k hlt] at hc
      have hget := List.getElem?_eq_getElem hlt
      generalize l[k] = x at hc hget
      have HG := Lib.hid hget
      clear hget
      by_cases hx : (x : Int) = d
      · have ht : ((x : Int) == d) = true := by simpa using hx
        have R := Lib.hid (HY.out k x HG.out hx)
        clear hx
        go_wp2
        go_ret
        exact ⟨by rw [R.out]; rfl, hbel⟩
      · have ht : ((x : Int) == d) = false := by simpa using hx
        have hn' : Hid (∀ (j D : Nat), j < k + 1 → l[j]? = some D → (D : Int) ≠ d) := by
          intro j D hj hD
          by_cases e : j = k
          · subst e
            rw [HG.out] at hD
            injection hD with hD
            subst hD
            exact hx
          · exact hn j D (by omega) hD
        clear hx hn
        go_wp2
        go_round
        case rel => exact ⟨k + 1, by omega, by go_num, hn'⟩
        case measure => simp [intOf]; omega
    · obtain rfl : k = l.length := by omega
      have R := Lib.hid (HN.out fun j D hD => hn.out j D (List.getElem?_eq_some_iff.1 hD).1 hD)
      clear hn
      go_wp2
      go_ret
      exact ⟨by rw [R.out]; rfl, hbel⟩
end Go.Proofs.Ytakekjbbbjmdpaa
