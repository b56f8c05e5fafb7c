import Derived.Test.YtakekjbbbjmdpaaGeoTurns
/- GeoShare: over all rows of as many blocks each die of a set has the parity as often; no condition. -/
namespace Go.Proofs.Ytakekjbbbjmdpaa.geoShare
open Go.RowKit Go.Proofs.Ytakekjbbbjmdpaa.geoTurns
set_option linter.unusedVariables false
def bitN (M d : Nat) : Nat := (M.testBit d).toNat
def cntTo (M b r : Nat) : List Nat := (List.range 8).map fun d => b * bitN M d + bitN (seenTo M b r) d
theorem bitN_le (M d : Nat) : bitN M d ≤ 1 := by unfold bitN; cases M.testBit d <;> simp
theorem cntTo_length (M b r : Nat) : (cntTo M b r).length = 8 := by simp [cntTo]
theorem cntTo_get (M b r d : Nat) (h : d < 8) : (cntTo M b r)[d]? = some (b * bitN M d + bitN (seenTo M b r) d) := by simp [cntTo, h]
theorem cntTo_step {M b r : Nat} (hM : M < 256) (hr : r < cnt M 8) :
    (cntTo M b r).set (rowDie M (b + r)) (b * bitN M (rowDie M (b + r)) + 1) = cntTo M b (r + 1) ∧ (cntTo M b r)[rowDie M (b + r)]? = some (b * bitN M (rowDie M (b + r))) := by
  obtain ⟨s1, s2⟩ := seen_step hM b r hr
  obtain ⟨p1, p2⟩ := rowDie_in hM (by omega) (b + r)
  have hS : seenTo M b (r + 1) = seenTo M b r ||| 2 ^ rowDie M (b + r) := rfl
  generalize rowDie M (b + r) = P at *
  constructor
  · apply List.ext_getElem?
    intro d
    by_cases hd : d < 8
    · rw [cntTo_get _ _ _ _ hd, List.getElem?_set, cntTo_length]
      by_cases hp : P = d
      · subst hp
        rw [if_pos rfl, if_pos hd, hS]
        have : bitN (seenTo M b r ||| 2 ^ P) P = 1 := by unfold bitN; rw [Nat.testBit_or, Nat.testBit_two_pow_self]; simp
        rw [this]
      · rw [if_neg hp, cntTo_get _ _ _ _ hd, hS]
        have : bitN (seenTo M b r ||| 2 ^ P) d = bitN (seenTo M b r) d := by unfold bitN; rw [Nat.testBit_or, Nat.testBit_two_pow_of_ne hp]; simp
        rw [this]
    · rw [List.getElem?_eq_none (by rw [List.length_set, cntTo_length]; omega), List.getElem?_eq_none (by rw [cntTo_length]; omega)]
  · rw [cntTo_get _ _ _ _ p1]
    have : bitN (seenTo M b r) P = 0 := by unfold bitN; rw [s1]; rfl
    rw [this, Nat.add_zero]
theorem cntTo_next {M b : Nat} (hM : M < 256) (h : 0 < cnt M 8) : cntTo M b (cnt M 8) = cntTo M (b + 1) 0 := by
  unfold cntTo
  apply List.map_congr_left
  intro d _
  rw [seen_all hM b h]
  have : bitN (seenTo M (b + 1) 0) d = 0 := by unfold bitN; rw [show seenTo M (b + 1) 0 = 0 from rfl, Nat.zero_testBit]; rfl
  rw [this, Nat.succ_mul]; omega
theorem arr_set (l : List Nat) (i x : Nat) (y : Int) (h : y = (x : Int)) : (nats .i64 l).toArray.setIfInBounds i (.int .i64 y) = (nats .i64 (l.set i x)).toArray := by
  subst h
  simp [nats, List.map_set]
set_option maxRecDepth 100000 in
set_option maxHeartbeats 4000000 in
theorem walk_in (m b : Int) (M n : Nat) (w : World) (e1 : bits .and .i64 m 255 = (M : Int)) (hM : M < 256) (hn : cnt M 8 = n) :
    Calls Try.prog 6 #[.int .i64 m, .int .i64 b] w fun e w' => e = .returned (.bool true) ∧ Below w.heap.size w w' := by
  have HN := Lib.hid hn
  have h8 : n ≤ 8 := by have := cnt_le M 8; omega
  clear hn
  go_enter Try.func6, Try.ntmps6
  go_wp2_with fail
  refine (begun6_any _).mono ?_
  rintro e w1 ⟨rfl, h1⟩
  go_wp2_with fail
  go_loop [6, 7] (fun s i => ∃ k : Nat, k ≤ 8 ∧ i = .int .i64 k ∧ s = .int .i64 (cnt M k : Nat)) (fun _ i => 8 - (intOf i).toNat)
  case atStart => exact ⟨0, by omega, rfl, rfl⟩
  case round =>
    obtain ⟨k, hk, rfl, rfl⟩ := hrel
    by_cases hlt : k < 8
    · have hk8 : (k : Int) < 8 := by omega
      have e2 := shr_bit M k
      have HS := Lib.hid (show cnt M (k + 1) = cnt M k + (M.testBit k).toNat by rw [cnt_succ]; cases M.testBit k <;> rfl)
      have hb := bitN_le M k
      unfold bitN at hb
      have hc := cnt_le M k
      generalize (M.testBit k).toNat = x at *
      generalize cnt M k = C at *
      go_wp2_with fail
      go_round
      case rel => exact ⟨k + 1, by omega, by go_num, by rw [HS.out]; go_num⟩
      case measure => simp [intOf]; omega
    · obtain rfl : k = 8 := by omega
      rw [HN.out]
      by_cases hbad : n < 2 ∨ b < 1 ∨ 20 < b
      · rcases hbad with h | h | h
        all_goals
          go_wp2_with fail
          all_goals go_ret
          all_goals exact ⟨rfl, h1⟩
      · have n2 : ¬ (n : Int) < 2 := by omega
        obtain ⟨K, rfl⟩ := Int.eq_ofNat_of_zero_le (show 0 ≤ b by omega)
        have k1 : ¬ (K : Int) < 1 := by omega
        have k2 : ¬ 20 < (K : Int) := by omega
        clear hbad
        go_wp2_with fail
        have HB := heap_alloc_new w1 (.cells #[.int .i64 0, .int .i64 0, .int .i64 0, .int .i64 0, .int .i64 0, .int .i64 0, .int .i64 0, .int .i64 0] 35)
        have h2 := h1.alloc h1.size (.cells #[.int .i64 0, .int .i64 0, .int .i64 0, .int .i64 0, .int .i64 0, .int .i64 0, .int .i64 0, .int .i64 0] 35)
        have hz0 : nats .i64 (cntTo M 0 0) = [.int .i64 0, .int .i64 0, .int .i64 0, .int .i64 0, .int .i64 0, .int .i64 0, .int .i64 0, .int .i64 0] := by
          unfold cntTo
          have : ∀ d, 0 * bitN M d + bitN (seenTo M 0 0) d = 0 := fun d => by
            rw [show seenTo M 0 0 = 0 from rfl]; unfold bitN; rw [Nat.zero_testBit]; simp
          simp only [this]
          rfl
        have hgw := h1.size
        generalize w1.heap.size = g at *
        generalize w1.alloc (.cells #[.int .i64 0, .int .i64 0, .int .i64 0, .int .i64 0, .int .i64 0, .int .i64 0, .int .i64 0, .int .i64 0] 35) = w2 at *
        have HB0 : w2.heap[g]? = some (.cells (nats .i64 (cntTo M 0 0)).toArray 35 (0, 0)) := by rw [hz0]; exact HB
        clear HB hz0 h1
        go_loopw [9, 10, 11] (fun i _ _ wr => ∃ k : Nat, k ≤ K ∧ i = .int .i64 k ∧ wr.heap[g]? = some (.cells (nats .i64 (cntTo M k 0)).toArray 35 (0, 0)) ∧ Below w.heap.size w wr) (fun i _ _ _ => K - (intOf i).toNat)
        case atStart => exact ⟨0, by omega, rfl, HB0, h2⟩
        case round =>
          obtain ⟨k, hk, rfl, hB, hbk⟩ := hrel
          clear HB0 h2
          by_cases hkK : k < K
          · have hkK' : (k : Int) < (K : Int) := by omega
            obtain ⟨wo, rfl⟩ : ∃ wo : World, wo = wr := ⟨_, rfl⟩
            go_wp2_with fail
            go_loopw [10, 11] (fun i _ wx => ∃ r : Nat, r ≤ n ∧ i = .int .i64 r ∧ wx.heap[g]? = some (.cells (nats .i64 (cntTo M k r)).toArray 35 (0, 0)) ∧ Below w.heap.size w wx) (fun i _ _ => n - (intOf i).toNat)
            case atStart => exact ⟨0, by omega, rfl, hB, hbk⟩
            case round =>
              obtain ⟨r, hr, rfl, hB2, hbr⟩ := hrel
              clear hB hbk
              by_cases hrn : r < n
              · have hrn' : (r : Int) < (n : Int) := by omega
                obtain ⟨p1, p2⟩ := rowDie_in hM (by rw [HN.out]; omega) (k + r)
                have HP := Lib.hid (parity_nat hM (by rw [HN.out]; omega) k r)
                obtain ⟨s1, s2⟩ := cntTo_step (b := k) hM (show r < cnt M 8 by rw [HN.out]; exact hrn)
                have hbl := bitN_le M (rowDie M (k + r))
                have hVb : k * bitN M (rowDie M (k + r)) ≤ 20 := Nat.le_trans (Nat.mul_le_mul (show k ≤ 20 by omega) hbl) (by omega)
                generalize rowDie M (k + r) = P at *
                generalize k * bitN M P = V at *
                have hcell : wr.cell? ⟨g, P, none⟩ = some (.int .i64 (V : Int)) := by
                  rw [blk_cell hB2]; simp [nats, s2]
                have hfr := blk_frozen hB2 P
                have HS1 := Lib.hid s1
                clear s1 s2 hbl p2
                have p0 : 0 ≤ (P : Int) := by omega
                have p8 : (P : Int) < 8 := by omega
                go_wp2_with fail
                refine (parity_any _ _ _ _).mono ?_
                rw [HP.out]
                rintro e w' ⟨rfl, n3, rfl⟩
                replace hcell : (wr.drewN n3).cell? ⟨g, P, none⟩ = some (.int .i64 (V : Int)) := hcell
                replace hfr : (wr.drewN n3).frozen? ⟨g, P, none⟩ = false := hfr
                replace hB2 : (wr.drewN n3).heap[g]? = some (.cells (nats .i64 (cntTo M k r)).toArray 35 (0, 0)) := hB2
                replace hbr := below_drewN hbr n3
                generalize wr.drewN n3 = wy at *
                go_wp2_with fail
                have hset := heap_set2 (i := P) hB2 (.int .i64 ((V : Int) + 1))
                rw [arr_set (cntTo M k r) P (V + 1) ((V : Int) + 1) (by omega), HS1.out] at hset
                exact ⟨⟨r + 1, by omega, by go_num, hset, hbr.setCell (p := ⟨g, P, none⟩) hgw _⟩, by simp [intOf]; omega⟩
              · obtain rfl : r = n := by omega
                go_wp2_with fail
                go_roundw
                case rel => exact ⟨k + 1, by omega, by go_num, by rw [← cntTo_next hM (by rw [HN.out]; omega), HN.out]; exact hB2, hbr⟩
                case measure => simp [intOf]; omega
          · obtain rfl : k = K := by omega
            have hkx : decide ((k : Int) < (k : Int)) = false := by simp
            go_wp2_with fail
            go_loop [12] (fun i => ∃ d : Nat, d ≤ 8 ∧ i = .int .i64 d) (fun i => 8 - (intOf i).toNat)
            case atStart => exact ⟨0, by omega, rfl⟩
            case round =>
              obtain ⟨d, hd, rfl⟩ := hrel
              by_cases hd8 : d < 8
              · have hd8' : (d : Int) < 8 := by omega
                have hbd := bitN_le M d
                have e2 := shr_bit M d
                have hm1 : k * bitN M d ≤ 20 := Nat.le_trans (Nat.mul_le_mul (show k ≤ 20 by omega) hbd) (by omega)
                have hget := cntTo_get M k 0 d hd8
                have hz : bitN (seenTo M k 0) d = 0 := by rw [show seenTo M k 0 = 0 from rfl]; unfold bitN; rw [Nat.zero_testBit]; rfl
                rw [hz, Nat.add_zero] at hget
                have hcell : wr.cell? ⟨g, d, none⟩ = some (.int .i64 ((k * bitN M d : Nat) : Int)) := by
                  rw [blk_cell hB]; simp [nats, hget]
                rw [show (M.testBit d).toNat = bitN M d from rfl] at e2
                have hmul : wrap64 ((k : Int) * (bitN M d : Int)) = ((k * bitN M d : Nat) : Int) := by
                  rw [Int.natCast_mul]; exact wrap64_in' _ (by omega) (by rw [← Int.natCast_mul]; omega)
                generalize hV : k * bitN M d = V at *
                clear hV hget hz
                go_wp2_with fail
                exact ⟨⟨d + 1, by omega, by go_num⟩, by simp [intOf]; omega⟩
              · obtain rfl : d = 8 := by omega
                rw [show ((8 : Nat) : Int) = 8 from rfl]
                have d2 : decide ((8 : Int) < 8) = false := by decide
                go_wp2_with fail
                go_ret
                exact ⟨rfl, hbk⟩
theorem walk (m b : Int) (w : World) (w0 : (Lit.int .i64 m).wf = true) (w1 : (Lit.int .i64 b).wf = true) :
    Calls Try.prog 6 #[.int .i64 m, .int .i64 b] w fun e w' => e = .returned (.bool true) ∧ Below w.heap.size w w' := by
  obtain ⟨M, hM⟩ := Int.eq_ofNat_of_zero_le (show 0 ≤ m % 256 by omega)
  have e1 : bits .and .i64 m 255 = (M : Int) := by rw [and255, hM]
  exact walk_in m b M _ w e1 (by omega) rfl
end Go.Proofs.Ytakekjbbbjmdpaa.geoShare
