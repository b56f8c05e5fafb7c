import Derived.Test.YtlahcmldbgeifaaBegun
import Derived.Test.YtlahcmldbgeifaaPlainFlip
import Derived.Test.YtlahcmldbgeifaaRefMore
/- KoopTurn: bytes in which bits were turned, all within thirty-two one behind the other, have another sum; no condition. -/
namespace Go.Proofs.Ytlahcmldbgeifaa.koopTurn
open Go.RowKit
set_option linter.unusedVariables false
theorem bytesOf {w : World} {A : Option Addr} {n c : Nat} {z : List Int} (h : IsRow .u8 w A n c z) : ∃ l : List Nat, Rd w w.heap.size A n (nats .u8 l) ∧ (∀ x ∈ l, x < 256) ∧ l.length = n ∧ n ≤ c ∧ c ≤ maxLen := by
  obtain ⟨hr, hnc, hcm, hlen, hwf⟩ := h.rd
  rw [ints_nats fun k hk => (wf_u8 (hwf k hk)).1] at hr
  refine ⟨_, hr, ?_, by simpa using hlen, hnc, hcm⟩
  intro k hk
  obtain ⟨j, hj, rfl⟩ := List.mem_map.1 hk
  have := wf_u8 (hwf j hj)
  omega
theorem nat_bne (a b : Nat) : ((a : Int) != (b : Int)) = (a != b) := by
  by_cases h : a = b
  · subst h; simp
  · rw [bne_iff_ne.2 h, bne_iff_ne.2 (by omega)]
theorem flip_val (y m : Nat) (hy : y < 256) (hm : m < 8) : bits .xor .u8 (y : Int) (128 / 2 ^ m) = ((y ^^^ 2 ^ (7 - m) : Nat) : Int) := by
  have e : (128 : Int) / 2 ^ m = ((2 ^ (7 - m) : Nat) : Int) := by
    have : m = 0 ∨ m = 1 ∨ m = 2 ∨ m = 3 ∨ m = 4 ∨ m = 5 ∨ m = 6 ∨ m = 7 := by omega
    rcases this with rfl | rfl | rfl | rfl | rfl | rfl | rfl | rfl <;> rfl
  rw [e]
  exact u8_xor_nat y _ hy (Nat.pow_lt_pow_right (m := 7 - m) (n := 8) (by decide) (by omega))
set_option maxRecDepth 100000 in
set_option maxHeartbeats 1000000 in
theorem walk (A : Option Addr) (n c : Nat) (z : List Int) (at_ turn : Int) (w : World) (w0 : IsRow .u8 w A n c z) (w1 : (Lit.int .i64 at_).wf = true) (w2 : (Lit.int .u32 turn).wf = true) :
    Calls Try.prog 8 #[.slice A n c, .int .i64 at_, .int .u32 turn] w fun e w' => e = .returned (.bool true) ∧ Below w.heap.size w w' := by
  obtain ⟨l0, hr, hb0, hl0, hnc, hcm⟩ := bytesOf w0
  obtain ⟨t0, t1⟩ := wf_u32 w2
  have HT1 := Lib.hid t1
  obtain ⟨T, rfl⟩ := Int.eq_ofNat_of_zero_le t0
  clear w0 w1 w2 t0 t1
  have hb : ∀ x ∈ l0.take 80, x < 256 := fun x hx => hb0 x (List.mem_of_mem_take hx)
  have hql : (l0.take 80).length = min n 80 := by rw [List.length_take]; omega
  have hq80 : min n 80 ≤ 80 := by omega
  go_enter Try.func8, Try.ntmps8
  go_wp2_with fail
  refine (begun_any _).mono ?_
  rintro e w1 ⟨rfl, hb1⟩
  have hr1 := hr.below hb1 (Nat.le_refl _)
  go_wp2_with fail
  refine (short_any A n c _ l0 80 _ hr1 hnc hcm (by omega) (by omega)).mono ?_
  rintro e w2 ⟨v, rfl, hown, hb2⟩
  have hb3 := below_then hb1 hb2
  obtain ⟨A', c', rfl, hc1, hc2⟩ := own_slice hown
  rw [show (80 : Int).toNat = 80 from rfl] at *
  have hr2 := Rd.of_own hown
  clear hr hr1 hown hnc hcm hb1 hb2 hl0 hb0
  generalize l0.take 80 = l at *
  generalize min n 80 = q at *
  by_cases hq0 : q = 0
  · subst hq0
    go_wp2_with fail
    go_ret
    exact ⟨rfl, hb3⟩
  have d0 : ((q : Int) == 0) = false := by simp; omega
  by_cases hat : at_ < 0
  · go_wp2_with fail
    go_ret
    exact ⟨rfl, hb3⟩
  have d1 : decide (at_ < 0) = false := by simpa using hat
  obtain ⟨P, rfl⟩ := Int.eq_ofNat_of_zero_le (show 0 ≤ at_ by omega)
  have hpm : (P : Int).tmod (8 * (q : Int)) = ((P % (8 * q) : Nat) : Int) := rfl
  have hp : P % (8 * q) < 8 * q := Nat.mod_lt _ (by omega)
  generalize P % (8 * q) = p at *
  have hnil : w2.ownsRow w2.heap.size 5 1 (.slice none 0 0) 0 [] := World.ownsRow_nil _ _ _ _
  have hbel := Below.refl w2.heap.size w2
  go_wp2_with (at_builtin; go_must (refine wpList_appendN rfl (.const (.slice none 0 0)) (.tmp 23) 32 rfl 5 _ _ Try.underlying32 u8Info rfl hnil hbel rfl rfl hr2 (one_nats _ _) (by unfold maxLen; omega) (by omega) (Nat.le_refl _) (Nat.le_refl _) ?_))
  intro v3 w3 hown3 hbel3 _ _
  obtain ⟨g, c3, rfl, g1, g2, g3, g4⟩ := own_form hown3 (by omega)
  have hr3 := hr2.below hbel3 (Nat.le_refl _)
  have hge : w.heap.size ≤ w2.heap.size := hb3.size
  have hb4 := below_then hb3 hbel3
  clear hnil hbel hbel3 hr2 g2 hat hb3
  go_wp2_with fail
  go_loopw [9, 10] (fun x i wr => ∃ k : Nat, k ≤ 32 ∧ p + k ≤ 8 * q ∧ i = .int .i64 k ∧ x = .bool (turnedTo T k) ∧ wr.ownsRow w2.heap.size 5 1 (.slice (some ⟨g, 0, none⟩) q c3) q (nats .u8 (flips l p T k)) ∧ Below w.heap.size w wr ∧ Rd wr w2.heap.size A' q (nats .u8 l)) (fun _ i _ => 32 - (intOf i).toNat)
  case atStart => exact ⟨0, by omega, by omega, rfl, rfl, hown3, hb4, hr3⟩
  case round =>
    obtain ⟨k, hk, hpk, rfl, rfl, hown, hbk, hrk⟩ := hrel
    clear hown3 hr3 hb4
    by_cases hlt : k < 32
    · by_cases hlt2 : p + k < 8 * q
      · have i1 : (k : Int) < 32 := by omega
        have i2 : ((p : Int) + (k : Int)) < 8 * (q : Int) := by omega
        have hub := u32_bit T k (by have := HT1.out; omega)
        have HX : Hid (turnedTo T (k + 1) = (T.testBit k || turnedTo T k)) := rfl
        cases htb : T.testBit k with
        | false =>
          rw [htb] at hub HX
          have HF : Hid (flips l p T (k + 1) = flips l p T k) := by
            show _ = _
            rw [flips, htb]; rfl
          simp only [Bool.toNat_false, Bool.false_or] at hub HX
          have HU := Lib.hid hub
          generalize turnedTo T k = x at *
          generalize flips l p T k = f at *
          clear htb
          go_wp2_with fail
          go_roundw
          case rel => exact ⟨k + 1, by omega, by omega, by go_num, by rw [HX.out], by rw [HF.out]; exact hown, hbk, hrk⟩
          case measure => simp [intOf]; omega
        | true =>
          rw [htb] at hub HX
          have HF : Hid (flips l p T (k + 1) = flipAt (flips l p T k) (p + k)) := by
            show _ = _
            rw [flips, htb]; rfl
          have hub' : bits .and .u32 ((T : Int) / 2 ^ k) 1 = 1 := hub
          clear hub
          have hfl := flips_length l p T k
          have hfb := flips_byte l p T k hb
          simp only [Bool.true_or] at HX
          generalize turnedTo T k = x at *
          generalize flips l p T k = f at *
          clear htb
          have hj : (p + k) / 8 < q := by omega
          have hc : wr.cell? ⟨g, (p + k) / 8, none⟩ = some (.int .u8 (f.getD ((p + k) / 8) 0 : Nat)) := by
            rw [hown.cellAt _ (by omega), nats, List.getElem?_map, List.getD_eq_getElem?_getD, List.getElem?_eq_getElem (by omega)]; rfl
          have hfz := hown.frozenAt ((p + k) / 8)
          have hy := getD_lt' f hfb ((p + k) / 8)
          have HF2 : Hid (flipAt f (p + k) = f.set ((p + k) / 8) (f.getD ((p + k) / 8) 0 ^^^ 2 ^ (7 - (p + k) % 8))) := rfl
          generalize f.getD ((p + k) / 8) 0 = y at *
          have i3 : ((p : Int) + (k : Int)) / 8 = (((p + k) / 8 : Nat) : Int) := by omega
          have i4 : ((p : Int) + (k : Int)) % 8 = (((p + k) % 8 : Nat) : Int) := by omega
          have i5 : (((p + k) / 8 : Nat) : Int) < (q : Int) := by omega
          have i6 : (p + k) % 8 < 8 := Nat.mod_lt _ (by decide)
          generalize (p + k) / 8 = j at *
          generalize (p + k) % 8 = m at *
          go_wp2_with fail
          go_roundw
          case rel =>
            have HV := flip_val y m hy i6
            refine ⟨k + 1, by omega, by omega, by go_num, by rw [HX.out], ?_, hbk.setCell (p := ⟨g, j, none⟩) (by show w.heap.size ≤ g; omega) _, ?_⟩
            · rw [HF.out, HF2.out, HV, nats, List.map_set]
              exact (hown.stored j _).1
            · exact hrk.same fun a ha => World.cell?_of_block (Below.heap_setCell wr ⟨g, j, none⟩ _ a.block (by show a.block ≠ g; omega))
          case measure => simp [intOf]; omega
      · have d2 : decide ((p : Int) + (k : Int) < 8 * (q : Int)) = false := by simp; omega
        have i1 : (k : Int) < 32 := by omega
        have HK := Lib.hid (kof_flips l p T k hb (by omega) hk)
        have F1 := flips_byte l p T k hb
        have R1 := Rd.of_own hown
        have hqm : q ≤ maxLen := by unfold maxLen; omega
        clear hown hp hpm
        generalize turnedTo T k = x at *
        generalize flips l p T k = f at *
        go_wp2_with fail
        refine (kof_any A' q c' _ _ _ hrk hb hqm).mono ?_
        generalize kof l = K1 at *
        rintro e w' ⟨rfl, rfl⟩
        go_wp2_with fail
        refine (kof_any (some ⟨g, 0, none⟩) q c3 _ _ _ R1 F1 hqm).mono ?_
        generalize kof f = K2 at *
        rintro e w' ⟨rfl, rfl⟩
        go_wp2_with fail
        go_ret
        exact ⟨by rw [← HK.out]; simp [nat_bne], hbk⟩
    · obtain rfl : k = 32 := by omega
      have d2 : decide ((32 : Int) < 32) = false := by decide
      rw [show ((32 : Nat) : Int) = 32 from rfl]
      have HK := Lib.hid (kof_flips l p T 32 hb (by omega) hk)
      have F1 := flips_byte l p T 32 hb
      have R1 := Rd.of_own hown
      have hqm : q ≤ maxLen := by unfold maxLen; omega
      clear hown hp hpm
      generalize turnedTo T 32 = x at *
      generalize flips l p T 32 = f at *
      go_wp2_with fail
      refine (kof_any A' q c' _ _ _ hrk hb hqm).mono ?_
      generalize kof l = K1 at *
      rintro e w' ⟨rfl, rfl⟩
      go_wp2_with fail
      refine (kof_any (some ⟨g, 0, none⟩) q c3 _ _ _ R1 F1 hqm).mono ?_
      generalize kof f = K2 at *
      rintro e w' ⟨rfl, rfl⟩
      go_wp2_with fail
      go_ret
      exact ⟨by rw [← HK.out]; simp [nat_bne], hbk⟩
end Go.Proofs.Ytlahcmldbgeifaa.koopTurn
