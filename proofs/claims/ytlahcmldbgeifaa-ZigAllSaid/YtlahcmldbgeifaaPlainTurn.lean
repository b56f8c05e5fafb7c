import Derived.Test.YtlahcmldbgeifaaPlainKoop
/- Plain law, no program in sight: bits turned round. -/
namespace Go.Proofs.Ytlahcmldbgeifaa
open Go.RowKit
def turnN (u k : Nat) : Nat := numN ((bitsL u 32).drop k ++ (bitsL u 32).take k)
theorem turn_len (u k : Nat) (h : k < 32) : ((bitsL u 32).drop k ++ (bitsL u 32).take k).length = 32 := by simp [bitsL_length]; omega
theorem turnN_lt (u k : Nat) (h : k < 32) : turnN u k < 4294967296 := by
  have := numN_lt ((bitsL u 32).drop k ++ (bitsL u 32).take k)
  rw [turn_len u k h] at this; exact this
theorem turnN_bits (u k : Nat) (h : k < 32) : bitsL (turnN u k) 32 = (bitsL u 32).drop k ++ (bitsL u 32).take k := by
  have := bitsL_numN ((bitsL u 32).drop k ++ (bitsL u 32).take k)
  rw [turn_len u k h] at this; exact this
theorem turnN_bit (u k j : Nat) (hk : k < 32) (hj : j < 32) : (turnN u k).testBit (31 - j) = u.testBit (31 - (j + k) % 32) := by
  have h := bitsL_get (turnN u k) 32 j hj
  rw [turnN_bits u k hk] at h
  by_cases hjk : j < 32 - k
  · rw [List.getElem?_append_left (by simp [bitsL_length]; omega), List.getElem?_drop, bitsL_get u 32 _ (by omega)] at h
    injection h with h
    rw [show 31 - j = 32 - 1 - j by omega, ← h]; congr 1; omega
  · rw [List.getElem?_append_right (by simp [bitsL_length]; omega), List.getElem?_take, List.length_drop, bitsL_length, if_pos (by omega), bitsL_get u 32 _ (by omega)] at h
    injection h with h
    rw [show 31 - j = 32 - 1 - j by omega, ← h]; congr 1; omega
theorem eq32 {a b : Nat} (ha : a < 4294967296) (hb : b < 4294967296) (h : ∀ j, j < 32 → a.testBit (31 - j) = b.testBit (31 - j)) : a = b := by
  apply Nat.eq_of_testBit_eq
  intro q
  by_cases hq : q < 32
  · have := h (31 - q) (by omega)
    rwa [show 31 - (31 - q) = q by omega] at this
  · rw [Nat.testBit_lt_two_pow (Nat.lt_of_lt_of_le ha (show 4294967296 ≤ 2 ^ q from Nat.le_trans (by decide : 4294967296 ≤ 2 ^ 32) (Nat.pow_le_pow_right (by omega) (by omega)))),
      Nat.testBit_lt_two_pow (Nat.lt_of_lt_of_le hb (show 4294967296 ≤ 2 ^ q from Nat.le_trans (by decide : 4294967296 ≤ 2 ^ 32) (Nat.pow_le_pow_right (by omega) (by omega))))]
theorem turnN_turnN (u a b : Nat) (ha : a < 32) (hb : b < 32) : turnN (turnN u a) b = turnN u ((a + b) % 32) := by
  refine eq32 (turnN_lt _ _ hb) (turnN_lt _ _ (Nat.mod_lt _ (by omega))) fun j hj => ?_
  have hm : (j + b) % 32 < 32 := Nat.mod_lt _ (by omega)
  rw [turnN_bit _ b j hb hj, turnN_bit u a _ ha hm, turnN_bit u _ j (Nat.mod_lt _ (by omega)) hj]
  congr 1; omega
theorem turnI_N (u : Nat) (b : Int) (hu : u < 4294967296) : turnI u b = (turnN u (b % 32).toNat : Int) :=
  (turn_num u b (b % 32).toNat hu (by omega) (by omega)).symm
theorem turn_turn (u : Nat) (a b : Int) (hu : u < 4294967296) : turnI (turnI u a) b = turnI u (a + b) := by
  have h1 := turnN_lt u (a % 32).toNat (by omega)
  rw [turnI_N u a hu, turnI_N _ b h1, turnI_N u (a + b) hu, turnN_turnN u _ _ (by omega) (by omega)]
  congr 2; omega
theorem turn_congr (u a b : Int) (h : a % 32 = b % 32) : turnI u a = turnI u b := by rw [turnI, turnI, h]
theorem turn_nought (u b : Int) (h0 : 0 ≤ u) (h1 : u < 4294967296) (h : b % 32 = 0) : turnI u b = u := by
  rw [turnI, h]; simp; omega
theorem cnt_bits (m : Nat) : cnt m 32 = (bitsL m 32).countP id := by
  have e : (bitsL m 32).reverse = (List.range 32).map m.testBit := by
    apply List.ext_getElem?
    intro j
    by_cases hj : j < 32
    · rw [List.getElem?_reverse (by rw [bitsL_length]; exact hj), bitsL_length, bitsL_get _ _ _ (by omega)]
      simp only [List.getElem?_map, List.getElem?_range hj, Option.map_some]
      congr 2; omega
    · rw [List.getElem?_eq_none (by simp [bitsL_length]; omega), List.getElem?_eq_none (by simp; omega)]
  rw [← List.countP_reverse, e, List.countP_map, cnt, ← List.countP_eq_length_filter]; rfl
theorem cnt_turn (u k : Nat) (hk : k < 32) : cnt (turnN u k) 32 = cnt u 32 := by
  rw [cnt_bits, cnt_bits, turnN_bits u k hk, List.countP_append]
  conv => rhs; rw [← List.take_append_drop k (bitsL u 32), List.countP_append]
  omega
theorem u32_bit (u k : Nat) (hu : u < 4294967296) : bits .and .u32 ((u : Int) / 2 ^ k) 1 = (((u.testBit k).toNat : Nat) : Int) := by
  have e1 : (u : Int) / 2 ^ k = ((u / 2 ^ k : Nat) : Int) := by rw [Int.natCast_ediv, Int.natCast_pow]; rfl
  have hd := Nat.div_le_self u (2 ^ k)
  rw [e1, Nat.testBit_eq_decide_div_mod_eq]
  generalize u / 2 ^ k = q at *
  have := u32_and_nat q 1 (by omega) (by omega)
  rw [show ((1 : Nat) : Int) = 1 from rfl] at this
  rw [this, Nat.and_one_is_mod]
  have h2 : q % 2 = 0 ∨ q % 2 = 1 := by omega
  rcases h2 with h2 | h2 <;> simp [h2]
end Go.Proofs.Ytlahcmldbgeifaa
