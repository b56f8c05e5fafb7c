import Derived.Test.YtlahcmldbgeifaaPlainBits
/- Plain law, no program in sight: Koopman's sums. -/
namespace Go.Proofs.Ytlahcmldbgeifaa
open Go.RowKit

def poly : Nat := 1947962583
/-- One bit's turn of a sum. -/
def kround (s : Nat) : Nat := if s.testBit 31 then (2 * s % 4294967296) ^^^ poly else 2 * s % 4294967296
def kiter : Nat → Nat → Nat
  | 0, s => s
  | k + 1, s => kround (kiter k s)
/-- A byte taken into a sum. -/
def kstep (s x : Nat) : Nat := kiter 8 (s ^^^ (x * 16777216))
def ksum (s : Nat) (b : List Nat) : Nat := b.foldl kstep s
def kof (b : List Nat) : Nat := ksum 4294967295 b
def kzero (s : Nat) : Nat → Nat
  | 0 => s
  | n + 1 => kstep (kzero s n) 0

theorem poly_lt : poly < 4294967296 := by decide
theorem kround_lt (s : Nat) : kround s < 4294967296 := by
  unfold kround
  split
  · exact Nat.xor_lt_two_pow (n := 32) (Nat.mod_lt _ (by decide)) poly_lt
  · exact Nat.mod_lt _ (by decide)
theorem kiter_lt (k s : Nat) (h : s < 4294967296) : kiter k s < 4294967296 := by
  cases k with
  | zero => exact h
  | succ k => exact kround_lt _
theorem kstart_lt (s x : Nat) (h : s < 4294967296) (hx : x < 256) : s ^^^ (x * 16777216) < 4294967296 := Nat.xor_lt_two_pow (n := 32) h (by omega)
theorem kstep_lt (s x : Nat) (h : s < 4294967296) (hx : x < 256) : kstep s x < 4294967296 := kiter_lt 8 _ (kstart_lt s x h hx)
theorem ksum_lt (b : List Nat) : ∀ s, s < 4294967296 → (∀ x ∈ b, x < 256) → ksum s b < 4294967296 := by
  induction b with
  | nil => intro s h _; exact h
  | cons x t ih => intro s h hb; exact ih _ (kstep_lt s x h (hb x (by simp))) fun y hy => hb y (by simp [hy])
theorem ksum_snoc (s : Nat) (b : List Nat) (x : Nat) : ksum s (b ++ [x]) = kstep (ksum s b) x := by simp [ksum, List.foldl_append]
theorem kzero_lt (s n : Nat) (h : s < 4294967296) : kzero s n < 4294967296 := by
  induction n with
  | zero => exact h
  | succ n ih => exact kstep_lt _ _ ih (by decide)

theorem k_high (s : Nat) (h : s < 4294967296) : bits .and .u32 (s : Int) 2147483648 = if s.testBit 31 then 2147483648 else 0 := by
  have e := u32_and_nat s 2147483648 h (by decide)
  have e2 : s &&& 2147483648 = s / 2 ^ 31 % 2 * 2 ^ 31 := nat_bit 31 s
  rw [show ((2147483648 : Nat) : Int) = 2147483648 from rfl] at e
  rw [e, e2, Nat.testBit_eq_decide_div_mod_eq]
  have h2 : s / 2 ^ 31 % 2 = 0 ∨ s / 2 ^ 31 % 2 = 1 := by omega
  rcases h2 with h2 | h2 <;> rw [h2] <;> rfl
theorem k_one (s : Nat) (h : s.testBit 31 = true) : bits .xor .u32 ((s : Int) * 2 % 4294967296) 1947962583 = (kround s : Int) := by
  have e1 : (s : Int) * 2 % 4294967296 = ((2 * s % 4294967296 : Nat) : Int) := by omega
  have e := u32_xor_nat (2 * s % 4294967296) poly (Nat.mod_lt _ (by decide)) poly_lt
  rw [show (poly : Int) = 1947962583 from rfl] at e
  rw [e1, e, kround, h]; rfl
theorem k_nought (s : Nat) (h : s.testBit 31 = false) : (s : Int) * 2 % 4294967296 = (kround s : Int) := by
  rw [kround, h]; simp; omega
theorem k_start (s x : Nat) (h : s < 4294967296) (hx : x < 256) : bits .xor .u32 (s : Int) ((x : Int) * 16777216) = ((s ^^^ (x * 16777216) : Nat) : Int) := by
  have e := u32_xor_nat s (x * 16777216) h (by omega)
  rw [Int.natCast_mul] at e
  exact e
theorem bitsL_get (u w j : Nat) (h : j < w) : (bitsL u w)[j]? = some (u.testBit (w - 1 - j)) := by simp [bitsL, bitsTo, h]
theorem bitsL_ext {u u' w : Nat} (h : ∀ j, j < w → u.testBit j = u'.testBit j) : bitsL u w = bitsL u' w := by
  unfold bitsL bitsTo
  apply List.map_congr_left
  intro j hj
  rw [List.mem_range] at hj
  exact h _ (by omega)
/-- The first k of a list laid over another's. -/
def xorTo (a b : List Bool) (k : Nat) : List Bool := (List.range a.length).map fun j => if j < k then (a.getD j false != b.getD j false) else a.getD j false
theorem xorTo_length (a b : List Bool) (k : Nat) : (xorTo a b k).length = a.length := by simp [xorTo]
theorem xorTo_get (a b : List Bool) (k j : Nat) (h : j < a.length) : (xorTo a b k)[j]? = some (if j < k then (a.getD j false != b.getD j false) else a.getD j false) := by simp [xorTo, h]
theorem xorTo_zero (a b : List Bool) : xorTo a b 0 = a := by
  apply List.ext_getElem?
  intro j
  by_cases h : j < a.length
  · rw [xorTo_get a b 0 j h]; simp [List.getD, h]
  · rw [List.getElem?_eq_none (by rw [xorTo_length]; omega), List.getElem?_eq_none (by omega)]
theorem xorTo_set (a b : List Bool) (k : Nat) (h : k < a.length) : (xorTo a b k).set k (a.getD k false != b.getD k false) = xorTo a b (k + 1) := by
  apply List.ext_getElem?
  intro j
  by_cases hj : j < a.length
  · rw [xorTo_get a b (k + 1) j hj, List.getElem?_set]
    by_cases e : k = j
    · subst e; rw [if_pos rfl, if_pos (by rw [xorTo_length]; exact h), if_pos (by omega)]
    · rw [if_neg e, xorTo_get a b k j hj]
      by_cases h2 : j < k
      · rw [if_pos h2, if_pos (by omega)]
      · rw [if_neg h2, if_neg (by omega)]
  · rw [List.getElem?_eq_none (by rw [List.length_set, xorTo_length]; omega), List.getElem?_eq_none (by rw [xorTo_length]; omega)]
theorem bitsL_getD (u w j : Nat) (h : j < w) : (bitsL u w).getD j false = u.testBit (w - 1 - j) := by rw [List.getD_eq_getElem?_getD, bitsL_get u w j h]; rfl
theorem xor_byte (s x : Nat) : xorTo (bitsL s 32) (bitsL x 8) 8 = bitsL (s ^^^ (x * 16777216)) 32 := by
  apply List.ext_getElem?
  intro j
  by_cases hj : j < 32
  · have e : x * 16777216 = x * 2 ^ 24 := rfl
    rw [xorTo_get _ _ _ _ (by rw [bitsL_length]; exact hj), bitsL_get _ _ _ hj, bitsL_getD _ _ _ hj, Nat.testBit_xor, e, Nat.testBit_mul_two_pow]
    by_cases h8 : j < 8
    · rw [if_pos h8, bitsL_getD _ _ _ h8]
      have : (decide (24 ≤ 32 - 1 - j)) = true := by simp; omega
      rw [this, Bool.true_and, show 32 - 1 - j - 24 = 8 - 1 - j by omega]
    · rw [if_neg h8]
      have : (decide (24 ≤ 32 - 1 - j)) = false := by simp; omega
      rw [this, Bool.false_and, Bool.xor_false]
  · rw [List.getElem?_eq_none (by rw [xorTo_length, bitsL_length]; omega), List.getElem?_eq_none (by rw [bitsL_length]; omega)]
theorem xor_all (s t w : Nat) : xorTo (bitsL s w) (bitsL t w) w = bitsL (s ^^^ t) w := by
  apply List.ext_getElem?
  intro j
  by_cases hj : j < w
  · rw [xorTo_get _ _ _ _ (by rw [bitsL_length]; exact hj), bitsL_get _ _ _ hj, bitsL_getD _ _ _ hj, bitsL_getD _ _ _ hj, Nat.testBit_xor, if_pos hj]
  · rw [List.getElem?_eq_none (by rw [xorTo_length, bitsL_length]; omega), List.getElem?_eq_none (by rw [bitsL_length]; omega)]
theorem shift_one (t : Nat) : (bitsL t 32).drop 1 ++ [false] = bitsL (2 * t % 4294967296) 32 := by
  have e : 2 * t % 4294967296 = 2 * t % 2 ^ 32 := rfl
  apply List.ext_getElem?
  intro j
  by_cases hj : j < 32
  · rw [bitsL_get _ _ _ hj, e, Nat.testBit_mod_two_pow]
    have : (decide (32 - 1 - j < 32)) = true := by simp; omega
    rw [this, Bool.true_and]
    by_cases h31 : j < 31
    · rw [List.getElem?_append_left (by simp [bitsL_length]; omega), List.getElem?_drop, bitsL_get _ _ _ (by omega), show 32 - 1 - j = (32 - 1 - (1 + j)) + 1 by omega, Nat.testBit_succ]
      congr 2; omega
    · obtain rfl : j = 31 := by omega
      rw [List.getElem?_append_right (by simp [bitsL_length])]
      simp [bitsL_length]
  · rw [List.getElem?_eq_none (by simp [bitsL_length]; omega), List.getElem?_eq_none (by rw [bitsL_length]; omega)]
theorem numN_bitsTo (u w k : Nat) (h : k ≤ w) : numN (bitsTo u w k) = u / 2 ^ (w - k) % 2 ^ k := by
  induction k with
  | zero => simp [bitsTo, numN, Nat.mod_one]
  | succ k ih =>
    rw [bitsTo_succ, numN_snoc, ih (by omega)]
    have e : u / 2 ^ (w - k) = u / 2 ^ (w - (k + 1)) / 2 := by
      rw [Nat.div_div_eq_div_mul, ← Nat.pow_succ]; congr 2; omega
    have e2 : w - 1 - k = w - (k + 1) := by omega
    rw [e, e2, Nat.testBit_eq_decide_div_mod_eq]
    generalize u / 2 ^ (w - (k + 1)) = q
    have h2 : q % 2 = 0 ∨ q % 2 = 1 := by omega
    have e3 : q % 2 ^ (k + 1) = q % 2 + 2 * (q / 2 % 2 ^ k) := by rw [Nat.pow_succ', Nat.mod_mul]
    rcases h2 with h2 | h2 <;> simp [h2] <;> omega
theorem numN_bitsL (u w : Nat) (h : u < 2 ^ w) : numN (bitsL u w) = u := by
  rw [bitsL, numN_bitsTo u w w (Nat.le_refl _), Nat.sub_self, Nat.pow_zero, Nat.div_one, Nat.mod_eq_of_lt h]
theorem numN_bitsL' (u w : Nat) : numN (bitsL u w) = u % 2 ^ w := by
  rw [bitsL, numN_bitsTo u w w (Nat.le_refl _), Nat.sub_self, Nat.pow_zero, Nat.div_one]
/-- The first k of a list of bits as a number of two's complement. -/
def nT (l : List Bool) (k : Nat) : Int := (numTo l k : Int) - (if k = 0 then 0 else ((l.getD 0 false).toNat * 2 ^ k : Nat))
theorem nT_zero (l : List Bool) : nT l 0 = 0 := by simp [nT, numTo_zero]
theorem nT_one (l : List Bool) (h : 0 < l.length) : nT l 1 = -((l[0]).toNat : Int) := by
  have := numTo_succ l 0 h
  rw [numTo_zero] at this
  rw [nT, this, if_neg (by omega), List.getD_eq_getElem?_getD, List.getElem?_eq_getElem h]
  simp only [Option.getD_some]; omega
theorem nT_succ (l : List Bool) (k : Nat) (h : k < l.length) (h0 : 0 < k) : nT l (k + 1) = nT l k * 2 + ((l[k]).toNat : Int) := by
  rw [nT, nT, numTo_succ l k h, if_neg (by omega), if_neg (by omega), Nat.pow_succ]
  generalize (l.getD 0 false).toNat = a
  rw [← Nat.mul_assoc]
  generalize a * 2 ^ k = q
  omega
theorem nT_bd (l : List Bool) (k : Nat) (h : k < l.length) : -((2 ^ k : Nat) : Int) ≤ nT l (k + 1) ∧ nT l (k + 1) < ((2 ^ k : Nat) : Int) := by
  induction k with
  | zero =>
    have hb : (l[0]).toNat ≤ 1 := by cases l[0] <;> simp
    rw [nT_one l h]; simp; omega
  | succ k ih =>
    have hb : (l[k + 1]).toNat ≤ 1 := by cases l[k + 1] <;> simp
    have := ih (by omega)
    rw [nT_succ l (k + 1) h (by omega), Nat.pow_succ]; omega
theorem nT_small (l : List Bool) (k : Nat) (h : k < l.length) (hk : k ≤ 63) (h0 : 0 < k) : -4611686018427387904 ≤ nT l k ∧ nT l k < 4611686018427387904 := by
  obtain ⟨j, rfl⟩ : ∃ j, k = j + 1 := ⟨k - 1, by omega⟩
  have h1 := nT_bd l j (by omega)
  have h2 : (2 : Nat) ^ j ≤ 4611686018427387904 := Nat.le_trans (Nat.pow_le_pow_right (by omega) (show j ≤ 62 by omega)) (by decide)
  omega
theorem nT_final (n : Int) (w : Nat) (h0 : 0 < w) (h1 : w ≤ 64) : nT (bitsL (n % 18446744073709551616).toNat w) w = Int.bmod n (2 ^ w) := by
  have hl := bitsL_length (n % 18446744073709551616).toNat w
  have hb := nT_bd (bitsL (n % 18446744073709551616).toNat w) (w - 1) (by omega)
  rw [show w - 1 + 1 = w by omega] at hb
  have hpos := Nat.two_pow_pos (w - 1)
  have hw : (2 : Nat) ^ w = 2 * 2 ^ (w - 1) := by rw [← Nat.pow_succ']; congr 1; omega
  have hdvd : ((2 ^ w : Nat) : Int) ∣ 18446744073709551616 := by
    have : (2 : Nat) ^ w ∣ 2 ^ 64 := Nat.pow_dvd_pow 2 h1
    exact Int.natCast_dvd_natCast.2 this
  have hmod : nT (bitsL (n % 18446744073709551616).toNat w) w % ((2 ^ w : Nat) : Int) = n % ((2 ^ w : Nat) : Int) := by
    have e : numTo (bitsL (n % 18446744073709551616).toNat w) w = (n % 18446744073709551616).toNat % 2 ^ w := by
      rw [numTo_all _ w hl, numN_bitsL']
    have e3 : (((n % 18446744073709551616).toNat % 2 ^ w : Nat) : Int) = n % ((2 ^ w : Nat) : Int) := by
      rw [Int.natCast_emod, Int.toNat_of_nonneg (Int.emod_nonneg _ (by decide))]
      exact Int.emod_emod_of_dvd n hdvd
    rw [nT, if_neg (by omega), e, e3, Int.natCast_mul, Int.sub_mul_emod_self_right, Int.emod_emod_of_dvd _ (Int.dvd_refl _)]
  rw [Int.bmod_def, ← hmod]
  generalize nT (bitsL (n % 18446744073709551616).toNat w) w = x at *
  rw [hw] at *
  generalize 2 ^ (w - 1) = q at *
  by_cases hx : 0 ≤ x
  · rw [Int.emod_eq_of_lt hx (by omega), if_pos (by omega)]
  · have e : x % ((2 * q : Nat) : Int) = x + ((2 * q : Nat) : Int) := by
      rw [← Int.add_emod_right, Int.emod_eq_of_lt (by omega) (by omega)]
    rw [e, if_neg (by omega)]; omega
theorem numN_append (a b : List Bool) : numN (a ++ b) = numN a * 2 ^ b.length + numN b := by
  refine snoc_ind (P := fun b => numN (a ++ b) = numN a * 2 ^ b.length + numN b) (by simp [numN]) (fun l x ih => ?_) b
  rw [← List.append_assoc, numN_snoc, numN_snoc, ih, List.length_append, List.length_singleton, Nat.pow_succ, ← Nat.mul_assoc]
  generalize numN a * 2 ^ l.length = q
  omega
theorem bitsL_take (u w k : Nat) (h : k ≤ w) : (bitsL u w).take k = bitsTo u w k := by
  apply List.ext_getElem?
  intro j
  rw [List.getElem?_take]
  by_cases hj : j < k
  · rw [if_pos hj, bitsL_get u w j (by omega)]; simp [bitsTo, hj]
  · rw [if_neg hj, List.getElem?_eq_none (by rw [bitsTo_length]; omega)]
theorem turn_bits (u k : Nat) (hu : u < 4294967296) (hk : k < 32) : numN ((bitsL u 32).drop k ++ (bitsL u 32).take k) = u * 2 ^ k % 4294967296 + u / 2 ^ (32 - k) := by
  have h1 : numN ((bitsL u 32).take k) = u / 2 ^ (32 - k) := by
    rw [bitsL_take u 32 k (by omega), numN_bitsTo u 32 k (by omega), Nat.mod_eq_of_lt]
    rw [Nat.div_lt_iff_lt_mul (Nat.two_pow_pos _), ← Nat.pow_add, show k + (32 - k) = 32 by omega]; exact hu
  have h2 : numN ((bitsL u 32).take k) * 2 ^ (32 - k) + numN ((bitsL u 32).drop k) = u := by
    have := numN_append ((bitsL u 32).take k) ((bitsL u 32).drop k)
    rw [List.take_append_drop, numN_bitsL u 32 hu, List.length_drop, bitsL_length] at this
    exact this.symm
  have h3 : numN ((bitsL u 32).drop k) = u % 2 ^ (32 - k) := by
    rw [h1] at h2
    have := Nat.div_add_mod' u (2 ^ (32 - k))
    omega
  have hp : 2 ^ k * 2 ^ (32 - k) = 4294967296 := by rw [← Nat.pow_add, show k + (32 - k) = 32 by omega]
  rw [numN_append, h1, h3, List.length_take, bitsL_length, Nat.min_eq_left (by omega), ← hp, Nat.mul_comm (2 ^ k), Nat.mul_mod_mul_right]
theorem turn_num (u : Nat) (b : Int) (k : Nat) (hu : u < 4294967296) (hk : b % 32 = (k : Int)) (hk2 : k < 32) : (numN ((bitsL u 32).drop k ++ (bitsL u 32).take k) : Int) = turnI u b := by
  rw [turn_bits u k hu hk2, turnI, hk, Int.toNat_natCast, show (32 - (k : Int)).toNat = 32 - k by omega, Int.natCast_add, Int.natCast_emod, Int.natCast_mul, Int.natCast_pow, Int.natCast_ediv, Int.natCast_pow]
  rfl
theorem turnI_bd (u : Nat) (b : Int) (hu : u < 4294967296) : 0 ≤ turnI u b ∧ turnI u b < 4294967296 := by
  obtain ⟨k, hk⟩ := Int.eq_ofNat_of_zero_le (show 0 ≤ b % 32 by omega)
  have h := turn_num u b k hu hk (by omega)
  have h2 := numN_lt ((bitsL u 32).drop k ++ (bitsL u 32).take k)
  have h3 : ((bitsL u 32).drop k ++ (bitsL u 32).take k).length = 32 := by simp [bitsL_length]; omega
  rw [h3] at h2
  omega
theorem tmod_mod (b : Int) : (b.tmod 32 + 32) % 32 = b % 32 := by
  have h := Int.tmod_add_mul_tdiv b 32
  omega
theorem tmod_bd (b : Int) : -32 < b.tmod 32 ∧ b.tmod 32 < 32 := by
  have h1 := Int.lt_tmod_of_pos b (show (0 : Int) < 32 by decide)
  have h2 := Int.tmod_lt_of_pos b (show (0 : Int) < 32 by decide)
  omega
/-- A list is the bits of its number. -/
theorem bitsL_snoc (u w : Nat) (b : Bool) : bitsL (2 * u + b.toNat) (w + 1) = bitsL u w ++ [b] := by
  have hb : b.toNat < 2 := by cases b <;> simp
  rw [bitsL, bitsTo_succ]
  have e0 : (2 * u + b.toNat).testBit (w + 1 - 1 - w) = b := by
    rw [show w + 1 - 1 - w = 0 by omega, Nat.testBit_zero]
    cases b <;> simp <;> omega
  rw [e0]
  congr 1
  unfold bitsL bitsTo
  apply List.map_congr_left
  intro j hj
  rw [List.mem_range] at hj
  rw [show w + 1 - 1 - j = (w - 1 - j) + 1 by omega, Nat.testBit_succ]
  congr 1; omega
theorem bitsL_numN (l : List Bool) : bitsL (numN l) l.length = l := by
  refine snoc_ind (P := fun l => bitsL (numN l) l.length = l) (by simp [bitsL, bitsTo]) (fun l b ih => ?_) l
  rw [numN_snoc, List.length_append, List.length_singleton, bitsL_snoc, ih]
theorem numN_testBit (l : List Bool) (q : Nat) (h : q < l.length) : (numN l).testBit q = l.getD (l.length - 1 - q) false := by
  have h1 := bitsL_getD (numN l) l.length (l.length - 1 - q) (by omega)
  rw [bitsL_numN] at h1
  rw [h1]; congr 1; omega
theorem numN_testBit' (l : List Bool) (q : Nat) (h : l.length ≤ q) : (numN l).testBit q = false :=
  Nat.testBit_lt_two_pow (Nat.lt_of_lt_of_le (numN_lt l) (Nat.pow_le_pow_right (by omega) h))
theorem octN_testBit (l : List Bool) (i q : Nat) : (octN l i).testBit q = (decide (q < 8) && l.getD (i + (7 - q)) false) := by
  unfold octN octTo
  by_cases h : q < 8
  · rw [numN_testBit _ q (by simpa using h)]
    simp [h, show 7 - q < 8 by omega]
  · rw [numN_testBit' _ q (by simpa using h)]
    simp [h]
theorem octN_lt (l : List Bool) (i : Nat) : octN l i < 256 := octTo_lt l i 8
/-- One bit more: into the last byte. -/
theorem octN_snoc (l : List Bool) (x : Bool) (j : Nat) (hj : j = l.length / 8) : octN (l ++ [x]) (8 * j) = octN l (8 * j) ||| (x.toNat * 2 ^ (7 - l.length % 8)) := by
  apply Nat.eq_of_testBit_eq
  intro q
  rw [Nat.testBit_or, octN_testBit, octN_testBit, Nat.testBit_mul_two_pow]
  have e : (x.toNat).testBit (q - (7 - l.length % 8)) = (decide (q - (7 - l.length % 8) = 0) && x) := by
    cases x
    · simp
    · simp only [Bool.toNat_true, Bool.and_true]
      by_cases h0 : q - (7 - l.length % 8) = 0
      · simp [h0]
      · obtain ⟨m, hm⟩ : ∃ m, q - (7 - l.length % 8) = m + 1 := ⟨_, (Nat.succ_pred_eq_of_pos (by omega)).symm⟩
        rw [hm, Nat.testBit_succ]; simp
  rw [e]
  by_cases h8 : q < 8
  · have h8' : decide (q < 8) = true := by simpa using h8
    rw [h8', Bool.true_and, Bool.true_and]
    simp only [List.getD_eq_getElem?_getD]
    by_cases hlt : 8 * j + (7 - q) < l.length
    · rw [List.getElem?_append_left hlt]
      have : (decide (7 - l.length % 8 ≤ q) && (decide (q - (7 - l.length % 8) = 0) && x)) = false := by
        have : ¬ (7 - l.length % 8 ≤ q ∧ q - (7 - l.length % 8) = 0) := by omega
        cases h1 : decide (7 - l.length % 8 ≤ q) <;> cases h2 : decide (q - (7 - l.length % 8) = 0) <;> simp_all
      rw [this, Bool.or_false]
    · rw [List.getElem?_append_right (by omega), List.getElem?_eq_none (show l.length ≤ 8 * j + (7 - q) by omega)]
      by_cases he : 8 * j + (7 - q) = l.length
      · rw [he, Nat.sub_self]
        have h1 : decide (7 - l.length % 8 ≤ q) = true := by simp; omega
        have h2 : decide (q - (7 - l.length % 8) = 0) = true := by simp; omega
        rw [h1, h2]; simp
      · have h2 : (decide (7 - l.length % 8 ≤ q) && (decide (q - (7 - l.length % 8) = 0) && x)) = false := by
          have : ¬ (7 - l.length % 8 ≤ q) := by omega
          simp [this]
        rw [h2, List.getElem?_eq_none (by simp; omega)]; simp
  · have h8' : decide (q < 8) = false := by simpa using h8
    have h2 : decide (q - (7 - l.length % 8) = 0) = false := by simp; omega
    rw [h8', h2]; simp
theorem octN_old (l : List Bool) (x : Bool) (j : Nat) (hj : j < l.length / 8) : octN (l ++ [x]) (8 * j) = octN l (8 * j) := by
  apply Nat.eq_of_testBit_eq
  intro q
  rw [octN_testBit, octN_testBit]
  by_cases h8 : q < 8
  · simp only [List.getD_eq_getElem?_getD]
    rw [List.getElem?_append_left (by omega)]
  · simp [h8]
theorem octN_new (l : List Bool) (j : Nat) (hj : l.length ≤ 8 * j) : octN l (8 * j) = 0 := by
  apply Nat.eq_of_testBit_eq
  intro q
  rw [octN_testBit, List.getD_eq_getElem?_getD, List.getElem?_eq_none (by omega)]; simp
/-- The bytes with room for one bit more. -/
def roomN (l : List Bool) : List Nat := bytesTo l (l.length / 8 + 1)
theorem roomN_same (l : List Bool) (h : l.length % 8 ≠ 0) : roomN l = bytesN l := by
  unfold roomN bytesN; congr 1; omega
theorem roomN_more (l : List Bool) (h : l.length % 8 = 0) : roomN l = bytesN l ++ [0] := by
  unfold roomN bytesN
  rw [bytesTo_succ, octN_new l _ (by omega)]
  congr 2; omega
theorem roomN_get (l : List Bool) : (roomN l)[l.length / 8]? = some (octN l (8 * (l.length / 8))) := by simp [roomN, bytesTo]
theorem putBit (l : List Bool) (x : Bool) : (roomN l).set (l.length / 8) (octN l (8 * (l.length / 8)) ||| (x.toNat * 2 ^ (7 - l.length % 8))) = bytesN (l ++ [x]) := by
  have hlen : (bytesN (l ++ [x])).length = l.length / 8 + 1 := by rw [bytesN, bytesTo_length, List.length_append, List.length_singleton]; omega
  apply List.ext_getElem?
  intro j
  by_cases hj : j < l.length / 8 + 1
  · have e : (bytesN (l ++ [x]))[j]? = some (octN (l ++ [x]) (8 * j)) := by
      have : j < (l.length + 1 + 7) / 8 := by omega
      simp [bytesN, bytesTo, this]
    rw [e, List.getElem?_set]
    by_cases h : l.length / 8 = j
    · rw [if_pos h, if_pos (by simp [roomN, bytesTo_length]), ← h, octN_snoc l x _ rfl]
    · rw [if_neg h]
      simp only [roomN, bytesTo, List.getElem?_map, List.getElem?_range hj, Option.map_some]
      rw [octN_old l x j (by omega)]
  · rw [List.getElem?_eq_none (by rw [List.length_set, roomN, bytesTo_length]; omega), List.getElem?_eq_none (by omega)]
theorem put_val (o u m s : Nat) (ho : o < 256) (hu : u < 18446744073709551616) (hs : s ≤ 7) :
    bits .or .u8 (o : Int) (bits .and .u64 ((u : Int) / 2 ^ m) 1 % 256 * 2 ^ s % 256) = ((o ||| ((u.testBit m).toNat * 2 ^ s) : Nat) : Int) := by
  have e1 : (u : Int) / 2 ^ m = ((u / 2 ^ m : Nat) : Int) := by rw [Int.natCast_ediv, Int.natCast_pow]; rfl
  have hd := Nat.div_le_self u (2 ^ m)
  have e2 : bits .and .u64 ((u / 2 ^ m : Nat) : Int) 1 = (((u.testBit m).toNat : Nat) : Int) := by
    rw [Nat.testBit_eq_decide_div_mod_eq]
    generalize u / 2 ^ m = q at *
    rw [u64_and1 _ (by omega) (by omega)]
    have h2 : q % 2 = 0 ∨ q % 2 = 1 := by omega
    rcases h2 with h2 | h2 <;> simp [h2] <;> omega
  have hb : (u.testBit m).toNat ≤ 1 := by cases u.testBit m <;> simp
  rw [e1, e2]
  generalize (u.testBit m).toNat = x at *
  have hp : 2 ^ s ≤ 128 := Nat.le_trans (Nat.pow_le_pow_right (by omega) hs) (by decide)
  have hx : x * 2 ^ s ≤ 128 := Nat.le_trans (Nat.mul_le_mul_right _ hb) (by omega)
  have e3 : (x : Int) % 256 * 2 ^ s % 256 = ((x * 2 ^ s : Nat) : Int) := by
    have : (x : Int) % 256 = (x : Int) := by omega
    rw [this, Int.natCast_mul, Int.natCast_pow, Int.emod_eq_of_lt]
    · rfl
    · exact Int.mul_nonneg (by omega) (Int.le_of_lt (Int.pow_pos (by decide)))
    · have h := congrArg (Nat.cast (R := Int)) (rfl : x * 2 ^ s = x * 2 ^ s)
      rw [Int.natCast_mul, Int.natCast_pow] at h
      have : ((x * 2 ^ s : Nat) : Int) ≤ 128 := by omega
      rw [Int.natCast_mul, Int.natCast_pow] at this
      exact Int.lt_of_le_of_lt this (by decide)
  rw [e3]
  exact u8_or_nat o (x * 2 ^ s) ho (by omega)
theorem ofN_get (b : List Nat) (i : Nat) (h : i < 8 * b.length) : ∃ x, b[i / 8]? = some x ∧ (ofN b)[i]? = some (x.testBit (7 - i % 8)) := by
  induction b generalizing i with
  | nil => simp at h
  | cons y t ih =>
    simp only [List.length_cons] at h
    by_cases h8 : i < 8
    · refine ⟨y, by rw [show i / 8 = 0 by omega]; rfl, ?_⟩
      rw [ofN, List.flatMap_cons, List.getElem?_append_left (by rw [bitsL_length]; exact h8), bitsL_get y 8 i h8]
      congr 2; omega
    · obtain ⟨x, h1, h2⟩ := ih (i - 8) (by omega)
      refine ⟨x, ?_, ?_⟩
      · rw [show i / 8 = (i - 8) / 8 + 1 by omega]; simpa using h1
      · rw [ofN, List.flatMap_cons, List.getElem?_append_right (by rw [bitsL_length]; omega), bitsL_length]
        rw [show i % 8 = (i - 8) % 8 by omega]; exact h2
/-- So many bits from a place on. -/
def cutB (l : List Bool) (i k : Nat) : List Bool := (l.drop i).take k
theorem cutB_length (l : List Bool) (i k : Nat) (h : i + k ≤ l.length) : (cutB l i k).length = k := by simp [cutB]; omega
theorem cutB_succ (l : List Bool) (i k : Nat) (x : Bool) (h : l[i + k]? = some x) : cutB l i (k + 1) = cutB l i k ++ [x] := by
  rw [cutB, List.take_add_one, List.getElem?_drop, h]; rfl
theorem get_val (U b s : Nat) (hU : U < 9223372036854775808) (hb : b < 256) :
    bits .or .u64 ((U : Int) * 2) (IntKind.u64.wrap (bits .and .u8 ((b : Int) / 2 ^ s) 1)) = ((2 * U + (b.testBit s).toNat : Nat) : Int) := by
  have e1 : (b : Int) / 2 ^ s = ((b / 2 ^ s : Nat) : Int) := by rw [Int.natCast_ediv, Int.natCast_pow]; rfl
  have hd := Nat.div_le_self b (2 ^ s)
  have e2 : bits .and .u8 ((b / 2 ^ s : Nat) : Int) 1 = (((b.testBit s).toNat : Nat) : Int) := by
    rw [Nat.testBit_eq_decide_div_mod_eq]
    generalize b / 2 ^ s = q at *
    have := u8_and_nat q 1 (by omega) (by omega)
    rw [show ((1 : Nat) : Int) = 1 from rfl] at this
    rw [this, Nat.and_one_is_mod]
    have h2 : q % 2 = 0 ∨ q % 2 = 1 := by omega
    rcases h2 with h2 | h2 <;> simp [h2]
  have hx : (b.testBit s).toNat ≤ 1 := by cases b.testBit s <;> simp
  rw [e1, e2, u64_wrap_nat _ (by omega)]
  generalize (b.testBit s).toNat = x at *
  have e3 : (U : Int) * 2 = ((2 * U : Nat) : Int) := by omega
  rw [e3, u64_or_nat (2 * U) x (by omega) (by omega), nat_join 1 (2 * U) x (by omega) (by omega)]
end Go.Proofs.Ytlahcmldbgeifaa
