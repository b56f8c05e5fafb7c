import Derived.Test.YtpbigfopmompfaaGreatPlainZig
import Derived.Test.YtpbigfopmompfaaGreatBase
/- What a claim's proof leans on: PlainBits, PlainKoop, PlainGeo, PlainByt, PlainSherd, PlainTurn, PlainLine, PlainFlip, PlainJoin, PlainPage, PlainTear, PlainOver. -/
/- Plain law, no program in sight: lists of bits. -/
namespace Go.Proofs.YtpbigfopmompfaaGreat
open Go.RowKit

theorem snoc_ind {α : Type} {P : List α → Prop} (h0 : P []) (h1 : ∀ l a, P l → P (l ++ [a])) (l : List α) : P l := by
  rw [← List.reverse_reverse l]
  induction l.reverse with
  | nil => simpa using h0
  | cons a t ih => simpa using h1 _ a ih
def powI (n : Int) : Int := 2 ^ n.toNat
theorem powI_pos (n : Int) : 1 ≤ powI n := by
  have : (0 : Int) < 2 ^ n.toNat := Int.pow_pos (by decide)
  unfold powI; omega
theorem powI_step (k : Nat) (h : k < 63) : IntKind.u64.wrap (powI k * 2) = powI ((k : Int) + 1) := by
  have hle : (2 : Nat) ^ (k + 1) ≤ 2 ^ 63 := Nat.pow_le_pow_right (by omega) (by omega)
  have e2 : powI k * 2 = ((2 ^ (k + 1) : Nat) : Int) := by
    rw [Nat.pow_succ, Int.natCast_mul, Int.natCast_pow]; rfl
  have e3 : powI ((k : Int) + 1) = ((2 ^ (k + 1) : Nat) : Int) := by rw [Int.natCast_pow]; rfl
  rw [e2, e3]; exact u64_wrap_nat _ (by omega)
theorem bit_div (u : Nat) (i : Int) (hu : u < 18446744073709551616) : IntKind.u64.wrap ((u : Int) / powI i) = (u : Int) / powI i := by
  have e : (u : Int) / powI i = ((u / 2 ^ i.toNat : Nat) : Int) := by rw [Int.natCast_ediv, Int.natCast_pow]; rfl
  have := Nat.div_le_self u (2 ^ i.toNat)
  rw [e]; exact u64_wrap_nat _ (by omega)
theorem bit_div0 (u : Nat) (i : Int) : 0 ≤ (u : Int) / powI i := Int.ediv_nonneg (by omega) (by have := powI_pos i; omega)
/-- The first k of a number's lowest w bits, the highest first. -/
def bitsTo (u w k : Nat) : List Bool := (List.range k).map fun j => u.testBit (w - 1 - j)
def bitsL (u w : Nat) : List Bool := bitsTo u w w
theorem bitsTo_length (u w k : Nat) : (bitsTo u w k).length = k := by simp [bitsTo]
theorem bitsL_length (u w : Nat) : (bitsL u w).length = w := bitsTo_length u w w
theorem bitsTo_succ (u w k : Nat) : bitsTo u w (k + 1) = bitsTo u w k ++ [u.testBit (w - 1 - k)] := by simp [bitsTo, List.range_succ]
theorem bit_form (u : Nat) (i : Int) : ((u : Int) / powI i % 2 == 1) = u.testBit i.toNat := by
  have e : (u : Int) / powI i % 2 = ((u / 2 ^ i.toNat % 2 : Nat) : Int) := by
    rw [Int.natCast_emod, Int.natCast_ediv, Int.natCast_pow]; rfl
  rw [e, Nat.testBit_eq_decide_div_mod_eq]
  have h2 : u / 2 ^ i.toNat % 2 = 0 ∨ u / 2 ^ i.toNat % 2 = 1 := by omega
  rcases h2 with h2 | h2 <;> simp [h2]
theorem bitsTo_snoc (u W k : Nat) (h : k < W) : bools (bitsTo u W (k + 1)) = bools (bitsTo u W k) ++ [.bool ((u : Int) / powI ((W : Int) - 1 - k) % 2 == 1)] := by
  rw [bitsTo_succ, bit_form, show ((W : Int) - 1 - k).toNat = W - 1 - k by omega]
  simp [bools]
/-- A number of bits. -/
def numN : List Bool → Nat := List.foldl (fun n b => 2 * n + b.toNat) 0
theorem numN_snoc (l : List Bool) (b : Bool) : numN (l ++ [b]) = 2 * numN l + b.toNat := by simp [numN, List.foldl_append]
theorem numN_lt (l : List Bool) : numN l < 2 ^ l.length := by
  refine snoc_ind (P := fun l => numN l < 2 ^ l.length) (by simp [numN]) (fun l b ih => ?_) l
  rw [numN_snoc, List.length_append, List.length_singleton, Nat.pow_succ]
  have : b.toNat ≤ 1 := by cases b <;> simp
  omega
def numTo (l : List Bool) (k : Nat) : Nat := numN (l.take k)
theorem numTo_zero (l : List Bool) : numTo l 0 = 0 := by simp [numTo, numN]
theorem numTo_all (l : List Bool) (k : Nat) (h : l.length = k) : numTo l k = numN l := by rw [numTo, List.take_of_length_le (by omega)]
theorem take_snoc' {α : Type} (l : List α) (k : Nat) (h : k < l.length) : l.take (k + 1) = l.take k ++ [l[k]] := by
  rw [List.take_add_one, List.getElem?_eq_getElem h]; rfl
theorem numTo_succ (l : List Bool) (k : Nat) (h : k < l.length) : numTo l (k + 1) = 2 * numTo l k + (l[k]).toNat := by
  rw [numTo, take_snoc' l k h, numN_snoc, numTo]
theorem numTo_lt (l : List Bool) (k : Nat) : numTo l k < 2 ^ k := by
  have h := numN_lt (l.take k)
  have : (l.take k).length ≤ k := List.length_take_le _ _
  exact Nat.lt_of_lt_of_le h (Nat.pow_le_pow_right (by omega) this)
theorem numTo_lt63 (l : List Bool) (k : Nat) (h : k < 64) : numTo l k < 9223372036854775808 :=
  Nat.lt_of_lt_of_le (numTo_lt l k) (Nat.le_trans (Nat.pow_le_pow_right (by omega) (show k ≤ 63 by omega)) (by decide))

/-- A byte of eight bits of a list, from a place on; noughts behind the last. -/
def octTo (l : List Bool) (i k : Nat) : Nat := numN ((List.range k).map fun j => l.getD (i + j) false)
def octN (l : List Bool) (i : Nat) : Nat := octTo l i 8
theorem octTo_succ (l : List Bool) (i k : Nat) : octTo l i (k + 1) = 2 * octTo l i k + (l.getD (i + k) false).toNat := by
  rw [octTo, List.range_succ, List.map_append, List.map_singleton, numN_snoc, octTo]
theorem octTo_lt (l : List Bool) (i k : Nat) : octTo l i k < 2 ^ k := by
  have h := numN_lt ((List.range k).map fun j => l.getD (i + j) false)
  simpa [octTo] using h
/-- Bits, eight a byte. -/
def bytesTo (l : List Bool) (k : Nat) : List Nat := (List.range k).map fun j => octN l (8 * j)
def bytesN (l : List Bool) : List Nat := bytesTo l ((l.length + 7) / 8)
theorem bytesTo_succ (l : List Bool) (k : Nat) : bytesTo l (k + 1) = bytesTo l k ++ [octN l (8 * k)] := by simp [bytesTo, List.range_succ]
theorem bytesTo_length (l : List Bool) (k : Nat) : (bytesTo l k).length = k := by simp [bytesTo]
/-- The bits of bytes. -/
def ofTo (b : List Nat) (k : Nat) : List Bool := (b.take k).flatMap (bitsL · 8)
def ofN (b : List Nat) : List Bool := b.flatMap (bitsL · 8)
theorem ofTo_succ (b : List Nat) (k : Nat) (h : k < b.length) : ofTo b (k + 1) = ofTo b k ++ bitsL b[k] 8 := by
  rw [ofTo, take_snoc' b k h, List.flatMap_append, List.flatMap_singleton, ofTo]
theorem ofTo_all (b : List Nat) (k : Nat) (h : b.length = k) : ofTo b k = ofN b := by rw [ofTo, List.take_of_length_le (by omega)]; rfl
theorem ofN_length (b : List Nat) : (ofN b).length = 8 * b.length := by
  induction b with
  | nil => simp [ofN]
  | cons x t ih => simp only [ofN, List.flatMap_cons, List.length_append, bitsL_length, List.length_cons] at *; omega
theorem ofTo_length (b : List Nat) (k : Nat) (h : k ≤ b.length) : (ofTo b k).length = 8 * k := by
  have := ofN_length (b.take k)
  rw [List.length_take, Nat.min_eq_left h] at this
  exact this
/-- The first dies of a set. -/
def diesTo (m k : Nat) : List Nat := (List.range k).filter m.testBit
theorem diesTo_succ (m k : Nat) : diesTo m (k + 1) = diesTo m k ++ (if m.testBit k then [k] else []) := by
  simp only [diesTo, List.range_succ, List.filter_append]
  by_cases h : m.testBit k <;> simp [h]
theorem diesTo_length (m k : Nat) : (diesTo m k).length ≤ k := cnt_le m k
theorem die_div (M k : Nat) (hM : M < 256) : wrap64 ((M : Int) / powI k) = (M : Int) / powI k := by
  have e : (M : Int) / powI k = ((M / 2 ^ k : Nat) : Int) := by rw [Int.natCast_ediv, Int.natCast_pow]; rfl
  have := Nat.div_le_self M (2 ^ k)
  rw [e]; generalize M / 2 ^ k = q at *; unfold wrap64; omega
theorem powI_le (k : Nat) (h : k < 8) : powI k ≤ 128 := by
  rcases cases8 (d := k) (by omega) (by omega) with h | h | h | h | h | h | h | h <;> rw [h] <;> decide
theorem dies_find : ∀ M : Fin 256, ∀ k : Fin 8, (match (diesN M.val)[k.val]? with | some D => decide (D < 8) && M.val.testBit D && (cnt M.val D == k.val) | none => true) = true := by decide +kernel
theorem dies_found {M k D : Nat} (hM : M < 256) (h : (diesN M)[k]? = some D) : D < 8 ∧ M.testBit D = true ∧ cnt M D = k := by
  have hk : k < 8 := by
    have := (List.getElem?_eq_some_iff.1 h).1
    have := cnt_le M 8
    rw [dies_length] at *; omega
  have := dies_find ⟨M, hM⟩ ⟨k, hk⟩
  simp only [h, Bool.and_eq_true, decide_eq_true_eq, beq_iff_eq] at this
  exact ⟨this.1.1, this.1.2, this.2⟩
theorem diesL_nat {M : Nat} (hM : M < 256) : diesL M = diesN M := by rw [diesL, setB_of (by omega) (by omega)]; rfl
theorem spot_found {M k : Nat} {d : Int} (hM : M < 256) (h : (diesN M)[k]? = some d.toNat) (hd : 0 ≤ d) : spotI M d = k := by
  obtain ⟨h1, h2, h3⟩ := dies_found hM h
  have : hasB M d = true := by
    simp only [hasB, Bool.and_eq_true, decide_eq_true_eq, setB_of (show 0 ≤ (M : Int) by omega) (show (M : Int) < 256 by omega), Int.toNat_natCast]
    exact ⟨⟨trivial, by omega, by omega⟩, h2⟩
  simp only [spotI, this, if_true, Int.toNat_natCast, h3]
theorem spot_none {M : Nat} {d : Int} (hM : M < 256) (h : ∀ (j D : Nat), (diesN M)[j]? = some D → (D : Int) ≠ d) : spotI M d = -1 := by
  unfold spotI
  split
  · rename_i hh
    simp only [hasB, Bool.and_eq_true, decide_eq_true_eq, Int.toNat_natCast] at hh
    obtain ⟨D, rfl⟩ := Int.eq_ofNat_of_zero_le hh.1.2.1
    exact absurd rfl (h _ D (dies_at ⟨M, hM⟩ ⟨D, by omega⟩ (by simpa using hh.2)))
  · rfl
end Go.Proofs.YtpbigfopmompfaaGreat
/- Plain law, no program in sight: Koopman's sums. -/
namespace Go.Proofs.YtpbigfopmompfaaGreat
open Go.RowKit

def poly : Nat := 1947962583
/-- One bit's turn of a sum. -/
def kround (s : Nat) : Nat := if s.testBit 31 then (2 * s % 4294967296) ^^^ poly else 2 * s % 4294967296
def kiter : Nat → Nat → Nat
  | 0, s => s
  | k + 1, s => kround (kiter k s)
/-- A byte taken into a sum. -/
def kstep (s x : Nat) : Nat := kiter 8 (s ^^^ (x * 16777216))
def ksum (s : Nat) (b : List Nat) : Nat := b.foldl kstep s
def kof (b : List Nat) : Nat := ksum 4294967295 b
def kzero (s : Nat) : Nat → Nat
  | 0 => s
  | n + 1 => kstep (kzero s n) 0

theorem poly_lt : poly < 4294967296 := by decide
theorem kround_lt (s : Nat) : kround s < 4294967296 := by
  unfold kround
  split
  · exact Nat.xor_lt_two_pow (n := 32) (Nat.mod_lt _ (by decide)) poly_lt
  · exact Nat.mod_lt _ (by decide)
theorem kiter_lt (k s : Nat) (h : s < 4294967296) : kiter k s < 4294967296 := by
  cases k with
  | zero => exact h
  | succ k => exact kround_lt _
theorem kstart_lt (s x : Nat) (h : s < 4294967296) (hx : x < 256) : s ^^^ (x * 16777216) < 4294967296 := Nat.xor_lt_two_pow (n := 32) h (by omega)
theorem kstep_lt (s x : Nat) (h : s < 4294967296) (hx : x < 256) : kstep s x < 4294967296 := kiter_lt 8 _ (kstart_lt s x h hx)
theorem ksum_lt (b : List Nat) : ∀ s, s < 4294967296 → (∀ x ∈ b, x < 256) → ksum s b < 4294967296 := by
  induction b with
  | nil => intro s h _; exact h
  | cons x t ih => intro s h hb; exact ih _ (kstep_lt s x h (hb x (by simp))) fun y hy => hb y (by simp [hy])
theorem ksum_snoc (s : Nat) (b : List Nat) (x : Nat) : ksum s (b ++ [x]) = kstep (ksum s b) x := by simp [ksum, List.foldl_append]
theorem kzero_lt (s n : Nat) (h : s < 4294967296) : kzero s n < 4294967296 := by
  induction n with
  | zero => exact h
  | succ n ih => exact kstep_lt _ _ ih (by decide)

theorem k_high (s : Nat) (h : s < 4294967296) : bits .and .u32 (s : Int) 2147483648 = if s.testBit 31 then 2147483648 else 0 := by
  have e := u32_and_nat s 2147483648 h (by decide)
  have e2 : s &&& 2147483648 = s / 2 ^ 31 % 2 * 2 ^ 31 := nat_bit 31 s
  rw [show ((2147483648 : Nat) : Int) = 2147483648 from rfl] at e
  rw [e, e2, Nat.testBit_eq_decide_div_mod_eq]
  have h2 : s / 2 ^ 31 % 2 = 0 ∨ s / 2 ^ 31 % 2 = 1 := by omega
  rcases h2 with h2 | h2 <;> rw [h2] <;> rfl
theorem k_one (s : Nat) (h : s.testBit 31 = true) : bits .xor .u32 ((s : Int) * 2 % 4294967296) 1947962583 = (kround s : Int) := by
  have e1 : (s : Int) * 2 % 4294967296 = ((2 * s % 4294967296 : Nat) : Int) := by omega
  have e := u32_xor_nat (2 * s % 4294967296) poly (Nat.mod_lt _ (by decide)) poly_lt
  rw [show (poly : Int) = 1947962583 from rfl] at e
  rw [e1, e, kround, h]; rfl
theorem k_nought (s : Nat) (h : s.testBit 31 = false) : (s : Int) * 2 % 4294967296 = (kround s : Int) := by
  rw [kround, h]; simp; omega
theorem k_start (s x : Nat) (h : s < 4294967296) (hx : x < 256) : bits .xor .u32 (s : Int) ((x : Int) * 16777216) = ((s ^^^ (x * 16777216) : Nat) : Int) := by
  have e := u32_xor_nat s (x * 16777216) h (by omega)
  rw [Int.natCast_mul] at e
  exact e
theorem bitsL_get (u w j : Nat) (h : j < w) : (bitsL u w)[j]? = some (u.testBit (w - 1 - j)) := by simp [bitsL, bitsTo, h]
theorem bitsL_ext {u u' w : Nat} (h : ∀ j, j < w → u.testBit j = u'.testBit j) : bitsL u w = bitsL u' w := by
  unfold bitsL bitsTo
  apply List.map_congr_left
  intro j hj
  rw [List.mem_range] at hj
  exact h _ (by omega)
/-- The first k of a list laid over another's. -/
def xorTo (a b : List Bool) (k : Nat) : List Bool := (List.range a.length).map fun j => if j < k then (a.getD j false != b.getD j false) else a.getD j false
theorem xorTo_length (a b : List Bool) (k : Nat) : (xorTo a b k).length = a.length := by simp [xorTo]
theorem xorTo_get (a b : List Bool) (k j : Nat) (h : j < a.length) : (xorTo a b k)[j]? = some (if j < k then (a.getD j false != b.getD j false) else a.getD j false) := by simp [xorTo, h]
theorem xorTo_zero (a b : List Bool) : xorTo a b 0 = a := by
  apply List.ext_getElem?
  intro j
  by_cases h : j < a.length
  · rw [xorTo_get a b 0 j h]; simp [List.getD, h]
  · rw [List.getElem?_eq_none (by rw [xorTo_length]; omega), List.getElem?_eq_none (by omega)]
theorem xorTo_set (a b : List Bool) (k : Nat) (h : k < a.length) : (xorTo a b k).set k (a.getD k false != b.getD k false) = xorTo a b (k + 1) := by
  apply List.ext_getElem?
  intro j
  by_cases hj : j < a.length
  · rw [xorTo_get a b (k + 1) j hj, List.getElem?_set]
    by_cases e : k = j
    · subst e; rw [if_pos rfl, if_pos (by rw [xorTo_length]; exact h), if_pos (by omega)]
    · rw [if_neg e, xorTo_get a b k j hj]
      by_cases h2 : j < k
      · rw [if_pos h2, if_pos (by omega)]
      · rw [if_neg h2, if_neg (by omega)]
  · rw [List.getElem?_eq_none (by rw [List.length_set, xorTo_length]; omega), List.getElem?_eq_none (by rw [xorTo_length]; omega)]
theorem bitsL_getD (u w j : Nat) (h : j < w) : (bitsL u w).getD j false = u.testBit (w - 1 - j) := by rw [List.getD_eq_getElem?_getD, bitsL_get u w j h]; rfl
theorem xor_byte (s x : Nat) : xorTo (bitsL s 32) (bitsL x 8) 8 = bitsL (s ^^^ (x * 16777216)) 32 := by
  apply List.ext_getElem?
  intro j
  by_cases hj : j < 32
  · have e : x * 16777216 = x * 2 ^ 24 := rfl
    rw [xorTo_get _ _ _ _ (by rw [bitsL_length]; exact hj), bitsL_get _ _ _ hj, bitsL_getD _ _ _ hj, Nat.testBit_xor, e, Nat.testBit_mul_two_pow]
    by_cases h8 : j < 8
    · rw [if_pos h8, bitsL_getD _ _ _ h8]
      have : (decide (24 ≤ 32 - 1 - j)) = true := by simp; omega
      rw [this, Bool.true_and, show 32 - 1 - j - 24 = 8 - 1 - j by omega]
    · rw [if_neg h8]
      have : (decide (24 ≤ 32 - 1 - j)) = false := by simp; omega
      rw [this, Bool.false_and, Bool.xor_false]
  · rw [List.getElem?_eq_none (by rw [xorTo_length, bitsL_length]; omega), List.getElem?_eq_none (by rw [bitsL_length]; omega)]
theorem xor_all (s t w : Nat) : xorTo (bitsL s w) (bitsL t w) w = bitsL (s ^^^ t) w := by
  apply List.ext_getElem?
  intro j
  by_cases hj : j < w
  · rw [xorTo_get _ _ _ _ (by rw [bitsL_length]; exact hj), bitsL_get _ _ _ hj, bitsL_getD _ _ _ hj, bitsL_getD _ _ _ hj, Nat.testBit_xor, if_pos hj]
  · rw [List.getElem?_eq_none (by rw [xorTo_length, bitsL_length]; omega), List.getElem?_eq_none (by rw [bitsL_length]; omega)]
theorem shift_one (t : Nat) : (bitsL t 32).drop 1 ++ [false] = bitsL (2 * t % 4294967296) 32 := by
  have e : 2 * t % 4294967296 = 2 * t % 2 ^ 32 := rfl
  apply List.ext_getElem?
  intro j
  by_cases hj : j < 32
  · rw [bitsL_get _ _ _ hj, e, Nat.testBit_mod_two_pow]
    have : (decide (32 - 1 - j < 32)) = true := by simp; omega
    rw [this, Bool.true_and]
    by_cases h31 : j < 31
    · rw [List.getElem?_append_left (by simp [bitsL_length]; omega), List.getElem?_drop, bitsL_get _ _ _ (by omega), show 32 - 1 - j = (32 - 1 - (1 + j)) + 1 by omega, Nat.testBit_succ]
      congr 2; omega
    · obtain rfl : j = 31 := by omega
      rw [List.getElem?_append_right (by simp [bitsL_length])]
      simp [bitsL_length]
  · rw [List.getElem?_eq_none (by simp [bitsL_length]; omega), List.getElem?_eq_none (by rw [bitsL_length]; omega)]
theorem numN_bitsTo (u w k : Nat) (h : k ≤ w) : numN (bitsTo u w k) = u / 2 ^ (w - k) % 2 ^ k := by
  induction k with
  | zero => simp [bitsTo, numN, Nat.mod_one]
  | succ k ih =>
    rw [bitsTo_succ, numN_snoc, ih (by omega)]
    have e : u / 2 ^ (w - k) = u / 2 ^ (w - (k + 1)) / 2 := by
      rw [Nat.div_div_eq_div_mul, ← Nat.pow_succ]; congr 2; omega
    have e2 : w - 1 - k = w - (k + 1) := by omega
    rw [e, e2, Nat.testBit_eq_decide_div_mod_eq]
    generalize u / 2 ^ (w - (k + 1)) = q
    have h2 : q % 2 = 0 ∨ q % 2 = 1 := by omega
    have e3 : q % 2 ^ (k + 1) = q % 2 + 2 * (q / 2 % 2 ^ k) := by rw [Nat.pow_succ', Nat.mod_mul]
    rcases h2 with h2 | h2 <;> simp [h2] <;> omega
theorem numN_bitsL (u w : Nat) (h : u < 2 ^ w) : numN (bitsL u w) = u := by
  rw [bitsL, numN_bitsTo u w w (Nat.le_refl _), Nat.sub_self, Nat.pow_zero, Nat.div_one, Nat.mod_eq_of_lt h]
theorem numN_bitsL' (u w : Nat) : numN (bitsL u w) = u % 2 ^ w := by
  rw [bitsL, numN_bitsTo u w w (Nat.le_refl _), Nat.sub_self, Nat.pow_zero, Nat.div_one]
/-- The first k of a list of bits as a number of two's complement. -/
def nT (l : List Bool) (k : Nat) : Int := (numTo l k : Int) - (if k = 0 then 0 else ((l.getD 0 false).toNat * 2 ^ k : Nat))
theorem nT_zero (l : List Bool) : nT l 0 = 0 := by simp [nT, numTo_zero]
theorem nT_one (l : List Bool) (h : 0 < l.length) : nT l 1 = -((l[0]).toNat : Int) := by
  have := numTo_succ l 0 h
  rw [numTo_zero] at this
  rw [nT, this, if_neg (by omega), List.getD_eq_getElem?_getD, List.getElem?_eq_getElem h]
  simp only [Option.getD_some]; omega
theorem nT_succ (l : List Bool) (k : Nat) (h : k < l.length) (h0 : 0 < k) : nT l (k + 1) = nT l k * 2 + ((l[k]).toNat : Int) := by
  rw [nT, nT, numTo_succ l k h, if_neg (by omega), if_neg (by omega), Nat.pow_succ]
  generalize (l.getD 0 false).toNat = a
  rw [← Nat.mul_assoc]
  generalize a * 2 ^ k = q
  omega
theorem nT_bd (l : List Bool) (k : Nat) (h : k < l.length) : -((2 ^ k : Nat) : Int) ≤ nT l (k + 1) ∧ nT l (k + 1) < ((2 ^ k : Nat) : Int) := by
  induction k with
  | zero =>
    have hb : (l[0]).toNat ≤ 1 := by cases l[0] <;> simp
    rw [nT_one l h]; simp; omega
  | succ k ih =>
    have hb : (l[k + 1]).toNat ≤ 1 := by cases l[k + 1] <;> simp
    have := ih (by omega)
    rw [nT_succ l (k + 1) h (by omega), Nat.pow_succ]; omega
theorem nT_small (l : List Bool) (k : Nat) (h : k < l.length) (hk : k ≤ 63) (h0 : 0 < k) : -4611686018427387904 ≤ nT l k ∧ nT l k < 4611686018427387904 := by
  obtain ⟨j, rfl⟩ : ∃ j, k = j + 1 := ⟨k - 1, by omega⟩
  have h1 := nT_bd l j (by omega)
  have h2 : (2 : Nat) ^ j ≤ 4611686018427387904 := Nat.le_trans (Nat.pow_le_pow_right (by omega) (show j ≤ 62 by omega)) (by decide)
  omega
theorem nT_final (n : Int) (w : Nat) (h0 : 0 < w) (h1 : w ≤ 64) : nT (bitsL (n % 18446744073709551616).toNat w) w = Int.bmod n (2 ^ w) := by
  have hl := bitsL_length (n % 18446744073709551616).toNat w
  have hb := nT_bd (bitsL (n % 18446744073709551616).toNat w) (w - 1) (by omega)
  rw [show w - 1 + 1 = w by omega] at hb
  have hpos := Nat.two_pow_pos (w - 1)
  have hw : (2 : Nat) ^ w = 2 * 2 ^ (w - 1) := by rw [← Nat.pow_succ']; congr 1; omega
  have hdvd : ((2 ^ w : Nat) : Int) ∣ 18446744073709551616 := by
    have : (2 : Nat) ^ w ∣ 2 ^ 64 := Nat.pow_dvd_pow 2 h1
    exact Int.natCast_dvd_natCast.2 this
  have hmod : nT (bitsL (n % 18446744073709551616).toNat w) w % ((2 ^ w : Nat) : Int) = n % ((2 ^ w : Nat) : Int) := by
    have e : numTo (bitsL (n % 18446744073709551616).toNat w) w = (n % 18446744073709551616).toNat % 2 ^ w := by
      rw [numTo_all _ w hl, numN_bitsL']
    have e3 : (((n % 18446744073709551616).toNat % 2 ^ w : Nat) : Int) = n % ((2 ^ w : Nat) : Int) := by
      rw [Int.natCast_emod, Int.toNat_of_nonneg (Int.emod_nonneg _ (by decide))]
      exact Int.emod_emod_of_dvd n hdvd
    rw [nT, if_neg (by omega), e, e3, Int.natCast_mul, Int.sub_mul_emod_self_right, Int.emod_emod_of_dvd _ (Int.dvd_refl _)]
  rw [Int.bmod_def, ← hmod]
  generalize nT (bitsL (n % 18446744073709551616).toNat w) w = x at *
  rw [hw] at *
  generalize 2 ^ (w - 1) = q at *
  by_cases hx : 0 ≤ x
  · rw [Int.emod_eq_of_lt hx (by omega), if_pos (by omega)]
  · have e : x % ((2 * q : Nat) : Int) = x + ((2 * q : Nat) : Int) := by
      rw [← Int.add_emod_right, Int.emod_eq_of_lt (by omega) (by omega)]
    rw [e, if_neg (by omega)]; omega
theorem numN_append (a b : List Bool) : numN (a ++ b) = numN a * 2 ^ b.length + numN b := by
  refine snoc_ind (P := fun b => numN (a ++ b) = numN a * 2 ^ b.length + numN b) (by simp [numN]) (fun l x ih => ?_) b
  rw [← List.append_assoc, numN_snoc, numN_snoc, ih, List.length_append, List.length_singleton, Nat.pow_succ, ← Nat.mul_assoc]
  generalize numN a * 2 ^ l.length = q
  omega
theorem bitsL_take (u w k : Nat) (h : k ≤ w) : (bitsL u w).take k = bitsTo u w k := by
  apply List.ext_getElem?
  intro j
  rw [List.getElem?_take]
  by_cases hj : j < k
  · rw [if_pos hj, bitsL_get u w j (by omega)]; simp [bitsTo, hj]
  · rw [if_neg hj, List.getElem?_eq_none (by rw [bitsTo_length]; omega)]
theorem turn_bits (u k : Nat) (hu : u < 4294967296) (hk : k < 32) : numN ((bitsL u 32).drop k ++ (bitsL u 32).take k) = u * 2 ^ k % 4294967296 + u / 2 ^ (32 - k) := by
  have h1 : numN ((bitsL u 32).take k) = u / 2 ^ (32 - k) := by
    rw [bitsL_take u 32 k (by omega), numN_bitsTo u 32 k (by omega), Nat.mod_eq_of_lt]
    rw [Nat.div_lt_iff_lt_mul (Nat.two_pow_pos _), ← Nat.pow_add, show k + (32 - k) = 32 by omega]; exact hu
  have h2 : numN ((bitsL u 32).take k) * 2 ^ (32 - k) + numN ((bitsL u 32).drop k) = u := by
    have := numN_append ((bitsL u 32).take k) ((bitsL u 32).drop k)
    rw [List.take_append_drop, numN_bitsL u 32 hu, List.length_drop, bitsL_length] at this
    exact this.symm
  have h3 : numN ((bitsL u 32).drop k) = u % 2 ^ (32 - k) := by
    rw [h1] at h2
    have := Nat.div_add_mod' u (2 ^ (32 - k))
    omega
  have hp : 2 ^ k * 2 ^ (32 - k) = 4294967296 := by rw [← Nat.pow_add, show k + (32 - k) = 32 by omega]
  rw [numN_append, h1, h3, List.length_take, bitsL_length, Nat.min_eq_left (by omega), ← hp, Nat.mul_comm (2 ^ k), Nat.mul_mod_mul_right]
theorem turn_num (u : Nat) (b : Int) (k : Nat) (hu : u < 4294967296) (hk : b % 32 = (k : Int)) (hk2 : k < 32) : (numN ((bitsL u 32).drop k ++ (bitsL u 32).take k) : Int) = turnI u b := by
  rw [turn_bits u k hu hk2, turnI, hk, Int.toNat_natCast, show (32 - (k : Int)).toNat = 32 - k by omega, Int.natCast_add, Int.natCast_emod, Int.natCast_mul, Int.natCast_pow, Int.natCast_ediv, Int.natCast_pow]
  rfl
theorem turnI_bd (u : Nat) (b : Int) (hu : u < 4294967296) : 0 ≤ turnI u b ∧ turnI u b < 4294967296 := by
  obtain ⟨k, hk⟩ := Int.eq_ofNat_of_zero_le (show 0 ≤ b % 32 by omega)
  have h := turn_num u b k hu hk (by omega)
  have h2 := numN_lt ((bitsL u 32).drop k ++ (bitsL u 32).take k)
  have h3 : ((bitsL u 32).drop k ++ (bitsL u 32).take k).length = 32 := by simp [bitsL_length]; omega
  rw [h3] at h2
  omega
theorem tmod_mod (b : Int) : (b.tmod 32 + 32) % 32 = b % 32 := by
  have h := Int.tmod_add_mul_tdiv b 32
  omega
theorem tmod_bd (b : Int) : -32 < b.tmod 32 ∧ b.tmod 32 < 32 := by
  have h1 := Int.lt_tmod_of_pos b (show (0 : Int) < 32 by decide)
  have h2 := Int.tmod_lt_of_pos b (show (0 : Int) < 32 by decide)
  omega
/-- A list is the bits of its number. -/
theorem bitsL_snoc (u w : Nat) (b : Bool) : bitsL (2 * u + b.toNat) (w + 1) = bitsL u w ++ [b] := by
  have hb : b.toNat < 2 := by cases b <;> simp
  rw [bitsL, bitsTo_succ]
  have e0 : (2 * u + b.toNat).testBit (w + 1 - 1 - w) = b := by
    rw [show w + 1 - 1 - w = 0 by omega, Nat.testBit_zero]
    cases b <;> simp <;> omega
  rw [e0]
  congr 1
  unfold bitsL bitsTo
  apply List.map_congr_left
  intro j hj
  rw [List.mem_range] at hj
  rw [show w + 1 - 1 - j = (w - 1 - j) + 1 by omega, Nat.testBit_succ]
  congr 1; omega
theorem bitsL_numN (l : List Bool) : bitsL (numN l) l.length = l := by
  refine snoc_ind (P := fun l => bitsL (numN l) l.length = l) (by simp [bitsL, bitsTo]) (fun l b ih => ?_) l
  rw [numN_snoc, List.length_append, List.length_singleton, bitsL_snoc, ih]
theorem numN_testBit (l : List Bool) (q : Nat) (h : q < l.length) : (numN l).testBit q = l.getD (l.length - 1 - q) false := by
  have h1 := bitsL_getD (numN l) l.length (l.length - 1 - q) (by omega)
  rw [bitsL_numN] at h1
  rw [h1]; congr 1; omega
theorem numN_testBit' (l : List Bool) (q : Nat) (h : l.length ≤ q) : (numN l).testBit q = false :=
  Nat.testBit_lt_two_pow (Nat.lt_of_lt_of_le (numN_lt l) (Nat.pow_le_pow_right (by omega) h))
theorem octN_testBit (l : List Bool) (i q : Nat) : (octN l i).testBit q = (decide (q < 8) && l.getD (i + (7 - q)) false) := by
  unfold octN octTo
  by_cases h : q < 8
  · rw [numN_testBit _ q (by simpa using h)]
    simp [h, show 7 - q < 8 by omega]
  · rw [numN_testBit' _ q (by simpa using h)]
    simp [h]
theorem octN_lt (l : List Bool) (i : Nat) : octN l i < 256 := octTo_lt l i 8
/-- One bit more: into the last byte. -/
theorem octN_snoc (l : List Bool) (x : Bool) (j : Nat) (hj : j = l.length / 8) : octN (l ++ [x]) (8 * j) = octN l (8 * j) ||| (x.toNat * 2 ^ (7 - l.length % 8)) := by
  apply Nat.eq_of_testBit_eq
  intro q
  rw [Nat.testBit_or, octN_testBit, octN_testBit, Nat.testBit_mul_two_pow]
  have e : (x.toNat).testBit (q - (7 - l.length % 8)) = (decide (q - (7 - l.length % 8) = 0) && x) := by
    cases x
    · simp
    · simp only [Bool.toNat_true, Bool.and_true]
      by_cases h0 : q - (7 - l.length % 8) = 0
      · simp [h0]
      · obtain ⟨m, hm⟩ : ∃ m, q - (7 - l.length % 8) = m + 1 := ⟨_, (Nat.succ_pred_eq_of_pos (by omega)).symm⟩
        rw [hm, Nat.testBit_succ]; simp
  rw [e]
  by_cases h8 : q < 8
  · have h8' : decide (q < 8) = true := by simpa using h8
    rw [h8', Bool.true_and, Bool.true_and]
    simp only [List.getD_eq_getElem?_getD]
    by_cases hlt : 8 * j + (7 - q) < l.length
    · rw [List.getElem?_append_left hlt]
      have : (decide (7 - l.length % 8 ≤ q) && (decide (q - (7 - l.length % 8) = 0) && x)) = false := by
        have : ¬ (7 - l.length % 8 ≤ q ∧ q - (7 - l.length % 8) = 0) := by omega
        cases h1 : decide (7 - l.length % 8 ≤ q) <;> cases h2 : decide (q - (7 - l.length % 8) = 0) <;> simp_all
      rw [this, Bool.or_false]
    · rw [List.getElem?_append_right (by omega), List.getElem?_eq_none (show l.length ≤ 8 * j + (7 - q) by omega)]
      by_cases he : 8 * j + (7 - q) = l.length
      · rw [he, Nat.sub_self]
        have h1 : decide (7 - l.length % 8 ≤ q) = true := by simp; omega
        have h2 : decide (q - (7 - l.length % 8) = 0) = true := by simp; omega
        rw [h1, h2]; simp
      · have h2 : (decide (7 - l.length % 8 ≤ q) && (decide (q - (7 - l.length % 8) = 0) && x)) = false := by
          have : ¬ (7 - l.length % 8 ≤ q) := by omega
          simp [this]
        rw [h2, List.getElem?_eq_none (by simp; omega)]; simp
  · have h8' : decide (q < 8) = false := by simpa using h8
    have h2 : decide (q - (7 - l.length % 8) = 0) = false := by simp; omega
    rw [h8', h2]; simp
theorem octN_old (l : List Bool) (x : Bool) (j : Nat) (hj : j < l.length / 8) : octN (l ++ [x]) (8 * j) = octN l (8 * j) := by
  apply Nat.eq_of_testBit_eq
  intro q
  rw [octN_testBit, octN_testBit]
  by_cases h8 : q < 8
  · simp only [List.getD_eq_getElem?_getD]
    rw [List.getElem?_append_left (by omega)]
  · simp [h8]
theorem octN_new (l : List Bool) (j : Nat) (hj : l.length ≤ 8 * j) : octN l (8 * j) = 0 := by
  apply Nat.eq_of_testBit_eq
  intro q
  rw [octN_testBit, List.getD_eq_getElem?_getD, List.getElem?_eq_none (by omega)]; simp
/-- The bytes with room for one bit more. -/
def roomN (l : List Bool) : List Nat := bytesTo l (l.length / 8 + 1)
theorem roomN_same (l : List Bool) (h : l.length % 8 ≠ 0) : roomN l = bytesN l := by
  unfold roomN bytesN; congr 1; omega
theorem roomN_more (l : List Bool) (h : l.length % 8 = 0) : roomN l = bytesN l ++ [0] := by
  unfold roomN bytesN
  rw [bytesTo_succ, octN_new l _ (by omega)]
  congr 2; omega
theorem roomN_get (l : List Bool) : (roomN l)[l.length / 8]? = some (octN l (8 * (l.length / 8))) := by simp [roomN, bytesTo]
theorem putBit (l : List Bool) (x : Bool) : (roomN l).set (l.length / 8) (octN l (8 * (l.length / 8)) ||| (x.toNat * 2 ^ (7 - l.length % 8))) = bytesN (l ++ [x]) := by
  have hlen : (bytesN (l ++ [x])).length = l.length / 8 + 1 := by rw [bytesN, bytesTo_length, List.length_append, List.length_singleton]; omega
  apply List.ext_getElem?
  intro j
  by_cases hj : j < l.length / 8 + 1
  · have e : (bytesN (l ++ [x]))[j]? = some (octN (l ++ [x]) (8 * j)) := by
      have : j < (l.length + 1 + 7) / 8 := by omega
      simp [bytesN, bytesTo, this]
    rw [e, List.getElem?_set]
    by_cases h : l.length / 8 = j
    · rw [if_pos h, if_pos (by simp [roomN, bytesTo_length]), ← h, octN_snoc l x _ rfl]
    · rw [if_neg h]
      simp only [roomN, bytesTo, List.getElem?_map, List.getElem?_range hj, Option.map_some]
      rw [octN_old l x j (by omega)]
  · rw [List.getElem?_eq_none (by rw [List.length_set, roomN, bytesTo_length]; omega), List.getElem?_eq_none (by omega)]
theorem put_val (o u m s : Nat) (ho : o < 256) (hu : u < 18446744073709551616) (hs : s ≤ 7) :
    bits .or .u8 (o : Int) (bits .and .u64 ((u : Int) / 2 ^ m) 1 % 256 * 2 ^ s % 256) = ((o ||| ((u.testBit m).toNat * 2 ^ s) : Nat) : Int) := by
  have e1 : (u : Int) / 2 ^ m = ((u / 2 ^ m : Nat) : Int) := by rw [Int.natCast_ediv, Int.natCast_pow]; rfl
  have hd := Nat.div_le_self u (2 ^ m)
  have e2 : bits .and .u64 ((u / 2 ^ m : Nat) : Int) 1 = (((u.testBit m).toNat : Nat) : Int) := by
    rw [Nat.testBit_eq_decide_div_mod_eq]
    generalize u / 2 ^ m = q at *
    rw [u64_and1 _ (by omega) (by omega)]
    have h2 : q % 2 = 0 ∨ q % 2 = 1 := by omega
    rcases h2 with h2 | h2 <;> simp [h2] <;> omega
  have hb : (u.testBit m).toNat ≤ 1 := by cases u.testBit m <;> simp
  rw [e1, e2]
  generalize (u.testBit m).toNat = x at *
  have hp : 2 ^ s ≤ 128 := Nat.le_trans (Nat.pow_le_pow_right (by omega) hs) (by decide)
  have hx : x * 2 ^ s ≤ 128 := Nat.le_trans (Nat.mul_le_mul_right _ hb) (by omega)
  have e3 : (x : Int) % 256 * 2 ^ s % 256 = ((x * 2 ^ s : Nat) : Int) := by
    have : (x : Int) % 256 = (x : Int) := by omega
    rw [this, Int.natCast_mul, Int.natCast_pow, Int.emod_eq_of_lt]
    · rfl
    · exact Int.mul_nonneg (by omega) (Int.le_of_lt (Int.pow_pos (by decide)))
    · have h := congrArg (Nat.cast (R := Int)) (rfl : x * 2 ^ s = x * 2 ^ s)
      rw [Int.natCast_mul, Int.natCast_pow] at h
      have : ((x * 2 ^ s : Nat) : Int) ≤ 128 := by omega
      rw [Int.natCast_mul, Int.natCast_pow] at this
      exact Int.lt_of_le_of_lt this (by decide)
  rw [e3]
  exact u8_or_nat o (x * 2 ^ s) ho (by omega)
theorem ofN_get (b : List Nat) (i : Nat) (h : i < 8 * b.length) : ∃ x, b[i / 8]? = some x ∧ (ofN b)[i]? = some (x.testBit (7 - i % 8)) := by
  induction b generalizing i with
  | nil => simp at h
  | cons y t ih =>
    simp only [List.length_cons] at h
    by_cases h8 : i < 8
    · refine ⟨y, by rw [show i / 8 = 0 by omega]; rfl, ?_⟩
      rw [ofN, List.flatMap_cons, List.getElem?_append_left (by rw [bitsL_length]; exact h8), bitsL_get y 8 i h8]
      congr 2; omega
    · obtain ⟨x, h1, h2⟩ := ih (i - 8) (by omega)
      refine ⟨x, ?_, ?_⟩
      · rw [show i / 8 = (i - 8) / 8 + 1 by omega]; simpa using h1
      · rw [ofN, List.flatMap_cons, List.getElem?_append_right (by rw [bitsL_length]; omega), bitsL_length]
        rw [show i % 8 = (i - 8) % 8 by omega]; exact h2
/-- So many bits from a place on. -/
def cutB (l : List Bool) (i k : Nat) : List Bool := (l.drop i).take k
theorem cutB_length (l : List Bool) (i k : Nat) (h : i + k ≤ l.length) : (cutB l i k).length = k := by simp [cutB]; omega
theorem cutB_succ (l : List Bool) (i k : Nat) (x : Bool) (h : l[i + k]? = some x) : cutB l i (k + 1) = cutB l i k ++ [x] := by
  rw [cutB, List.take_add_one, List.getElem?_drop, h]; rfl
theorem get_val (U b s : Nat) (hU : U < 9223372036854775808) (hb : b < 256) :
    bits .or .u64 ((U : Int) * 2) (IntKind.u64.wrap (bits .and .u8 ((b : Int) / 2 ^ s) 1)) = ((2 * U + (b.testBit s).toNat : Nat) : Int) := by
  have e1 : (b : Int) / 2 ^ s = ((b / 2 ^ s : Nat) : Int) := by rw [Int.natCast_ediv, Int.natCast_pow]; rfl
  have hd := Nat.div_le_self b (2 ^ s)
  have e2 : bits .and .u8 ((b / 2 ^ s : Nat) : Int) 1 = (((b.testBit s).toNat : Nat) : Int) := by
    rw [Nat.testBit_eq_decide_div_mod_eq]
    generalize b / 2 ^ s = q at *
    have := u8_and_nat q 1 (by omega) (by omega)
    rw [show ((1 : Nat) : Int) = 1 from rfl] at this
    rw [this, Nat.and_one_is_mod]
    have h2 : q % 2 = 0 ∨ q % 2 = 1 := by omega
    rcases h2 with h2 | h2 <;> simp [h2]
  have hx : (b.testBit s).toNat ≤ 1 := by cases b.testBit s <;> simp
  rw [e1, e2, u64_wrap_nat _ (by omega)]
  generalize (b.testBit s).toNat = x at *
  have e3 : (U : Int) * 2 = ((2 * U : Nat) : Int) := by omega
  rw [e3, u64_or_nat (2 * U) x (by omega) (by omega), nat_join 1 (2 * U) x (by omega) (by omega)]
end Go.Proofs.YtpbigfopmompfaaGreat
/- Plain law, no program in sight: rows of a set of dies, who has the parity, who has which slot. -/
namespace Go.Proofs.YtpbigfopmompfaaGreat
open Go.RowKit

def parityI (m b r : Int) : Int := if countI m < 2 ∨ b < 0 ∨ r < 0 then -1 else atI m ((b % countI m + r % countI m) % countI m)
def slotsI (m : Int) : Int := if countI m < 2 then 0 else countI m - 1
def dieI (m b r s : Int) : Int := if parityI m b r < 0 then -1 else atI (withoutI m (parityI m b r)) s
def slotI (m b r d : Int) : Int := if parityI m b r < 0 then -1 else spotI (withoutI m (parityI m b r)) d
/-- The dies of a row but the parity's. -/
def othersL (m p : Int) : List Nat := if p < 0 then [] else diesL (withoutI m p)

theorem countI_le (m : Int) : 0 ≤ countI m ∧ countI m ≤ 8 := by
  unfold countI
  split
  · have := cnt_le m.toNat 8; omega
  · omega
theorem set_of_count {m : Int} (h : countI m ≠ 0) : 0 ≤ m ∧ m < 256 := by
  unfold countI setB at h
  split at h
  · rename_i h2
    simpa using h2
  · exact absurd rfl h
theorem countI_nat {M : Nat} (hM : M < 256) : countI (M : Int) = (cnt M 8 : Int) := by
  rw [countI, setB_of (by omega) (by omega)]; rfl
theorem length_diesL (m : Int) : ((diesL m).length : Int) = countI m := by
  unfold diesL countI
  split
  · rw [dies_length]
  · rfl
theorem atI_nat {M : Nat} (hM : M < 256) (i : Nat) (hi : i < cnt M 8) : atI (M : Int) (i : Int) = ((diesN M).getD i 0 : Nat) := by
  unfold atI
  rw [if_neg (by omega), diesL_nat hM, List.getD_eq_getElem?_getD, show ((i : Int)).toNat = i by omega, List.getElem?_eq_getElem (by rw [dies_length]; exact hi)]
  rfl
theorem without_nat : ∀ M : Fin 256, ∀ P : Fin 8, withoutI (M.val : Int) (P.val : Int) = ((M.val &&& (255 - 2 ^ P.val) : Nat) : Int) := by decide +kernel
/-- The die of a row, by the place from which one counts. -/
def rowDie (M c : Nat) : Nat := (diesN M).getD (c % cnt M 8) 0
theorem rowDie_ok : ∀ M : Fin 256, ∀ c : Fin 8, c.val < cnt M.val 8 → (decide ((diesN M.val).getD c.val 0 < 8) && M.val.testBit ((diesN M.val).getD c.val 0)) = true := by decide +kernel
theorem rowDie_in {M : Nat} (hM : M < 256) (h : 0 < cnt M 8) (c : Nat) : rowDie M c < 8 ∧ M.testBit (rowDie M c) = true := by
  have hl := Nat.mod_lt c h
  have h8 := cnt_le M 8
  have := rowDie_ok ⟨M, hM⟩ ⟨c % cnt M 8, by omega⟩ hl
  rw [Bool.and_eq_true, decide_eq_true_eq] at this
  exact this
theorem rowDie_mod (M c i : Nat) : rowDie M (c + i) = rowDie M (c % cnt M 8 + i) := by
  unfold rowDie
  rw [Nat.mod_add_mod]
theorem parity_nat {M : Nat} (hM : M < 256) (h2 : 2 ≤ cnt M 8) (b r : Nat) : parityI (M : Int) (b : Int) (r : Int) = (rowDie M (b + r) : Int) := by
  unfold parityI
  rw [countI_nat hM, if_neg (by omega)]
  have e : ((b : Int) % (cnt M 8 : Int) + (r : Int) % (cnt M 8 : Int)) % (cnt M 8 : Int) = (((b + r) % cnt M 8 : Nat) : Int) := by
    rw [← Int.natCast_emod, ← Int.natCast_emod, ← Int.natCast_add, ← Int.natCast_emod, ← Nat.add_mod]
  rw [e, atI_nat hM _ (Nat.mod_lt _ (by omega))]; rfl
theorem parity_lt (m b r : Int) : parityI m b r = -1 ∨ ∃ M P : Nat, m = M ∧ M < 256 ∧ 2 ≤ cnt M 8 ∧ P < 8 ∧ M.testBit P = true ∧ parityI m b r = P := by
  by_cases h : countI m < 2 ∨ b < 0 ∨ r < 0
  · exact .inl (by unfold parityI; rw [if_pos h])
  · obtain ⟨h0, h1⟩ := set_of_count (show countI m ≠ 0 by omega)
    obtain ⟨M, rfl⟩ := Int.eq_ofNat_of_zero_le h0
    obtain ⟨b, rfl⟩ := Int.eq_ofNat_of_zero_le (show 0 ≤ b by omega)
    obtain ⟨r, rfl⟩ := Int.eq_ofNat_of_zero_le (show 0 ≤ r by omega)
    rw [countI_nat (by omega)] at h
    obtain ⟨hP, hT⟩ := rowDie_in (M := M) (by omega) (by omega) (b + r)
    exact .inr ⟨M, rowDie M (b + r), rfl, by omega, by omega, hP, hT, parity_nat (by omega) (by omega) b r⟩
/-- The others are those that are not the parity. -/
theorem others_fin : ∀ M : Fin 256, ∀ P : Fin 8, diesN (M.val &&& (255 - 2 ^ P.val)) = (diesN M.val).filter (fun d => !(d == P.val)) := by decide +kernel
theorem others_eq (m b r : Int) : othersL m (parityI m b r) = if parityI m b r < 0 then [] else (diesL m).filter (fun d : Nat => !((d : Int) == parityI m b r)) := by
  rcases parity_lt m b r with h | ⟨M, P, rfl, hM, -, hP, hT, h⟩
  · rw [h]; rfl
  · have e1 := without_nat ⟨M, hM⟩ ⟨P, hP⟩
    have e2 := others_fin ⟨M, hM⟩ ⟨P, hP⟩
    simp only at e1 e2
    have hw : (M &&& (255 - 2 ^ P)) < 256 := Nat.lt_of_le_of_lt Nat.and_le_left hM
    rw [h, othersL, if_neg (by omega), if_neg (by omega), e1, diesL_nat hM, diesL_nat hw, e2]
    apply List.filter_congr
    intro d _
    have e3 : ((d : Int) == (P : Int)) = (d == P) := by rw [Bool.eq_iff_iff, beq_iff_eq, beq_iff_eq]; omega
    rw [e3]
theorem othersL_le (m p : Int) : (othersL m p).length ≤ 8 := by
  unfold othersL diesL
  split
  · simp
  · split
    · rw [dies_length]; exact cnt_le _ _
    · simp
theorem dieI_others (m b r s : Int) (h : 0 ≤ s) : dieI m b r s = match (othersL m (parityI m b r))[s.toNat]? with | some d => (d : Int) | none => -1 := by
  unfold dieI othersL
  split
  · rfl
  · unfold atI
    rw [if_neg (by omega)]
    generalize (diesL (withoutI m (parityI m b r)))[s.toNat]? = o
    cases o <;> rfl
theorem dieI_some {m b r : Int} {s D : Nat} (h : (othersL m (parityI m b r))[s]? = some D) : dieI m b r (s : Int) = D := by
  rw [dieI_others _ _ _ _ (by omega), show ((s : Int)).toNat = s by omega, h]
theorem dieI_none {m b r : Int} {s : Int} (h0 : 0 ≤ s) (h : ((othersL m (parityI m b r)).length : Int) ≤ s) : dieI m b r s = -1 := by
  rw [dieI_others _ _ _ _ h0, List.getElem?_eq_none (by omega)]
theorem atI_some {m : Int} {i D : Nat} (h : (diesL m)[i]? = some D) : atI m (i : Int) = D := by
  unfold atI
  rw [if_neg (by omega), show ((i : Int)).toNat = i by omega, h]
theorem dieI_neg (m b r s : Int) (h : s < 0) : dieI m b r s = -1 := by
  unfold dieI
  split
  · rfl
  · unfold atI; rw [if_pos h]
theorem spot_list {m d : Int} : (∀ (j D : Nat), (diesL m)[j]? = some D → (D : Int) = d → spotI m d = j) ∧ ((∀ (j D : Nat), (diesL m)[j]? = some D → (D : Int) ≠ d) → spotI m d = -1) := by
  constructor
  · rintro j D h rfl
    by_cases h0 : m < 0
    · simp [diesL, setB_neg h0] at h
    · by_cases h1 : 255 < m
      · simp [diesL, setB_big (show 256 ≤ m by omega)] at h
      · obtain ⟨M, rfl⟩ := Int.eq_ofNat_of_zero_le (show 0 ≤ m by omega)
        rw [diesL_nat (by omega)] at h
        exact spot_found (by omega) (by simpa using h) (by omega)
  · intro h
    by_cases h0 : m < 0
    · simp [spotI, hasB, setB_neg h0]
    · by_cases h1 : 255 < m
      · simp [spotI, hasB, setB_big (show 256 ≤ m by omega)]
      · obtain ⟨M, rfl⟩ := Int.eq_ofNat_of_zero_le (show 0 ≤ m by omega)
        rw [diesL_nat (by omega)] at h
        exact spot_none (by omega) h
theorem slotI_list (m b r d : Int) : (∀ (j D : Nat), (othersL m (parityI m b r))[j]? = some D → (D : Int) = d → slotI m b r d = j) ∧ ((∀ (j D : Nat), (othersL m (parityI m b r))[j]? = some D → (D : Int) ≠ d) → slotI m b r d = -1) := by
  unfold othersL slotI
  split
  · exact ⟨(fun j D h => by cases h), fun _ => rfl⟩
  · exact spot_list

/-- Who was seen, row by row. -/
def seenTo (M c : Nat) : Nat → Nat
  | 0 => 0
  | i + 1 => seenTo M c i ||| 2 ^ rowDie M (c + i)
theorem seenTo_mod (M c i : Nat) : seenTo M c i = seenTo M (c % cnt M 8) i := by
  induction i with
  | zero => rfl
  | succ i ih => rw [seenTo, seenTo, ih, rowDie_mod]
theorem seen_fin : ∀ M : Fin 256, ∀ c : Fin 8, ∀ i : Fin 8, c.val < cnt M.val 8 → i.val < cnt M.val 8 → (!(seenTo M.val c.val i.val).testBit (rowDie M.val (c.val + i.val)) && decide (seenTo M.val c.val i.val < 256)) = true := by decide +kernel
theorem seen_all_fin : ∀ M : Fin 256, ∀ c : Fin 8, c.val < cnt M.val 8 → seenTo M.val c.val (cnt M.val 8) = M.val := by decide +kernel
theorem seen_step {M : Nat} (hM : M < 256) (c i : Nat) (hi : i < cnt M 8) : (seenTo M c i).testBit (rowDie M (c + i)) = false ∧ seenTo M c i < 256 := by
  have hl := Nat.mod_lt c (show 0 < cnt M 8 by omega)
  have h8 := cnt_le M 8
  have h := seen_fin ⟨M, hM⟩ ⟨c % cnt M 8, by omega⟩ ⟨i, by omega⟩ hl hi
  rw [seenTo_mod, rowDie_mod]
  simpa using h
theorem seen_all {M : Nat} (hM : M < 256) (c : Nat) (h : 0 < cnt M 8) : seenTo M c (cnt M 8) = M := by
  have hl := Nat.mod_lt c h
  have h8 := cnt_le M 8
  rw [seenTo_mod]
  exact seen_all_fin ⟨M, hM⟩ ⟨c % cnt M 8, by omega⟩ hl
/-- Whose slot was seen in a row. -/
def othersN (M P : Nat) : List Nat := diesN (M &&& (255 - 2 ^ P))
def ownTo (M P : Nat) : Nat → Nat
  | 0 => 2 ^ P
  | s + 1 => ownTo M P s ||| 2 ^ ((othersN M P).getD s 0)
theorem own_fin : ∀ M : Fin 256, ∀ P : Fin 8, M.val.testBit P.val = true → ∀ s : Fin 8, s.val < cnt M.val 8 - 1 →
    (decide ((othersN M.val P.val).getD s.val 0 < 8) && !(ownTo M.val P.val s.val).testBit ((othersN M.val P.val).getD s.val 0) && decide (ownTo M.val P.val s.val < 256) && decide (s.val < (othersN M.val P.val).length)) = true := by decide +kernel
theorem own_all_fin : ∀ M : Fin 256, ∀ P : Fin 8, M.val.testBit P.val = true → ownTo M.val P.val (cnt M.val 8 - 1) = M.val := by decide +kernel
theorem own_step {M P s : Nat} (hM : M < 256) (hP : P < 8) (hT : M.testBit P = true) (hs : s < cnt M 8 - 1) :
    (othersN M P).getD s 0 < 8 ∧ (ownTo M P s).testBit ((othersN M P).getD s 0) = false ∧ ownTo M P s < 256 ∧ s < (othersN M P).length := by
  have h8 := cnt_le M 8
  have h := own_fin ⟨M, hM⟩ ⟨P, hP⟩ hT ⟨s, by omega⟩ hs
  simp only [Bool.and_eq_true, decide_eq_true_eq, Bool.not_eq_true'] at h
  exact ⟨h.1.1.1, h.1.1.2, h.1.2, h.2⟩
theorem die_nat {M P b r s : Nat} (hM : M < 256) (hP : P < 8) (hp : parityI (M : Int) b r = (P : Int)) (hs : s < (othersN M P).length) :
    dieI (M : Int) b r s = ((othersN M P).getD s 0 : Nat) ∧ slotI (M : Int) b r ((othersN M P).getD s 0 : Nat) = (s : Int) := by
  have e : othersL (M : Int) (parityI (M : Int) b r) = othersN M P := by
    rw [hp, othersL, if_neg (by omega), without_nat ⟨M, hM⟩ ⟨P, hP⟩, diesL_nat (Nat.lt_of_le_of_lt Nat.and_le_left hM)]; rfl
  constructor
  · rw [dieI_others _ _ _ _ (by omega), e, show ((s : Int)).toNat = s by omega, List.getElem?_eq_getElem hs, List.getD_eq_getElem?_getD, List.getElem?_eq_getElem hs]; rfl
  · exact (slotI_list (M : Int) b r _).1 s _ (by rw [e, List.getElem?_eq_getElem hs]) (by rw [List.getD_eq_getElem?_getD, List.getElem?_eq_getElem hs]; rfl)
end Go.Proofs.YtpbigfopmompfaaGreat
/- Plain law, no program in sight: eight bytes have every number. -/
namespace Go.Proofs.YtpbigfopmompfaaGreat
open Go.RowKit
theorem numN_app (a b : List Bool) : numN (a ++ b) = numN a * 2 ^ b.length + numN b := by
  induction b using snoc_ind with
  | h0 => simp [numN]
  | h1 l x ih =>
    rw [← List.append_assoc, numN_snoc, ih, numN_snoc, List.length_append, List.length_singleton, Nat.pow_succ]
    have : numN a * (2 ^ l.length * 2) = 2 * (numN a * 2 ^ l.length) := by rw [← Nat.mul_assoc, Nat.mul_comm]
    rw [this]; omega
theorem num8 (b0 b1 b2 b3 b4 b5 b6 b7 : Nat) (h0 : b0 < 256) (h1 : b1 < 256) (h2 : b2 < 256) (h3 : b3 < 256) (h4 : b4 < 256) (h5 : b5 < 256) (h6 : b6 < 256) (h7 : b7 < 256) :
    numN (ofN [b0, b1, b2, b3, b4, b5, b6, b7]) = ((((((b0 * 256 + b1) * 256 + b2) * 256 + b3) * 256 + b4) * 256 + b5) * 256 + b6) * 256 + b7 := by
  have e : ∀ x < 256, numN (bitsL x 8) = x := fun x hx => numN_bitsL x 8 hx
  have e2 : ∀ (l : List Bool) (x : Nat), x < 256 → numN (l ++ bitsL x 8) = numN l * 256 + x := fun l x hx => by
    rw [numN_app, bitsL_length, e x hx]
  have e3 : ofN [b0, b1, b2, b3, b4, b5, b6, b7] = ((((((bitsL b0 8 ++ bitsL b1 8) ++ bitsL b2 8) ++ bitsL b3 8) ++ bitsL b4 8) ++ bitsL b5 8) ++ bitsL b6 8) ++ bitsL b7 8 := by
    simp [ofN]
  rw [e3, e2 _ _ h7, e2 _ _ h6, e2 _ _ h5, e2 _ _ h4, e2 _ _ h3, e2 _ _ h2, e2 _ _ h1, e _ h0]
theorem of8_u64 (b0 b1 b2 b3 b4 b5 b6 b7 : Nat) (h0 : b0 < 256) (h1 : b1 < 256) (h2 : b2 < 256) (h3 : b3 < 256) (h4 : b4 < 256) (h5 : b5 < 256) (h6 : b6 < 256) (h7 : b7 < 256) :
    IntKind.u64.wrap (of8I b0 b1 b2 b3 b4 b5 b6 b7) = (numN (ofN [b0, b1, b2, b3, b4, b5, b6, b7]) : Int) := by
  rw [num8 _ _ _ _ _ _ _ _ h0 h1 h2 h3 h4 h5 h6 h7]
  unfold of8I
  have e : ((((((((b0 : Int) * 256 + b1) * 256 + b2) * 256 + b3) * 256 + b4) * 256 + b5) * 256 + b6) * 256 + b7) = (((((((((b0 * 256 + b1) * 256 + b2) * 256 + b3) * 256 + b4) * 256 + b5) * 256 + b6) * 256 + b7) : Nat) : Int) := by omega
  rw [e]
  have hb : ((((((b0 * 256 + b1) * 256 + b2) * 256 + b3) * 256 + b4) * 256 + b5) * 256 + b6) * 256 + b7 < 18446744073709551616 := by omega
  generalize ((((((b0 * 256 + b1) * 256 + b2) * 256 + b3) * 256 + b4) * 256 + b5) * 256 + b6) * 256 + b7 = X at *
  by_cases hX : X < 9223372036854775808
  · rw [wrap64_in' _ (by omega) (by omega), u64_wrap_nat _ hb]
  · rw [show wrap64 (X : Int) = (X : Int) - 18446744073709551616 by unfold wrap64; omega]
    have := u64_wrap_nat X hb
    rw [← this]
    show _ % _ = _ % _
    have e2 : ((2 : Int) ^ IntKind.u64.bits) = 18446744073709551616 := by decide
    rw [e2]; omega
theorem byte_of8 (b0 b1 b2 b3 b4 b5 b6 b7 : Nat) (h0 : b0 < 256) (h1 : b1 < 256) (h2 : b2 < 256) (h3 : b3 < 256) (h4 : b4 < 256) (h5 : b5 < 256) (h6 : b6 < 256) (h7 : b7 < 256) :
    byteI (of8I b0 b1 b2 b3 b4 b5 b6 b7) 0 = b0 ∧ byteI (of8I b0 b1 b2 b3 b4 b5 b6 b7) 1 = b1 ∧ byteI (of8I b0 b1 b2 b3 b4 b5 b6 b7) 2 = b2 ∧ byteI (of8I b0 b1 b2 b3 b4 b5 b6 b7) 3 = b3 ∧
    byteI (of8I b0 b1 b2 b3 b4 b5 b6 b7) 4 = b4 ∧ byteI (of8I b0 b1 b2 b3 b4 b5 b6 b7) 5 = b5 ∧ byteI (of8I b0 b1 b2 b3 b4 b5 b6 b7) 6 = b6 ∧ byteI (of8I b0 b1 b2 b3 b4 b5 b6 b7) 7 = b7 := by
  unfold byteI of8I wrap64
  simp only [Nat.reduceMul, Nat.reduceSub, Int.reducePow]
  omega
theorem of8_byte (n : Int) (h1 : -9223372036854775808 ≤ n) (h2 : n ≤ 9223372036854775807) :
    of8I (byteI n 0) (byteI n 1) (byteI n 2) (byteI n 3) (byteI n 4) (byteI n 5) (byteI n 6) (byteI n 7) = n := by
  unfold byteI of8I wrap64
  simp only [Nat.reduceMul, Nat.reduceSub, Int.reducePow]
  omega
theorem byteI_bd (n : Int) (i : Nat) : 0 ≤ byteI n i ∧ byteI n i < 256 := by unfold byteI; omega
end Go.Proofs.YtpbigfopmompfaaGreat
/- Plain law, no program in sight: role, page, sequence in sixty-four bits. -/
namespace Go.Proofs.YtpbigfopmompfaaGreat
open Go.RowKit
def metaN (r l s : Int) : Nat := (r % 256).toNat * 72057594037927936 + (l % 65536).toNat * 1099511627776 + (s % 1099511627776).toNat
theorem metaN_lt (r l s : Int) : metaN r l s < 18446744073709551616 := by unfold metaN; omega
theorem u64_wrap_mod (x : Int) : IntKind.u64.wrap x = x % 18446744073709551616 := by
  show _ % _ = _
  have e2 : ((2 : Int) ^ IntKind.u64.bits) = 18446744073709551616 := by decide
  rw [e2]
theorem u64_or_dis (a b : Nat) (k : Nat) (ha : a * 2 ^ k < 18446744073709551616) (hb : b < 2 ^ k) (hk : k ≤ 64) : bits .or .u64 ((a * 2 ^ k : Nat) : Int) (b : Int) = ((a * 2 ^ k + b : Nat) : Int) := by
  have hb2 : b < 18446744073709551616 := Nat.lt_of_lt_of_le hb (Nat.le_trans (Nat.pow_le_pow_right (by decide) hk) (by decide))
  simp only [bits]
  rw [show IntKind.u64.bits = 64 from rfl, show BitVec.ofInt 64 ((a * 2 ^ k : Nat) : Int) = BitVec.ofNat 64 (a * 2 ^ k) by rw [BitVec.ofInt_natCast], BitVec.ofInt_natCast]
  have e : (BitVec.ofNat 64 (a * 2 ^ k) ||| BitVec.ofNat 64 b).toNat = a * 2 ^ k + b := by
    rw [BitVec.toNat_or, BitVec.toNat_ofNat, BitVec.toNat_ofNat, Nat.mod_eq_of_lt (by omega), Nat.mod_eq_of_lt (by omega), Nat.mul_comm, ← Nat.two_pow_add_eq_or_of_lt hb]
  have hlt := (BitVec.ofNat 64 (a * 2 ^ k) ||| BitVec.ofNat 64 b).isLt
  rw [e] at hlt
  have hw := u64_wrap_nat (a * 2 ^ k + b) hlt
  simp [e]
  simpa using hw
theorem meta_form (r l s : Int) :
    bits .or .u64 (bits .or .u64 (IntKind.u64.wrap (IntKind.u64.wrap r * 72057594037927936)) (IntKind.u64.wrap (bits .and .u64 (IntKind.u64.wrap l) 65535 * 1099511627776))) (bits .and .u64 (IntKind.u64.wrap s) 1099511627775) = (metaN r l s : Int) := by
  have el : bits .and .u64 (IntKind.u64.wrap l) 65535 = (((l % 65536).toNat : Nat) : Int) := by
    obtain ⟨L, hL⟩ := Int.eq_ofNat_of_zero_le (show 0 ≤ l % 18446744073709551616 by omega)
    rw [u64_wrap_mod, hL, show (65535 : Int) = ((2 ^ 16 - 1 : Nat) : Int) from rfl, u64_and_nat L _ (by omega) (by decide), Nat.and_two_pow_sub_one_eq_mod]
    omega
  have es : bits .and .u64 (IntKind.u64.wrap s) 1099511627775 = (((s % 1099511627776).toNat : Nat) : Int) := by
    obtain ⟨L, hL⟩ := Int.eq_ofNat_of_zero_le (show 0 ≤ s % 18446744073709551616 by omega)
    rw [u64_wrap_mod, hL, show (1099511627775 : Int) = ((2 ^ 40 - 1 : Nat) : Int) from rfl, u64_and_nat L _ (by omega) (by decide), Nat.and_two_pow_sub_one_eq_mod]
    omega
  have er : IntKind.u64.wrap (IntKind.u64.wrap r * 72057594037927936) = (((r % 256).toNat * 2 ^ 56 : Nat) : Int) := by
    rw [u64_wrap_mod, u64_wrap_mod]; omega
  have el2 : IntKind.u64.wrap ((((l % 65536).toNat : Nat) : Int) * 1099511627776) = (((l % 65536).toNat * 2 ^ 40 : Nat) : Int) := by
    rw [u64_wrap_mod]; omega
  rw [el, es, er, el2, u64_or_dis _ _ 56 (by omega) (by omega) (by decide)]
  have e3 : (r % 256).toNat * 2 ^ 56 + (l % 65536).toNat * 2 ^ 40 = ((r % 256).toNat * 65536 + (l % 65536).toNat) * 2 ^ 40 := by omega
  rw [e3, u64_or_dis _ _ 40 (by omega) (by omega) (by decide)]
  unfold metaN
  omega
/-- The way back. -/
def roleI (m : Int) : Int := m / 72057594037927936
def lpnI (m : Int) : Int := m / 1099511627776 % 65536
def seqI (m : Int) : Int := m % 1099511627776
theorem of_form (m : Int) (h0 : 0 ≤ m) (h1 : m < 18446744073709551616) : wrap64 (m / 72057594037927936) = roleI m ∧ wrap64 (bits .and .u64 (m / 1099511627776) 65535) = lpnI m ∧ wrap64 (bits .and .u64 m 1099511627775) = seqI m := by
  obtain ⟨M, rfl⟩ := Int.eq_ofNat_of_zero_le h0
  have el : bits .and .u64 ((M : Int) / 1099511627776) 65535 = (M : Int) / 1099511627776 % 65536 := by
    rw [show (M : Int) / 1099511627776 = ((M / 1099511627776 : Nat) : Int) by omega, show (65535 : Int) = ((2 ^ 16 - 1 : Nat) : Int) from rfl, u64_and_nat _ _ (by omega) (by decide), Nat.and_two_pow_sub_one_eq_mod]
    omega
  have es : bits .and .u64 (M : Int) 1099511627775 = (M : Int) % 1099511627776 := by
    rw [show (1099511627775 : Int) = ((2 ^ 40 - 1 : Nat) : Int) from rfl, u64_and_nat _ _ (by omega) (by decide), Nat.and_two_pow_sub_one_eq_mod]
    omega
  rw [el, es]
  unfold roleI lpnI seqI
  refine ⟨wrap64_in' _ (by omega) (by omega), wrap64_in' _ (by omega) (by omega), wrap64_in' _ (by omega) (by omega)⟩
theorem of_meta (r l s : Int) : roleI (metaN r l s) = r % 256 ∧ lpnI (metaN r l s) = l % 65536 ∧ seqI (metaN r l s) = s % 1099511627776 := by
  unfold roleI lpnI seqI metaN
  omega
theorem meta_of (m : Int) (h0 : 0 ≤ m) (h1 : m < 18446744073709551616) : (metaN (roleI m) (lpnI m) (seqI m) : Int) = m := by
  unfold roleI lpnI seqI metaN
  omega
end Go.Proofs.YtpbigfopmompfaaGreat
/- Plain law, no program in sight: bits turned round. -/
namespace Go.Proofs.YtpbigfopmompfaaGreat
open Go.RowKit
def turnN (u k : Nat) : Nat := numN ((bitsL u 32).drop k ++ (bitsL u 32).take k)
theorem turn_len (u k : Nat) (h : k < 32) : ((bitsL u 32).drop k ++ (bitsL u 32).take k).length = 32 := by simp [bitsL_length]; omega
theorem turnN_lt (u k : Nat) (h : k < 32) : turnN u k < 4294967296 := by
  have := numN_lt ((bitsL u 32).drop k ++ (bitsL u 32).take k)
  rw [turn_len u k h] at this; exact this
theorem turnN_bits (u k : Nat) (h : k < 32) : bitsL (turnN u k) 32 = (bitsL u 32).drop k ++ (bitsL u 32).take k := by
  have := bitsL_numN ((bitsL u 32).drop k ++ (bitsL u 32).take k)
  rw [turn_len u k h] at this; exact this
theorem turnN_bit (u k j : Nat) (hk : k < 32) (hj : j < 32) : (turnN u k).testBit (31 - j) = u.testBit (31 - (j + k) % 32) := by
  have h := bitsL_get (turnN u k) 32 j hj
  rw [turnN_bits u k hk] at h
  by_cases hjk : j < 32 - k
  · rw [List.getElem?_append_left (by simp [bitsL_length]; omega), List.getElem?_drop, bitsL_get u 32 _ (by omega)] at h
    injection h with h
    rw [show 31 - j = 32 - 1 - j by omega, ← h]; congr 1; omega
  · rw [List.getElem?_append_right (by simp [bitsL_length]; omega), List.getElem?_take, List.length_drop, bitsL_length, if_pos (by omega), bitsL_get u 32 _ (by omega)] at h
    injection h with h
    rw [show 31 - j = 32 - 1 - j by omega, ← h]; congr 1; omega
theorem eq32 {a b : Nat} (ha : a < 4294967296) (hb : b < 4294967296) (h : ∀ j, j < 32 → a.testBit (31 - j) = b.testBit (31 - j)) : a = b := by
  apply Nat.eq_of_testBit_eq
  intro q
  by_cases hq : q < 32
  · have := h (31 - q) (by omega)
    rwa [show 31 - (31 - q) = q by omega] at this
  · rw [Nat.testBit_lt_two_pow (Nat.lt_of_lt_of_le ha (show 4294967296 ≤ 2 ^ q from Nat.le_trans (by decide : 4294967296 ≤ 2 ^ 32) (Nat.pow_le_pow_right (by omega) (by omega)))),
      Nat.testBit_lt_two_pow (Nat.lt_of_lt_of_le hb (show 4294967296 ≤ 2 ^ q from Nat.le_trans (by decide : 4294967296 ≤ 2 ^ 32) (Nat.pow_le_pow_right (by omega) (by omega))))]
theorem turnN_turnN (u a b : Nat) (ha : a < 32) (hb : b < 32) : turnN (turnN u a) b = turnN u ((a + b) % 32) := by
  refine eq32 (turnN_lt _ _ hb) (turnN_lt _ _ (Nat.mod_lt _ (by omega))) fun j hj => ?_
  have hm : (j + b) % 32 < 32 := Nat.mod_lt _ (by omega)
  rw [turnN_bit _ b j hb hj, turnN_bit u a _ ha hm, turnN_bit u _ j (Nat.mod_lt _ (by omega)) hj]
  congr 1; omega
theorem turnI_N (u : Nat) (b : Int) (hu : u < 4294967296) : turnI u b = (turnN u (b % 32).toNat : Int) :=
  (turn_num u b (b % 32).toNat hu (by omega) (by omega)).symm
theorem turn_turn (u : Nat) (a b : Int) (hu : u < 4294967296) : turnI (turnI u a) b = turnI u (a + b) := by
  have h1 := turnN_lt u (a % 32).toNat (by omega)
  rw [turnI_N u a hu, turnI_N _ b h1, turnI_N u (a + b) hu, turnN_turnN u _ _ (by omega) (by omega)]
  congr 2; omega
theorem turn_congr (u a b : Int) (h : a % 32 = b % 32) : turnI u a = turnI u b := by rw [turnI, turnI, h]
theorem turn_nought (u b : Int) (h0 : 0 ≤ u) (h1 : u < 4294967296) (h : b % 32 = 0) : turnI u b = u := by
  rw [turnI, h]; simp; omega
theorem cnt_bits (m : Nat) : cnt m 32 = (bitsL m 32).countP id := by
  have e : (bitsL m 32).reverse = (List.range 32).map m.testBit := by
    apply List.ext_getElem?
    intro j
    by_cases hj : j < 32
    · rw [List.getElem?_reverse (by rw [bitsL_length]; exact hj), bitsL_length, bitsL_get _ _ _ (by omega)]
      simp only [List.getElem?_map, List.getElem?_range hj, Option.map_some]
      congr 2; omega
    · rw [List.getElem?_eq_none (by simp [bitsL_length]; omega), List.getElem?_eq_none (by simp; omega)]
  rw [← List.countP_reverse, e, List.countP_map, cnt, ← List.countP_eq_length_filter]; rfl
theorem cnt_turn (u k : Nat) (hk : k < 32) : cnt (turnN u k) 32 = cnt u 32 := by
  rw [cnt_bits, cnt_bits, turnN_bits u k hk, List.countP_append]
  conv => rhs; rw [← List.take_append_drop k (bitsL u 32), List.countP_append]
  omega
theorem u32_bit (u k : Nat) (hu : u < 4294967296) : bits .and .u32 ((u : Int) / 2 ^ k) 1 = (((u.testBit k).toNat : Nat) : Int) := by
  have e1 : (u : Int) / 2 ^ k = ((u / 2 ^ k : Nat) : Int) := by rw [Int.natCast_ediv, Int.natCast_pow]; rfl
  have hd := Nat.div_le_self u (2 ^ k)
  rw [e1, Nat.testBit_eq_decide_div_mod_eq]
  generalize u / 2 ^ k = q at *
  have := u32_and_nat q 1 (by omega) (by omega)
  rw [show ((1 : Nat) : Int) = 1 from rfl] at this
  rw [this, Nat.and_one_is_mod]
  have h2 : q % 2 = 0 ∨ q % 2 = 1 := by omega
  rcases h2 with h2 | h2 <;> simp [h2]
end Go.Proofs.YtpbigfopmompfaaGreat
/- Plain law, no program in sight: Koopman's sums are linear; a burst of bits never comes to nought. -/
namespace Go.Proofs.YtpbigfopmompfaaGreat
open Go.RowKit

theorem dbl_bit (s j : Nat) : (2 * s % 4294967296).testBit j = (decide (j < 32) && (decide (1 ≤ j) && s.testBit (j - 1))) := by
  have e : 2 * s % 4294967296 = (s * 2 ^ 1) % 2 ^ 32 := by rw [Nat.mul_comm]
  rw [e, Nat.testBit_mod_two_pow, Nat.testBit_mul_two_pow]
theorem kround_bit (s j : Nat) : (kround s).testBit j = ((decide (j < 32) && (decide (1 ≤ j) && s.testBit (j - 1))) != (s.testBit 31 && poly.testBit j)) := by
  unfold kround
  cases h : s.testBit 31 with
  | true => rw [if_pos rfl, Nat.testBit_xor, dbl_bit]; simp
  | false => rw [if_neg (by simp), dbl_bit]; simp
theorem kround_xor (s t : Nat) : kround (s ^^^ t) = kround s ^^^ kround t := by
  apply Nat.eq_of_testBit_eq
  intro j
  rw [Nat.testBit_xor, kround_bit, kround_bit, kround_bit, Nat.testBit_xor, Nat.testBit_xor]
  cases s.testBit 31 <;> cases t.testBit 31 <;> cases s.testBit (j - 1) <;> cases t.testBit (j - 1) <;> cases poly.testBit j <;> cases decide (j < 32) <;> cases decide (1 ≤ j) <;> rfl
theorem kiter_xor (k s t : Nat) : kiter k (s ^^^ t) = kiter k s ^^^ kiter k t := by
  induction k with
  | zero => rfl
  | succ k ih => simp only [kiter, ih, kround_xor]
theorem kiter_first (k s : Nat) : kiter (k + 1) s = kiter k (kround s) := by
  induction k with
  | zero => rfl
  | succ k ih => rw [kiter, ih]; rfl
theorem mul_xor (x y n : Nat) : (x ^^^ y) * 2 ^ n = (x * 2 ^ n) ^^^ (y * 2 ^ n) := by
  apply Nat.eq_of_testBit_eq
  intro j
  simp only [Nat.testBit_xor, Nat.testBit_mul_two_pow]
  cases decide (n ≤ j) <;> simp
theorem xor4 (a b c d : Nat) : (a ^^^ b) ^^^ (c ^^^ d) = (a ^^^ c) ^^^ (b ^^^ d) := by
  apply Nat.eq_of_testBit_eq
  intro j
  simp only [Nat.testBit_xor]
  cases a.testBit j <;> cases b.testBit j <;> cases c.testBit j <;> cases d.testBit j <;> rfl
theorem kstep_xor (s t x y : Nat) : kstep (s ^^^ t) (x ^^^ y) = kstep s x ^^^ kstep t y := by
  unfold kstep
  rw [← kiter_xor]
  have := mul_xor x y 24
  rw [show (2 : Nat) ^ 24 = 16777216 from rfl] at this
  rw [this, xor4]
/-- Two rows laid over one another. -/
def over (a b : List Nat) : List Nat := List.zipWith (· ^^^ ·) a b
theorem ksum_xor : ∀ (a b : List Nat) (s t : Nat), a.length = b.length → ksum (s ^^^ t) (over a b) = ksum s a ^^^ ksum t b
  | [], [], s, t, _ => rfl
  | x :: a, y :: b, s, t, h => by
    have h' : a.length = b.length := by simpa using h
    show ksum (kstep (s ^^^ t) (x ^^^ y)) (over a b) = ksum (kstep s x) a ^^^ ksum (kstep t y) b
    rw [kstep_xor, ksum_xor a b _ _ h']
theorem over_length (a b : List Nat) (h : a.length = b.length) : (over a b).length = a.length := by simp [over, h]
theorem kof_three (a b c : List Nat) (h1 : a.length = b.length) (h2 : a.length = c.length) : kof a ^^^ kof b ^^^ kof c = kof (over (over a b) c) := by
  have e : (4294967295 : Nat) ^^^ 4294967295 ^^^ 4294967295 = 4294967295 := by decide
  unfold kof
  rw [← ksum_xor a b _ _ h1, ← ksum_xor (over a b) c _ _ (by rw [over_length a b h1, h2]), e]
theorem kof_two (a b : List Nat) (h : a.length = b.length) : kof a ^^^ kof b = ksum 0 (over a b) := by
  have e : (4294967295 : Nat) ^^^ 4294967295 = 0 := by decide
  unfold kof
  rw [← ksum_xor a b _ _ h, e]

/-- Bits taken in one by one. -/
def kfeed (s : Nat) (l : List Bool) : Nat := l.foldl (fun s x => kround (s ^^^ (x.toNat * 2 ^ 31))) s
theorem numN_cons (x : Bool) (l : List Bool) : numN (x :: l) = x.toNat * 2 ^ l.length + numN l := by
  have := numN_append [x] l
  rw [List.singleton_append] at this
  rw [this]
  congr 2
  cases x <;> rfl
theorem kround_small (y : Nat) (h : y < 2147483648) : kround y = 2 * y := by
  have : y.testBit 31 = false := Nat.testBit_lt_two_pow (by omega)
  rw [kround, this, if_neg (by simp)]
  omega
theorem kfeed_iter : ∀ (l : List Bool) (s : Nat), l.length ≤ 32 → kfeed s l = kiter l.length (s ^^^ (numN l * 2 ^ (32 - l.length)))
  | [], s, _ => by simp [kfeed, numN, kiter]
  | x :: l, s, h => by
    simp only [List.length_cons] at h ⊢
    have ih := kfeed_iter l (kround (s ^^^ (x.toNat * 2 ^ 31))) (by omega)
    show kfeed (kround (s ^^^ (x.toNat * 2 ^ 31))) l = _
    have hn := numN_lt l
    have hy : numN l * 2 ^ (31 - l.length) < 2147483648 := by
      have e : (2147483648 : Nat) = 2 ^ l.length * 2 ^ (31 - l.length) := by rw [← Nat.pow_add, show l.length + (31 - l.length) = 31 by omega]
      rw [e]
      exact (Nat.mul_lt_mul_right (Nat.two_pow_pos _)).2 hn
    have e1 : numN (x :: l) * 2 ^ (32 - (l.length + 1)) = (x.toNat * 2 ^ 31) ^^^ (numN l * 2 ^ (31 - l.length)) := by
      rw [numN_cons, show 32 - (l.length + 1) = 31 - l.length by omega, Nat.add_mul, Nat.mul_assoc, ← Nat.pow_add, show l.length + (31 - l.length) = 31 by omega]
      apply Nat.eq_of_testBit_eq
      intro j
      generalize numN l * 2 ^ (31 - l.length) = y at *
      rw [Nat.mul_comm x.toNat, Nat.testBit_two_pow_mul_add _ hy, Nat.testBit_xor, Nat.mul_comm, Nat.testBit_mul_two_pow]
      by_cases hj : j < 31
      · rw [if_pos hj, show decide (31 ≤ j) = false by (simp; omega)]; simp
      · rw [if_neg hj, show decide (31 ≤ j) = true by (simp; omega)]
        have : y.testBit j = false := Nat.testBit_lt_two_pow (Nat.lt_of_lt_of_le hy (Nat.le_trans (by decide) (Nat.pow_le_pow_right (show 0 < 2 by decide) (show 31 ≤ j by omega))))
        rw [this]; simp
    have e2 : 2 * (numN l * 2 ^ (31 - l.length)) = numN l * 2 ^ (32 - l.length) := by
      rw [show 32 - l.length = (31 - l.length) + 1 by omega, Nat.pow_succ, Nat.mul_left_comm]
      congr 1; omega
    rw [ih, kiter_first, e1, ← Nat.xor_assoc, kround_xor (s ^^^ _), kround_small _ hy, e2]
theorem kfeed_append (s : Nat) (a b : List Bool) : kfeed s (a ++ b) = kfeed (kfeed s a) b := by simp [kfeed, List.foldl_append]
theorem ksum_feed : ∀ (b : List Nat) (s : Nat), (∀ x ∈ b, x < 256) → ksum s b = kfeed s (ofN b)
  | [], s, _ => rfl
  | x :: b, s, h => by
    have hx := h x (by simp)
    have e : kstep s x = kfeed s (bitsL x 8) := by
      rw [kfeed_iter _ _ (by rw [bitsL_length]; omega), bitsL_length, numN_bitsL x 8 (by omega)]; rfl
    show ksum (kstep s x) b = _
    rw [ksum_feed b _ fun y hy => h y (by simp [hy]), e]
    show _ = kfeed s (bitsL x 8 ++ ofN b)
    rw [kfeed_append]
theorem kround_ne (s : Nat) (h : s < 4294967296) (hs : s ≠ 0) : kround s ≠ 0 := by
  intro e
  cases hb : s.testBit 31 with
  | true =>
    have h0 : (kround s).testBit 0 = true := by
      rw [kround_bit, hb, show poly.testBit 0 = true by decide]; simp
    rw [e] at h0; simp at h0
  | false =>
    have hlt : s < 2 ^ 31 := by
      apply Nat.lt_of_not_le
      intro hle
      have : s / 2 ^ 31 = 1 := by omega
      rw [Nat.testBit_eq_decide_div_mod_eq, this] at hb
      simp at hb
    rw [kround_small s hlt] at e
    omega
theorem kiter_ne (k s : Nat) (h : s < 4294967296) (hs : s ≠ 0) : kiter k s ≠ 0 := by
  induction k with
  | zero => exact hs
  | succ k ih => exact kround_ne _ (kiter_lt k s h) ih
theorem kfeed_nought (n s : Nat) : kfeed s (List.replicate n false) = kiter n s := by
  induction n generalizing s with
  | zero => rfl
  | succ n ih =>
    rw [kiter_first]
    show kfeed (kround (s ^^^ (0 * 2 ^ 31))) (List.replicate n false) = _
    rw [Nat.zero_mul, Nat.xor_zero, ih]
theorem kiter_nought (k : Nat) : kiter k 0 = 0 := by
  induction k with
  | zero => rfl
  | succ k ih => rw [kiter, ih]; decide
theorem numN_ne (l : List Bool) (h : true ∈ l) : numN l ≠ 0 := by
  intro e
  obtain ⟨j, hj, hx⟩ := List.getElem_of_mem h
  have := numN_testBit l (l.length - 1 - j) (by omega)
  rw [e, show l.length - 1 - (l.length - 1 - j) = j by omega, List.getD_eq_getElem?_getD, List.getElem?_eq_getElem hj, hx] at this
  simp at this
/-- A burst of at most thirty-two bits does not come to nought. -/
theorem kfeed_burst (p q : Nat) (l : List Bool) (hl : l.length ≤ 32) (h : true ∈ l) : kfeed 0 (List.replicate p false ++ (l ++ List.replicate q false)) ≠ 0 := by
  rw [kfeed_append, kfeed_append, kfeed_nought, kfeed_nought, kiter_nought, kfeed_iter l 0 hl, Nat.zero_xor]
  have hn := numN_lt l
  have hlt : numN l * 2 ^ (32 - l.length) < 4294967296 := by
    have e : (4294967296 : Nat) = 2 ^ l.length * 2 ^ (32 - l.length) := by rw [← Nat.pow_add, show l.length + (32 - l.length) = 32 by omega]
    rw [e]
    exact (Nat.mul_lt_mul_right (Nat.two_pow_pos _)).2 hn
  have hne : numN l * 2 ^ (32 - l.length) ≠ 0 := Nat.mul_ne_zero (numN_ne l h) (Nat.ne_of_gt (Nat.two_pow_pos _))
  exact kiter_ne _ _ (kiter_lt _ _ hlt) (kiter_ne _ _ hlt hne)
end Go.Proofs.YtpbigfopmompfaaGreat
/- Plain law, no program in sight: bytes in which bits were turned. -/
namespace Go.Proofs.YtpbigfopmompfaaGreat
open Go.RowKit

def flipAt (l : List Nat) (i : Nat) : List Nat := l.set (i / 8) (l.getD (i / 8) 0 ^^^ 2 ^ (7 - i % 8))
def flips (l : List Nat) (at_ turn : Nat) : Nat → List Nat
  | 0 => l
  | k + 1 => if turn.testBit k then flipAt (flips l at_ turn k) (at_ + k) else flips l at_ turn k
def turnedTo (turn : Nat) : Nat → Bool
  | 0 => false
  | k + 1 => turn.testBit k || turnedTo turn k
def bitAt (l : List Nat) (i : Nat) : Bool := (l.getD (i / 8) 0).testBit (7 - i % 8)
theorem flipAt_length (l : List Nat) (i : Nat) : (flipAt l i).length = l.length := by simp [flipAt]
theorem flips_length (l : List Nat) (a t k : Nat) : (flips l a t k).length = l.length := by
  induction k with
  | zero => rfl
  | succ k ih => rw [flips]; split
                 · rw [flipAt_length, ih]
                 · exact ih
theorem getD_lt' (l : List Nat) (hb : ∀ x ∈ l, x < 256) (j : Nat) : l.getD j 0 < 256 := by
  rw [List.getD_eq_getElem?_getD]
  by_cases h : j < l.length
  · rw [List.getElem?_eq_getElem h]; exact hb _ (List.getElem_mem _)
  · rw [List.getElem?_eq_none (by omega)]; decide
theorem flipAt_byte (l : List Nat) (i : Nat) (hb : ∀ x ∈ l, x < 256) : ∀ x ∈ flipAt l i, x < 256 := by
  intro x hx
  rcases List.mem_or_eq_of_mem_set hx with h | rfl
  · exact hb x h
  · exact Nat.xor_lt_two_pow (n := 8) (getD_lt' l hb _) (Nat.pow_lt_pow_right (by decide) (by omega))
theorem flips_byte (l : List Nat) (a t k : Nat) (hb : ∀ x ∈ l, x < 256) : ∀ x ∈ flips l a t k, x < 256 := by
  induction k with
  | zero => exact hb
  | succ k ih => rw [flips]; split
                 · exact flipAt_byte _ _ ih
                 · exact ih
theorem bitAt_flip (l : List Nat) (i j : Nat) (hi : i < 8 * l.length) : bitAt (flipAt l i) j = (bitAt l j != decide (j = i)) := by
  unfold bitAt flipAt
  simp only [List.getD_eq_getElem?_getD]
  rw [List.getElem?_set]
  by_cases h : i / 8 = j / 8
  · rw [if_pos h, if_pos (by omega), ← h, Option.getD_some, Nat.testBit_xor, Nat.testBit_two_pow]
    congr 1
    rw [decide_eq_decide]; omega
  · rw [if_neg h, show decide (j = i) = false by (simp; intro e; subst e; exact h rfl)]; cases ((l[j / 8]?.getD 0).testBit (7 - j % 8)) <;> rfl
theorem bitAt_flips (l : List Nat) (a t k j : Nat) (hk : a + k ≤ 8 * l.length) : bitAt (flips l a t k) j = (bitAt l j != ((decide (a ≤ j) && decide (j < a + k)) && t.testBit (j - a))) := by
  induction k with
  | zero =>
    rw [flips, show (decide (a ≤ j) && decide (j < a + 0)) = false by simp]; simp
  | succ k ih =>
    have ih := ih (by omega)
    rw [flips]
    by_cases e : j = a + k
    · have h1 : (decide (a ≤ j) && decide (j < a + k)) = false := by simp; omega
      have h2 : (decide (a ≤ j) && decide (j < a + (k + 1))) = true := by simp; omega
      rw [h1] at ih
      rw [h2, show j - a = k by omega]
      cases ht : t.testBit k with
      | true => rw [if_pos rfl, bitAt_flip _ _ _ (by rw [flips_length]; omega), ih, show decide (j = a + k) = true by simpa using e]; simp
      | false => rw [if_neg (by simp), ih]; simp
    · have h2 : (decide (a ≤ j) && decide (j < a + (k + 1))) = (decide (a ≤ j) && decide (j < a + k)) := by
        congr 1
        rw [decide_eq_decide]; omega
      rw [h2, ← ih]
      split
      · rw [bitAt_flip _ _ _ (by rw [flips_length]; omega), show decide (j = a + k) = false by simpa using e]; simp
      · rfl
theorem bitAt_over (a b : List Nat) (j : Nat) (h : a.length = b.length) (hj : j < 8 * a.length) : bitAt (over a b) j = (bitAt a j != bitAt b j) := by
  unfold bitAt over
  simp only [List.getD_eq_getElem?_getD]
  rw [List.getElem?_zipWith, List.getElem?_eq_getElem (show j / 8 < a.length by omega), List.getElem?_eq_getElem (show j / 8 < b.length by omega)]
  simp [Nat.testBit_xor]
theorem ofN_bitAt (b : List Nat) (i : Nat) (h : i < 8 * b.length) : (ofN b)[i]? = some (bitAt b i) := by
  obtain ⟨x, h1, h2⟩ := ofN_get b i h
  rw [h2, bitAt, List.getD_eq_getElem?_getD, h1]; rfl
theorem turned_iff (t k : Nat) : turnedTo t k = true ↔ ∃ j, j < k ∧ t.testBit j = true := by
  induction k with
  | zero => simp [turnedTo]
  | succ k ih =>
    rw [turnedTo, Bool.or_eq_true, ih]
    constructor
    · rintro (h | ⟨j, h1, h2⟩)
      · exact ⟨k, by omega, h⟩
      · exact ⟨j, by omega, h2⟩
    · rintro ⟨j, h1, h2⟩
      by_cases e : j = k
      · subst e; exact .inl h2
      · exact .inr ⟨j, by omega, h2⟩
theorem flips_same (l : List Nat) (a t k : Nat) (h : turnedTo t k = false) : flips l a t k = l := by
  induction k with
  | zero => rfl
  | succ k ih =>
    rw [turnedTo, Bool.or_eq_false_iff] at h
    rw [flips, h.1, if_neg (by simp), ih h.2]
theorem ofN_len (b : List Nat) : (ofN b).length = 8 * b.length := by
  induction b with
  | nil => rfl
  | cons x b ih =>
    show (bitsL x 8 ++ ofN b).length = _
    rw [List.length_append, ih, bitsL_length, List.length_cons]; omega
theorem kof_flips (l : List Nat) (a t k : Nat) (hb : ∀ x ∈ l, x < 256) (hk : a + k ≤ 8 * l.length) (h32 : k ≤ 32) : (kof l != kof (flips l a t k)) = turnedTo t k := by
  cases ht : turnedTo t k with
  | false => rw [flips_same l a t k ht]; simp
  | true =>
    obtain ⟨j, hj, hjt⟩ := (turned_iff t k).1 ht
    have hl := flips_length l a t k
    have e := kof_two l (flips l a t k) hl.symm
    have hlo : (over l (flips l a t k)).length = l.length := over_length _ _ hl.symm
    have hbo : ∀ x ∈ over l (flips l a t k), x < 256 := by
      intro x hx
      obtain ⟨i, hi, rfl⟩ := List.getElem_of_mem hx
      simp only [over, List.getElem_zipWith]
      exact Nat.xor_lt_two_pow (n := 8) (hb _ (List.getElem_mem _)) (flips_byte l a t k hb _ (List.getElem_mem _))
    rw [ksum_feed _ _ hbo] at e
    have hof : ofN (over l (flips l a t k)) = List.replicate a false ++ ((List.range k).map t.testBit ++ List.replicate (8 * l.length - a - k) false) := by
      apply List.ext_getElem?
      intro i
      by_cases hi : i < 8 * l.length
      · rw [ofN_bitAt _ i (by omega), bitAt_over _ _ _ hl.symm hi, bitAt_flips l a t k i hk]
        by_cases h1 : i < a
        · rw [List.getElem?_append_left (by simpa using h1), List.getElem?_replicate, if_pos h1, show decide (a ≤ i) = false by (simp; omega)]; simp
        · rw [List.getElem?_append_right (by simp; omega), List.length_replicate]
          by_cases h2 : i < a + k
          · rw [List.getElem?_append_left (by simp; omega), List.getElem?_map, List.getElem?_range (by omega), show decide (a ≤ i) = true by (simp; omega), show decide (i < a + k) = true by simpa using h2]
            cases bitAt l i <;> simp
          · rw [List.getElem?_append_right (by simp; omega), List.getElem?_replicate, if_pos (by simp; omega), show decide (i < a + k) = false by (simp; omega)]; simp
      · rw [List.getElem?_eq_none (by rw [ofN_len]; omega), List.getElem?_eq_none (by simp; omega)]
    have hne := kfeed_burst a (8 * l.length - a - k) ((List.range k).map t.testBit) (by simpa using h32) (List.mem_map.2 ⟨j, List.mem_range.2 hj, hjt⟩)
    rw [← hof, ← e] at hne
    rw [bne_iff_ne]
    intro h
    rw [h, Nat.xor_self] at hne
    exact hne rfl
end Go.Proofs.YtpbigfopmompfaaGreat
/- Plain law, no program in sight: bits to bytes and back; one field as two. -/
namespace Go.Proofs.YtpbigfopmompfaaGreat
open Go.RowKit

theorem bytesN_len (l : List Bool) : (bytesN l).length = (l.length + 7) / 8 := by rw [bytesN, bytesTo_length]
theorem ofN_len8 (b : List Nat) : (ofN b).length = 8 * b.length := by
  induction b with
  | nil => rfl
  | cons x b ih =>
    show (bitsL x 8 ++ ofN b).length = _
    rw [List.length_append, ih, bitsL_length, List.length_cons]; omega
theorem bytesN_lt (l : List Bool) : ∀ x ∈ bytesN l, x < 256 := by
  intro x hx
  unfold bytesN bytesTo at hx
  obtain ⟨j, _, rfl⟩ := List.mem_map.1 hx
  exact octN_lt _ _
/-- What was written is read. -/
theorem ofN_bytesN (l : List Bool) (i : Nat) (h : i < l.length) : (ofN (bytesN l))[i]? = l[i]? := by
  obtain ⟨x, h1, h2⟩ := ofN_get (bytesN l) i (by rw [bytesN_len]; omega)
  have e : (bytesN l)[i / 8]? = some (octN l (8 * (i / 8))) := by
    have : i / 8 < (l.length + 7) / 8 := by omega
    simp [bytesN, bytesTo, this]
  rw [e] at h1
  rw [h2, ← Option.some.inj h1, octN_testBit, show decide (7 - i % 8 < 8) = true by (simp; omega), Bool.true_and, show 8 * (i / 8) + (7 - (7 - i % 8)) = i by omega, List.getD_eq_getElem?_getD, List.getElem?_eq_getElem h]; rfl
theorem cut_bytes (l : List Bool) (a k : Nat) (h : a + k ≤ l.length) : cutB (ofN (bytesN l)) a k = cutB l a k := by
  apply List.ext_getElem?
  intro j
  unfold cutB
  rw [List.getElem?_take, List.getElem?_take]
  by_cases hj : j < k
  · rw [if_pos hj, if_pos hj, List.getElem?_drop, List.getElem?_drop, ofN_bytesN l (a + j) (by omega)]
  · rw [if_neg hj, if_neg hj]
theorem cut_app (a b : List Bool) : cutB (a ++ b) 0 a.length = a ∧ cutB (a ++ b) a.length b.length = b := by
  constructor
  · simp [cutB]
  · simp [cutB]
/-- One field as two. -/
theorem bitsL_split (x k c : Nat) (h : c ≤ k) : bitsL x k = bitsL (x / 2 ^ c) (k - c) ++ bitsL (x % 2 ^ c) c := by
  apply List.ext_getElem?
  intro j
  by_cases hj : j < k
  · rw [bitsL_get x k j hj]
    by_cases h2 : j < k - c
    · rw [List.getElem?_append_left (by rw [bitsL_length]; exact h2), bitsL_get _ _ _ h2, Nat.testBit_div_two_pow]
      congr 2; omega
    · rw [List.getElem?_append_right (by rw [bitsL_length]; omega), bitsL_length, bitsL_get _ _ _ (by omega), Nat.testBit_mod_two_pow, show decide (c - 1 - (j - (k - c)) < c) = true by (simp; omega), Bool.true_and]
      congr 2; omega
  · rw [List.getElem?_eq_none (by rw [bitsL_length]; omega), List.getElem?_eq_none (by rw [List.length_append, bitsL_length, bitsL_length]; omega)]
end Go.Proofs.YtpbigfopmompfaaGreat
set_option linter.unusedVariables false
/- Plain law, no program in sight: a page's thirty-two bytes, out of a sherd's parts and back. -/
namespace Go.Proofs.YtpbigfopmompfaaGreat
open Go.RowKit
theorem bytesN_of (b : List Nat) (hb : ∀ x ∈ b, x < 256) : bytesN (ofN b) = b := by
  apply List.ext_getElem?
  intro j
  have hl : (bytesN (ofN b)).length = b.length := by rw [bytesN_len, ofN_len8]; omega
  by_cases hj : j < b.length
  · have e : (bytesN (ofN b))[j]? = some (octN (ofN b) (8 * j)) := by
      have : j < ((ofN b).length + 7) / 8 := by rw [ofN_len8]; omega
      simp [bytesN, bytesTo, this]
    rw [e, List.getElem?_eq_getElem hj]
    congr 1
    apply Nat.eq_of_testBit_eq
    intro q
    rw [octN_testBit]
    by_cases hq : q < 8
    · obtain ⟨x, h1, h2⟩ := ofN_get b (8 * j + (7 - q)) (by omega)
      rw [show (8 * j + (7 - q)) / 8 = j by omega, List.getElem?_eq_getElem hj] at h1
      rw [List.getD_eq_getElem?_getD, h2, show decide (q < 8) = true by simpa using hq, Option.some.inj h1, show 7 - (8 * j + (7 - q)) % 8 = q by omega]; rfl
    · rw [show decide (q < 8) = false by simpa using hq, Bool.false_and]
      have := hb b[j] (List.getElem_mem hj)
      exact (Nat.testBit_lt_two_pow (Nat.lt_of_lt_of_le this (Nat.pow_le_pow_right (n := 2) (by decide) (show 8 ≤ q by omega)))).symm
  · rw [List.getElem?_eq_none (by omega), List.getElem?_eq_none (by omega)]
theorem ofN_app (a b : List Nat) : ofN (a ++ b) = ofN a ++ ofN b := by simp [ofN, List.flatMap_append]
theorem ofN_bytes (l : List Bool) (h : l.length % 8 = 0) : ofN (bytesN l) = l := by
  apply List.ext_getElem?
  intro i
  by_cases hi : i < l.length
  · exact ofN_bytesN l i hi
  · rw [List.getElem?_eq_none (by rw [ofN_len8, bytesN_len]; omega), List.getElem?_eq_none (by omega)]
theorem bytes_app (a b : List Nat) (ha : ∀ x ∈ a, x < 256) (hb : ∀ x ∈ b, x < 256) : ∀ x ∈ a ++ b, x < 256 := by
  intro x hx
  rcases List.mem_append.1 hx with h | h
  · exact ha x h
  · exact hb x h
theorem bytesN_app (a b : List Bool) (ha : a.length % 8 = 0) (hb : b.length % 8 = 0) : bytesN (a ++ b) = bytesN a ++ bytesN b := by
  have := bytesN_of (bytesN a ++ bytesN b) (bytes_app _ _ (bytesN_lt a) (bytesN_lt b))
  rw [ofN_app, ofN_bytes a ha, ofN_bytes b hb] at this
  exact this
theorem bytesN_data (d : List Nat) (b : List Bool) (hd : ∀ x ∈ d, x < 256) (hb : b.length % 8 = 0) : bytesN (ofN d ++ b) = d ++ bytesN b := by
  rw [bytesN_app _ _ (by rw [ofN_len8]; omega) hb, bytesN_of d hd]
theorem bytesN_inj {a b : List Bool} (ha : a.length % 8 = 0) (hb : b.length % 8 = 0) (h : bytesN a = bytesN b) : a = b := by
  rw [← ofN_bytes a ha, h, ofN_bytes b hb]
/-- The bits behind the data: of a sherd's numbers. -/
def mbits (r l s k b o m : Int) : List Bool := bitsL (metaN r l s) 64 ++ (bitsL b.toNat 8 ++ (bitsL o.toNat 8 ++ (bitsL m.toNat 8 ++ bitsL k.toNat 8)))
theorem mbits_length (r l s k b o m : Int) : (mbits r l s k b o m).length = 96 := by simp [mbits, bitsL_length]
def headN (r l s k b o m : Int) : List Nat := bytesN (mbits r l s k b o m)
theorem headN_length (r l s k b o m : Int) : (headN r l s k b o m).length = 12 := by rw [headN, bytesN_len, mbits_length]
theorem headN_lt (r l s k b o m : Int) : ∀ x ∈ headN r l s k b o m, x < 256 := bytesN_lt _
def crcN (P : List Nat) : List Nat := bytesN (bitsL (kof P) 32)
theorem crcN_length (P : List Nat) : (crcN P).length = 4 := by rw [crcN, bytesN_len, bitsL_length]
theorem crcN_lt (P : List Nat) : ∀ x ∈ crcN P, x < 256 := bytesN_lt _
def pageN (d : List Nat) (r l s k b o m : Int) : List Nat := d ++ headN r l s k b o m ++ crcN (d ++ headN r l s k b o m)
theorem pageN_length {d : List Nat} (h : d.length = 16) (r l s k b o m : Int) : (pageN d r l s k b o m).length = 32 := by simp [pageN, headN_length, crcN_length, h]
theorem pageN_lt {d : List Nat} (h : ∀ x ∈ d, x < 256) (r l s k b o m : Int) : ∀ x ∈ pageN d r l s k b o m, x < 256 := bytes_app _ _ (bytes_app _ _ h (headN_lt r l s k b o m)) (crcN_lt _)
/-- A field of a page's bits. -/
def fld (P : List Nat) (a k : Nat) : Nat := numN (cutB (ofN P) a k)
theorem fld_lt (P : List Nat) (a k : Nat) (h : a + k ≤ 8 * P.length) : fld P a k < 2 ^ k := by
  have := numN_lt (cutB (ofN P) a k)
  rwa [cutB_length _ _ _ (by rw [ofN_len8]; exact h)] at this
theorem cut_join (l : List Bool) (a j k : Nat) (h : a + j ≤ l.length) : cutB l a j ++ cutB l (a + j) k = cutB l a (j + k) := by
  unfold cutB
  rw [← List.drop_drop, List.take_add]
theorem fld_join (P : List Nat) (a j k : Nat) (h : a + j + k ≤ 8 * P.length) : fld P a (j + k) = fld P a j * 2 ^ k + fld P (a + j) k := by
  unfold fld
  rw [← cut_join _ _ _ _ (by rw [ofN_len8]; omega), numN_app, cutB_length _ _ _ (by rw [ofN_len8]; omega)]
theorem bits_fld (P : List Nat) (a k : Nat) (h : a + k ≤ 8 * P.length) : bitsL (fld P a k) k = cutB (ofN P) a k := by
  have := bitsL_numN (cutB (ofN P) a k)
  rwa [cutB_length _ _ _ (by rw [ofN_len8]; exact h)] at this
theorem ofN_drop (P : List Nat) (n : Nat) : ofN (P.drop n) = (ofN P).drop (8 * n) := by
  by_cases h : n ≤ P.length
  · have e := ofN_app (P.take n) (P.drop n)
    rw [List.take_append_drop] at e
    have hl : (ofN (P.take n)).length = 8 * n := by rw [ofN_len8, List.length_take]; omega
    rw [e, ← hl, List.drop_left]
  · rw [List.drop_eq_nil_of_le (by omega), List.drop_eq_nil_of_le (by rw [ofN_len8]; omega)]; rfl
theorem ofN_take (P : List Nat) (n : Nat) : ofN (P.take n) = (ofN P).take (8 * n) := by
  by_cases h : n ≤ P.length
  · have e := ofN_app (P.take n) (P.drop n)
    rw [List.take_append_drop] at e
    have hl : (ofN (P.take n)).length = 8 * n := by rw [ofN_len8, List.length_take]; omega
    rw [e, ← hl, List.take_left]
  · rw [List.take_of_length_le (by omega), List.take_of_length_le (by rw [ofN_len8]; omega)]
theorem cut_behind (P : List Nat) (a k : Nat) : cutB (ofN (P.drop 16)) a k = cutB (ofN P) (128 + a) k := by
  unfold cutB
  rw [ofN_drop, List.drop_drop]
theorem drop_lt {P : List Nat} (h : ∀ x ∈ P, x < 256) (n : Nat) : ∀ x ∈ P.drop n, x < 256 := fun x hx => h x (List.mem_of_mem_drop hx)
theorem take_lt {P : List Nat} (h : ∀ x ∈ P, x < 256) (n : Nat) : ∀ x ∈ P.take n, x < 256 := fun x hx => h x (List.mem_of_mem_take hx)
/-- What is read of a page. -/
def rM (P : List Nat) : Nat := fld P 128 64
def rR (P : List Nat) : Int := roleI (rM P)
def rL (P : List Nat) : Int := lpnI (rM P)
def rS (P : List Nat) : Int := seqI (rM P)
def rB (P : List Nat) : Int := fld P 192 8
def rO (P : List Nat) : Int := fld P 200 8
def rK (P : List Nat) : Int := fld P 216 8
def rMask (P : List Nat) : Int := fld P 208 8
theorem rM_lt {P : List Nat} (h : P.length = 32) : rM P < 18446744073709551616 := fld_lt P 128 64 (by omega)
theorem rB_bd {P : List Nat} (h : P.length = 32) : 0 ≤ rB P ∧ rB P < 256 := by have := fld_lt P 192 8 (by omega); unfold rB; omega
theorem rO_bd {P : List Nat} (h : P.length = 32) : 0 ≤ rO P ∧ rO P < 256 := by have := fld_lt P 200 8 (by omega); unfold rO; omega
theorem rMask_bd {P : List Nat} (h : P.length = 32) : 0 ≤ rMask P ∧ rMask P < 256 := by have := fld_lt P 208 8 (by omega); unfold rMask; omega
theorem rK_bd {P : List Nat} (h : P.length = 32) : 0 ≤ rK P ∧ rK P < 256 := by have := fld_lt P 216 8 (by omega); unfold rK; omega
/-- The document's fields are those. -/
theorem r_fields {P : List Nat} (h : P.length = 32) : rR P = fld P 128 8 ∧ rL P = fld P 136 16 ∧ rS P = fld P 152 40 := by
  have e1 := fld_join P 128 8 56 (by omega)
  have e2 := fld_join P 136 16 40 (by omega)
  have b0 := fld_lt P 128 8 (by omega)
  have b1 := fld_lt P 136 16 (by omega)
  have b2 := fld_lt P 152 40 (by omega)
  have e : rM P = fld P 128 8 * 72057594037927936 + (fld P 136 16 * 1099511627776 + fld P 152 40) := by
    unfold rM
    rw [show (64 : Nat) = 8 + 56 from rfl, e1, show (56 : Nat) = 16 + 40 from rfl, e2]
  unfold rR rL rS roleI lpnI seqI
  rw [e]
  omega
theorem bits_meta (r l s : Int) : bitsL (metaN r l s) 64 = bitsL (r % 256).toNat 8 ++ (bitsL (l % 65536).toNat 16 ++ bitsL (s % 1099511627776).toNat 40) := by
  rw [bitsL_split (metaN r l s) 64 56 (by decide), bitsL_split (metaN r l s % 2 ^ 56) 56 40 (by decide)]
  unfold metaN
  have e1 : ((r % 256).toNat * 72057594037927936 + (l % 65536).toNat * 1099511627776 + (s % 1099511627776).toNat) / 2 ^ 56 = (r % 256).toNat := by omega
  have e2 : ((r % 256).toNat * 72057594037927936 + (l % 65536).toNat * 1099511627776 + (s % 1099511627776).toNat) % 2 ^ 56 / 2 ^ 40 = (l % 65536).toNat := by omega
  have e3 : ((r % 256).toNat * 72057594037927936 + (l % 65536).toNat * 1099511627776 + (s % 1099511627776).toNat) % 2 ^ 56 % 2 ^ 40 = (s % 1099511627776).toNat := by omega
  rw [e1, e2, e3]
theorem mbits_read {P : List Nat} (h : P.length = 32) : mbits (rR P) (rL P) (rS P) (rK P) (rB P) (rO P) (rMask P) = cutB (ofN P) 128 96 := by
  have e : metaN (rR P) (rL P) (rS P) = rM P := by
    have := meta_of (rM P) (by omega) (by have := rM_lt h; omega)
    unfold rR rL rS
    omega
  have hl : (ofN P).length = 256 := by rw [ofN_len8]; omega
  unfold mbits
  rw [e]
  unfold rM rB rO rMask rK
  simp only [Int.toNat_natCast]
  rw [bits_fld _ _ _ (by omega), bits_fld _ _ _ (by omega), bits_fld _ _ _ (by omega), bits_fld _ _ _ (by omega), bits_fld _ _ _ (by omega),
    show (216 : Nat) = 208 + 8 from rfl, cut_join _ _ _ _ (by omega), show (208 : Nat) = 200 + 8 from rfl, cut_join _ _ _ _ (by omega), show (200 : Nat) = 192 + 8 from rfl, cut_join _ _ _ _ (by omega), show (192 : Nat) = 128 + 64 from rfl, cut_join _ _ _ _ (by omega)]
theorem head_read {P : List Nat} (h : P.length = 32) (hb : ∀ x ∈ P, x < 256) : headN (rR P) (rL P) (rS P) (rK P) (rB P) (rO P) (rMask P) = (P.drop 16).take 12 := by
  unfold headN
  rw [mbits_read h]
  have e : cutB (ofN P) 128 96 = ofN ((P.drop 16).take 12) := by rw [ofN_take, ofN_drop]; rfl
  rw [e, bytesN_of _ (take_lt (drop_lt hb _) _)]
theorem page_read {P : List Nat} (h : P.length = 32) (hb : ∀ x ∈ P, x < 256) : pageN (P.take 16) (rR P) (rL P) (rS P) (rK P) (rB P) (rO P) (rMask P) = P.take 28 ++ crcN (P.take 28) := by
  unfold pageN
  rw [head_read h hb, show P.take 16 ++ (P.drop 16).take 12 = P.take 28 from (List.take_add (i := 16) (j := 12)).symm]
/-- A page is its own sherd's just if its sum is. -/
theorem page_iff {P : List Nat} (h : P.length = 32) (hb : ∀ x ∈ P, x < 256) : pageN (P.take 16) (rR P) (rL P) (rS P) (rK P) (rB P) (rO P) (rMask P) = P ↔ fld P 224 32 = kof (P.take 28) := by
  rw [page_read h hb]
  have hc : cutB (ofN P) 224 32 = ofN (P.drop 28) := by
    unfold cutB
    rw [ofN_drop, List.take_of_length_le (by rw [List.length_drop, ofN_len8]; omega)]
  have hk : kof (P.take 28) < 2 ^ 32 := ksum_lt _ _ (by decide) (take_lt hb _)
  constructor
  · intro e
    have e2 : crcN (P.take 28) = P.drop 28 := by
      have e3 := congrArg (List.drop 28) e
      rwa [List.drop_append_of_le_length (by rw [List.length_take]; omega), List.drop_eq_nil_of_le (by rw [List.length_take]; omega), List.nil_append] at e3
    unfold fld
    rw [hc, ← e2, crcN, ofN_bytes _ (by rw [bitsL_length]), numN_bitsL _ _ hk]
  · intro e
    have e2 : crcN (P.take 28) = P.drop 28 := by
      unfold crcN
      rw [← e, bits_fld _ _ _ (by omega), hc, bytesN_of _ (drop_lt hb _)]
    rw [e2, List.take_append_drop]
theorem bits_page {d : List Nat} (hb : ∀ x ∈ d, x < 256) (r l s k b o m : Int) : ofN (pageN d r l s k b o m) = ofN d ++ (mbits r l s k b o m ++ bitsL (kof (d ++ headN r l s k b o m)) 32) := by
  unfold pageN crcN headN
  rw [ofN_app, ofN_app, ofN_bytes _ (by rw [mbits_length]), ofN_bytes _ (by rw [bitsL_length]), List.append_assoc]
theorem cut_mid (a b c : List Bool) (i k : Nat) (hi : a.length = i) (hk : b.length = k) : cutB (a ++ (b ++ c)) i k = b := by
  unfold cutB
  rw [← hi, List.drop_left, ← hk, List.take_left]
/-- What was written is read. -/
theorem read_page {d : List Nat} (hd : d.length = 16) (hb : ∀ x ∈ d, x < 256) {r l s k b o m : Int} (r0 : 0 ≤ r) (r1 : r < 256) (l0 : 0 ≤ l) (l1 : l < 65536) (s0 : 0 ≤ s) (s1 : s < 1099511627776)
    (k0 : 0 ≤ k) (k1 : k < 256) (b0 : 0 ≤ b) (b1 : b < 256) (o0 : 0 ≤ o) (o1 : o < 256) (m0 : 0 ≤ m) (m1 : m < 256) :
    (pageN d r l s k b o m).take 16 = d ∧ rR (pageN d r l s k b o m) = r ∧ rL (pageN d r l s k b o m) = l ∧ rS (pageN d r l s k b o m) = s ∧ rK (pageN d r l s k b o m) = k ∧ rB (pageN d r l s k b o m) = b ∧ rO (pageN d r l s k b o m) = o ∧ rMask (pageN d r l s k b o m) = m := by
  have e := bits_page hb r l s k b o m
  have hl : (ofN d).length = 128 := by rw [ofN_len8]; omega
  generalize hC : bitsL (kof (d ++ headN r l s k b o m)) 32 = C at e
  have eM : rM (pageN d r l s k b o m) = metaN r l s := by
    unfold rM fld
    rw [e, mbits, List.append_assoc, cut_mid _ _ _ _ _ hl (bitsL_length _ _), numN_bitsL _ _ (metaN_lt r l s)]
  have hm := of_meta r l s
  have eb : ∀ x : Int, 0 ≤ x → x < 256 → ((numN (bitsL x.toNat 8) : Nat) : Int) = x := fun x h0 h1 => by rw [numN_bitsL _ _ (by omega)]; omega
  refine ⟨by rw [pageN, List.append_assoc, List.take_append_of_le_length (by omega), List.take_of_length_le (by omega)], ?_, ?_, ?_, ?_, ?_, ?_, ?_⟩
  · unfold rR; rw [eM, hm.1]; omega
  · unfold rL; rw [eM, hm.2.1]; omega
  · unfold rS; rw [eM, hm.2.2]; omega
  · unfold rK fld
    rw [e, mbits, show ofN d ++ (bitsL (metaN r l s) 64 ++ (bitsL b.toNat 8 ++ (bitsL o.toNat 8 ++ (bitsL m.toNat 8 ++ bitsL k.toNat 8))) ++ C) = (ofN d ++ bitsL (metaN r l s) 64 ++ bitsL b.toNat 8 ++ bitsL o.toNat 8 ++ bitsL m.toNat 8) ++ (bitsL k.toNat 8 ++ C) by simp only [List.append_assoc], cut_mid _ _ _ _ _ (by simp [bitsL_length, hl]) (bitsL_length _ _), eb k k0 k1]
  · unfold rB fld
    rw [e, mbits, show ofN d ++ (bitsL (metaN r l s) 64 ++ (bitsL b.toNat 8 ++ (bitsL o.toNat 8 ++ (bitsL m.toNat 8 ++ bitsL k.toNat 8))) ++ C) = (ofN d ++ bitsL (metaN r l s) 64) ++ (bitsL b.toNat 8 ++ (bitsL o.toNat 8 ++ bitsL m.toNat 8 ++ bitsL k.toNat 8 ++ C)) by simp only [List.append_assoc], cut_mid _ _ _ _ _ (by simp [bitsL_length, hl]) (bitsL_length _ _), eb b b0 b1]
  · unfold rO fld
    rw [e, mbits, show ofN d ++ (bitsL (metaN r l s) 64 ++ (bitsL b.toNat 8 ++ (bitsL o.toNat 8 ++ (bitsL m.toNat 8 ++ bitsL k.toNat 8))) ++ C) = (ofN d ++ bitsL (metaN r l s) 64 ++ bitsL b.toNat 8) ++ (bitsL o.toNat 8 ++ (bitsL m.toNat 8 ++ bitsL k.toNat 8 ++ C)) by simp only [List.append_assoc], cut_mid _ _ _ _ _ (by simp [bitsL_length, hl]) (bitsL_length _ _), eb o o0 o1]
  · unfold rMask fld
    rw [e, mbits, show ofN d ++ (bitsL (metaN r l s) 64 ++ (bitsL b.toNat 8 ++ (bitsL o.toNat 8 ++ (bitsL m.toNat 8 ++ bitsL k.toNat 8))) ++ C) = (ofN d ++ bitsL (metaN r l s) 64 ++ bitsL b.toNat 8 ++ bitsL o.toNat 8) ++ (bitsL m.toNat 8 ++ (bitsL k.toNat 8 ++ C)) by simp only [List.append_assoc], cut_mid _ _ _ _ _ (by simp [bitsL_length, hl]) (bitsL_length _ _), eb m m0 m1]
end Go.Proofs.YtpbigfopmompfaaGreat
/- Plain law, no program in sight: a page of which a byte was turned has not its sum. -/
namespace Go.Proofs.YtpbigfopmompfaaGreat
open Go.RowKit
theorem true_mem (x : Nat) (h : x < 256) (h0 : x ≠ 0) : true ∈ bitsL x 8 := by
  obtain ⟨i, hi⟩ := Nat.exists_testBit_of_ne_zero h0
  have h8 : i < 8 := by
    rcases Nat.lt_or_ge i 8 with h1 | h1
    · exact h1
    · rw [Nat.testBit_lt_two_pow (Nat.lt_of_lt_of_le h (Nat.pow_le_pow_right (n := 2) (by decide) h1))] at hi; cases hi
  have := bitsL_get x 8 (7 - i) (by omega)
  rw [show 8 - 1 - (7 - i) = i by omega, hi] at this
  exact List.mem_of_getElem? this
theorem ofN_noughts (n : Nat) : ofN (List.replicate n 0) = List.replicate (8 * n) false := by
  induction n with
  | zero => rfl
  | succ n ih =>
    have e : bitsL 0 8 = List.replicate 8 false := by decide
    rw [List.replicate_succ]
    show bitsL 0 8 ++ ofN (List.replicate n 0) = _
    rw [ih, e, List.replicate_append_replicate]
    congr 1; omega
theorem over_set (a : List Nat) (j x : Nat) (hj : j < a.length) : over a (a.set j (a.getD j 0 ^^^ x)) = List.replicate j 0 ++ ([x] ++ List.replicate (a.length - j - 1) 0) := by
  apply List.ext_getElem?
  intro i
  unfold over
  rw [List.getElem?_zipWith, List.getElem?_set]
  by_cases hi : i < a.length
  · rw [List.getElem?_eq_getElem hi]
    by_cases e : j = i
    · subst e
      rw [if_pos rfl, if_pos hj, List.getElem?_append_right (by simp), List.getD_eq_getElem?_getD, List.getElem?_eq_getElem hj]
      simp
      rw [← Nat.xor_assoc, Nat.xor_self, Nat.zero_xor]
    · rw [if_neg e]
      by_cases h2 : i < j
      · rw [List.getElem?_append_left (by simpa using h2), List.getElem?_replicate, if_pos h2]
        simp
      · rw [List.getElem?_append_right (by simp; omega), List.length_replicate, List.getElem?_append_right (by simp; omega), List.getElem?_replicate, if_pos (by simp; omega)]
        simp
  · rw [List.getElem?_eq_none (by omega), List.getElem?_eq_none (by simp; omega)]
theorem kof_byte (a : List Nat) (j x : Nat) (hb : ∀ y ∈ a, y < 256) (hj : j < a.length) (hx : x < 256) (h0 : x ≠ 0) : kof a ≠ kof (a.set j (a.getD j 0 ^^^ x)) := by
  intro h
  have hg : a.getD j 0 < 256 := getD_lt' a hb j
  have hs : ∀ y ∈ a.set j (a.getD j 0 ^^^ x), y < 256 := by
    intro y hy
    rcases List.mem_or_eq_of_mem_set hy with h1 | h1
    · exact hb y h1
    · rw [h1]; exact Nat.xor_lt_two_pow (n := 8) hg hx
  have e := kof_two a (a.set j (a.getD j 0 ^^^ x)) (by simp)
  rw [← h, Nat.xor_self, over_set a j x hj, ksum_feed _ _ (by
    intro y hy
    rcases List.mem_append.1 hy with h1 | h1
    · rw [List.mem_replicate] at h1; omega
    · rcases List.mem_append.1 h1 with h1 | h1
      · rw [List.mem_singleton] at h1; omega
      · rw [List.mem_replicate] at h1; omega), ofN_app, ofN_app, ofN_noughts, ofN_noughts, show ofN [x] = bitsL x 8 by simp [ofN]] at e
  exact kfeed_burst (8 * j) (8 * (a.length - j - 1)) (bitsL x 8) (by rw [bitsL_length]; decide) (true_mem x hx h0) e.symm
theorem ofN_inj {a b : List Nat} (ha : ∀ x ∈ a, x < 256) (hb : ∀ x ∈ b, x < 256) (h : ofN a = ofN b) : a = b := by
  rw [← bytesN_of a ha, h, bytesN_of b hb]
theorem fld_sum {P : List Nat} (h : P.length = 32) : bitsL (fld P 224 32) 32 = ofN (P.drop 28) := by
  rw [bits_fld _ _ _ (by omega)]
  unfold cutB
  rw [ofN_drop, List.take_of_length_le (by rw [List.length_drop, ofN_len8]; omega)]
/-- Of a page that has its sum a byte was turned: it has it no more. -/
theorem torn_byte {P : List Nat} (h : P.length = 32) (hb : ∀ y ∈ P, y < 256) (hs : fld P 224 32 = kof (P.take 28)) (j x : Nat) (hj : j < 32) (hx : x < 256) (h0 : x ≠ 0) :
    fld (P.set j (P.getD j 0 ^^^ x)) 224 32 ≠ kof ((P.set j (P.getD j 0 ^^^ x)).take 28) := by
  have hg : P.getD j 0 < 256 := getD_lt' P hb j
  have hq : ∀ y ∈ P.set j (P.getD j 0 ^^^ x), y < 256 := by
    intro y hy
    rcases List.mem_or_eq_of_mem_set hy with h1 | h1
    · exact hb y h1
    · rw [h1]; exact Nat.xor_lt_two_pow (n := 8) hg hx
  have f1 := fld_sum h
  have f2 := fld_sum (P := P.set j (P.getD j 0 ^^^ x)) (by simpa using h)
  intro e
  by_cases h28 : j < 28
  · have ed : (P.set j (P.getD j 0 ^^^ x)).drop 28 = P.drop 28 := by rw [List.drop_set_of_lt h28]
    rw [ed, ← f1] at f2
    have e1 : fld (P.set j (P.getD j 0 ^^^ x)) 224 32 = fld P 224 32 := by
      have := congrArg numN f2
      rwa [numN_bitsL _ _ (fld_lt _ _ _ (by simp; omega)), numN_bitsL _ _ (fld_lt _ _ _ (by omega))] at this
    have et : (P.set j (P.getD j 0 ^^^ x)).take 28 = (P.take 28).set j ((P.take 28).getD j 0 ^^^ x) := by
      rw [List.take_set, List.getD_eq_getElem?_getD, List.getD_eq_getElem?_getD, List.getElem?_take, if_pos h28]
    rw [e1, hs, et] at e
    exact kof_byte (P.take 28) j x (take_lt hb _) (by rw [List.length_take]; omega) hx h0 e
  · have et : (P.set j (P.getD j 0 ^^^ x)).take 28 = P.take 28 := by rw [List.take_set_of_le (by omega)]
    rw [et, ← hs] at e
    rw [e, f1] at f2
    have := ofN_inj (drop_lt hb _) (drop_lt hq _) f2
    have h3 := congrArg (fun l : List Nat => l[j - 28]?) this
    simp only [List.getElem?_drop, show 28 + (j - 28) = j by omega, List.getElem?_set] at h3
    simp only [if_true, h, hj, List.getD_eq_getElem?_getD] at h3
    rw [List.getElem?_eq_getElem (by omega)] at h3
    simp only [Option.getD_some, Option.some.injEq] at h3
    have h4 : P[j] ^^^ P[j] = P[j] ^^^ (P[j] ^^^ x) := by rw [← h3]
    rw [Nat.xor_self, ← Nat.xor_assoc, Nat.xor_self, Nat.zero_xor] at h4
    exact h0 h4.symm
end Go.Proofs.YtpbigfopmompfaaGreat
/- Plain law, no program in sight: sherds laid over one another. -/
namespace Go.Proofs.YtpbigfopmompfaaGreat
open Go.RowKit
/-- A sherd. -/
structure Sh where
  d : List Nat
  r : Int
  l : Int
  s : Int
  k : Int
  b : Int
  o : Int
  m : Int
def xorN (l : List Nat) : Nat := l.foldl (· ^^^ ·) 0
theorem xorN_from (l : List Nat) : ∀ s, l.foldl (· ^^^ ·) s = s ^^^ xorN l := by
  induction l with
  | nil => intro s; simp [xorN]
  | cons x l ih =>
    intro s
    have h := ih (0 ^^^ x)
    unfold xorN
    rw [List.foldl_cons, List.foldl_cons, ih, h, Nat.zero_xor, Nat.xor_assoc]
theorem xorN_append (a b : List Nat) : xorN (a ++ b) = xorN a ^^^ xorN b := by
  unfold xorN
  rw [List.foldl_append, xorN_from]; rfl
theorem xorN_cons (a : Nat) (b : List Nat) : xorN (a :: b) = a ^^^ xorN b := by
  rw [show a :: b = [a] ++ b from rfl, xorN_append]; simp [xorN]
theorem xorN_lt {n : Nat} : ∀ {l : List Nat}, (∀ x ∈ l, x < 2 ^ n) → xorN l < 2 ^ n
  | [], _ => Nat.two_pow_pos n
  | x :: l, h => by rw [xorN_cons]; exact Nat.xor_lt_two_pow (h x (by simp)) (xorN_lt fun y hy => h y (by simp [hy]))
/-- The data of many, laid over one another; their numbers. -/
def overD (l : List Sh) : List Nat := l.foldl (fun a x => over a x.d) (List.replicate 16 0)
def overM (l : List Sh) : Nat := xorN (l.map fun x => metaN x.r x.l x.s)
theorem overD_snoc (l : List Sh) (x : Sh) : overD (l ++ [x]) = over (overD l) x.d := by simp [overD, List.foldl_append]
theorem overM_snoc (l : List Sh) (x : Sh) : overM (l ++ [x]) = overM l ^^^ metaN x.r x.l x.s := by
  unfold overM
  rw [List.map_append, xorN_append]; simp [xorN]
theorem overM_lt (l : List Sh) : overM l < 18446744073709551616 := xorN_lt (n := 64) fun x hx => by
  obtain ⟨y, -, rfl⟩ := List.mem_map.1 hx
  exact metaN_lt _ _ _
theorem overD_length {l : List Sh} (h : ∀ x ∈ l, x.d.length = 16) : (overD l).length = 16 := by
  induction l using snoc_ind with
  | h0 => rfl
  | h1 l x ih =>
    rw [overD_snoc, over_length _ _ (by rw [ih fun y hy => h y (by simp [hy]), h x (by simp)])]
    exact ih fun y hy => h y (by simp [hy])
theorem overD_get {l : List Sh} (h : ∀ x ∈ l, x.d.length = 16) (i : Nat) (hi : i < 16) : (overD l)[i]? = some (xorN (l.map fun x => x.d.getD i 0)) := by
  induction l using snoc_ind with
  | h0 =>
    simp only [overD, List.foldl_nil, List.getElem?_replicate, if_pos hi]; rfl
  | h1 l x ih =>
    have h1 := ih fun y hy => h y (by simp [hy])
    have hx := h x (by simp)
    rw [overD_snoc, List.map_append, xorN_append]
    unfold over
    rw [List.getElem?_zipWith, h1, List.getElem?_eq_getElem (by omega)]
    simp [xorN, hx, hi]
theorem overD_lt {l : List Sh} (h : ∀ x ∈ l, x.d.length = 16) (hb : ∀ x ∈ l, ∀ y ∈ x.d, y < 256) : ∀ y ∈ overD l, y < 256 := by
  intro y hy
  obtain ⟨i, hi, rfl⟩ := List.getElem_of_mem hy
  have hl := overD_length h
  have e := overD_get h i (by omega)
  rw [List.getElem?_eq_getElem hi] at e
  rw [Option.some.inj e]
  refine xorN_lt (n := 8) fun x hx => ?_
  obtain ⟨z, hz, rfl⟩ := List.mem_map.1 hx
  exact getD_lt' _ (hb z hz) i
theorem overD_ext {a b : List Sh} (ha : ∀ x ∈ a, x.d.length = 16) (hb : ∀ x ∈ b, x.d.length = 16) (h : ∀ i, i < 16 → xorN (a.map fun x => x.d.getD i 0) = xorN (b.map fun x => x.d.getD i 0)) : overD a = overD b := by
  apply List.ext_getElem?
  intro i
  by_cases hi : i < 16
  · rw [overD_get ha i hi, overD_get hb i hi, h i hi]
  · rw [List.getElem?_eq_none (by rw [overD_length ha]; omega), List.getElem?_eq_none (by rw [overD_length hb]; omega)]
theorem over_turned {l : List Sh} (h : ∀ x ∈ l, x.d.length = 16) (k : Nat) : overD (l.drop k ++ l.take k) = overD l ∧ overM (l.drop k ++ l.take k) = overM l := by
  have e : ∀ f : Sh → Nat, xorN ((l.drop k ++ l.take k).map f) = xorN (l.map f) := by
    intro f
    have e0 : l.map f = (l.take k).map f ++ (l.drop k).map f := by rw [← List.map_append, List.take_append_drop]
    rw [e0, List.map_append, xorN_append, xorN_append, Nat.xor_comm]
  refine ⟨overD_ext (fun x hx => ?_) h fun i _ => e _, e _⟩
  rcases List.mem_append.1 hx with h1 | h1
  · exact h x (List.mem_of_mem_drop h1)
  · exact h x (List.mem_of_mem_take h1)
theorem over_twice {l : List Sh} (h : ∀ x ∈ l, x.d.length = 16) : overD (l ++ l) = List.replicate 16 0 ∧ overM (l ++ l) = 0 := by
  have e : ∀ f : Sh → Nat, xorN ((l ++ l).map f) = 0 := by
    intro f
    rw [List.map_append, xorN_append, Nat.xor_self]
  refine ⟨?_, e _⟩
  have := overD_ext (a := l ++ l) (b := []) (fun x hx => ?_) (by simp) fun i _ => by rw [e]; rfl
  · exact this
  · rcases List.mem_append.1 hx with h1 | h1 <;> exact h x h1
/-- Numbers, laid over one another, are their parts, laid over one another. -/
theorem meta_xor (a b : Nat) : (a ^^^ b) / 72057594037927936 = (a / 72057594037927936) ^^^ (b / 72057594037927936) ∧ (a ^^^ b) / 1099511627776 % 65536 = (a / 1099511627776 % 65536) ^^^ (b / 1099511627776 % 65536) ∧ (a ^^^ b) % 1099511627776 = (a % 1099511627776) ^^^ (b % 1099511627776) := by
  have e1 : ∀ n x : Nat, x / 2 ^ n = x >>> n := fun n x => (Nat.shiftRight_eq_div_pow x n).symm
  have d := fun n => show (a ^^^ b) / 2 ^ n = (a / 2 ^ n) ^^^ (b / 2 ^ n) by rw [e1, e1, e1, Nat.shiftRight_xor_distrib]
  refine ⟨d 56, ?_, ?_⟩
  · have := d 40
    rw [show (1099511627776 : Nat) = 2 ^ 40 from rfl, this, show (65536 : Nat) = 2 ^ 16 from rfl, Nat.xor_mod_two_pow]
  · rw [show (1099511627776 : Nat) = 2 ^ 40 from rfl, Nat.xor_mod_two_pow]
end Go.Proofs.YtpbigfopmompfaaGreat
