import Derived.Test.YtajjmlbhagiicaaPlainZig
import Derived.Test.YtajjmlbhagiicaaBase
/- What a claim's proof leans on: PlainBits, PlainKoop, PlainByt, PlainTurn, PlainJoin. -/
/- Plain law, no program in sight: lists of bits. -/
namespace Go.Proofs.Ytajjmlbhagiicaa
open Go.RowKit

theorem snoc_ind {α : Type} {P : List α → Prop} (h0 : P []) (h1 : ∀ l a, P l → P (l ++ [a])) (l : List α) : P l := by
  rw [← List.reverse_reverse l]
  induction l.reverse with
  | nil => simpa using h0
  | cons a t ih => simpa using h1 _ a ih
def powI (n : Int) : Int := 2 ^ n.toNat
theorem powI_pos (n : Int) : 1 ≤ powI n := by
  have : (0 : Int) < 2 ^ n.toNat := Int.pow_pos (by decide)
  unfold powI; omega
theorem powI_step (k : Nat) (h : k < 63) : IntKind.u64.wrap (powI k * 2) = powI ((k : Int) + 1) := by
  have hle : (2 : Nat) ^ (k + 1) ≤ 2 ^ 63 := Nat.pow_le_pow_right (by omega) (by omega)
  have e2 : powI k * 2 = ((2 ^ (k + 1) : Nat) : Int) := by
    rw [Nat.pow_succ, Int.natCast_mul, Int.natCast_pow]; rfl
  have e3 : powI ((k : Int) + 1) = ((2 ^ (k + 1) : Nat) : Int) := by rw [Int.natCast_pow]; rfl
  rw [e2, e3]; exact u64_wrap_nat _ (by omega)
theorem bit_div (u : Nat) (i : Int) (hu : u < 18446744073709551616) : IntKind.u64.wrap ((u : Int) / powI i) = (u : Int) / powI i := by
  have e : (u : Int) / powI i = ((u / 2 ^ i.toNat : Nat) : Int) := by rw [Int.natCast_ediv, Int.natCast_pow]; rfl
  have := Nat.div_le_self u (2 ^ i.toNat)
  rw [e]; exact u64_wrap_nat _ (by omega)
theorem bit_div0 (u : Nat) (i : Int) : 0 ≤ (u : Int) / powI i := Int.ediv_nonneg (by omega) (by have := powI_pos i; omega)
/-- The first k of a number's lowest w bits, the highest first. -/
def bitsTo (u w k : Nat) : List Bool := (List.range k).map fun j => u.testBit (w - 1 - j)
def bitsL (u w : Nat) : List Bool := bitsTo u w w
theorem bitsTo_length (u w k : Nat) : (bitsTo u w k).length = k := by simp [bitsTo]
theorem bitsL_length (u w : Nat) : (bitsL u w).length = w := bitsTo_length u w w
theorem bitsTo_succ (u w k : Nat) : bitsTo u w (k + 1) = bitsTo u w k ++ [u.testBit (w - 1 - k)] := by simp [bitsTo, List.range_succ]
theorem bit_form (u : Nat) (i : Int) : ((u : Int) / powI i % 2 == 1) = u.testBit i.toNat := by
  have e : (u : Int) / powI i % 2 = ((u / 2 ^ i.toNat % 2 : Nat) : Int) := by
    rw [Int.natCast_emod, Int.natCast_ediv, Int.natCast_pow]; rfl
  rw [e, Nat.testBit_eq_decide_div_mod_eq]
  have h2 : u / 2 ^ i.toNat % 2 = 0 ∨ u / 2 ^ i.toNat % 2 = 1 := by omega
  rcases h2 with h2 | h2 <;> simp [h2]
theorem bitsTo_snoc (u W k : Nat) (h : k < W) : bools (bitsTo u W (k + 1)) = bools (bitsTo u W k) ++ [.bool ((u : Int) / powI ((W : Int) - 1 - k) % 2 == 1)] := by
  rw [bitsTo_succ, bit_form, show ((W : Int) - 1 - k).toNat = W - 1 - k by omega]
  simp [bools]
/-- A number of bits. -/
def numN : List Bool → Nat := List.foldl (fun n b => 2 * n + b.toNat) 0
theorem numN_snoc (l : List Bool) (b : Bool) : numN (l ++ [b]) = 2 * numN l + b.toNat := by simp [numN, List.foldl_append]
theorem numN_lt (l : List Bool) : numN l < 2 ^ l.length := by
  refine snoc_ind (P := fun l => numN l < 2 ^ l.length) (by simp [numN]) (fun l b ih => ?_) l
  rw [numN_snoc, List.length_append, List.length_singleton, Nat.pow_succ]
  have : b.toNat ≤ 1 := by cases b <;> simp
  omega
def numTo (l : List Bool) (k : Nat) : Nat := numN (l.take k)
theorem numTo_zero (l : List Bool) : numTo l 0 = 0 := by simp [numTo, numN]
theorem numTo_all (l : List Bool) (k : Nat) (h : l.length = k) : numTo l k = numN l := by rw [numTo, List.take_of_length_le (by omega)]
theorem take_snoc' {α : Type} (l : List α) (k : Nat) (h : k < l.length) : l.take (k + 1) = l.take k ++ [l[k]] := by
  rw [List.take_add_one, List.getElem?_eq_getElem h]; rfl
theorem numTo_succ (l : List Bool) (k : Nat) (h : k < l.length) : numTo l (k + 1) = 2 * numTo l k + (l[k]).toNat := by
  rw [numTo, take_snoc' l k h, numN_snoc, numTo]
theorem numTo_lt (l : List Bool) (k : Nat) : numTo l k < 2 ^ k := by
  have h := numN_lt (l.take k)
  have : (l.take k).length ≤ k := List.length_take_le _ _
  exact Nat.lt_of_lt_of_le h (Nat.pow_le_pow_right (by omega) this)
theorem numTo_lt63 (l : List Bool) (k : Nat) (h : k < 64) : numTo l k < 9223372036854775808 :=
  Nat.lt_of_lt_of_le (numTo_lt l k) (Nat.le_trans (Nat.pow_le_pow_right (by omega) (show k ≤ 63 by omega)) (by decide))

/-- A byte of eight bits of a list, from a place on; noughts behind the last. -/
def octTo (l : List Bool) (i k : Nat) : Nat := numN ((List.range k).map fun j => l.getD (i + j) false)
def octN (l : List Bool) (i : Nat) : Nat := octTo l i 8
theorem octTo_succ (l : List Bool) (i k : Nat) : octTo l i (k + 1) = 2 * octTo l i k + (l.getD (i + k) false).toNat := by
  rw [octTo, List.range_succ, List.map_append, List.map_singleton, numN_snoc, octTo]
theorem octTo_lt (l : List Bool) (i k : Nat) : octTo l i k < 2 ^ k := by
  have h := numN_lt ((List.range k).map fun j => l.getD (i + j) false)
  simpa [octTo] using h
/-- Bits, eight a byte. -/
def bytesTo (l : List Bool) (k : Nat) : List Nat := (List.range k).map fun j => octN l (8 * j)
def bytesN (l : List Bool) : List Nat := bytesTo l ((l.length + 7) / 8)
theorem bytesTo_succ (l : List Bool) (k : Nat) : bytesTo l (k + 1) = bytesTo l k ++ [octN l (8 * k)] := by simp [bytesTo, List.range_succ]
theorem bytesTo_length (l : List Bool) (k : Nat) : (bytesTo l k).length = k := by simp [bytesTo]
/-- The bits of bytes. -/
def ofTo (b : List Nat) (k : Nat) : List Bool := (b.take k).flatMap (bitsL · 8)
def ofN (b : List Nat) : List Bool := b.flatMap (bitsL · 8)
theorem ofTo_succ (b : List Nat) (k : Nat) (h : k < b.length) : ofTo b (k + 1) = ofTo b k ++ bitsL b[k] 8 := by
  rw [ofTo, take_snoc' b k h, List.flatMap_append, List.flatMap_singleton, ofTo]
theorem ofTo_all (b : List Nat) (k : Nat) (h : b.length = k) : ofTo b k = ofN b := by rw [ofTo, List.take_of_length_le (by omega)]; rfl
theorem ofN_length (b : List Nat) : (ofN b).length = 8 * b.length := by
  induction b with
  | nil => simp [ofN]
  | cons x t ih => simp only [ofN, List.flatMap_cons, List.length_append, bitsL_length, List.length_cons] at *; omega
theorem ofTo_length (b : List Nat) (k : Nat) (h : k ≤ b.length) : (ofTo b k).length = 8 * k := by
  have := ofN_length (b.take k)
  rw [List.length_take, Nat.min_eq_left h] at this
  exact this
/-- The first dies of a set. -/
def diesTo (m k : Nat) : List Nat := (List.range k).filter m.testBit
theorem diesTo_succ (m k : Nat) : diesTo m (k + 1) = diesTo m k ++ (if m.testBit k then [k] else []) := by
  simp only [diesTo, List.range_succ, List.filter_append]
  by_cases h : m.testBit k <;> simp [h]
theorem diesTo_length (m k : Nat) : (diesTo m k).length ≤ k := cnt_le m k
theorem die_div (M k : Nat) (hM : M < 256) : wrap64 ((M : Int) / powI k) = (M : Int) / powI k := by
  have e : (M : Int) / powI k = ((M / 2 ^ k : Nat) : Int) := by rw [Int.natCast_ediv, Int.natCast_pow]; rfl
  have := Nat.div_le_self M (2 ^ k)
  rw [e]; generalize M / 2 ^ k = q at *; unfold wrap64; omega
theorem powI_le (k : Nat) (h : k < 8) : powI k ≤ 128 := by
  rcases cases8 (d := k) (by omega) (by omega) with h | h | h | h | h | h | h | h <;> rw [h] <;> decide
theorem dies_find : ∀ M : Fin 256, ∀ k : Fin 8, (match (diesN M.val)[k.val]? with | some D => decide (D < 8) && M.val.testBit D && (cnt M.val D == k.val) | none => true) = true := by decide +kernel
theorem dies_found {M k D : Nat} (hM : M < 256) (h : (diesN M)[k]? = some D) : D < 8 ∧ M.testBit D = true ∧ cnt M D = k := by
  have hk : k < 8 := by
    have := (List.getElem?_eq_some_iff.1 h).1
    have := cnt_le M 8
    rw [dies_length] at *; omega
  have := dies_find ⟨M, hM⟩ ⟨k, hk⟩
  simp only [h, Bool.and_eq_true, decide_eq_true_eq, beq_iff_eq] at this
  exact ⟨this.1.1, this.1.2, this.2⟩
theorem diesL_nat {M : Nat} (hM : M < 256) : diesL M = diesN M := by rw [diesL, setB_of (by omega) (by omega)]; rfl
theorem spot_found {M k : Nat} {d : Int} (hM : M < 256) (h : (diesN M)[k]? = some d.toNat) (hd : 0 ≤ d) : spotI M d = k := by
  obtain ⟨h1, h2, h3⟩ := dies_found hM h
  have : hasB M d = true := by
    simp only [hasB, Bool.and_eq_true, decide_eq_true_eq, setB_of (show 0 ≤ (M : Int) by omega) (show (M : Int) < 256 by omega), Int.toNat_natCast]
    exact ⟨⟨trivial, by omega, by omega⟩, h2⟩
  simp only [spotI, this, if_true, Int.toNat_natCast, h3]
theorem spot_none {M : Nat} {d : Int} (hM : M < 256) (h : ∀ (j D : Nat), (diesN M)[j]? = some D → (D : Int) ≠ d) : spotI M d = -1 := by
  unfold spotI
  split
  · rename_i hh
    simp only [hasB, Bool.and_eq_true, decide_eq_true_eq, Int.toNat_natCast] at hh
    obtain ⟨D, rfl⟩ := Int.eq_ofNat_of_zero_le hh.1.2.1
    exact absurd rfl (h _ D (dies_at ⟨M, hM⟩ ⟨D, by omega⟩ (by simpa using hh.2)))
  · rfl
end Go.Proofs.Ytajjmlbhagiicaa
/- Plain law, no program in sight: Koopman's sums. -/
namespace Go.Proofs.Ytajjmlbhagiicaa
open Go.RowKit

def poly : Nat := 1947962583
/-- One bit's turn of a sum. -/
def kround (s : Nat) : Nat := if s.testBit 31 then (2 * s % 4294967296) ^^^ poly else 2 * s % 4294967296
def kiter : Nat → Nat → Nat
  | 0, s => s
  | k + 1, s => kround (kiter k s)
/-- A byte taken into a sum. -/
def kstep (s x : Nat) : Nat := kiter 8 (s ^^^ (x * 16777216))
def ksum (s : Nat) (b : List Nat) : Nat := b.foldl kstep s
def kof (b : List Nat) : Nat := ksum 4294967295 b
def kzero (s : Nat) : Nat → Nat
  | 0 => s
  | n + 1 => kstep (kzero s n) 0

theorem poly_lt : poly < 4294967296 := by decide
theorem kround_lt (s : Nat) : kround s < 4294967296 := by
  unfold kround
  split
  · exact Nat.xor_lt_two_pow (n := 32) (Nat.mod_lt _ (by decide)) poly_lt
  · exact Nat.mod_lt _ (by decide)
theorem kiter_lt (k s : Nat) (h : s < 4294967296) : kiter k s < 4294967296 := by
  cases k with
  | zero => exact h
  | succ k => exact kround_lt _
theorem kstart_lt (s x : Nat) (h : s < 4294967296) (hx : x < 256) : s ^^^ (x * 16777216) < 4294967296 := Nat.xor_lt_two_pow (n := 32) h (by omega)
theorem kstep_lt (s x : Nat) (h : s < 4294967296) (hx : x < 256) : kstep s x < 4294967296 := kiter_lt 8 _ (kstart_lt s x h hx)
theorem ksum_lt (b : List Nat) : ∀ s, s < 4294967296 → (∀ x ∈ b, x < 256) → ksum s b < 4294967296 := by
  induction b with
  | nil => intro s h _; exact h
  | cons x t ih => intro s h hb; exact ih _ (kstep_lt s x h (hb x (by simp))) fun y hy => hb y (by simp [hy])
theorem ksum_snoc (s : Nat) (b : List Nat) (x : Nat) : ksum s (b ++ [x]) = kstep (ksum s b) x := by simp [ksum, List.foldl_append]
theorem kzero_lt (s n : Nat) (h : s < 4294967296) : kzero s n < 4294967296 := by
  induction n with
  | zero => exact h
  | succ n ih => exact kstep_lt _ _ ih (by decide)

theorem k_high (s : Nat) (h : s < 4294967296) : bits .and .u32 (s : Int) 2147483648 = if s.testBit 31 then 2147483648 else 0 := by
  have e := u32_and_nat s 2147483648 h (by decide)
  have e2 : s &&& 2147483648 = s / 2 ^ 31 % 2 * 2 ^ 31 := nat_bit 31 s
  rw [show ((2147483648 : Nat) : Int) = 2147483648 from rfl] at e
  rw [e, e2, Nat.testBit_eq_decide_div_mod_eq]
  have h2 : s / 2 ^ 31 % 2 = 0 ∨ s / 2 ^ 31 % 2 = 1 := by omega
  rcases h2 with h2 | h2 <;> rw [h2] <;> rfl
theorem k_one (s : Nat) (h : s.testBit 31 = true) : bits .xor .u32 ((s : Int) * 2 % 4294967296) 1947962583 = (kround s : Int) := by
  have e1 : (s : Int) * 2 % 4294967296 = ((2 * s % 4294967296 : Nat) : Int) := by omega
  have e := u32_xor_nat (2 * s % 4294967296) poly (Nat.mod_lt _ (by decide)) poly_lt
  rw [show (poly : Int) = 1947962583 from rfl] at e
  rw [e1, e, kround, h]; rfl
theorem k_nought (s : Nat) (h : s.testBit 31 = false) : (s : Int) * 2 % 4294967296 = (kround s : Int) := by
  rw [kround, h]; simp; omega
theorem k_start (s x : Nat) (h : s < 4294967296) (hx : x < 256) : bits .xor .u32 (s : Int) ((x : Int) * 16777216) = ((s ^^^ (x * 16777216) : Nat) : Int) := by
  have e := u32_xor_nat s (x * 16777216) h (by omega)
  rw [Int.natCast_mul] at e
  exact e
theorem bitsL_get (u w j : Nat) (h : j < w) : (bitsL u w)[j]? = some (u.testBit (w - 1 - j)) := by simp [bitsL, bitsTo, h]
theorem bitsL_ext {u u' w : Nat} (h : ∀ j, j < w → u.testBit j = u'.testBit j) : bitsL u w = bitsL u' w := by
  unfold bitsL bitsTo
  apply List.map_congr_left
  intro j hj
  rw [List.mem_range] at hj
  exact h _ (by omega)
/-- The first k of a list laid over another's. -/
def xorTo (a b : List Bool) (k : Nat) : List Bool := (List.range a.length).map fun j => if j < k then (a.getD j false != b.getD j false) else a.getD j false
theorem xorTo_length (a b : List Bool) (k : Nat) : (xorTo a b k).length = a.length := by simp [xorTo]
theorem xorTo_get (a b : List Bool) (k j : Nat) (h : j < a.length) : (xorTo a b k)[j]? = some (if j < k then (a.getD j false != b.getD j false) else a.getD j false) := by simp [xorTo, h]
theorem xorTo_zero (a b : List Bool) : xorTo a b 0 = a := by
  apply List.ext_getElem?
  intro j
  by_cases h : j < a.length
  · rw [xorTo_get a b 0 j h]; simp [List.getD, h]
  · rw [List.getElem?_eq_none (by rw [xorTo_length]; omega), List.getElem?_eq_none (by omega)]
theorem xorTo_set (a b : List Bool) (k : Nat) (h : k < a.length) : (xorTo a b k).set k (a.getD k false != b.getD k false) = xorTo a b (k + 1) := by
  apply List.ext_getElem?
  intro j
  by_cases hj : j < a.length
  · rw [xorTo_get a b (k + 1) j hj, List.getElem?_set]
    by_cases e : k = j
    · subst e; rw [if_pos rfl, if_pos (by rw [xorTo_length]; exact h), if_pos (by omega)]
    · rw [if_neg e, xorTo_get a b k j hj]
      by_cases h2 : j < k
      · rw [if_pos h2, if_pos (by omega)]
      · rw [if_neg h2, if_neg (by omega)]
  · rw [List.getElem?_eq_none (by rw [List.length_set, xorTo_length]; omega), List.getElem?_eq_none (by rw [xorTo_length]; omega)]
theorem bitsL_getD (u w j : Nat) (h : j < w) : (bitsL u w).getD j false = u.testBit (w - 1 - j) := by rw [List.getD_eq_getElem?_getD, bitsL_get u w j h]; rfl
theorem xor_byte (s x : Nat) : xorTo (bitsL s 32) (bitsL x 8) 8 = bitsL (s ^^^ (x * 16777216)) 32 := by
  apply List.ext_getElem?
  intro j
  by_cases hj : j < 32
  · have e : x * 16777216 = x * 2 ^ 24 := rfl
    rw [xorTo_get _ _ _ _ (by rw [bitsL_length]; exact hj), bitsL_get _ _ _ hj, bitsL_getD _ _ _ hj, Nat.testBit_xor, e, Nat.testBit_mul_two_pow]
    by_cases h8 : j < 8
    · rw [if_pos h8, bitsL_getD _ _ _ h8]
      have : (decide (24 ≤ 32 - 1 - j)) = true := by simp; omega
      rw [this, Bool.true_and, show 32 - 1 - j - 24 = 8 - 1 - j by omega]
    · rw [if_neg h8]
      have : (decide (24 ≤ 32 - 1 - j)) = false := by simp; omega
      rw [this, Bool.false_and, Bool.xor_false]
  · rw [List.getElem?_eq_none (by rw [xorTo_length, bitsL_length]; omega), List.getElem?_eq_none (by rw [bitsL_length]; omega)]
theorem xor_all (s t w : Nat) : xorTo (bitsL s w) (bitsL t w) w = bitsL (s ^^^ t) w := by
  apply List.ext_getElem?
  intro j
  by_cases hj : j < w
  · rw [xorTo_get _ _ _ _ (by rw [bitsL_length]; exact hj), bitsL_get _ _ _ hj, bitsL_getD _ _ _ hj, bitsL_getD _ _ _ hj, Nat.testBit_xor, if_pos hj]
  · rw [List.getElem?_eq_none (by rw [xorTo_length, bitsL_length]; omega), List.getElem?_eq_none (by rw [bitsL_length]; omega)]
theorem shift_one (t : Nat) : (bitsL t 32).drop 1 ++ [false] = bitsL (2 * t % 4294967296) 32 := by
  have e : 2 * t % 4294967296 = 2 * t % 2 ^ 32 := rfl
  apply List.ext_getElem?
  intro j
  by_cases hj : j < 32
  · rw [bitsL_get _ _ _ hj, e, Nat.testBit_mod_two_pow]
    have : (decide (32 - 1 - j < 32)) = true := by simp; omega
    rw [this, Bool.true_and]
    by_cases h31 : j < 31
    · rw [List.getElem?_append_left (by simp [bitsL_length]; omega), List.getElem?_drop, bitsL_get _ _ _ (by omega), show 32 - 1 - j = (32 - 1 - (1 + j)) + 1 by omega, Nat.testBit_succ]
      congr 2; omega
    · obtain rfl : j = 31 := by omega
      rw [List.getElem?_append_right (by simp [bitsL_length])]
      simp [bitsL_length]
  · rw [List.getElem?_eq_none (by simp [bitsL_length]; omega), List.getElem?_eq_none (by rw [bitsL_length]; omega)]
theorem numN_bitsTo (u w k : Nat) (h : k ≤ w) : numN (bitsTo u w k) = u / 2 ^ (w - k) % 2 ^ k := by
  induction k with
  | zero => simp [bitsTo, numN, Nat.mod_one]
  | succ k ih =>
    rw [bitsTo_succ, numN_snoc, ih (by omega)]
    have e : u / 2 ^ (w - k) = u / 2 ^ (w - (k + 1)) / 2 := by
      rw [Nat.div_div_eq_div_mul, ← Nat.pow_succ]; congr 2; omega
    have e2 : w - 1 - k = w - (k + 1) := by omega
    rw [e, e2, Nat.testBit_eq_decide_div_mod_eq]
    generalize u / 2 ^ (w - (k + 1)) = q
    have h2 : q % 2 = 0 ∨ q % 2 = 1 := by omega
    have e3 : q % 2 ^ (k + 1) = q % 2 + 2 * (q / 2 % 2 ^ k) := by rw [Nat.pow_succ', Nat.mod_mul]
    rcases h2 with h2 | h2 <;> simp [h2] <;> omega
theorem numN_bitsL (u w : Nat) (h : u < 2 ^ w) : numN (bitsL u w) = u := by
  rw [bitsL, numN_bitsTo u w w (Nat.le_refl _), Nat.sub_self, Nat.pow_zero, Nat.div_one, Nat.mod_eq_of_lt h]
theorem numN_bitsL' (u w : Nat) : numN (bitsL u w) = u % 2 ^ w := by
  rw [bitsL, numN_bitsTo u w w (Nat.le_refl _), Nat.sub_self, Nat.pow_zero, Nat.div_one]
/-- The first k of a list of bits as a number of two's complement. -/
def nT (l : List Bool) (k : Nat) : Int := (numTo l k : Int) - (if k = 0 then 0 else ((l.getD 0 false).toNat * 2 ^ k : Nat))
theorem nT_zero (l : List Bool) : nT l 0 = 0 := by simp [nT, numTo_zero]
theorem nT_one (l : List Bool) (h : 0 < l.length) : nT l 1 = -((l[0]).toNat : Int) := by
  have := numTo_succ l 0 h
  rw [numTo_zero] at this
  rw [nT, this, if_neg (by omega), List.getD_eq_getElem?_getD, List.getElem?_eq_getElem h]
  simp only [Option.getD_some]; omega
theorem nT_succ (l : List Bool) (k : Nat) (h : k < l.length) (h0 : 0 < k) : nT l (k + 1) = nT l k * 2 + ((l[k]).toNat : Int) := by
  rw [nT, nT, numTo_succ l k h, if_neg (by omega), if_neg (by omega), Nat.pow_succ]
  generalize (l.getD 0 false).toNat = a
  rw [← Nat.mul_assoc]
  generalize a * 2 ^ k = q
  omega
theorem nT_bd (l : List Bool) (k : Nat) (h : k < l.length) : -((2 ^ k : Nat) : Int) ≤ nT l (k + 1) ∧ nT l (k + 1) < ((2 ^ k : Nat) : Int) := by
  induction k with
  | zero =>
    have hb : (l[0]).toNat ≤ 1 := by cases l[0] <;> simp
    rw [nT_one l h]; simp; omega
  | succ k ih =>
    have hb : (l[k + 1]).toNat ≤ 1 := by cases l[k + 1] <;> simp
    have := ih (by omega)
    rw [nT_succ l (k + 1) h (by omega), Nat.pow_succ]; omega
theorem nT_small (l : List Bool) (k : Nat) (h : k < l.length) (hk : k ≤ 63) (h0 : 0 < k) : -4611686018427387904 ≤ nT l k ∧ nT l k < 4611686018427387904 := by
  obtain ⟨j, rfl⟩ : ∃ j, k = j + 1 := ⟨k - 1, by omega⟩
  have h1 := nT_bd l j (by omega)
  have h2 : (2 : Nat) ^ j ≤ 4611686018427387904 := Nat.le_trans (Nat.pow_le_pow_right (by omega) (show j ≤ 62 by omega)) (by decide)
  omega
theorem nT_final (n : Int) (w : Nat) (h0 : 0 < w) (h1 : w ≤ 64) : nT (bitsL (n % 18446744073709551616).toNat w) w = Int.bmod n (2 ^ w) := by
  have hl := bitsL_length (n % 18446744073709551616).toNat w
  have hb := nT_bd (bitsL (n % 18446744073709551616).toNat w) (w - 1) (by omega)
  rw [show w - 1 + 1 = w by omega] at hb
  have hpos := Nat.two_pow_pos (w - 1)
  have hw : (2 : Nat) ^ w = 2 * 2 ^ (w - 1) := by rw [← Nat.pow_succ']; congr 1; omega
  have hdvd : ((2 ^ w : Nat) : Int) ∣ 18446744073709551616 := by
    have : (2 : Nat) ^ w ∣ 2 ^ 64 := Nat.pow_dvd_pow 2 h1
    exact Int.natCast_dvd_natCast.2 this
  have hmod : nT (bitsL (n % 18446744073709551616).toNat w) w % ((2 ^ w : Nat) : Int) = n % ((2 ^ w : Nat) : Int) := by
    have e : numTo (bitsL (n % 18446744073709551616).toNat w) w = (n % 18446744073709551616).toNat % 2 ^ w := by
      rw [numTo_all _ w hl, numN_bitsL']
    have e3 : (((n % 18446744073709551616).toNat % 2 ^ w : Nat) : Int) = n % ((2 ^ w : Nat) : Int) := by
      rw [Int.natCast_emod, Int.toNat_of_nonneg (Int.emod_nonneg _ (by decide))]
      exact Int.emod_emod_of_dvd n hdvd
    rw [nT, if_neg (by omega), e, e3, Int.natCast_mul, Int.sub_mul_emod_self_right, Int.emod_emod_of_dvd _ (Int.dvd_refl _)]
  rw [Int.bmod_def, ← hmod]
  generalize nT (bitsL (n % 18446744073709551616).toNat w) w = x at *
  rw [hw] at *
  generalize 2 ^ (w - 1) = q at *
  by_cases hx : 0 ≤ x
  · rw [Int.emod_eq_of_lt hx (by omega), if_pos (by omega)]
  · have e : x % ((2 * q : Nat) : Int) = x + ((2 * q : Nat) : Int) := by
      rw [← Int.add_emod_right, Int.emod_eq_of_lt (by omega) (by omega)]
    rw [e, if_neg (by omega)]; omega
theorem numN_append (a b : List Bool) : numN (a ++ b) = numN a * 2 ^ b.length + numN b := by
  refine snoc_ind (P := fun b => numN (a ++ b) = numN a * 2 ^ b.length + numN b) (by simp [numN]) (fun l x ih => ?_) b
  rw [← List.append_assoc, numN_snoc, numN_snoc, ih, List.length_append, List.length_singleton, Nat.pow_succ, ← Nat.mul_assoc]
  generalize numN a * 2 ^ l.length = q
  omega
theorem bitsL_take (u w k : Nat) (h : k ≤ w) : (bitsL u w).take k = bitsTo u w k := by
  apply List.ext_getElem?
  intro j
  rw [List.getElem?_take]
  by_cases hj : j < k
  · rw [if_pos hj, bitsL_get u w j (by omega)]; simp [bitsTo, hj]
  · rw [if_neg hj, List.getElem?_eq_none (by rw [bitsTo_length]; omega)]
theorem turn_bits (u k : Nat) (hu : u < 4294967296) (hk : k < 32) : numN ((bitsL u 32).drop k ++ (bitsL u 32).take k) = u * 2 ^ k % 4294967296 + u / 2 ^ (32 - k) := by
  have h1 : numN ((bitsL u 32).take k) = u / 2 ^ (32 - k) := by
    rw [bitsL_take u 32 k (by omega), numN_bitsTo u 32 k (by omega), Nat.mod_eq_of_lt]
    rw [Nat.div_lt_iff_lt_mul (Nat.two_pow_pos _), ← Nat.pow_add, show k + (32 - k) = 32 by omega]; exact hu
  have h2 : numN ((bitsL u 32).take k) * 2 ^ (32 - k) + numN ((bitsL u 32).drop k) = u := by
    have := numN_append ((bitsL u 32).take k) ((bitsL u 32).drop k)
    rw [List.take_append_drop, numN_bitsL u 32 hu, List.length_drop, bitsL_length] at this
    exact this.symm
  have h3 : numN ((bitsL u 32).drop k) = u % 2 ^ (32 - k) := by
    rw [h1] at h2
    have := Nat.div_add_mod' u (2 ^ (32 - k))
    omega
  have hp : 2 ^ k * 2 ^ (32 - k) = 4294967296 := by rw [← Nat.pow_add, show k + (32 - k) = 32 by omega]
  rw [numN_append, h1, h3, List.length_take, bitsL_length, Nat.min_eq_left (by omega), ← hp, Nat.mul_comm (2 ^ k), Nat.mul_mod_mul_right]
theorem turn_num (u : Nat) (b : Int) (k : Nat) (hu : u < 4294967296) (hk : b % 32 = (k : Int)) (hk2 : k < 32) : (numN ((bitsL u 32).drop k ++ (bitsL u 32).take k) : Int) = turnI u b := by
  rw [turn_bits u k hu hk2, turnI, hk, Int.toNat_natCast, show (32 - (k : Int)).toNat = 32 - k by omega, Int.natCast_add, Int.natCast_emod, Int.natCast_mul, Int.natCast_pow, Int.natCast_ediv, Int.natCast_pow]
  rfl
theorem turnI_bd (u : Nat) (b : Int) (hu : u < 4294967296) : 0 ≤ turnI u b ∧ turnI u b < 4294967296 := by
  obtain ⟨k, hk⟩ := Int.eq_ofNat_of_zero_le (show 0 ≤ b % 32 by omega)
  have h := turn_num u b k hu hk (by omega)
  have h2 := numN_lt ((bitsL u 32).drop k ++ (bitsL u 32).take k)
  have h3 : ((bitsL u 32).drop k ++ (bitsL u 32).take k).length = 32 := by simp [bitsL_length]; omega
  rw [h3] at h2
  omega
theorem tmod_mod (b : Int) : (b.tmod 32 + 32) % 32 = b % 32 := by
  have h := Int.tmod_add_mul_tdiv b 32
  omega
theorem tmod_bd (b : Int) : -32 < b.tmod 32 ∧ b.tmod 32 < 32 := by
  have h1 := Int.lt_tmod_of_pos b (show (0 : Int) < 32 by decide)
  have h2 := Int.tmod_lt_of_pos b (show (0 : Int) < 32 by decide)
  omega
/-- A list is the bits of its number. -/
theorem bitsL_snoc (u w : Nat) (b : Bool) : bitsL (2 * u + b.toNat) (w + 1) = bitsL u w ++ [b] := by
  have hb : b.toNat < 2 := by cases b <;> simp
  rw [bitsL, bitsTo_succ]
  have e0 : (2 * u + b.toNat).testBit (w + 1 - 1 - w) = b := by
    rw [show w + 1 - 1 - w = 0 by omega, Nat.testBit_zero]
    cases b <;> simp <;> omega
  rw [e0]
  congr 1
  unfold bitsL bitsTo
  apply List.map_congr_left
  intro j hj
  rw [List.mem_range] at hj
  rw [show w + 1 - 1 - j = (w - 1 - j) + 1 by omega, Nat.testBit_succ]
  congr 1; omega
theorem bitsL_numN (l : List Bool) : bitsL (numN l) l.length = l := by
  refine snoc_ind (P := fun l => bitsL (numN l) l.length = l) (by simp [bitsL, bitsTo]) (fun l b ih => ?_) l
  rw [numN_snoc, List.length_append, List.length_singleton, bitsL_snoc, ih]
theorem numN_testBit (l : List Bool) (q : Nat) (h : q < l.length) : (numN l).testBit q = l.getD (l.length - 1 - q) false := by
  have h1 := bitsL_getD (numN l) l.length (l.length - 1 - q) (by omega)
  rw [bitsL_numN] at h1
  rw [h1]; congr 1; omega
theorem numN_testBit' (l : List Bool) (q : Nat) (h : l.length ≤ q) : (numN l).testBit q = false :=
  Nat.testBit_lt_two_pow (Nat.lt_of_lt_of_le (numN_lt l) (Nat.pow_le_pow_right (by omega) h))
theorem octN_testBit (l : List Bool) (i q : Nat) : (octN l i).testBit q = (decide (q < 8) && l.getD (i + (7 - q)) false) := by
  unfold octN octTo
  by_cases h : q < 8
  · rw [numN_testBit _ q (by simpa using h)]
    simp [h, show 7 - q < 8 by omega]
  · rw [numN_testBit' _ q (by simpa using h)]
    simp [h]
theorem octN_lt (l : List Bool) (i : Nat) : octN l i < 256 := octTo_lt l i 8
/-- One bit more: into the last byte. -/
theorem octN_snoc (l : List Bool) (x : Bool) (j : Nat) (hj : j = l.length / 8) : octN (l ++ [x]) (8 * j) = octN l (8 * j) ||| (x.toNat * 2 ^ (7 - l.length % 8)) := by
  apply Nat.eq_of_testBit_eq
  intro q
  rw [Nat.testBit_or, octN_testBit, octN_testBit, Nat.testBit_mul_two_pow]
  have e : (x.toNat).testBit (q - (7 - l.length % 8)) = (decide (q - (7 - l.length % 8) = 0) && x) := by
    cases x
    · simp
    · simp only [Bool.toNat_true, Bool.and_true]
      by_cases h0 : q - (7 - l.length % 8) = 0
      · simp [h0]
      · obtain ⟨m, hm⟩ : ∃ m, q - (7 - l.length % 8) = m + 1 := ⟨_, (Nat.succ_pred_eq_of_pos (by omega)).symm⟩
        rw [hm, Nat.testBit_succ]; simp
  rw [e]
  by_cases h8 : q < 8
  · have h8' : decide (q < 8) = true := by simpa using h8
    rw [h8', Bool.true_and, Bool.true_and]
    simp only [List.getD_eq_getElem?_getD]
    by_cases hlt : 8 * j + (7 - q) < l.length
    · rw [List.getElem?_append_left hlt]
      have : (decide (7 - l.length % 8 ≤ q) && (decide (q - (7 - l.length % 8) = 0) && x)) = false := by
        have : ¬ (7 - l.length % 8 ≤ q ∧ q - (7 - l.length % 8) = 0) := by omega
        cases h1 : decide (7 - l.length % 8 ≤ q) <;> cases h2 : decide (q - (7 - l.length % 8) = 0) <;> simp_all
      rw [this, Bool.or_false]
    · rw [List.getElem?_append_right (by omega), List.getElem?_eq_none (show l.length ≤ 8 * j + (7 - q) by omega)]
      by_cases he : 8 * j + (7 - q) = l.length
      · rw [he, Nat.sub_self]
        have h1 : decide (7 - l.length % 8 ≤ q) = true := by simp; omega
        have h2 : decide (q - (7 - l.length % 8) = 0) = true := by simp; omega
        rw [h1, h2]; simp
      · have h2 : (decide (7 - l.length % 8 ≤ q) && (decide (q - (7 - l.length % 8) = 0) && x)) = false := by
          have : ¬ (7 - l.length % 8 ≤ q) := by omega
          simp [this]
        rw [h2, List.getElem?_eq_none (by simp; omega)]; simp
  · have h8' : decide (q < 8) = false := by simpa using h8
    have h2 : decide (q - (7 - l.length % 8) = 0) = false := by simp; omega
    rw [h8', h2]; simp
theorem octN_old (l : List Bool) (x : Bool) (j : Nat) (hj : j < l.length / 8) : octN (l ++ [x]) (8 * j) = octN l (8 * j) := by
  apply Nat.eq_of_testBit_eq
  intro q
  rw [octN_testBit, octN_testBit]
  by_cases h8 : q < 8
  · simp only [List.getD_eq_getElem?_getD]
    rw [List.getElem?_append_left (by omega)]
  · simp [h8]
theorem octN_new (l : List Bool) (j : Nat) (hj : l.length ≤ 8 * j) : octN l (8 * j) = 0 := by
  apply Nat.eq_of_testBit_eq
  intro q
  rw [octN_testBit, List.getD_eq_getElem?_getD, List.getElem?_eq_none (by omega)]; simp
/-- The bytes with room for one bit more. -/
def roomN (l : List Bool) : List Nat := bytesTo l (l.length / 8 + 1)
theorem roomN_same (l : List Bool) (h : l.length % 8 ≠ 0) : roomN l = bytesN l := by
  unfold roomN bytesN; congr 1; omega
theorem roomN_more (l : List Bool) (h : l.length % 8 = 0) : roomN l = bytesN l ++ [0] := by
  unfold roomN bytesN
  rw [bytesTo_succ, octN_new l _ (by omega)]
  congr 2; omega
theorem roomN_get (l : List Bool) : (roomN l)[l.length / 8]? = some (octN l (8 * (l.length / 8))) := by simp [roomN, bytesTo]
theorem putBit (l : List Bool) (x : Bool) : (roomN l).set (l.length / 8) (octN l (8 * (l.length / 8)) ||| (x.toNat * 2 ^ (7 - l.length % 8))) = bytesN (l ++ [x]) := by
  have hlen : (bytesN (l ++ [x])).length = l.length / 8 + 1 := by rw [bytesN, bytesTo_length, List.length_append, List.length_singleton]; omega
  apply List.ext_getElem?
  intro j
  by_cases hj : j < l.length / 8 + 1
  · have e : (bytesN (l ++ [x]))[j]? = some (octN (l ++ [x]) (8 * j)) := by
      have : j < (l.length + 1 + 7) / 8 := by omega
      simp [bytesN, bytesTo, this]
    rw [e, List.getElem?_set]
    by_cases h : l.length / 8 = j
    · rw [if_pos h, if_pos (by simp [roomN, bytesTo_length]), ← h, octN_snoc l x _ rfl]
    · rw [if_neg h]
      simp only [roomN, bytesTo, List.getElem?_map, List.getElem?_range hj, Option.map_some]
      rw [octN_old l x j (by omega)]
  · rw [List.getElem?_eq_none (by rw [List.length_set, roomN, bytesTo_length]; omega), List.getElem?_eq_none (by omega)]
theorem put_val (o u m s : Nat) (ho : o < 256) (hu : u < 18446744073709551616) (hs : s ≤ 7) :
    bits .or .u8 (o : Int) (bits .and .u64 ((u : Int) / 2 ^ m) 1 % 256 * 2 ^ s % 256) = ((o ||| ((u.testBit m).toNat * 2 ^ s) : Nat) : Int) := by
  have e1 : (u : Int) / 2 ^ m = ((u / 2 ^ m : Nat) : Int) := by rw [Int.natCast_ediv, Int.natCast_pow]; rfl
  have hd := Nat.div_le_self u (2 ^ m)
  have e2 : bits .and .u64 ((u / 2 ^ m : Nat) : Int) 1 = (((u.testBit m).toNat : Nat) : Int) := by
    rw [Nat.testBit_eq_decide_div_mod_eq]
    generalize u / 2 ^ m = q at *
    rw [u64_and1 _ (by omega) (by omega)]
    have h2 : q % 2 = 0 ∨ q % 2 = 1 := by omega
    rcases h2 with h2 | h2 <;> simp [h2] <;> omega
  have hb : (u.testBit m).toNat ≤ 1 := by cases u.testBit m <;> simp
  rw [e1, e2]
  generalize (u.testBit m).toNat = x at *
  have hp : 2 ^ s ≤ 128 := Nat.le_trans (Nat.pow_le_pow_right (by omega) hs) (by decide)
  have hx : x * 2 ^ s ≤ 128 := Nat.le_trans (Nat.mul_le_mul_right _ hb) (by omega)
  have e3 : (x : Int) % 256 * 2 ^ s % 256 = ((x * 2 ^ s : Nat) : Int) := by
    have : (x : Int) % 256 = (x : Int) := by omega
    rw [this, Int.natCast_mul, Int.natCast_pow, Int.emod_eq_of_lt]
    · rfl
    · exact Int.mul_nonneg (by omega) (Int.le_of_lt (Int.pow_pos (by decide)))
    · have h := congrArg (Nat.cast (R := Int)) (rfl : x * 2 ^ s = x * 2 ^ s)
      rw [Int.natCast_mul, Int.natCast_pow] at h
      have : ((x * 2 ^ s : Nat) : Int) ≤ 128 := by omega
      rw [Int.natCast_mul, Int.natCast_pow] at this
      exact Int.lt_of_le_of_lt this (by decide)
  rw [e3]
  exact u8_or_nat o (x * 2 ^ s) ho (by omega)
theorem ofN_get (b : List Nat) (i : Nat) (h : i < 8 * b.length) : ∃ x, b[i / 8]? = some x ∧ (ofN b)[i]? = some (x.testBit (7 - i % 8)) := by
  induction b generalizing i with
  | nil => simp at h
  | cons y t ih =>
    simp only [List.length_cons] at h
    by_cases h8 : i < 8
    · refine ⟨y, by rw [show i / 8 = 0 by omega]; rfl, ?_⟩
      rw [ofN, List.flatMap_cons, List.getElem?_append_left (by rw [bitsL_length]; exact h8), bitsL_get y 8 i h8]
      congr 2; omega
    · obtain ⟨x, h1, h2⟩ := ih (i - 8) (by omega)
      refine ⟨x, ?_, ?_⟩
      · rw [show i / 8 = (i - 8) / 8 + 1 by omega]; simpa using h1
      · rw [ofN, List.flatMap_cons, List.getElem?_append_right (by rw [bitsL_length]; omega), bitsL_length]
        rw [show i % 8 = (i - 8) % 8 by omega]; exact h2
/-- So many bits from a place on. -/
def cutB (l : List Bool) (i k : Nat) : List Bool := (l.drop i).take k
theorem cutB_length (l : List Bool) (i k : Nat) (h : i + k ≤ l.length) : (cutB l i k).length = k := by simp [cutB]; omega
theorem cutB_succ (l : List Bool) (i k : Nat) (x : Bool) (h : l[i + k]? = some x) : cutB l i (k + 1) = cutB l i k ++ [x] := by
  rw [cutB, List.take_add_one, List.getElem?_drop, h]; rfl
theorem get_val (U b s : Nat) (hU : U < 9223372036854775808) (hb : b < 256) :
    bits .or .u64 ((U : Int) * 2) (IntKind.u64.wrap (bits .and .u8 ((b : Int) / 2 ^ s) 1)) = ((2 * U + (b.testBit s).toNat : Nat) : Int) := by
  have e1 : (b : Int) / 2 ^ s = ((b / 2 ^ s : Nat) : Int) := by rw [Int.natCast_ediv, Int.natCast_pow]; rfl
  have hd := Nat.div_le_self b (2 ^ s)
  have e2 : bits .and .u8 ((b / 2 ^ s : Nat) : Int) 1 = (((b.testBit s).toNat : Nat) : Int) := by
    rw [Nat.testBit_eq_decide_div_mod_eq]
    generalize b / 2 ^ s = q at *
    have := u8_and_nat q 1 (by omega) (by omega)
    rw [show ((1 : Nat) : Int) = 1 from rfl] at this
    rw [this, Nat.and_one_is_mod]
    have h2 : q % 2 = 0 ∨ q % 2 = 1 := by omega
    rcases h2 with h2 | h2 <;> simp [h2]
  have hx : (b.testBit s).toNat ≤ 1 := by cases b.testBit s <;> simp
  rw [e1, e2, u64_wrap_nat _ (by omega)]
  generalize (b.testBit s).toNat = x at *
  have e3 : (U : Int) * 2 = ((2 * U : Nat) : Int) := by omega
  rw [e3, u64_or_nat (2 * U) x (by omega) (by omega), nat_join 1 (2 * U) x (by omega) (by omega)]
end Go.Proofs.Ytajjmlbhagiicaa
/- Plain law, no program in sight: eight bytes have every number. -/
namespace Go.Proofs.Ytajjmlbhagiicaa
open Go.RowKit
theorem numN_app (a b : List Bool) : numN (a ++ b) = numN a * 2 ^ b.length + numN b := by
  induction b using snoc_ind with
  | h0 => simp [numN]
  | h1 l x ih =>
    rw [← List.append_assoc, numN_snoc, ih, numN_snoc, List.length_append, List.length_singleton, Nat.pow_succ]
    have : numN a * (2 ^ l.length * 2) = 2 * (numN a * 2 ^ l.length) := by rw [← Nat.mul_assoc, Nat.mul_comm]
    rw [this]; omega
theorem num8 (b0 b1 b2 b3 b4 b5 b6 b7 : Nat) (h0 : b0 < 256) (h1 : b1 < 256) (h2 : b2 < 256) (h3 : b3 < 256) (h4 : b4 < 256) (h5 : b5 < 256) (h6 : b6 < 256) (h7 : b7 < 256) :
    numN (ofN [b0, b1, b2, b3, b4, b5, b6, b7]) = ((((((b0 * 256 + b1) * 256 + b2) * 256 + b3) * 256 + b4) * 256 + b5) * 256 + b6) * 256 + b7 := by
  have e : ∀ x < 256, numN (bitsL x 8) = x := fun x hx => numN_bitsL x 8 hx
  have e2 : ∀ (l : List Bool) (x : Nat), x < 256 → numN (l ++ bitsL x 8) = numN l * 256 + x := fun l x hx => by
    rw [numN_app, bitsL_length, e x hx]
  have e3 : ofN [b0, b1, b2, b3, b4, b5, b6, b7] = ((((((bitsL b0 8 ++ bitsL b1 8) ++ bitsL b2 8) ++ bitsL b3 8) ++ bitsL b4 8) ++ bitsL b5 8) ++ bitsL b6 8) ++ bitsL b7 8 := by
    simp [ofN]
  rw [e3, e2 _ _ h7, e2 _ _ h6, e2 _ _ h5, e2 _ _ h4, e2 _ _ h3, e2 _ _ h2, e2 _ _ h1, e _ h0]
theorem of8_u64 (b0 b1 b2 b3 b4 b5 b6 b7 : Nat) (h0 : b0 < 256) (h1 : b1 < 256) (h2 : b2 < 256) (h3 : b3 < 256) (h4 : b4 < 256) (h5 : b5 < 256) (h6 : b6 < 256) (h7 : b7 < 256) :
    IntKind.u64.wrap (of8I b0 b1 b2 b3 b4 b5 b6 b7) = (numN (ofN [b0, b1, b2, b3, b4, b5, b6, b7]) : Int) := by
  rw [num8 _ _ _ _ _ _ _ _ h0 h1 h2 h3 h4 h5 h6 h7]
  unfold of8I
  have e : ((((((((b0 : Int) * 256 + b1) * 256 + b2) * 256 + b3) * 256 + b4) * 256 + b5) * 256 + b6) * 256 + b7) = (((((((((b0 * 256 + b1) * 256 + b2) * 256 + b3) * 256 + b4) * 256 + b5) * 256 + b6) * 256 + b7) : Nat) : Int) := by omega
  rw [e]
  have hb : ((((((b0 * 256 + b1) * 256 + b2) * 256 + b3) * 256 + b4) * 256 + b5) * 256 + b6) * 256 + b7 < 18446744073709551616 := by omega
  generalize ((((((b0 * 256 + b1) * 256 + b2) * 256 + b3) * 256 + b4) * 256 + b5) * 256 + b6) * 256 + b7 = X at *
  by_cases hX : X < 9223372036854775808
  · rw [wrap64_in' _ (by omega) (by omega), u64_wrap_nat _ hb]
  · rw [show wrap64 (X : Int) = (X : Int) - 18446744073709551616 by unfold wrap64; omega]
    have := u64_wrap_nat X hb
    rw [← this]
    show _ % _ = _ % _
    have e2 : ((2 : Int) ^ IntKind.u64.bits) = 18446744073709551616 := by decide
    rw [e2]; omega
theorem byte_of8 (b0 b1 b2 b3 b4 b5 b6 b7 : Nat) (h0 : b0 < 256) (h1 : b1 < 256) (h2 : b2 < 256) (h3 : b3 < 256) (h4 : b4 < 256) (h5 : b5 < 256) (h6 : b6 < 256) (h7 : b7 < 256) :
    byteI (of8I b0 b1 b2 b3 b4 b5 b6 b7) 0 = b0 ∧ byteI (of8I b0 b1 b2 b3 b4 b5 b6 b7) 1 = b1 ∧ byteI (of8I b0 b1 b2 b3 b4 b5 b6 b7) 2 = b2 ∧ byteI (of8I b0 b1 b2 b3 b4 b5 b6 b7) 3 = b3 ∧
    byteI (of8I b0 b1 b2 b3 b4 b5 b6 b7) 4 = b4 ∧ byteI (of8I b0 b1 b2 b3 b4 b5 b6 b7) 5 = b5 ∧ byteI (of8I b0 b1 b2 b3 b4 b5 b6 b7) 6 = b6 ∧ byteI (of8I b0 b1 b2 b3 b4 b5 b6 b7) 7 = b7 := by
  unfold byteI of8I wrap64
  simp only [Nat.reduceMul, Nat.reduceSub, Int.reducePow]
  omega
theorem of8_byte (n : Int) (h1 : -9223372036854775808 ≤ n) (h2 : n ≤ 9223372036854775807) :
    of8I (byteI n 0) (byteI n 1) (byteI n 2) (byteI n 3) (byteI n 4) (byteI n 5) (byteI n 6) (byteI n 7) = n := by
  unfold byteI of8I wrap64
  simp only [Nat.reduceMul, Nat.reduceSub, Int.reducePow]
  omega
theorem byteI_bd (n : Int) (i : Nat) : 0 ≤ byteI n i ∧ byteI n i < 256 := by unfold byteI; omega
end Go.Proofs.Ytajjmlbhagiicaa
/- Plain law, no program in sight: bits turned round. -/
namespace Go.Proofs.Ytajjmlbhagiicaa
open Go.RowKit
def turnN (u k : Nat) : Nat := numN ((bitsL u 32).drop k ++ (bitsL u 32).take k)
theorem turn_len (u k : Nat) (h : k < 32) : ((bitsL u 32).drop k ++ (bitsL u 32).take k).length = 32 := by simp [bitsL_length]; omega
theorem turnN_lt (u k : Nat) (h : k < 32) : turnN u k < 4294967296 := by
  have := numN_lt ((bitsL u 32).drop k ++ (bitsL u 32).take k)
  rw [turn_len u k h] at this; exact this
theorem turnN_bits (u k : Nat) (h : k < 32) : bitsL (turnN u k) 32 = (bitsL u 32).drop k ++ (bitsL u 32).take k := by
  have := bitsL_numN ((bitsL u 32).drop k ++ (bitsL u 32).take k)
  rw [turn_len u k h] at this; exact this
theorem turnN_bit (u k j : Nat) (hk : k < 32) (hj : j < 32) : (turnN u k).testBit (31 - j) = u.testBit (31 - (j + k) % 32) := by
  have h := bitsL_get (turnN u k) 32 j hj
  rw [turnN_bits u k hk] at h
  by_cases hjk : j < 32 - k
  · rw [List.getElem?_append_left (by simp [bitsL_length]; omega), List.getElem?_drop, bitsL_get u 32 _ (by omega)] at h
    injection h with h
    rw [show 31 - j = 32 - 1 - j by omega, ← h]; congr 1; omega
  · rw [List.getElem?_append_right (by simp [bitsL_length]; omega), List.getElem?_take, List.length_drop, bitsL_length, if_pos (by omega), bitsL_get u 32 _ (by omega)] at h
    injection h with h
    rw [show 31 - j = 32 - 1 - j by omega, ← h]; congr 1; omega
theorem eq32 {a b : Nat} (ha : a < 4294967296) (hb : b < 4294967296) (h : ∀ j, j < 32 → a.testBit (31 - j) = b.testBit (31 - j)) : a = b := by
  apply Nat.eq_of_testBit_eq
  intro q
  by_cases hq : q < 32
  · have := h (31 - q) (by omega)
    rwa [show 31 - (31 - q) = q by omega] at this
  · rw [Nat.testBit_lt_two_pow (Nat.lt_of_lt_of_le ha (show 4294967296 ≤ 2 ^ q from Nat.le_trans (by decide : 4294967296 ≤ 2 ^ 32) (Nat.pow_le_pow_right (by omega) (by omega)))),
      Nat.testBit_lt_two_pow (Nat.lt_of_lt_of_le hb (show 4294967296 ≤ 2 ^ q from Nat.le_trans (by decide : 4294967296 ≤ 2 ^ 32) (Nat.pow_le_pow_right (by omega) (by omega))))]
theorem turnN_turnN (u a b : Nat) (ha : a < 32) (hb : b < 32) : turnN (turnN u a) b = turnN u ((a + b) % 32) := by
  refine eq32 (turnN_lt _ _ hb) (turnN_lt _ _ (Nat.mod_lt _ (by omega))) fun j hj => ?_
  have hm : (j + b) % 32 < 32 := Nat.mod_lt _ (by omega)
  rw [turnN_bit _ b j hb hj, turnN_bit u a _ ha hm, turnN_bit u _ j (Nat.mod_lt _ (by omega)) hj]
  congr 1; omega
theorem turnI_N (u : Nat) (b : Int) (hu : u < 4294967296) : turnI u b = (turnN u (b % 32).toNat : Int) :=
  (turn_num u b (b % 32).toNat hu (by omega) (by omega)).symm
theorem turn_turn (u : Nat) (a b : Int) (hu : u < 4294967296) : turnI (turnI u a) b = turnI u (a + b) := by
  have h1 := turnN_lt u (a % 32).toNat (by omega)
  rw [turnI_N u a hu, turnI_N _ b h1, turnI_N u (a + b) hu, turnN_turnN u _ _ (by omega) (by omega)]
  congr 2; omega
theorem turn_congr (u a b : Int) (h : a % 32 = b % 32) : turnI u a = turnI u b := by rw [turnI, turnI, h]
theorem turn_nought (u b : Int) (h0 : 0 ≤ u) (h1 : u < 4294967296) (h : b % 32 = 0) : turnI u b = u := by
  rw [turnI, h]; simp; omega
theorem cnt_bits (m : Nat) : cnt m 32 = (bitsL m 32).countP id := by
  have e : (bitsL m 32).reverse = (List.range 32).map m.testBit := by
    apply List.ext_getElem?
    intro j
    by_cases hj : j < 32
    · rw [List.getElem?_reverse (by rw [bitsL_length]; exact hj), bitsL_length, bitsL_get _ _ _ (by omega)]
      simp only [List.getElem?_map, List.getElem?_range hj, Option.map_some]
      congr 2; omega
    · rw [List.getElem?_eq_none (by simp [bitsL_length]; omega), List.getElem?_eq_none (by simp; omega)]
  rw [← List.countP_reverse, e, List.countP_map, cnt, ← List.countP_eq_length_filter]; rfl
theorem cnt_turn (u k : Nat) (hk : k < 32) : cnt (turnN u k) 32 = cnt u 32 := by
  rw [cnt_bits, cnt_bits, turnN_bits u k hk, List.countP_append]
  conv => rhs; rw [← List.take_append_drop k (bitsL u 32), List.countP_append]
  omega
theorem u32_bit (u k : Nat) (hu : u < 4294967296) : bits .and .u32 ((u : Int) / 2 ^ k) 1 = (((u.testBit k).toNat : Nat) : Int) := by
  have e1 : (u : Int) / 2 ^ k = ((u / 2 ^ k : Nat) : Int) := by rw [Int.natCast_ediv, Int.natCast_pow]; rfl
  have hd := Nat.div_le_self u (2 ^ k)
  rw [e1, Nat.testBit_eq_decide_div_mod_eq]
  generalize u / 2 ^ k = q at *
  have := u32_and_nat q 1 (by omega) (by omega)
  rw [show ((1 : Nat) : Int) = 1 from rfl] at this
  rw [this, Nat.and_one_is_mod]
  have h2 : q % 2 = 0 ∨ q % 2 = 1 := by omega
  rcases h2 with h2 | h2 <;> simp [h2]
end Go.Proofs.Ytajjmlbhagiicaa
/- Plain law, no program in sight: bits to bytes and back; one field as two. -/
namespace Go.Proofs.Ytajjmlbhagiicaa
open Go.RowKit

theorem bytesN_len (l : List Bool) : (bytesN l).length = (l.length + 7) / 8 := by rw [bytesN, bytesTo_length]
theorem ofN_len8 (b : List Nat) : (ofN b).length = 8 * b.length := by
  induction b with
  | nil => rfl
  | cons x b ih =>
    show (bitsL x 8 ++ ofN b).length = _
    rw [List.length_append, ih, bitsL_length, List.length_cons]; omega
theorem bytesN_lt (l : List Bool) : ∀ x ∈ bytesN l, x < 256 := by
  intro x hx
  unfold bytesN bytesTo at hx
  obtain ⟨j, _, rfl⟩ := List.mem_map.1 hx
  exact octN_lt _ _
/-- What was written is read. -/
theorem ofN_bytesN (l : List Bool) (i : Nat) (h : i < l.length) : (ofN (bytesN l))[i]? = l[i]? := by
  obtain ⟨x, h1, h2⟩ := ofN_get (bytesN l) i (by rw [bytesN_len]; omega)
  have e : (bytesN l)[i / 8]? = some (octN l (8 * (i / 8))) := by
    have : i / 8 < (l.length + 7) / 8 := by omega
    simp [bytesN, bytesTo, this]
  rw [e] at h1
  rw [h2, ← Option.some.inj h1, octN_testBit, show decide (7 - i % 8 < 8) = true by (simp; omega), Bool.true_and, show 8 * (i / 8) + (7 - (7 - i % 8)) = i by omega, List.getD_eq_getElem?_getD, List.getElem?_eq_getElem h]; rfl
theorem cut_bytes (l : List Bool) (a k : Nat) (h : a + k ≤ l.length) : cutB (ofN (bytesN l)) a k = cutB l a k := by
  apply List.ext_getElem?
  intro j
  unfold cutB
  rw [List.getElem?_take, List.getElem?_take]
  by_cases hj : j < k
  · rw [if_pos hj, if_pos hj, List.getElem?_drop, List.getElem?_drop, ofN_bytesN l (a + j) (by omega)]
  · rw [if_neg hj, if_neg hj]
theorem cut_app (a b : List Bool) : cutB (a ++ b) 0 a.length = a ∧ cutB (a ++ b) a.length b.length = b := by
  constructor
  · simp [cutB]
  · simp [cutB]
/-- One field as two. -/
theorem bitsL_split (x k c : Nat) (h : c ≤ k) : bitsL x k = bitsL (x / 2 ^ c) (k - c) ++ bitsL (x % 2 ^ c) c := by
  apply List.ext_getElem?
  intro j
  by_cases hj : j < k
  · rw [bitsL_get x k j hj]
    by_cases h2 : j < k - c
    · rw [List.getElem?_append_left (by rw [bitsL_length]; exact h2), bitsL_get _ _ _ h2, Nat.testBit_div_two_pow]
      congr 2; omega
    · rw [List.getElem?_append_right (by rw [bitsL_length]; omega), bitsL_length, bitsL_get _ _ _ (by omega), Nat.testBit_mod_two_pow, show decide (c - 1 - (j - (k - c)) < c) = true by (simp; omega), Bool.true_and]
      congr 2; omega
  · rw [List.getElem?_eq_none (by rw [bitsL_length]; omega), List.getElem?_eq_none (by rw [List.length_append, bitsL_length, bitsL_length]; omega)]
end Go.Proofs.Ytajjmlbhagiicaa
