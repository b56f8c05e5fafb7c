import Derived.Test.YtlahcmldbgeifaaPlainZig
import Derived.Test.YtlahcmldbgeifaaBase
/- Plain law, no program in sight: lists of bits. -/
namespace Go.Proofs.Ytlahcmldbgeifaa
open Go.RowKit

theorem snoc_ind {α : Type} {P : List α → Prop} (h0 : P []) (h1 : ∀ l a, P l → P (l ++ [a])) (l : List α) : P l := by
  rw [← List.reverse_reverse l]
  induction l.reverse with
  | nil => simpa using h0
  | cons a t ih => simpa using h1 _ a ih
def powI (n : Int) : Int := 2 ^ n.toNat
theorem powI_pos (n : Int) : 1 ≤ powI n := by
  have : (0 : Int) < 2 ^ n.toNat := Int.pow_pos (by decide)
  unfold powI; omega
theorem powI_step (k : Nat) (h : k < 63) : IntKind.u64.wrap (powI k * 2) = powI ((k : Int) + 1) := by
  have hle : (2 : Nat) ^ (k + 1) ≤ 2 ^ 63 := Nat.pow_le_pow_right (by omega) (by omega)
  have e2 : powI k * 2 = ((2 ^ (k + 1) : Nat) : Int) := by
    rw [Nat.pow_succ, Int.natCast_mul, Int.natCast_pow]; rfl
  have e3 : powI ((k : Int) + 1) = ((2 ^ (k + 1) : Nat) : Int) := by rw [Int.natCast_pow]; rfl
  rw [e2, e3]; exact u64_wrap_nat _ (by omega)
theorem bit_div (u : Nat) (i : Int) (hu : u < 18446744073709551616) : IntKind.u64.wrap ((u : Int) / powI i) = (u : Int) / powI i := by
  have e : (u : Int) / powI i = ((u / 2 ^ i.toNat : Nat) : Int) := by rw [Int.natCast_ediv, Int.natCast_pow]; rfl
  have := Nat.div_le_self u (2 ^ i.toNat)
  rw [e]; exact u64_wrap_nat _ (by omega)
theorem bit_div0 (u : Nat) (i : Int) : 0 ≤ (u : Int) / powI i := Int.ediv_nonneg (by omega) (by have := powI_pos i; omega)
/-- The first k of a number's lowest w bits, the highest first. -/
def bitsTo (u w k : Nat) : List Bool := (List.range k).map fun j => u.testBit (w - 1 - j)
def bitsL (u w : Nat) : List Bool := bitsTo u w w
theorem bitsTo_length (u w k : Nat) : (bitsTo u w k).length = k := by simp [bitsTo]
theorem bitsL_length (u w : Nat) : (bitsL u w).length = w := bitsTo_length u w w
theorem bitsTo_succ (u w k : Nat) : bitsTo u w (k + 1) = bitsTo u w k ++ [u.testBit (w - 1 - k)] := by simp [bitsTo, List.range_succ]
theorem bit_form (u : Nat) (i : Int) : ((u : Int) / powI i % 2 == 1) = u.testBit i.toNat := by
  have e : (u : Int) / powI i % 2 = ((u / 2 ^ i.toNat % 2 : Nat) : Int) := by
    rw [Int.natCast_emod, Int.natCast_ediv, Int.natCast_pow]; rfl
  rw [e, Nat.testBit_eq_decide_div_mod_eq]
  have h2 : u / 2 ^ i.toNat % 2 = 0 ∨ u / 2 ^ i.toNat % 2 = 1 := by omega
  rcases h2 with h2 | h2 <;> simp [h2]
theorem bitsTo_snoc (u W k : Nat) (h : k < W) : bools (bitsTo u W (k + 1)) = bools (bitsTo u W k) ++ [.bool ((u : Int) / powI ((W : Int) - 1 - k) % 2 == 1)] := by
  rw [bitsTo_succ, bit_form, show ((W : Int) - 1 - k).toNat = W - 1 - k by omega]
  simp [bools]
/-- A number of bits. -/
def numN : List Bool → Nat := List.foldl (fun n b => 2 * n + b.toNat) 0
theorem numN_snoc (l : List Bool) (b : Bool) : numN (l ++ [b]) = 2 * numN l + b.toNat := by simp [numN, List.foldl_append]
theorem numN_lt (l : List Bool) : numN l < 2 ^ l.length := by
  refine snoc_ind (P := fun l => numN l < 2 ^ l.length) (by simp [numN]) (fun l b ih => ?_) l
  rw [numN_snoc, List.length_append, List.length_singleton, Nat.pow_succ]
  have : b.toNat ≤ 1 := by cases b <;> simp
  omega
def numTo (l : List Bool) (k : Nat) : Nat := numN (l.take k)
theorem numTo_zero (l : List Bool) : numTo l 0 = 0 := by simp [numTo, numN]
theorem numTo_all (l : List Bool) (k : Nat) (h : l.length = k) : numTo l k = numN l := by rw [numTo, List.take_of_length_le (by omega)]
theorem take_snoc' {α : Type} (l : List α) (k : Nat) (h : k < l.length) : l.take (k + 1) = l.take k ++ [l[k]] := by
  rw [List.take_add_one, List.getElem?_eq_getElem h]; rfl
theorem numTo_succ (l : List Bool) (k : Nat) (h : k < l.length) : numTo l (k + 1) = 2 * numTo l k + (l[k]).toNat := by
  rw [numTo, take_snoc' l k h, numN_snoc, numTo]
theorem numTo_lt (l : List Bool) (k : Nat) : numTo l k < 2 ^ k := by
  have h := numN_lt (l.take k)
  have : (l.take k).length ≤ k := List.length_take_le _ _
  exact Nat.lt_of_lt_of_le h (Nat.pow_le_pow_right (by omega) this)
theorem numTo_lt63 (l : List Bool) (k : Nat) (h : k < 64) : numTo l k < 9223372036854775808 :=
  Nat.lt_of_lt_of_le (numTo_lt l k) (Nat.le_trans (Nat.pow_le_pow_right (by omega) (show k ≤ 63 by omega)) (by decide))

/-- A byte of eight bits of a list, from a place on; noughts behind the last. -/
def octTo (l : List Bool) (i k : Nat) : Nat := numN ((List.range k).map fun j => l.getD (i + j) false)
def octN (l : List Bool) (i : Nat) : Nat := octTo l i 8
theorem octTo_succ (l : List Bool) (i k : Nat) : octTo l i (k + 1) = 2 * octTo l i k + (l.getD (i + k) false).toNat := by
  rw [octTo, List.range_succ, List.map_append, List.map_singleton, numN_snoc, octTo]
theorem octTo_lt (l : List Bool) (i k : Nat) : octTo l i k < 2 ^ k := by
  have h := numN_lt ((List.range k).map fun j => l.getD (i + j) false)
  simpa [octTo] using h
/-- Bits, eight a byte. -/
def bytesTo (l : List Bool) (k : Nat) : List Nat := (List.range k).map fun j => octN l (8 * j)
def bytesN (l : List Bool) : List Nat := bytesTo l ((l.length + 7) / 8)
theorem bytesTo_succ (l : List Bool) (k : Nat) : bytesTo l (k + 1) = bytesTo l k ++ [octN l (8 * k)] := by simp [bytesTo, List.range_succ]
theorem bytesTo_length (l : List Bool) (k : Nat) : (bytesTo l k).length = k := by simp [bytesTo]
/-- The bits of bytes. -/
def ofTo (b : List Nat) (k : Nat) : List Bool := (b.take k).flatMap (bitsL · 8)
def ofN (b : List Nat) : List Bool := b.flatMap (bitsL · 8)
theorem ofTo_succ (b : List Nat) (k : Nat) (h : k < b.length) : ofTo b (k + 1) = ofTo b k ++ bitsL b[k] 8 := by
  rw [ofTo, take_snoc' b k h, List.flatMap_append, List.flatMap_singleton, ofTo]
theorem ofTo_all (b : List Nat) (k : Nat) (h : b.length = k) : ofTo b k = ofN b := by rw [ofTo, List.take_of_length_le (by omega)]; rfl
theorem ofN_length (b : List Nat) : (ofN b).length = 8 * b.length := by
  induction b with
  | nil => simp [ofN]
  | cons x t ih => simp only [ofN, List.flatMap_cons, List.length_append, bitsL_length, List.length_cons] at *; omega
theorem ofTo_length (b : List Nat) (k : Nat) (h : k ≤ b.length) : (ofTo b k).length = 8 * k := by
  have := ofN_length (b.take k)
  rw [List.length_take, Nat.min_eq_left h] at this
  exact this
/-- The first dies of a set. -/
def diesTo (m k : Nat) : List Nat := (List.range k).filter m.testBit
theorem diesTo_succ (m k : Nat) : diesTo m (k + 1) = diesTo m k ++ (if m.testBit k then [k] else []) := by
  simp only [diesTo, List.range_succ, List.filter_append]
  by_cases h : m.testBit k <;> simp [h]
theorem diesTo_length (m k : Nat) : (diesTo m k).length ≤ k := cnt_le m k
theorem die_div (M k : Nat) (hM : M < 256) : wrap64 ((M : Int) / powI k) = (M : Int) / powI k := by
  have e : (M : Int) / powI k = ((M / 2 ^ k : Nat) : Int) := by rw [Int.natCast_ediv, Int.natCast_pow]; rfl
  have := Nat.div_le_self M (2 ^ k)
  rw [e]; generalize M / 2 ^ k = q at *; unfold wrap64; omega
theorem powI_le (k : Nat) (h : k < 8) : powI k ≤ 128 := by
  rcases cases8 (d := k) (by omega) (by omega) with h | h | h | h | h | h | h | h <;> rw [h] <;> decide
theorem dies_find : ∀ M : Fin 256, ∀ k : Fin 8, (match (diesN M.val)[k.val]? with | some D => decide (D < 8) && M.val.testBit D && (cnt M.val D == k.val) | none => true) = true := by decide +kernel
theorem dies_found {M k D : Nat} (hM : M < 256) (h : (diesN M)[k]? = some D) : D < 8 ∧ M.testBit D = true ∧ cnt M D = k := by
  have hk : k < 8 := by
    have := (List.getElem?_eq_some_iff.1 h).1
    have := cnt_le M 8
    rw [dies_length] at *; omega
  have := dies_find ⟨M, hM⟩ ⟨k, hk⟩
  simp only [h, Bool.and_eq_true, decide_eq_true_eq, beq_iff_eq] at this
  exact ⟨this.1.1, this.1.2, this.2⟩
theorem diesL_nat {M : Nat} (hM : M < 256) : diesL M = diesN M := by rw [diesL, setB_of (by omega) (by omega)]; rfl
theorem spot_found {M k : Nat} {d : Int} (hM : M < 256) (h : (diesN M)[k]? = some d.toNat) (hd : 0 ≤ d) : spotI M d = k := by
  obtain ⟨h1, h2, h3⟩ := dies_found hM h
  have : hasB M d = true := by
    simp only [hasB, Bool.and_eq_true, decide_eq_true_eq, setB_of (show 0 ≤ (M : Int) by omega) (show (M : Int) < 256 by omega), Int.toNat_natCast]
    exact ⟨⟨trivial, by omega, by omega⟩, h2⟩
  simp only [spotI, this, if_true, Int.toNat_natCast, h3]
theorem spot_none {M : Nat} {d : Int} (hM : M < 256) (h : ∀ (j D : Nat), (diesN M)[j]? = some D → (D : Int) ≠ d) : spotI M d = -1 := by
  unfold spotI
  split
  · rename_i hh
    simp only [hasB, Bool.and_eq_true, decide_eq_true_eq, Int.toNat_natCast] at hh
    obtain ⟨D, rfl⟩ := Int.eq_ofNat_of_zero_le hh.1.2.1
    exact absurd rfl (h _ D (dies_at ⟨M, hM⟩ ⟨D, by omega⟩ (by simpa using hh.2)))
  · rfl
end Go.Proofs.Ytlahcmldbgeifaa
