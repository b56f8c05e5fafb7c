import Derived.Test.YtlahcmldbgeifaaPlainLine
/- Plain law, no program in sight: bytes in which bits were turned. -/
namespace Go.Proofs.Ytlahcmldbgeifaa
open Go.RowKit

def flipAt (l : List Nat) (i : Nat) : List Nat := l.set (i / 8) (l.getD (i / 8) 0 ^^^ 2 ^ (7 - i % 8))
def flips (l : List Nat) (at_ turn : Nat) : Nat → List Nat
  | 0 => l
  | k + 1 => if turn.testBit k then flipAt (flips l at_ turn k) (at_ + k) else flips l at_ turn k
def turnedTo (turn : Nat) : Nat → Bool
  | 0 => false
  | k + 1 => turn.testBit k || turnedTo turn k
def bitAt (l : List Nat) (i : Nat) : Bool := (l.getD (i / 8) 0).testBit (7 - i % 8)
theorem flipAt_length (l : List Nat) (i : Nat) : (flipAt l i).length = l.length := by simp [flipAt]
theorem flips_length (l : List Nat) (a t k : Nat) : (flips l a t k).length = l.length := by
  induction k with
  | zero => rfl
  | succ k ih => rw [flips]; split
                 · rw [flipAt_length, ih]
                 · exact ih
theorem getD_lt' (l : List Nat) (hb : ∀ x ∈ l, x < 256) (j : Nat) : l.getD j 0 < 256 := by
  rw [List.getD_eq_getElem?_getD]
  by_cases h : j < l.length
  · rw [List.getElem?_eq_getElem h]; exact hb _ (List.getElem_mem _)
  · rw [List.getElem?_eq_none (by omega)]; decide
theorem flipAt_byte (l : List Nat) (i : Nat) (hb : ∀ x ∈ l, x < 256) : ∀ x ∈ flipAt l i, x < 256 := by
  intro x hx
  rcases List.mem_or_eq_of_mem_set hx with h | rfl
  · exact hb x h
  · exact Nat.xor_lt_two_pow (n := 8) (getD_lt' l hb _) (Nat.pow_lt_pow_right (by decide) (by omega))
theorem flips_byte (l : List Nat) (a t k : Nat) (hb : ∀ x ∈ l, x < 256) : ∀ x ∈ flips l a t k, x < 256 := by
  induction k with
  | zero => exact hb
  | succ k ih => rw [flips]; split
                 · exact flipAt_byte _ _ ih
                 · exact ih
theorem bitAt_flip (l : List Nat) (i j : Nat) (hi : i < 8 * l.length) : bitAt (flipAt l i) j = (bitAt l j != decide (j = i)) := by
  unfold bitAt flipAt
  simp only [List.getD_eq_getElem?_getD]
  rw [List.getElem?_set]
  by_cases h : i / 8 = j / 8
  · rw [if_pos h, if_pos (by omega), ← h, Option.getD_some, Nat.testBit_xor, Nat.testBit_two_pow]
    congr 1
    rw [decide_eq_decide]; omega
  · rw [if_neg h, show decide (j = i) = false by (simp; intro e; subst e; exact h rfl)]; cases ((l[j / 8]?.getD 0).testBit (7 - j % 8)) <;> rfl
theorem bitAt_flips (l : List Nat) (a t k j : Nat) (hk : a + k ≤ 8 * l.length) : bitAt (flips l a t k) j = (bitAt l j != ((decide (a ≤ j) && decide (j < a + k)) && t.testBit (j - a))) := by
  induction k with
  | zero =>
    rw [flips, show (decide (a ≤ j) && decide (j < a + 0)) = false by simp]; simp
  | succ k ih =>
    have ih := ih (by omega)
    rw [flips]
    by_cases e : j = a + k
    · have h1 : (decide (a ≤ j) && decide (j < a + k)) = false := by simp; omega
      have h2 : (decide (a ≤ j) && decide (j < a + (k + 1))) = true := by simp; omega
      rw [h1] at ih
      rw [h2, show j - a = k by omega]
      cases ht : t.testBit k with
      | true => rw [if_pos rfl, bitAt_flip _ _ _ (by rw [flips_length]; omega), ih, show decide (j = a + k) = true by simpa using e]; simp
      | false => rw [if_neg (by simp), ih]; simp
    · have h2 : (decide (a ≤ j) && decide (j < a + (k + 1))) = (decide (a ≤ j) && decide (j < a + k)) := by
        congr 1
        rw [decide_eq_decide]; omega
      rw [h2, ← ih]
      split
      · rw [bitAt_flip _ _ _ (by rw [flips_length]; omega), show decide (j = a + k) = false by simpa using e]; simp
      · rfl
theorem bitAt_over (a b : List Nat) (j : Nat) (h : a.length = b.length) (hj : j < 8 * a.length) : bitAt (over a b) j = (bitAt a j != bitAt b j) := by
  unfold bitAt over
  simp only [List.getD_eq_getElem?_getD]
  rw [List.getElem?_zipWith, List.getElem?_eq_getElem (show j / 8 < a.length by omega), List.getElem?_eq_getElem (show j / 8 < b.length by omega)]
  simp [Nat.testBit_xor]
theorem ofN_bitAt (b : List Nat) (i : Nat) (h : i < 8 * b.length) : (ofN b)[i]? = some (bitAt b i) := by
  obtain ⟨x, h1, h2⟩ := ofN_get b i h
  rw [h2, bitAt, List.getD_eq_getElem?_getD, h1]; rfl
theorem turned_iff (t k : Nat) : turnedTo t k = true ↔ ∃ j, j < k ∧ t.testBit j = true := by
  induction k with
  | zero => simp [turnedTo]
  | succ k ih =>
    rw [turnedTo, Bool.or_eq_true, ih]
    constructor
    · rintro (h | ⟨j, h1, h2⟩)
      · exact ⟨k, by omega, h⟩
      · exact ⟨j, by omega, h2⟩
    · rintro ⟨j, h1, h2⟩
      by_cases e : j = k
      · subst e; exact .inl h2
      · exact .inr ⟨j, by omega, h2⟩
theorem flips_same (l : List Nat) (a t k : Nat) (h : turnedTo t k = false) : flips l a t k = l := by
  induction k with
  | zero => rfl
  | succ k ih =>
    rw [turnedTo, Bool.or_eq_false_iff] at h
    rw [flips, h.1, if_neg (by simp), ih h.2]
theorem ofN_len (b : List Nat) : (ofN b).length = 8 * b.length := by
  induction b with
  | nil => rfl
  | cons x b ih =>
    show (bitsL x 8 ++ ofN b).length = _
    rw [List.length_append, ih, bitsL_length, List.length_cons]; omega
theorem kof_flips (l : List Nat) (a t k : Nat) (hb : ∀ x ∈ l, x < 256) (hk : a + k ≤ 8 * l.length) (h32 : k ≤ 32) : (kof l != kof (flips l a t k)) = turnedTo t k := by
  cases ht : turnedTo t k with
  | false => rw [flips_same l a t k ht]; simp
  | true =>
    obtain ⟨j, hj, hjt⟩ := (turned_iff t k).1 ht
    have hl := flips_length l a t k
    have e := kof_two l (flips l a t k) hl.symm
    have hlo : (over l (flips l a t k)).length = l.length := over_length _ _ hl.symm
    have hbo : ∀ x ∈ over l (flips l a t k), x < 256 := by
      intro x hx
      obtain ⟨i, hi, rfl⟩ := List.getElem_of_mem hx
      simp only [over, List.getElem_zipWith]
      exact Nat.xor_lt_two_pow (n := 8) (hb _ (List.getElem_mem _)) (flips_byte l a t k hb _ (List.getElem_mem _))
    rw [ksum_feed _ _ hbo] at e
    have hof : ofN (over l (flips l a t k)) = List.replicate a false ++ ((List.range k).map t.testBit ++ List.replicate (8 * l.length - a - k) false) := by
      apply List.ext_getElem?
      intro i
      by_cases hi : i < 8 * l.length
      · rw [ofN_bitAt _ i (by omega), bitAt_over _ _ _ hl.symm hi, bitAt_flips l a t k i hk]
        by_cases h1 : i < a
        · rw [List.getElem?_append_left (by simpa using h1), List.getElem?_replicate, if_pos h1, show decide (a ≤ i) = false by (simp; omega)]; simp
        · rw [List.getElem?_append_right (by simp; omega), List.length_replicate]
          by_cases h2 : i < a + k
          · rw [List.getElem?_append_left (by simp; omega), List.getElem?_map, List.getElem?_range (by omega), show decide (a ≤ i) = true by (simp; omega), show decide (i < a + k) = true by simpa using h2]
            cases bitAt l i <;> simp
          · rw [List.getElem?_append_right (by simp; omega), List.getElem?_replicate, if_pos (by simp; omega), show decide (i < a + k) = false by (simp; omega)]; simp
      · rw [List.getElem?_eq_none (by rw [ofN_len]; omega), List.getElem?_eq_none (by simp; omega)]
    have hne := kfeed_burst a (8 * l.length - a - k) ((List.range k).map t.testBit) (by simpa using h32) (List.mem_map.2 ⟨j, List.mem_range.2 hj, hjt⟩)
    rw [← hof, ← e] at hne
    rw [bne_iff_ne]
    intro h
    rw [h, Nat.xor_self] at hne
    exact hne rfl
end Go.Proofs.Ytlahcmldbgeifaa
