import Derived.Test.YtlahcmldbgeifaaPlainTurn
/- Plain law, no program in sight: bits to bytes and back; one field as two. -/
namespace Go.Proofs.Ytlahcmldbgeifaa
open Go.RowKit

theorem bytesN_len (l : List Bool) : (bytesN l).length = (l.length + 7) / 8 := by rw [bytesN, bytesTo_length]
theorem ofN_len8 (b : List Nat) : (ofN b).length = 8 * b.length := by
  induction b with
  | nil => rfl
  | cons x b ih =>
    show (bitsL x 8 ++ ofN b).length = _
    rw [List.length_append, ih, bitsL_length, List.length_cons]; omega
theorem bytesN_lt (l : List Bool) : ∀ x ∈ bytesN l, x < 256 := by
  intro x hx
  unfold bytesN bytesTo at hx
  obtain ⟨j, _, rfl⟩ := List.mem_map.1 hx
  exact octN_lt _ _
/-- What was written is read. -/
theorem ofN_bytesN (l : List Bool) (i : Nat) (h : i < l.length) : (ofN (bytesN l))[i]? = l[i]? := by
  obtain ⟨x, h1, h2⟩ := ofN_get (bytesN l) i (by rw [bytesN_len]; omega)
  have e : (bytesN l)[i / 8]? = some (octN l (8 * (i / 8))) := by
    have : i / 8 < (l.length + 7) / 8 := by omega
    simp [bytesN, bytesTo, this]
  rw [e] at h1
  rw [h2, ← Option.some.inj h1, octN_testBit, show decide (7 - i % 8 < 8) = true by (simp; omega), Bool.true_and, show 8 * (i / 8) + (7 - (7 - i % 8)) = i by omega, List.getD_eq_getElem?_getD, List.getElem?_eq_getElem h]; rfl
theorem cut_bytes (l : List Bool) (a k : Nat) (h : a + k ≤ l.length) : cutB (ofN (bytesN l)) a k = cutB l a k := by
  apply List.ext_getElem?
  intro j
  unfold cutB
  rw [List.getElem?_take, List.getElem?_take]
  by_cases hj : j < k
  · rw [if_pos hj, if_pos hj, List.getElem?_drop, List.getElem?_drop, ofN_bytesN l (a + j) (by omega)]
  · rw [if_neg hj, if_neg hj]
theorem cut_app (a b : List Bool) : cutB (a ++ b) 0 a.length = a ∧ cutB (a ++ b) a.length b.length = b := by
  constructor
  · simp [cutB]
  · simp [cutB]
/-- One field as two. -/
theorem bitsL_split (x k c : Nat) (h : c ≤ k) : bitsL x k = bitsL (x / 2 ^ c) (k - c) ++ bitsL (x % 2 ^ c) c := by
  apply List.ext_getElem?
  intro j
  by_cases hj : j < k
  · rw [bitsL_get x k j hj]
    by_cases h2 : j < k - c
    · rw [List.getElem?_append_left (by rw [bitsL_length]; exact h2), bitsL_get _ _ _ h2, Nat.testBit_div_two_pow]
      congr 2; omega
    · rw [List.getElem?_append_right (by rw [bitsL_length]; omega), bitsL_length, bitsL_get _ _ _ (by omega), Nat.testBit_mod_two_pow, show decide (c - 1 - (j - (k - c)) < c) = true by (simp; omega), Bool.true_and]
      congr 2; omega
  · rw [List.getElem?_eq_none (by rw [bitsL_length]; omega), List.getElem?_eq_none (by rw [List.length_append, bitsL_length, bitsL_length]; omega)]
end Go.Proofs.Ytlahcmldbgeifaa
