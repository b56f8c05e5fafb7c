import Derived.Test.YtlahcmldbgeifaaPlainTurn
/- Plain law, no program in sight: Koopman's sums are linear; a burst of bits never comes to nought. -/
namespace Go.Proofs.Ytlahcmldbgeifaa
open Go.RowKit

theorem dbl_bit (s j : Nat) : (2 * s % 4294967296).testBit j = (decide (j < 32) && (decide (1 ≤ j) && s.testBit (j - 1))) := by
  have e : 2 * s % 4294967296 = (s * 2 ^ 1) % 2 ^ 32 := by rw [Nat.mul_comm]
  rw [e, Nat.testBit_mod_two_pow, Nat.testBit_mul_two_pow]
theorem kround_bit (s j : Nat) : (kround s).testBit j = ((decide (j < 32) && (decide (1 ≤ j) && s.testBit (j - 1))) != (s.testBit 31 && poly.testBit j)) := by
  unfold kround
  cases h : s.testBit 31 with
  | true => rw [if_pos rfl, Nat.testBit_xor, dbl_bit]; simp
  | false => rw [if_neg (by simp), dbl_bit]; simp
theorem kround_xor (s t : Nat) : kround (s ^^^ t) = kround s ^^^ kround t := by
  apply Nat.eq_of_testBit_eq
  intro j
  rw [Nat.testBit_xor, kround_bit, kround_bit, kround_bit, Nat.testBit_xor, Nat.testBit_xor]
  cases s.testBit 31 <;> cases t.testBit 31 <;> cases s.testBit (j - 1) <;> cases t.testBit (j - 1) <;> cases poly.testBit j <;> cases decide (j < 32) <;> cases decide (1 ≤ j) <;> rfl
theorem kiter_xor (k s t : Nat) : kiter k (s ^^^ t) = kiter k s ^^^ kiter k t := by
  induction k with
  | zero => rfl
  | succ k ih => simp only [kiter, ih, kround_xor]
theorem kiter_first (k s : Nat) : kiter (k + 1) s = kiter k (kround s) := by
  induction k with
  | zero => rfl
  | succ k ih => rw [kiter, ih]; rfl
theorem mul_xor (x y n : Nat) : (x ^^^ y) * 2 ^ n = (x * 2 ^ n) ^^^ (y * 2 ^ n) := by
  apply Nat.eq_of_testBit_eq
  intro j
  simp only [Nat.testBit_xor, Nat.testBit_mul_two_pow]
  cases decide (n ≤ j) <;> simp
theorem xor4 (a b c d : Nat) : (a ^^^ b) ^^^ (c ^^^ d) = (a ^^^ c) ^^^ (b ^^^ d) := by
  apply Nat.eq_of_testBit_eq
  intro j
  simp only [Nat.testBit_xor]
  cases a.testBit j <;> cases b.testBit j <;> cases c.testBit j <;> cases d.testBit j <;> rfl
theorem kstep_xor (s t x y : Nat) : kstep (s ^^^ t) (x ^^^ y) = kstep s x ^^^ kstep t y := by
  unfold kstep
  rw [← kiter_xor]
  have := mul_xor x y 24
  rw [show (2 : Nat) ^ 24 = 16777216 from rfl] at this
  rw [this, xor4]
/-- Two rows laid over one another. -/
def over (a b : List Nat) : List Nat := List.zipWith (· ^^^ ·) a b
theorem ksum_xor : ∀ (a b : List Nat) (s t : Nat), a.length = b.length → ksum (s ^^^ t) (over a b) = ksum s a ^^^ ksum t b
  | [], [], s, t, _ => rfl
  | x :: a, y :: b, s, t, h => by
    have h' : a.length = b.length := by simpa using h
    show ksum (kstep (s ^^^ t) (x ^^^ y)) (over a b) = ksum (kstep s x) a ^^^ ksum (kstep t y) b
    rw [kstep_xor, ksum_xor a b _ _ h']
theorem over_length (a b : List Nat) (h : a.length = b.length) : (over a b).length = a.length := by simp [over, h]
theorem kof_three (a b c : List Nat) (h1 : a.length = b.length) (h2 : a.length = c.length) : kof a ^^^ kof b ^^^ kof c = kof (over (over a b) c) := by
  have e : (4294967295 : Nat) ^^^ 4294967295 ^^^ 4294967295 = 4294967295 := by decide
  unfold kof
  rw [← ksum_xor a b _ _ h1, ← ksum_xor (over a b) c _ _ (by rw [over_length a b h1, h2]), e]
theorem kof_two (a b : List Nat) (h : a.length = b.length) : kof a ^^^ kof b = ksum 0 (over a b) := by
  have e : (4294967295 : Nat) ^^^ 4294967295 = 0 := by decide
  unfold kof
  rw [← ksum_xor a b _ _ h, e]

/-- Bits taken in one by one. -/
def kfeed (s : Nat) (l : List Bool) : Nat := l.foldl (fun s x => kround (s ^^^ (x.toNat * 2 ^ 31))) s
theorem numN_cons (x : Bool) (l : List Bool) : numN (x :: l) = x.toNat * 2 ^ l.length + numN l := by
  have := numN_append [x] l
  rw [List.singleton_append] at this
  rw [this]
  congr 2
  cases x <;> rfl
theorem kround_small (y : Nat) (h : y < 2147483648) : kround y = 2 * y := by
  have : y.testBit 31 = false := Nat.testBit_lt_two_pow (by omega)
  rw [kround, this, if_neg (by simp)]
  omega
theorem kfeed_iter : ∀ (l : List Bool) (s : Nat), l.length ≤ 32 → kfeed s l = kiter l.length (s ^^^ (numN l * 2 ^ (32 - l.length)))
  | [], s, _ => by simp [kfeed, numN, kiter]
  | x :: l, s, h => by
    simp only [List.length_cons] at h ⊢
    have ih := kfeed_iter l (kround (s ^^^ (x.toNat * 2 ^ 31))) (by omega)
    show kfeed (kround (s ^^^ (x.toNat * 2 ^ 31))) l = _
    have hn := numN_lt l
    have hy : numN l * 2 ^ (31 - l.length) < 2147483648 := by
      have e : (2147483648 : Nat) = 2 ^ l.length * 2 ^ (31 - l.length) := by rw [← Nat.pow_add, show l.length + (31 - l.length) = 31 by omega]
      rw [e]
      exact (Nat.mul_lt_mul_right (Nat.two_pow_pos _)).2 hn
    have e1 : numN (x :: l) * 2 ^ (32 - (l.length + 1)) = (x.toNat * 2 ^ 31) ^^^ (numN l * 2 ^ (31 - l.length)) := by
      rw [numN_cons, show 32 - (l.length + 1) = 31 - l.length by omega, Nat.add_mul, Nat.mul_assoc, ← Nat.pow_add, show l.length + (31 - l.length) = 31 by omega]
      apply Nat.eq_of_testBit_eq
      intro j
      generalize numN l * 2 ^ (31 - l.length) = y at *
      rw [Nat.mul_comm x.toNat, Nat.testBit_two_pow_mul_add _ hy, Nat.testBit_xor, Nat.mul_comm, Nat.testBit_mul_two_pow]
      by_cases hj : j < 31
      · rw [if_pos hj, show decide (31 ≤ j) = false by (simp; omega)]; simp
      · rw [if_neg hj, show decide (31 ≤ j) = true by (simp; omega)]
        have : y.testBit j = false := Nat.testBit_lt_two_pow (Nat.lt_of_lt_of_le hy (Nat.le_trans (by decide) (Nat.pow_le_pow_right (show 0 < 2 by decide) (show 31 ≤ j by omega))))
        rw [this]; simp
    have e2 : 2 * (numN l * 2 ^ (31 - l.length)) = numN l * 2 ^ (32 - l.length) := by
      rw [show 32 - l.length = (31 - l.length) + 1 by omega, Nat.pow_succ, Nat.mul_left_comm]
      congr 1; omega
    rw [ih, kiter_first, e1, ← Nat.xor_assoc, kround_xor (s ^^^ _), kround_small _ hy, e2]
theorem kfeed_append (s : Nat) (a b : List Bool) : kfeed s (a ++ b) = kfeed (kfeed s a) b := by simp [kfeed, List.foldl_append]
theorem ksum_feed : ∀ (b : List Nat) (s : Nat), (∀ x ∈ b, x < 256) → ksum s b = kfeed s (ofN b)
  | [], s, _ => rfl
  | x :: b, s, h => by
    have hx := h x (by simp)
    have e : kstep s x = kfeed s (bitsL x 8) := by
      rw [kfeed_iter _ _ (by rw [bitsL_length]; omega), bitsL_length, numN_bitsL x 8 (by omega)]; rfl
    show ksum (kstep s x) b = _
    rw [ksum_feed b _ fun y hy => h y (by simp [hy]), e]
    show _ = kfeed s (bitsL x 8 ++ ofN b)
    rw [kfeed_append]
theorem kround_ne (s : Nat) (h : s < 4294967296) (hs : s ≠ 0) : kround s ≠ 0 := by
  intro e
  cases hb : s.testBit 31 with
  | true =>
    have h0 : (kround s).testBit 0 = true := by
      rw [kround_bit, hb, show poly.testBit 0 = true by decide]; simp
    rw [e] at h0; simp at h0
  | false =>
    have hlt : s < 2 ^ 31 := by
      apply Nat.lt_of_not_le
      intro hle
      have : s / 2 ^ 31 = 1 := by omega
      rw [Nat.testBit_eq_decide_div_mod_eq, this] at hb
      simp at hb
    rw [kround_small s hlt] at e
    omega
theorem kiter_ne (k s : Nat) (h : s < 4294967296) (hs : s ≠ 0) : kiter k s ≠ 0 := by
  induction k with
  | zero => exact hs
  | succ k ih => exact kround_ne _ (kiter_lt k s h) ih
theorem kfeed_nought (n s : Nat) : kfeed s (List.replicate n false) = kiter n s := by
  induction n generalizing s with
  | zero => rfl
  | succ n ih =>
    rw [kiter_first]
    show kfeed (kround (s ^^^ (0 * 2 ^ 31))) (List.replicate n false) = _
    rw [Nat.zero_mul, Nat.xor_zero, ih]
theorem kiter_nought (k : Nat) : kiter k 0 = 0 := by
  induction k with
  | zero => rfl
  | succ k ih => rw [kiter, ih]; decide
theorem numN_ne (l : List Bool) (h : true ∈ l) : numN l ≠ 0 := by
  intro e
  obtain ⟨j, hj, hx⟩ := List.getElem_of_mem h
  have := numN_testBit l (l.length - 1 - j) (by omega)
  rw [e, show l.length - 1 - (l.length - 1 - j) = j by omega, List.getD_eq_getElem?_getD, List.getElem?_eq_getElem hj, hx] at this
  simp at this
/-- A burst of at most thirty-two bits does not come to nought. -/
theorem kfeed_burst (p q : Nat) (l : List Bool) (hl : l.length ≤ 32) (h : true ∈ l) : kfeed 0 (List.replicate p false ++ (l ++ List.replicate q false)) ≠ 0 := by
  rw [kfeed_append, kfeed_append, kfeed_nought, kfeed_nought, kiter_nought, kfeed_iter l 0 hl, Nat.zero_xor]
  have hn := numN_lt l
  have hlt : numN l * 2 ^ (32 - l.length) < 4294967296 := by
    have e : (4294967296 : Nat) = 2 ^ l.length * 2 ^ (32 - l.length) := by rw [← Nat.pow_add, show l.length + (32 - l.length) = 32 by omega]
    rw [e]
    exact (Nat.mul_lt_mul_right (Nat.two_pow_pos _)).2 hn
  have hne : numN l * 2 ^ (32 - l.length) ≠ 0 := Nat.mul_ne_zero (numN_ne l h) (Nat.ne_of_gt (Nat.two_pow_pos _))
  exact kiter_ne _ _ (kiter_lt _ _ hlt) (kiter_ne _ _ hlt hne)
end Go.Proofs.Ytlahcmldbgeifaa
