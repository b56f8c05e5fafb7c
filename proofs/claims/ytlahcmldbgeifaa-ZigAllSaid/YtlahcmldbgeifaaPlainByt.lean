import Derived.Test.YtlahcmldbgeifaaPlainKoop
/- Plain law, no program in sight: eight bytes have every number. -/
namespace Go.Proofs.Ytlahcmldbgeifaa
open Go.RowKit
theorem numN_app (a b : List Bool) : numN (a ++ b) = numN a * 2 ^ b.length + numN b := by
  induction b using snoc_ind with
  | h0 => simp [numN]
  | h1 l x ih =>
    rw [← List.append_assoc, numN_snoc, ih, numN_snoc, List.length_append, List.length_singleton, Nat.pow_succ]
    have : numN a * (2 ^ l.length * 2) = 2 * (numN a * 2 ^ l.length) := by rw [← Nat.mul_assoc, Nat.mul_comm]
    rw [this]; omega
theorem num8 (b0 b1 b2 b3 b4 b5 b6 b7 : Nat) (h0 : b0 < 256) (h1 : b1 < 256) (h2 : b2 < 256) (h3 : b3 < 256) (h4 : b4 < 256) (h5 : b5 < 256) (h6 : b6 < 256) (h7 : b7 < 256) :
    numN (ofN [b0, b1, b2, b3, b4, b5, b6, b7]) = ((((((b0 * 256 + b1) * 256 + b2) * 256 + b3) * 256 + b4) * 256 + b5) * 256 + b6) * 256 + b7 := by
  have e : ∀ x < 256, numN (bitsL x 8) = x := fun x hx => numN_bitsL x 8 hx
  have e2 : ∀ (l : List Bool) (x : Nat), x < 256 → numN (l ++ bitsL x 8) = numN l * 256 + x := fun l x hx => by
    rw [numN_app, bitsL_length, e x hx]
  have e3 : ofN [b0, b1, b2, b3, b4, b5, b6, b7] = ((((((bitsL b0 8 ++ bitsL b1 8) ++ bitsL b2 8) ++ bitsL b3 8) ++ bitsL b4 8) ++ bitsL b5 8) ++ bitsL b6 8) ++ bitsL b7 8 := by
    simp [ofN]
  rw [e3, e2 _ _ h7, e2 _ _ h6, e2 _ _ h5, e2 _ _ h4, e2 _ _ h3, e2 _ _ h2, e2 _ _ h1, e _ h0]
theorem of8_u64 (b0 b1 b2 b3 b4 b5 b6 b7 : Nat) (h0 : b0 < 256) (h1 : b1 < 256) (h2 : b2 < 256) (h3 : b3 < 256) (h4 : b4 < 256) (h5 : b5 < 256) (h6 : b6 < 256) (h7 : b7 < 256) :
    IntKind.u64.wrap (of8I b0 b1 b2 b3 b4 b5 b6 b7) = (numN (ofN [b0, b1, b2, b3, b4, b5, b6, b7]) : Int) := by
  rw [num8 _ _ _ _ _ _ _ _ h0 h1 h2 h3 h4 h5 h6 h7]
  unfold of8I
  have e : ((((((((b0 : Int) * 256 + b1) * 256 + b2) * 256 + b3) * 256 + b4) * 256 + b5) * 256 + b6) * 256 + b7) = (((((((((b0 * 256 + b1) * 256 + b2) * 256 + b3) * 256 + b4) * 256 + b5) * 256 + b6) * 256 + b7) : Nat) : Int) := by omega
  rw [e]
  have hb : ((((((b0 * 256 + b1) * 256 + b2) * 256 + b3) * 256 + b4) * 256 + b5) * 256 + b6) * 256 + b7 < 18446744073709551616 := by omega
  generalize ((((((b0 * 256 + b1) * 256 + b2) * 256 + b3) * 256 + b4) * 256 + b5) * 256 + b6) * 256 + b7 = X at *
  by_cases hX : X < 9223372036854775808
  · rw [wrap64_in' _ (by omega) (by omega), u64_wrap_nat _ hb]
  · rw [show wrap64 (X : Int) = (X : Int) - 18446744073709551616 by unfold wrap64; omega]
    have := u64_wrap_nat X hb
    rw [← this]
    show _ % _ = _ % _
    have e2 : ((2 : Int) ^ IntKind.u64.bits) = 18446744073709551616 := by decide
    rw [e2]; omega
theorem byte_of8 (b0 b1 b2 b3 b4 b5 b6 b7 : Nat) (h0 : b0 < 256) (h1 : b1 < 256) (h2 : b2 < 256) (h3 : b3 < 256) (h4 : b4 < 256) (h5 : b5 < 256) (h6 : b6 < 256) (h7 : b7 < 256) :
    byteI (of8I b0 b1 b2 b3 b4 b5 b6 b7) 0 = b0 ∧ byteI (of8I b0 b1 b2 b3 b4 b5 b6 b7) 1 = b1 ∧ byteI (of8I b0 b1 b2 b3 b4 b5 b6 b7) 2 = b2 ∧ byteI (of8I b0 b1 b2 b3 b4 b5 b6 b7) 3 = b3 ∧
    byteI (of8I b0 b1 b2 b3 b4 b5 b6 b7) 4 = b4 ∧ byteI (of8I b0 b1 b2 b3 b4 b5 b6 b7) 5 = b5 ∧ byteI (of8I b0 b1 b2 b3 b4 b5 b6 b7) 6 = b6 ∧ byteI (of8I b0 b1 b2 b3 b4 b5 b6 b7) 7 = b7 := by
  unfold byteI of8I wrap64
  simp only [Nat.reduceMul, Nat.reduceSub, Int.reducePow]
  omega
theorem of8_byte (n : Int) (h1 : -9223372036854775808 ≤ n) (h2 : n ≤ 9223372036854775807) :
    of8I (byteI n 0) (byteI n 1) (byteI n 2) (byteI n 3) (byteI n 4) (byteI n 5) (byteI n 6) (byteI n 7) = n := by
  unfold byteI of8I wrap64
  simp only [Nat.reduceMul, Nat.reduceSub, Int.reducePow]
  omega
theorem byteI_bd (n : Int) (i : Nat) : 0 ≤ byteI n i ∧ byteI n i < 256 := by unfold byteI; omega
end Go.Proofs.Ytlahcmldbgeifaa
