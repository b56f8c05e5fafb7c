import Derived.Test.YtpbigfopmompfaaGreatPlainLane
import Derived.Laws.BitsLemmas
/- Plain law, no program in sight: whole numbers of many widths. -/
namespace Go.Proofs.YtpbigfopmompfaaGreat
open Go.RowKit

def zigI (n : Int) : Int := if n < 0 then -(2 * n) - 1 else 2 * n
def zagI (u : Int) : Int := if u % 2 = 1 then -(u / 2) - 1 else u / 2
def narrowI (n k : Int) : Int := if k < 1 ∨ 64 < k then 0 else Int.bmod n (2 ^ k.toNat)
def turnI (u n : Int) : Int := u * 2 ^ (n % 32).toNat % 4294967296 + u / 2 ^ (32 - n % 32).toNat

theorem wrap64_add (x q : Int) : wrap64 (x + 18446744073709551616 * q) = wrap64 x := by unfold wrap64; omega
theorem za0 (x : Int) (h1 : -9223372036854775808 ≤ x) (h2 : x ≤ 9223372036854775807) : wrap64 x = x := by unfold wrap64; omega

theorem i64_mask (n : Int) (k : Nat) (hk : k < 63) : bits .and .i64 n ((2 ^ k - 1 : Nat) : Int) = n % ((2 ^ k : Nat) : Int) := by
 have hp : 2 ^ k < 2 ^ 63 := Nat.pow_lt_pow_right (by omega) hk
 have hpos := Nat.two_pow_pos k
 have hdvd : (2 ^ k) ∣ (2 ^ 64) := Nat.pow_dvd_pow 2 (by omega)
 show IntKind.i64.wrap ((BitVec.ofInt 64 n &&& BitVec.ofInt 64 ((2 ^ k - 1 : Nat) : Int)).toNat : Int) = _
 rw [BitVec.toNat_and, zb1 (2 ^ k - 1) (by omega), Nat.and_two_pow_sub_one_eq_mod, BitVec.toNat_ofInt]
 have e : (((n % ((2 ^ 64 : Nat) : Int)).toNat % 2 ^ k : Nat) : Int) = n % ((2 ^ k : Nat) : Int) := by
  rw [Int.natCast_emod, Int.toNat_of_nonneg (Int.emod_nonneg _ (by decide))]; exact Int.emod_emod_of_dvd n (Int.natCast_dvd_natCast.2 hdvd)
 have h1 : ((n % ((2 ^ 64 : Nat) : Int)).toNat % 2 ^ k) < 2 ^ k := Nat.mod_lt _ hpos
 rw [← e]
 exact i64_wrap_nat _ (by omega)
theorem and31 (n : Int) : bits .and .i64 n 31 = n % 32 := i64_mask n 5 (by omega)
theorem zig_low (n : Int) (h0 : 0 ≤ n) (h1 : n ≤ 9223372036854775807) : bits .xor .u64 (IntKind.u64.wrap (wrap64 (n * 2))) (IntKind.u64.wrap (n / 9223372036854775808)) = 2 * n := by
 have e1 : IntKind.u64.wrap (wrap64 (n * 2)) = ((2 * n.toNat : Nat) : Int) := by rw [IntKind.wrap_u64]; unfold wrap64; omega
 have e2 : IntKind.u64.wrap (n / 9223372036854775808) = ((0 : Nat) : Int) := by rw [IntKind.wrap_u64]; omega
 rw [e1, e2, u64_xor_nat _ _ (by omega) (by omega), Nat.xor_zero]; omega
theorem xor_ones (a : Nat) (ha : a < 18446744073709551616) : a ^^^ 18446744073709551615 = 18446744073709551615 - a := by
 have h := congrArg BitVec.toNat (BitVec.xor_allOnes (x := BitVec.ofNat 64 a))
 rw [BitVec.toNat_xor, BitVec.toNat_not, BitVec.toNat_ofNat, BitVec.toNat_allOnes, Nat.mod_eq_of_lt (show a < 2 ^ 64 by omega)] at h
 exact h
theorem zig_high (n : Int) (h0 : n < 0) (h1 : -9223372036854775808 ≤ n) : bits .xor .u64 (IntKind.u64.wrap (wrap64 (n * 2))) (IntKind.u64.wrap (n / 9223372036854775808)) = -(2 * n) - 1 := by
 have e1 : IntKind.u64.wrap (wrap64 (n * 2)) = (((18446744073709551616 + 2 * n).toNat : Nat) : Int) := by rw [IntKind.wrap_u64]; unfold wrap64; omega
 have e2 : IntKind.u64.wrap (n / 9223372036854775808) = ((18446744073709551615 : Nat) : Int) := by rw [IntKind.wrap_u64]; omega
 rw [e1, e2, u64_xor_nat _ _ (by omega) (by omega), xor_ones _ (by omega)]; omega
theorem zig_form (n : Int) (h1 : -9223372036854775808 ≤ n) (h2 : n ≤ 9223372036854775807) : bits .xor .u64 (IntKind.u64.wrap (wrap64 (n * 2))) (IntKind.u64.wrap (n / 9223372036854775808)) = zigI n := by
 unfold zigI
 split
 · exact zig_high n (by omega) h1
 · exact zig_low n (by omega) h2
theorem u64_and1 (u : Int) (h0 : 0 ≤ u) (h1 : u < 18446744073709551616) : bits .and .u64 u 1 = u % 2 := by
 obtain ⟨a, rfl⟩ := Int.eq_ofNat_of_zero_le h0
 have := u64_and_nat a 1 (by omega) (by omega)
 rw [show ((1 : Nat) : Int) = 1 from rfl] at this
 rw [this, Nat.and_one_is_mod]; omega
theorem i64_xor_ones (a : Nat) (ha : a < 9223372036854775808) : bits .xor .i64 (a : Int) (-1) = -(a : Int) - 1 := by
 show IntKind.i64.wrap ((BitVec.ofInt 64 (a : Int) ^^^ BitVec.ofInt 64 (-1)).toNat : Int) = _
 have e : (BitVec.ofInt 64 (-1)).toNat = 18446744073709551615 := by decide
 rw [BitVec.toNat_xor, zb1 a ha, e, xor_ones a (by omega)]
 simp [IntKind.wrap, IntKind.bits, IntKind.signed]; omega
theorem i64_xor_zero (a : Nat) (ha : a < 9223372036854775808) : bits .xor .i64 (a : Int) 0 = (a : Int) := by
 show IntKind.i64.wrap ((BitVec.ofInt 64 (a : Int) ^^^ BitVec.ofInt 64 0).toNat : Int) = _
 rw [BitVec.toNat_xor, zb1 a ha]
 have e : (BitVec.ofInt 64 0).toNat = 0 := by decide
 rw [e, Nat.xor_zero]; exact i64_wrap_nat a ha
theorem zag_form (u : Int) (h0 : 0 ≤ u) (h1 : u < 18446744073709551616) : bits .xor .i64 (u / 2) (wrap64 (-wrap64 (bits .and .u64 u 1))) = zagI u := by
 rw [u64_and1 u h0 h1]
 obtain ⟨a, ha⟩ := Int.eq_ofNat_of_zero_le (show 0 ≤ u / 2 by omega)
 unfold zagI
 split
 · rename_i h
   rw [h, ha]; have := i64_xor_ones a (by omega); rw [show wrap64 (-wrap64 1) = -1 from by decide]; exact this
 · rw [show u % 2 = 0 by omega, ha]
   have := i64_xor_zero a (by omega); rw [show wrap64 (-wrap64 0) = 0 from by decide]; exact this

theorem narrow_form (n k : Int) (h1 : 1 ≤ k) (h2 : k ≤ 64) : wrap64 (n * 2 ^ (64 - k).toNat) / 2 ^ (64 - k).toNat = narrowI n k := by
 obtain ⟨K, rfl⟩ := Int.eq_ofNat_of_zero_le (show 0 ≤ k by omega)
 have e : (64 - (K : Int)).toNat = 64 - K := by omega
 have hn : ¬ ((K : Int) < 1 ∨ 64 < (K : Int)) := by omega
 rw [e, narrowI, if_neg hn, Int.toNat_natCast]
 have hpos : (0 : Int) < 2 ^ (64 - K) := Int.pow_pos (by decide)
 have hb := Int.bmod_add_bdiv n (2 ^ K)
 have hj : ((2 ^ K : Nat) : Int) * 2 ^ (64 - K) = 18446744073709551616 := by
  have : (2 ^ K * 2 ^ (64 - K) : Nat) = 18446744073709551616 := by rw [← Nat.pow_add, show K + (64 - K) = 64 by omega]
  have h := congrArg (Nat.cast (R := Int)) this; rw [Int.natCast_mul, Int.natCast_pow 2 (64 - K)] at h; exact h
 have hK : (2 : Nat) ^ K = 2 * 2 ^ (K - 1) := by rw [← Nat.pow_succ']; congr 1; omega
 have hKp := Nat.two_pow_pos (K - 1)
 have hlo : -((2 ^ (K - 1) : Nat) : Int) ≤ Int.bmod n (2 ^ K) := by
  have := Int.le_bmod (x := n) (m := 2 ^ K) (by omega); rw [hK] at this ⊢; omega
 have hhi : Int.bmod n (2 ^ K) < ((2 ^ (K - 1) : Nat) : Int) := by
  have := Int.bmod_lt (x := n) (m := 2 ^ K) (by omega); rw [hK] at this ⊢; omega
 have hhalf : ((2 ^ (K - 1) : Nat) : Int) * 2 ^ (64 - K) = 9223372036854775808 := by
  have : (2 ^ (K - 1) * 2 ^ (64 - K) : Nat) = 9223372036854775808 := by rw [← Nat.pow_add, show K - 1 + (64 - K) = 63 by omega]
  have h := congrArg (Nat.cast (R := Int)) this; rw [Int.natCast_mul, Int.natCast_pow 2 (64 - K)] at h; exact h
 generalize hm : Int.bmod n (2 ^ K) = m at *
 have hx : n * 2 ^ (64 - K) = m * 2 ^ (64 - K) + 18446744073709551616 * Int.bdiv n (2 ^ K) := by
  rw [← hj]; conv => lhs; rw [← hb]
  rw [Int.add_mul, Int.mul_right_comm]
 rw [hx, wrap64_add]
 have b1 : -9223372036854775808 ≤ m * 2 ^ (64 - K) := by
  have := Int.mul_le_mul_of_nonneg_right hlo (Int.le_of_lt hpos); rw [Int.neg_mul, hhalf] at this; exact this
 have b2 : m * 2 ^ (64 - K) < 9223372036854775808 := by
  have := Int.mul_lt_mul_of_pos_right hhi hpos; rw [hhalf] at this; exact this
 rw [za0 _ b1 (by omega), Int.mul_ediv_cancel _ (by omega)]

theorem turn_or (a k : Nat) (ha : a < 4294967296) (hk : k ≤ 31) : bits .or .u32 ((a : Int) * 2 ^ k % 4294967296) ((a : Int) / 2 ^ (32 - k)) = (a : Int) * 2 ^ k % 4294967296 + (a : Int) / 2 ^ (32 - k) := by
 have e1 : (a : Int) * 2 ^ k % 4294967296 = ((a * 2 ^ k % 4294967296 : Nat) : Int) := by rw [Int.natCast_emod, Int.natCast_mul, Int.natCast_pow]; rfl
 have e2 : (a : Int) / 2 ^ (32 - k) = ((a / 2 ^ (32 - k) : Nat) : Int) := by rw [Int.natCast_ediv, Int.natCast_pow]; rfl
 have hpos := Nat.two_pow_pos k
 have hpow : 2 ^ k * 2 ^ (32 - k) = 4294967296 := by rw [← Nat.pow_add, show k + (32 - k) = 32 by omega]
 have hq : a / 2 ^ (32 - k) < 2 ^ k := by
  rw [Nat.div_lt_iff_lt_mul (Nat.two_pow_pos _), hpow]; exact ha
 have hm : a * 2 ^ k % 4294967296 % 2 ^ k = 0 := by
  rw [← hpow, Nat.mod_mul_right_mod, Nat.mul_mod_left]
 have hle : 2 ^ k ≤ 4294967296 := by rw [← hpow]; exact Nat.le_mul_of_pos_right _ (Nat.two_pow_pos _)
 have hlt : a * 2 ^ k % 4294967296 < 4294967296 := Nat.mod_lt _ (by decide)
 rw [e1, e2, u32_or_nat _ _ hlt (by omega), nat_join k _ _ hm hq, Int.natCast_add]
theorem turn_form (u n : Int) (h0 : 0 ≤ u) (h1 : u < 4294967296) : bits .or .u32 (u * 2 ^ (n % 32).toNat % 4294967296) (u / 2 ^ (32 - n % 32).toNat) = turnI u n := by
 obtain ⟨a, rfl⟩ := Int.eq_ofNat_of_zero_le h0
 have e : (32 - n % 32).toNat = 32 - (n % 32).toNat := by omega
 rw [turnI, e]
 exact turn_or a _ (by omega) (by omega)

end Go.Proofs.YtpbigfopmompfaaGreat
