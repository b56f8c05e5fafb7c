import Derived.Test.YtakekjbbbjmdpaaBegun9
/- The reference of a sherd's numbers as bits. -/
namespace Go.Proofs.Ytakekjbbbjmdpaa
open Go.RowKit
theorem i64_maskN (x : Int) (k : Nat) (hk : k ≤ 40) : bits .and .i64 x (((2 ^ k - 1 : Nat) : Nat) : Int) = x % ((2 ^ k : Nat) : Int) := by
  have hp : 2 ^ k ≤ 2 ^ 40 := Nat.pow_le_pow_right (by decide) hk
  have hp1 : 1 ≤ 2 ^ k := Nat.one_le_two_pow
  show IntKind.i64.wrap ((BitVec.ofInt 64 x &&& BitVec.ofInt 64 (((2 ^ k - 1 : Nat) : Nat) : Int)).toNat : Int) = _
  rw [BitVec.toNat_and, ofInt64_nat _ (by omega), Nat.and_two_pow_sub_one_eq_mod]
  have hx : (BitVec.ofInt 64 x).toNat = (x % 18446744073709551616).toNat := by
    rw [BitVec.toNat_ofInt]; rfl
  rw [hx]
  have hlt : (x % 18446744073709551616).toNat % 2 ^ k < 2 ^ k := Nat.mod_lt _ hp1
  rw [i64_wrap_nat _ (by omega)]
  have hd : ((2 ^ k : Nat) : Int) ∣ 18446744073709551616 := by
    have : (2 : Nat) ^ k ∣ 2 ^ 64 := Nat.pow_dvd_pow 2 (by omega)
    have h2 := Int.natCast_dvd_natCast.2 this
    exact h2
  rw [Int.natCast_emod, Int.toNat_of_nonneg (by omega), Int.emod_emod_of_dvd _ hd]
theorem u64_mask (x : Int) : bits .and .u64 (IntKind.u64.wrap x) 1099511627775 = x % 1099511627776 := by
  obtain ⟨L, hL⟩ := Int.eq_ofNat_of_zero_le (show 0 ≤ x % 18446744073709551616 by omega)
  rw [u64_wrap_mod, hL, show (1099511627775 : Int) = ((2 ^ 40 - 1 : Nat) : Int) from rfl, u64_and_nat L _ (by omega) (by decide), Nat.and_two_pow_sub_one_eq_mod]
  omega
set_option maxRecDepth 100000 in
set_option maxHeartbeats 2000000 in
theorem refmeta_any (r l s : Int) (w : World) : Calls Try.prog 47 #[.int .i64 r, .int .i64 l, .int .i64 s] w fun e w' => ∃ v, e = .returned v ∧ w'.ownsRow w.heap.size 4 1 v 64 (bools (bitsL (metaN r l s) 64)) ∧ Below w.heap.size w w' := by
  have e1 : bits .and .i64 r 255 = r % 256 := i64_maskN r 8 (by decide)
  have e2 : bits .and .i64 l 65535 = l % 65536 := i64_maskN l 16 (by decide)
  have e3 := u64_mask s
  have HB := Lib.hid (show bools (bitsL (r % 256).toNat 8) ++ bools (bitsL (l % 65536).toNat 16) ++ bools (bitsL (s % 1099511627776).toNat 40) = bools (bitsL (metaN r l s) 64) by rw [bits_meta]; simp [bools])
  have b1 : 0 ≤ r % 256 ∧ r % 256 < 256 := by omega
  have b2 : 0 ≤ l % 65536 ∧ l % 65536 < 65536 := by omega
  have b3 : 0 ≤ s % 1099511627776 ∧ s % 1099511627776 < 1099511627776 := by omega
  generalize r % 256 = R at *
  generalize l % 65536 = L at *
  generalize s % 1099511627776 = S at *
  obtain ⟨b1, b4⟩ := b1
  obtain ⟨b2, b5⟩ := b2
  obtain ⟨b3, b6⟩ := b3
  go_enter Try.func47, Try.ntmps47
  go_wp2_with fail
  refine (bits_any R 8 _ b1 (by omega) (by decide) (by decide)).mono ?_
  rintro e w1 ⟨v1, rfl, ho1, hb1⟩
  go_wp2_with fail
  refine (bits_any L 16 _ b2 (by omega) (by decide) (by decide)).mono ?_
  rintro e w2 ⟨v2, rfl, ho2, hb2⟩
  have ho1' := own_below ho1 hb2
  obtain ⟨A2, c2, rfl, -, -⟩ := own_slice ho2
  have hrd2 := Rd.of_own ho2
  have hbel2 := hb1.trans (hb2.mono hb1.size)
  have hsz2 := hbel2.size
  clear ho1 ho2 hb1 hb2
  go_wp2_with (at_builtin; refine wpList_appendN rfl (.tmp 11) (.tmp 15) 59 rfl 4 _ _ Try.underlying59 boolInfo rfl ho1' hbel2 rfl rfl hrd2 (one_bools _) (by decide) (by decide) hsz2 (Nat.le_refl _) ?_; intro v3 w3 ho3 hbel3 _ _)
  refine (bits_any S 40 _ b3 (by omega) (by decide) (by decide)).mono ?_
  rintro e w4 ⟨v4, rfl, ho4, hb4⟩
  have ho3' := own_below ho3 hb4
  obtain ⟨A4, c4, rfl, -, -⟩ := own_slice ho4
  have hrd4 := Rd.of_own ho4
  have hbel4 := hbel3.trans (hb4.mono hbel3.size)
  have hsz4 := hbel4.size
  clear ho3 ho4 hbel3 hb4
  go_wp2_with (at_builtin; refine wpList_appendN rfl (.tmp 17) (.tmp 21) 59 rfl 4 _ _ Try.underlying59 boolInfo rfl ho3' hbel4 rfl rfl hrd4 (one_bools _) (by decide) (by decide) hsz4 (Nat.le_refl _) ?_; intro v5 w5 ho5 hbel5 _ _)
  go_ret
  refine ⟨v5, rfl, ?_, hbel5⟩
  rw [← HB.out]
  exact ho5
end Go.Proofs.Ytakekjbbbjmdpaa
