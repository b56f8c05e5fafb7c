import GoSem.Core.Value
import Derived.Laws.BitsAllLaws
import Derived.RowKit
/- Plain law, no program in sight: sets of dies as numbers. -/
namespace Go.Proofs.YtpbigfopmompfaaGreat
open Go.RowKit

def setB (m : Int) : Bool := decide (0 ≤ m) && decide (m < 256)
def oneI (d : Int) : Int := if d < 0 ∨ 8 ≤ d then 0 else 2 ^ d.toNat
def allI (n : Int) : Int := if n < 0 ∨ 8 < n then 0 else 2 ^ n.toNat - 1
def hasB (m d : Int) : Bool := setB m && (decide (0 ≤ d) && decide (d < 8)) && m.toNat.testBit d.toNat
def withI (m d : Int) : Int := if setB m then ((m.toNat ||| (oneI d).toNat : Nat) : Int) else 0
def withoutI (m d : Int) : Int := if setB m then ((m.toNat &&& (255 - (oneI d).toNat) : Nat) : Int) else 0
def cnt (m k : Nat) : Nat := ((List.range k).filter m.testBit).length
def diesN (m : Nat) : List Nat := (List.range 8).filter m.testBit
def diesL (m : Int) : List Nat := if setB m then diesN m.toNat else []
def countI (m : Int) : Int := if setB m then (cnt m.toNat 8 : Int) else 0
def atI (m i : Int) : Int := if i < 0 then -1 else match (diesL m)[i.toNat]? with | some d => (d : Int) | none => -1
def spotI (m d : Int) : Int := if hasB m d then (cnt m.toNat d.toNat : Int) else -1

theorem toNat_two_pow' (n : Nat) : ((2 : Int) ^ n).toNat = 2 ^ n := by
 have : ((2 : Int) ^ n) = ((2 ^ n : Nat) : Int) := by simp
 rw [this, Int.toNat_natCast]
theorem setB_of {m : Int} (h0 : 0 ≤ m) (h1 : m < 256) : setB m = true := by simp [setB, h0, h1]
theorem setB_neg {m : Int} (h : m < 0) : setB m = false := by simp [setB]; omega
theorem setB_big {m : Int} (h : 256 ≤ m) : setB m = false := by simp [setB]; omega

theorem cases8 {d : Int} (h0 : 0 ≤ d) (h1 : d < 8) : d = 0 ∨ d = 1 ∨ d = 2 ∨ d = 3 ∨ d = 4 ∨ d = 5 ∨ d = 6 ∨ d = 7 := by omega
theorem one_wrap {d : Int} (h0 : 0 ≤ d) (h1 : d < 8) : wrap64 (2 ^ d.toNat) = oneI d := by
 rcases cases8 h0 h1 with rfl | rfl | rfl | rfl | rfl | rfl | rfl | rfl <;> decide
theorem oneI_le (d : Int) : 0 ≤ oneI d ∧ oneI d ≤ 128 := by
 unfold oneI
 split
 · omega
 · rename_i h
   rcases cases8 (d := d) (by omega) (by omega) with rfl | rfl | rfl | rfl | rfl | rfl | rfl | rfl <;> decide
theorem all_wrap {n : Int} (h0 : 0 ≤ n) (h1 : n ≤ 8) : wrap64 (wrap64 (2 ^ n.toNat) - 1) = allI n := by
 have : n = 0 ∨ n = 1 ∨ n = 2 ∨ n = 3 ∨ n = 4 ∨ n = 5 ∨ n = 6 ∨ n = 7 ∨ n = 8 := by omega
 rcases this with rfl | rfl | rfl | rfl | rfl | rfl | rfl | rfl | rfl <;> decide
theorem zb1 (a : Nat) (ha : a < 9223372036854775808) : (BitVec.ofInt 64 (a : Int)).toNat = a := by
 rw [BitVec.ofInt_natCast, BitVec.toNat_ofNat]; exact Nat.mod_eq_of_lt (by omega)
theorem i64_wrap_nat (a : Nat) (ha : a < 9223372036854775808) : IntKind.i64.wrap (a : Int) = (a : Int) := by
 simp [IntKind.wrap, IntKind.bits, IntKind.signed]; omega
theorem u64_wrap_nat (a : Nat) (ha : a < 18446744073709551616) : IntKind.u64.wrap (a : Int) = (a : Int) := by
 simp [IntKind.wrap, IntKind.bits, IntKind.signed]; omega
theorem i64_and (a b : Nat) (ha : a < 9223372036854775808) (hb : b < 9223372036854775808) : bits .and .i64 (a : Int) (b : Int) = ((a &&& b : Nat) : Int) := by
 have hx : a &&& b < 2 ^ 63 := Nat.and_lt_two_pow _ (by omega)
 show IntKind.i64.wrap ((BitVec.ofInt 64 (a : Int) &&& BitVec.ofInt 64 (b : Int)).toNat : Int) = _
 rw [BitVec.toNat_and, zb1 a ha, zb1 b hb]
 exact i64_wrap_nat _ (by omega)
theorem i64_or (a b : Nat) (ha : a < 9223372036854775808) (hb : b < 9223372036854775808) : bits .or .i64 (a : Int) (b : Int) = ((a ||| b : Nat) : Int) := by
 have hx : a ||| b < 2 ^ 63 := Nat.or_lt_two_pow (by omega) (by omega)
 show IntKind.i64.wrap ((BitVec.ofInt 64 (a : Int) ||| BitVec.ofInt 64 (b : Int)).toNat : Int) = _
 rw [BitVec.toNat_or, zb1 a ha, zb1 b hb]
 exact i64_wrap_nat _ (by omega)

theorem fin_andNot : ∀ m : Fin 256, ∀ d : Fin 9, bits .andNot .i64 (m.val : Int) (if d.val = 8 then 0 else 2 ^ d.val) = ((m.val &&& (255 - (if d.val = 8 then 0 else 2 ^ d.val)) : Nat) : Int) := by decide +kernel
theorem and_oneI : ∀ m : Fin 256, ∀ d : Fin 8, (bits .and .i64 (m.val : Int) (2 ^ d.val) != 0) = m.val.testBit d.val := by decide +kernel
theorem and_allI : ∀ m : Fin 256, ∀ d : Fin 9, bits .and .i64 (m.val : Int) (2 ^ d.val - 1) = ((m.val &&& (2 ^ d.val - 1) : Nat) : Int) := by decide +kernel
theorem cnt_and : ∀ m : Fin 256, ∀ d : Fin 9, cnt (m.val &&& (2 ^ d.val - 1)) 8 = cnt m.val d.val := by decide +kernel
theorem cnt_le (m k : Nat) : cnt m k ≤ k := by
 have := List.length_filter_le m.testBit (List.range k)
 simpa [cnt] using this
theorem cnt_succ (m k : Nat) : cnt m (k + 1) = cnt m k + (if m.testBit k then 1 else 0) := by
 simp only [cnt, List.range_succ, List.filter_append, List.length_append]
 congr 1
 by_cases h : m.testBit k <;> simp [h]
theorem dies_at : ∀ m : Fin 256, ∀ k : Fin 8, m.val.testBit k.val = true → (diesN m.val)[cnt m.val k.val]? = some k.val := by decide +kernel
theorem dies_length (m : Nat) : (diesN m).length = cnt m 8 := rfl

def onesF (m : Int) : Int :=
 (fun a => (fun b => (fun c => (fun d => (fun e => (fun f => bits .and .i64 (wrap64 f) 127)
  (IntKind.u64.wrap (e + e / 4294967296))) (IntKind.u64.wrap (d + d / 65536))) (IntKind.u64.wrap (c + c / 256)))
  (bits .and .u64 (IntKind.u64.wrap (b / 16 + b)) 1085102592571150095))
  (IntKind.u64.wrap (bits .and .u64 (a / 4) 3689348814741910323 + bits .and .u64 a 3689348814741910323)))
  (IntKind.u64.wrap (bits .and .u64 (m / 2) 6148914691236517205 + bits .and .u64 m 6148914691236517205))
theorem onesF_fin : ∀ m : Fin 256, onesF (m.val : Int) = (cnt m.val 8 : Int) := by decide +kernel
theorem onesF_eq (m : Nat) (h : m < 256) : onesF (m : Int) = (cnt m 8 : Int) := onesF_fin ⟨m, h⟩

def cI (m : Int) (k : Nat) : Int := if setB m then (cnt m.toNat k : Int) else 0
def restI (m i : Int) (k : Nat) : Int := wrap64 (i - cI m k)
theorem cI_zero (m : Int) : cI m 0 = 0 := by simp [cI, cnt]
theorem cI_succ (m : Int) (k : Nat) (hk : k < 8) : cI m (k + 1) = cI m k + (if hasB m k then 1 else 0) := by
 by_cases hs : setB m = true
 · have e : hasB m k = m.toNat.testBit k := by
    simp only [hasB, hs, Int.toNat_natCast, Bool.true_and]; have : (decide ((0 : Int) ≤ (k : Int)) && decide ((k : Int) < 8)) = true := by simp; omega
    rw [this, Bool.true_and]
   simp only [cI, hs, if_true, cnt_succ, e]; split <;> omega
 · have hs' : setB m = false := by simpa using hs
   simp [cI, hasB, hs']
theorem cI_bd (m : Int) (k : Nat) : 0 ≤ cI m k ∧ cI m k ≤ k := by
 unfold cI
 split
 · have := cnt_le m.toNat k; omega
 · omega
theorem wrap64_pred (x : Int) : wrap64 (wrap64 x - 1) = wrap64 (x - 1) := by unfold wrap64; omega
theorem restI_zero (m i : Int) (h1 : -9223372036854775808 ≤ i) (h2 : i ≤ 9223372036854775807) : restI m i 0 = i := by
 rw [restI, cI_zero]; unfold wrap64; omega
theorem restI_hit (m i : Int) (k : Nat) (hk : k < 8) (h : hasB m k = true) : wrap64 (restI m i k - 1) = restI m i (k + 1) := by
 rw [restI, restI, wrap64_pred, cI_succ m k hk, h]; congr 1; simp; omega
theorem restI_miss (m i : Int) (k : Nat) (hk : k < 8) (h : hasB m k = false) : restI m i k = restI m i (k + 1) := by
 rw [restI, restI, cI_succ m k hk, h]; simp
theorem restI_eq (m i : Int) (k : Nat) (hk : k ≤ 8) (h1 : -9223372036854775808 ≤ i) (h2 : i ≤ 9223372036854775807) : restI m i k = 0 ↔ i = cI m k := by
 have := cI_bd m k
 unfold restI wrap64
 omega
theorem atI_hit (m i : Int) (k : Nat) (hk : k < 8) (h : hasB m k = true) (hi : i = cI m k) : atI m i = k := by
 have hs : setB m = true := by
  have h' := h; simp only [hasB, Bool.and_eq_true] at h'; exact h'.1.1
 have h' := hs
 simp only [setB, Bool.and_eq_true, decide_eq_true_eq] at h'
 obtain ⟨M, rfl⟩ := Int.eq_ofNat_of_zero_le h'.1
 have hb : M.testBit k = true := by
  simp only [hasB, Bool.and_eq_true] at h; simpa using h.2
 have e : cI (M : Int) k = (cnt M k : Int) := by simp only [cI, hs, if_true]; rfl
 have hd := dies_at ⟨M, by omega⟩ ⟨k, hk⟩ hb
 simp only at hd
 rw [atI, hi, e, if_neg (by omega)]
 simp only [diesL, hs, if_true, Int.toNat_natCast, hd]
theorem atI_out (m i : Int) (h : i < 0 ∨ cI m 8 ≤ i) : atI m i = -1 := by
 unfold atI
 split
 · rfl
 · have hn : (diesL m)[i.toNat]? = none := by
    rw [List.getElem?_eq_none_iff]; unfold diesL; split
    · rename_i hs
      simp only [cI, hs, if_true] at h; rw [dies_length]; omega
    · simp
   rw [hn]

end Go.Proofs.YtpbigfopmompfaaGreat
