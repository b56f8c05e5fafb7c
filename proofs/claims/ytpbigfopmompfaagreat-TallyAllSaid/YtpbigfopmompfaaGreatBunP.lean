import Derived.Test.YtpbigfopmompfaaGreatPlainZig
import Derived.Test.YtpbigfopmompfaaGreatBase
/- What a claim's proof leans on: PlainBits, PlainKoop, PlainGeo, PlainByt, PlainSherd, PlainTurn, PlainLine, PlainFlip, PlainJoin, PlainPage, PlainTear, PlainOver. -/
namespace Go.Proofs.YtpbigfopmompfaaGreat
open Go.RowKit

theorem snoc_ind {α : Type} {P : List α → Prop} (h0 : P []) (h1 : ∀ l a, P l → P (l ++ [a])) (l : List α) : P l := by
  rw [← List.reverse_reverse l]; induction l.reverse with
  | nil => simpa using h0
  | cons a t ih => simpa using h1 _ a ih
def powI (n : Int) : Int := 2 ^ n.toNat
theorem powI_pos (n : Int) : 1 ≤ powI n := by
  have : (0 : Int) < 2 ^ n.toNat := Int.pow_pos (by decide); unfold powI; omega
theorem powI_step (k : Nat) (h : k < 63) : IntKind.u64.wrap (powI k * 2) = powI ((k : Int) + 1) := by
  have hle : (2 : Nat) ^ (k + 1) ≤ 2 ^ 63 := Nat.pow_le_pow_right (by omega) (by omega)
  have e2 : powI k * 2 = ((2 ^ (k + 1) : Nat) : Int) := by
    rw [Nat.pow_succ, Int.natCast_mul, Int.natCast_pow]; rfl
  have e3 : powI ((k : Int) + 1) = ((2 ^ (k + 1) : Nat) : Int) := by rw [Int.natCast_pow]; rfl
  rw [e2, e3]; exact u64_wrap_nat _ (by omega)
theorem bit_div0 (u : Nat) (i : Int) : 0 ≤ (u : Int) / powI i := Int.ediv_nonneg (by omega) (by have := powI_pos i; omega)
def bitsTo (u w k : Nat) : List Bool := (List.range k).map fun j => u.testBit (w - 1 - j)
def bitsL (u w : Nat) : List Bool := bitsTo u w w
theorem bitsTo_length (u w k : Nat) : (bitsTo u w k).length = k := by simp [bitsTo]
theorem zaw (u w : Nat) : (bitsL u w).length = w := bitsTo_length u w w
theorem bitsTo_succ (u w k : Nat) : bitsTo u w (k + 1) = bitsTo u w k ++ [u.testBit (w - 1 - k)] := by simp [bitsTo, List.range_succ]
theorem bit_form (u : Nat) (i : Int) : ((u : Int) / powI i % 2 == 1) = u.testBit i.toNat := by
  have e : (u : Int) / powI i % 2 = ((u / 2 ^ i.toNat % 2 : Nat) : Int) := by
    rw [Int.natCast_emod, Int.natCast_ediv, Int.natCast_pow]; rfl
  rw [e, Nat.testBit_eq_decide_div_mod_eq]; have h2 : u / 2 ^ i.toNat % 2 = 0 ∨ u / 2 ^ i.toNat % 2 = 1 := by omega
  rcases h2 with h2 | h2 <;> simp [h2]
def numN : List Bool → Nat := List.foldl (fun n b => 2 * n + b.toNat) 0
theorem numN_snoc (l : List Bool) (b : Bool) : numN (l ++ [b]) = 2 * numN l + b.toNat := by simp [numN, List.foldl_append]
theorem numN_lt (l : List Bool) : numN l < 2 ^ l.length := by
  refine snoc_ind (P := fun l => numN l < 2 ^ l.length) (by simp [numN]) (fun l b ih => ?_) l; rw [numN_snoc, List.length_append, List.length_singleton, Nat.pow_succ]; have : b.toNat ≤ 1 := by cases b <;> simp
  omega
theorem take_snoc' {α : Type} (l : List α) (k : Nat) (h : k < l.length) : l.take (k + 1) = l.take k ++ [l[k]] := by
  rw [List.take_add_one, List.getElem?_eq_getElem h]; rfl
def octTo (l : List Bool) (i k : Nat) : Nat := numN ((List.range k).map fun j => l.getD (i + j) false)
def octN (l : List Bool) (i : Nat) : Nat := octTo l i 8
theorem octTo_lt (l : List Bool) (i k : Nat) : octTo l i k < 2 ^ k := by
  have h := numN_lt ((List.range k).map fun j => l.getD (i + j) false); simpa [octTo] using h
def bytesTo (l : List Bool) (k : Nat) : List Nat := (List.range k).map fun j => octN l (8 * j)
def bytesN (l : List Bool) : List Nat := bytesTo l ((l.length + 7) / 8)
theorem bytesTo_succ (l : List Bool) (k : Nat) : bytesTo l (k + 1) = bytesTo l k ++ [octN l (8 * k)] := by simp [bytesTo, List.range_succ]
theorem zbz (l : List Bool) (k : Nat) : (bytesTo l k).length = k := by simp [bytesTo]
def ofN (b : List Nat) : List Bool := b.flatMap (bitsL · 8)
theorem ofN_length (b : List Nat) : (ofN b).length = 8 * b.length := by
  induction b with
  | nil => simp [ofN]
  | cons x t ih => simp only [ofN, List.flatMap_cons, List.length_append, zaw, List.length_cons] at *; omega
def diesTo (m k : Nat) : List Nat := (List.range k).filter m.testBit
theorem diesTo_succ (m k : Nat) : diesTo m (k + 1) = diesTo m k ++ (if m.testBit k then [k] else []) := by
  simp only [diesTo, List.range_succ, List.filter_append]; by_cases h : m.testBit k <;> simp [h]
theorem diesTo_length (m k : Nat) : (diesTo m k).length ≤ k := cnt_le m k
theorem die_div (M k : Nat) (hM : M < 256) : wrap64 ((M : Int) / powI k) = (M : Int) / powI k := by
  have e : (M : Int) / powI k = ((M / 2 ^ k : Nat) : Int) := by rw [Int.natCast_ediv, Int.natCast_pow]; rfl
  have := Nat.div_le_self M (2 ^ k); rw [e]; generalize M / 2 ^ k = q at *; unfold wrap64; omega
theorem powI_le (k : Nat) (h : k < 8) : powI k ≤ 128 := by
  rcases cases8 (d := k) (by omega) (by omega) with h | h | h | h | h | h | h | h <;> rw [h] <;> decide
theorem dies_find : ∀ M : Fin 256, ∀ k : Fin 8, (match (diesN M.val)[k.val]? with | some D => decide (D < 8) && M.val.testBit D && (cnt M.val D == k.val) | none => true) = true := by decide +kernel
theorem dies_found {M k D : Nat} (hM : M < 256) (h : (diesN M)[k]? = some D) : D < 8 ∧ M.testBit D = true ∧ cnt M D = k := by
  have hk : k < 8 := by
    have := (List.getElem?_eq_some_iff.1 h).1; have := cnt_le M 8; rw [dies_length] at *; omega
  have := dies_find ⟨M, hM⟩ ⟨k, hk⟩; simp only [h, Bool.and_eq_true, decide_eq_true_eq, beq_iff_eq] at this; exact ⟨this.1.1, this.1.2, this.2⟩
theorem diesL_nat {M : Nat} (hM : M < 256) : diesL M = diesN M := by rw [diesL, setB_of (by omega) (by omega)]; rfl
theorem spot_found {M k : Nat} {d : Int} (hM : M < 256) (h : (diesN M)[k]? = some d.toNat) (hd : 0 ≤ d) : spotI M d = k := by
  obtain ⟨h1, h2, h3⟩ := dies_found hM h
  have : hasB M d = true := by
    simp only [hasB, Bool.and_eq_true, decide_eq_true_eq, setB_of (show 0 ≤ (M : Int) by omega) (show (M : Int) < 256 by omega), Int.toNat_natCast]; exact ⟨⟨trivial, by omega, by omega⟩, h2⟩
  simp only [spotI, this, if_true, Int.toNat_natCast, h3]
theorem spot_none {M : Nat} {d : Int} (hM : M < 256) (h : ∀ (j D : Nat), (diesN M)[j]? = some D → (D : Int) ≠ d) : spotI M d = -1 := by
  unfold spotI; split
  · rename_i hh
    simp only [hasB, Bool.and_eq_true, decide_eq_true_eq, Int.toNat_natCast] at hh; obtain ⟨D, rfl⟩ := Int.eq_ofNat_of_zero_le hh.1.2.1; exact absurd rfl (h _ D (dies_at ⟨M, hM⟩ ⟨D, by omega⟩ (by simpa using hh.2)))
  · rfl
end Go.Proofs.YtpbigfopmompfaaGreat
namespace Go.Proofs.YtpbigfopmompfaaGreat
open Go.RowKit

def poly : Nat := 1947962583
def kround (s : Nat) : Nat := if s.testBit 31 then (2 * s % 4294967296) ^^^ poly else 2 * s % 4294967296
def kiter : Nat → Nat → Nat
  | 0, s => s
  | k + 1, s => kround (kiter k s)
def kstep (s x : Nat) : Nat := kiter 8 (s ^^^ (x * 16777216))
def ksum (s : Nat) (b : List Nat) : Nat := b.foldl kstep s
def kof (b : List Nat) : Nat := ksum 4294967295 b
theorem poly_lt : poly < 4294967296 := by decide
theorem kround_lt (s : Nat) : kround s < 4294967296 := by
  unfold kround; split
  · exact Nat.xor_lt_two_pow (n := 32) (Nat.mod_lt _ (by decide)) poly_lt
  · exact Nat.mod_lt _ (by decide)
theorem kiter_lt (k s : Nat) (h : s < 4294967296) : kiter k s < 4294967296 := by
  cases k with
  | zero => exact h
  | succ k => exact kround_lt _
theorem kstart_lt (s x : Nat) (h : s < 4294967296) (hx : x < 256) : s ^^^ (x * 16777216) < 4294967296 := Nat.xor_lt_two_pow (n := 32) h (by omega)
theorem kstep_lt (s x : Nat) (h : s < 4294967296) (hx : x < 256) : kstep s x < 4294967296 := kiter_lt 8 _ (kstart_lt s x h hx)
theorem ksum_lt (b : List Nat) : ∀ s, s < 4294967296 → (∀ x ∈ b, x < 256) → ksum s b < 4294967296 := by
  induction b with
  | nil => intro s h _; exact h
  | cons x t ih => intro s h hb; exact ih _ (kstep_lt s x h (hb x (by simp))) fun y hy => hb y (by simp [hy])
theorem ksum_snoc (s : Nat) (b : List Nat) (x : Nat) : ksum s (b ++ [x]) = kstep (ksum s b) x := by simp [ksum, List.foldl_append]
theorem k_high (s : Nat) (h : s < 4294967296) : bits .and .u32 (s : Int) 2147483648 = if s.testBit 31 then 2147483648 else 0 := by
  have e := u32_and_nat s 2147483648 h (by decide); have e2 : s &&& 2147483648 = s / 2 ^ 31 % 2 * 2 ^ 31 := nat_bit 31 s; rw [show ((2147483648 : Nat) : Int) = 2147483648 from rfl] at e; rw [e, e2, Nat.testBit_eq_decide_div_mod_eq]; have h2 : s / 2 ^ 31 % 2 = 0 ∨ s / 2 ^ 31 % 2 = 1 := by omega
  rcases h2 with h2 | h2 <;> rw [h2] <;> rfl
theorem k_one (s : Nat) (h : s.testBit 31 = true) : bits .xor .u32 ((s : Int) * 2 % 4294967296) 1947962583 = (kround s : Int) := by
  have e1 : (s : Int) * 2 % 4294967296 = ((2 * s % 4294967296 : Nat) : Int) := by omega
  have e := u32_xor_nat (2 * s % 4294967296) poly (Nat.mod_lt _ (by decide)) poly_lt; rw [show (poly : Int) = 1947962583 from rfl] at e; rw [e1, e, kround, h]; rfl
theorem k_nought (s : Nat) (h : s.testBit 31 = false) : (s : Int) * 2 % 4294967296 = (kround s : Int) := by
  rw [kround, h]; simp; omega
theorem k_start (s x : Nat) (h : s < 4294967296) (hx : x < 256) : bits .xor .u32 (s : Int) ((x : Int) * 16777216) = ((s ^^^ (x * 16777216) : Nat) : Int) := by
  have e := u32_xor_nat s (x * 16777216) h (by omega); rw [Int.natCast_mul] at e; exact e
theorem bitsL_get (u w j : Nat) (h : j < w) : (bitsL u w)[j]? = some (u.testBit (w - 1 - j)) := by simp [bitsL, bitsTo, h]
theorem bitsL_getD (u w j : Nat) (h : j < w) : (bitsL u w).getD j false = u.testBit (w - 1 - j) := by rw [List.getD_eq_getElem?_getD, bitsL_get u w j h]; rfl
theorem numN_bitsTo (u w k : Nat) (h : k ≤ w) : numN (bitsTo u w k) = u / 2 ^ (w - k) % 2 ^ k := by
  induction k with
  | zero => simp [bitsTo, numN, Nat.mod_one]
  | succ k ih =>
    rw [bitsTo_succ, numN_snoc, ih (by omega)]
    have e : u / 2 ^ (w - k) = u / 2 ^ (w - (k + 1)) / 2 := by
      rw [Nat.div_div_eq_div_mul, ← Nat.pow_succ]; congr 2; omega
    have e2 : w - 1 - k = w - (k + 1) := by omega
    rw [e, e2, Nat.testBit_eq_decide_div_mod_eq]; generalize u / 2 ^ (w - (k + 1)) = q; have h2 : q % 2 = 0 ∨ q % 2 = 1 := by omega
    have e3 : q % 2 ^ (k + 1) = q % 2 + 2 * (q / 2 % 2 ^ k) := by rw [Nat.pow_succ', Nat.mod_mul]
    rcases h2 with h2 | h2 <;> simp [h2] <;> omega
theorem numN_bitsL (u w : Nat) (h : u < 2 ^ w) : numN (bitsL u w) = u := by
  rw [bitsL, numN_bitsTo u w w (Nat.le_refl _), Nat.sub_self, Nat.pow_zero, Nat.div_one, Nat.mod_eq_of_lt h]
theorem bitsL_snoc (u w : Nat) (b : Bool) : bitsL (2 * u + b.toNat) (w + 1) = bitsL u w ++ [b] := by
  have hb : b.toNat < 2 := by cases b <;> simp
  rw [bitsL, bitsTo_succ]
  have e0 : (2 * u + b.toNat).testBit (w + 1 - 1 - w) = b := by
    rw [show w + 1 - 1 - w = 0 by omega, Nat.testBit_zero]; cases b <;> simp <;> omega
  rw [e0]; congr 1
  unfold bitsL bitsTo; apply List.map_congr_left
  intro j hj; rw [List.mem_range] at hj; rw [show w + 1 - 1 - j = (w - 1 - j) + 1 by omega, Nat.testBit_succ]; congr 1; omega
theorem bitsL_numN (l : List Bool) : bitsL (numN l) l.length = l := by
  refine snoc_ind (P := fun l => bitsL (numN l) l.length = l) (by simp [bitsL, bitsTo]) (fun l b ih => ?_) l; rw [numN_snoc, List.length_append, List.length_singleton, bitsL_snoc, ih]
theorem numN_testBit (l : List Bool) (q : Nat) (h : q < l.length) : (numN l).testBit q = l.getD (l.length - 1 - q) false := by
  have h1 := bitsL_getD (numN l) l.length (l.length - 1 - q) (by omega); rw [bitsL_numN] at h1; rw [h1]; congr 1; omega
theorem numN_testBit' (l : List Bool) (q : Nat) (h : l.length ≤ q) : (numN l).testBit q = false :=
  Nat.testBit_lt_two_pow (Nat.lt_of_lt_of_le (numN_lt l) (Nat.pow_le_pow_right (by omega) h))
theorem zbu (l : List Bool) (i q : Nat) : (octN l i).testBit q = (decide (q < 8) && l.getD (i + (7 - q)) false) := by
  unfold octN octTo; by_cases h : q < 8
  · rw [numN_testBit _ q (by simpa using h)]
    simp [h, show 7 - q < 8 by omega]
  · rw [numN_testBit' _ q (by simpa using h)]
    simp [h]
theorem octN_lt (l : List Bool) (i : Nat) : octN l i < 256 := octTo_lt l i 8
theorem octN_snoc (l : List Bool) (x : Bool) (j : Nat) (hj : j = l.length / 8) : octN (l ++ [x]) (8 * j) = octN l (8 * j) ||| (x.toNat * 2 ^ (7 - l.length % 8)) := by
  apply Nat.eq_of_testBit_eq
  intro q; rw [Nat.testBit_or, zbu, zbu, Nat.testBit_mul_two_pow]
  have e : (x.toNat).testBit (q - (7 - l.length % 8)) = (decide (q - (7 - l.length % 8) = 0) && x) := by
    cases x
    · simp
    · simp only [Bool.toNat_true, Bool.and_true]
      by_cases h0 : q - (7 - l.length % 8) = 0
      · simp [h0]
      · obtain ⟨m, hm⟩ : ∃ m, q - (7 - l.length % 8) = m + 1 := ⟨_, (Nat.succ_pred_eq_of_pos (by omega)).symm⟩
        rw [hm, Nat.testBit_succ]; simp
  rw [e]; by_cases h8 : q < 8
  · have h8' : decide (q < 8) = true := by simpa using h8
    rw [h8', Bool.true_and, Bool.true_and]; simp only [List.getD_eq_getElem?_getD]; by_cases hlt : 8 * j + (7 - q) < l.length
    · rw [List.getElem?_append_left hlt]
      have : (decide (7 - l.length % 8 ≤ q) && (decide (q - (7 - l.length % 8) = 0) && x)) = false := by
        have : ¬ (7 - l.length % 8 ≤ q ∧ q - (7 - l.length % 8) = 0) := by omega
        cases h1 : decide (7 - l.length % 8 ≤ q) <;> cases h2 : decide (q - (7 - l.length % 8) = 0) <;> simp_all
      rw [this, Bool.or_false]
    · rw [List.getElem?_append_right (by omega), List.getElem?_eq_none (show l.length ≤ 8 * j + (7 - q) by omega)]
      by_cases he : 8 * j + (7 - q) = l.length
      · rw [he, Nat.sub_self]
        have h1 : decide (7 - l.length % 8 ≤ q) = true := by simp; omega
        have h2 : decide (q - (7 - l.length % 8) = 0) = true := by simp; omega
        rw [h1, h2]; simp
      · have h2 : (decide (7 - l.length % 8 ≤ q) && (decide (q - (7 - l.length % 8) = 0) && x)) = false := by
          have : ¬ (7 - l.length % 8 ≤ q) := by omega
          simp [this]
        rw [h2, List.getElem?_eq_none (by simp; omega)]; simp
  · have h8' : decide (q < 8) = false := by simpa using h8
    have h2 : decide (q - (7 - l.length % 8) = 0) = false := by simp; omega
    rw [h8', h2]; simp
theorem octN_old (l : List Bool) (x : Bool) (j : Nat) (hj : j < l.length / 8) : octN (l ++ [x]) (8 * j) = octN l (8 * j) := by
  apply Nat.eq_of_testBit_eq
  intro q; rw [zbu, zbu]; by_cases h8 : q < 8
  · simp only [List.getD_eq_getElem?_getD]
    rw [List.getElem?_append_left (by omega)]
  · simp [h8]
theorem octN_new (l : List Bool) (j : Nat) (hj : l.length ≤ 8 * j) : octN l (8 * j) = 0 := by
  apply Nat.eq_of_testBit_eq
  intro q; rw [zbu, List.getD_eq_getElem?_getD, List.getElem?_eq_none (by omega)]; simp
def roomN (l : List Bool) : List Nat := bytesTo l (l.length / 8 + 1)
theorem roomN_same (l : List Bool) (h : l.length % 8 ≠ 0) : roomN l = bytesN l := by
  unfold roomN bytesN; congr 1; omega
theorem roomN_more (l : List Bool) (h : l.length % 8 = 0) : roomN l = bytesN l ++ [0] := by
  unfold roomN bytesN; rw [bytesTo_succ, octN_new l _ (by omega)]; congr 2; omega
theorem roomN_get (l : List Bool) : (roomN l)[l.length / 8]? = some (octN l (8 * (l.length / 8))) := by simp [roomN, bytesTo]
theorem putBit (l : List Bool) (x : Bool) : (roomN l).set (l.length / 8) (octN l (8 * (l.length / 8)) ||| (x.toNat * 2 ^ (7 - l.length % 8))) = bytesN (l ++ [x]) := by
  have hlen : (bytesN (l ++ [x])).length = l.length / 8 + 1 := by rw [bytesN, zbz, List.length_append, List.length_singleton]; omega
  apply List.ext_getElem?
  intro j; by_cases hj : j < l.length / 8 + 1
  · have e : (bytesN (l ++ [x]))[j]? = some (octN (l ++ [x]) (8 * j)) := by
      have : j < (l.length + 1 + 7) / 8 := by omega
      simp [bytesN, bytesTo, this]
    rw [e, List.getElem?_set]; by_cases h : l.length / 8 = j
    · rw [if_pos h, if_pos (by simp [roomN, zbz]), ← h, octN_snoc l x _ rfl]
    · rw [if_neg h]
      simp only [roomN, bytesTo, List.getElem?_map, List.getElem?_range hj, Option.map_some]; rw [octN_old l x j (by omega)]
  · rw [List.getElem?_eq_none (by rw [List.length_set, roomN, zbz]; omega), List.getElem?_eq_none (by omega)]
theorem put_val (o u m s : Nat) (ho : o < 256) (hu : u < 18446744073709551616) (hs : s ≤ 7) :
    bits .or .u8 (o : Int) (bits .and .u64 ((u : Int) / 2 ^ m) 1 % 256 * 2 ^ s % 256) = ((o ||| ((u.testBit m).toNat * 2 ^ s) : Nat) : Int) := by
  have e1 : (u : Int) / 2 ^ m = ((u / 2 ^ m : Nat) : Int) := by rw [Int.natCast_ediv, Int.natCast_pow]; rfl
  have hd := Nat.div_le_self u (2 ^ m)
  have e2 : bits .and .u64 ((u / 2 ^ m : Nat) : Int) 1 = (((u.testBit m).toNat : Nat) : Int) := by
    rw [Nat.testBit_eq_decide_div_mod_eq]; generalize u / 2 ^ m = q at *; rw [u64_and1 _ (by omega) (by omega)]; have h2 : q % 2 = 0 ∨ q % 2 = 1 := by omega
    rcases h2 with h2 | h2 <;> simp [h2] <;> omega
  have hb : (u.testBit m).toNat ≤ 1 := by cases u.testBit m <;> simp
  rw [e1, e2]; generalize (u.testBit m).toNat = x at *; have hp : 2 ^ s ≤ 128 := Nat.le_trans (Nat.pow_le_pow_right (by omega) hs) (by decide); have hx : x * 2 ^ s ≤ 128 := Nat.le_trans (Nat.mul_le_mul_right _ hb) (by omega)
  have e3 : (x : Int) % 256 * 2 ^ s % 256 = ((x * 2 ^ s : Nat) : Int) := by
    have : (x : Int) % 256 = (x : Int) := by omega
    rw [this, Int.natCast_mul, Int.natCast_pow, Int.emod_eq_of_lt]
    · rfl
    · exact Int.mul_nonneg (by omega) (Int.le_of_lt (Int.pow_pos (by decide)))
    · have h := congrArg (Nat.cast (R := Int)) (rfl : x * 2 ^ s = x * 2 ^ s)
      rw [Int.natCast_mul, Int.natCast_pow] at h; have : ((x * 2 ^ s : Nat) : Int) ≤ 128 := by omega
      rw [Int.natCast_mul, Int.natCast_pow] at this; exact Int.lt_of_le_of_lt this (by decide)
  rw [e3]; exact u8_or_nat o (x * 2 ^ s) ho (by omega)
theorem ofN_get (b : List Nat) (i : Nat) (h : i < 8 * b.length) : ∃ x, b[i / 8]? = some x ∧ (ofN b)[i]? = some (x.testBit (7 - i % 8)) := by
  induction b generalizing i with
  | nil => simp at h
  | cons y t ih =>
    simp only [List.length_cons] at h; by_cases h8 : i < 8
    · refine ⟨y, by rw [show i / 8 = 0 by omega]; rfl, ?_⟩
      rw [ofN, List.flatMap_cons, List.getElem?_append_left (by rw [zaw]; exact h8), bitsL_get y 8 i h8]; congr 2; omega
    · obtain ⟨x, h1, h2⟩ := ih (i - 8) (by omega)
      refine ⟨x, ?_, ?_⟩
      · rw [show i / 8 = (i - 8) / 8 + 1 by omega]; simpa using h1
      · rw [ofN, List.flatMap_cons, List.getElem?_append_right (by rw [zaw]; omega), zaw]
        rw [show i % 8 = (i - 8) % 8 by omega]; exact h2
def cutB (l : List Bool) (i k : Nat) : List Bool := (l.drop i).take k
theorem cutB_length (l : List Bool) (i k : Nat) (h : i + k ≤ l.length) : (cutB l i k).length = k := by simp [cutB]; omega
theorem cutB_succ (l : List Bool) (i k : Nat) (x : Bool) (h : l[i + k]? = some x) : cutB l i (k + 1) = cutB l i k ++ [x] := by
  rw [cutB, List.take_add_one, List.getElem?_drop, h]; rfl
theorem get_val (U b s : Nat) (hU : U < 9223372036854775808) (hb : b < 256) :
    bits .or .u64 ((U : Int) * 2) (IntKind.u64.wrap (bits .and .u8 ((b : Int) / 2 ^ s) 1)) = ((2 * U + (b.testBit s).toNat : Nat) : Int) := by
  have e1 : (b : Int) / 2 ^ s = ((b / 2 ^ s : Nat) : Int) := by rw [Int.natCast_ediv, Int.natCast_pow]; rfl
  have hd := Nat.div_le_self b (2 ^ s)
  have e2 : bits .and .u8 ((b / 2 ^ s : Nat) : Int) 1 = (((b.testBit s).toNat : Nat) : Int) := by
    rw [Nat.testBit_eq_decide_div_mod_eq]; generalize b / 2 ^ s = q at *; have := u8_and_nat q 1 (by omega) (by omega); rw [show ((1 : Nat) : Int) = 1 from rfl] at this; rw [this, Nat.and_one_is_mod]; have h2 : q % 2 = 0 ∨ q % 2 = 1 := by omega
    rcases h2 with h2 | h2 <;> simp [h2]
  have hx : (b.testBit s).toNat ≤ 1 := by cases b.testBit s <;> simp
  rw [e1, e2, u64_wrap_nat _ (by omega)]; generalize (b.testBit s).toNat = x at *; have e3 : (U : Int) * 2 = ((2 * U : Nat) : Int) := by omega
  rw [e3, u64_or_nat (2 * U) x (by omega) (by omega), nat_join 1 (2 * U) x (by omega) (by omega)]
end Go.Proofs.YtpbigfopmompfaaGreat
namespace Go.Proofs.YtpbigfopmompfaaGreat
open Go.RowKit

def parityI (m b r : Int) : Int := if countI m < 2 ∨ b < 0 ∨ r < 0 then -1 else atI m ((b % countI m + r % countI m) % countI m)
def slotsI (m : Int) : Int := if countI m < 2 then 0 else countI m - 1
def dieI (m b r s : Int) : Int := if parityI m b r < 0 then -1 else atI (withoutI m (parityI m b r)) s
def slotI (m b r d : Int) : Int := if parityI m b r < 0 then -1 else spotI (withoutI m (parityI m b r)) d
theorem countI_le (m : Int) : 0 ≤ countI m ∧ countI m ≤ 8 := by
  unfold countI; split
  · have := cnt_le m.toNat 8; omega
  · omega
theorem set_of_count {m : Int} (h : countI m ≠ 0) : 0 ≤ m ∧ m < 256 := by
  unfold countI setB at h; split at h
  · rename_i h2
    simpa using h2
  · exact absurd rfl h
end Go.Proofs.YtpbigfopmompfaaGreat
namespace Go.Proofs.YtpbigfopmompfaaGreat
open Go.RowKit
end Go.Proofs.YtpbigfopmompfaaGreat
namespace Go.Proofs.YtpbigfopmompfaaGreat
open Go.RowKit
def metaN (r l s : Int) : Nat := (r % 256).toNat * 72057594037927936 + (l % 65536).toNat * 1099511627776 + (s % 1099511627776).toNat
theorem metaN_lt (r l s : Int) : metaN r l s < 18446744073709551616 := by unfold metaN; omega
theorem u64_wrap_mod (x : Int) : IntKind.u64.wrap x = x % 18446744073709551616 := by
  show _ % _ = _
  have e2 : ((2 : Int) ^ IntKind.u64.bits) = 18446744073709551616 := by decide
  rw [e2]
theorem u64_or_dis (a b : Nat) (k : Nat) (ha : a * 2 ^ k < 18446744073709551616) (hb : b < 2 ^ k) (hk : k ≤ 64) : bits .or .u64 ((a * 2 ^ k : Nat) : Int) (b : Int) = ((a * 2 ^ k + b : Nat) : Int) := by
  have hb2 : b < 18446744073709551616 := Nat.lt_of_lt_of_le hb (Nat.le_trans (Nat.pow_le_pow_right (by decide) hk) (by decide)); simp only [bits]; rw [show IntKind.u64.bits = 64 from rfl, show BitVec.ofInt 64 ((a * 2 ^ k : Nat) : Int) = BitVec.ofNat 64 (a * 2 ^ k) by rw [BitVec.ofInt_natCast], BitVec.ofInt_natCast]
  have e : (BitVec.ofNat 64 (a * 2 ^ k) ||| BitVec.ofNat 64 b).toNat = a * 2 ^ k + b := by
    rw [BitVec.toNat_or, BitVec.toNat_ofNat, BitVec.toNat_ofNat, Nat.mod_eq_of_lt (by omega), Nat.mod_eq_of_lt (by omega), Nat.mul_comm, ← Nat.two_pow_add_eq_or_of_lt hb]
  have hlt := (BitVec.ofNat 64 (a * 2 ^ k) ||| BitVec.ofNat 64 b).isLt; rw [e] at hlt; have hw := u64_wrap_nat (a * 2 ^ k + b) hlt; simp [e]; simpa using hw
theorem meta_form (r l s : Int) :
    bits .or .u64 (bits .or .u64 (IntKind.u64.wrap (IntKind.u64.wrap r * 72057594037927936)) (IntKind.u64.wrap (bits .and .u64 (IntKind.u64.wrap l) 65535 * 1099511627776))) (bits .and .u64 (IntKind.u64.wrap s) 1099511627775) = (metaN r l s : Int) := by
  have el : bits .and .u64 (IntKind.u64.wrap l) 65535 = (((l % 65536).toNat : Nat) : Int) := by
    obtain ⟨L, hL⟩ := Int.eq_ofNat_of_zero_le (show 0 ≤ l % 18446744073709551616 by omega); rw [u64_wrap_mod, hL, show (65535 : Int) = ((2 ^ 16 - 1 : Nat) : Int) from rfl, u64_and_nat L _ (by omega) (by decide), Nat.and_two_pow_sub_one_eq_mod]; omega
  have es : bits .and .u64 (IntKind.u64.wrap s) 1099511627775 = (((s % 1099511627776).toNat : Nat) : Int) := by
    obtain ⟨L, hL⟩ := Int.eq_ofNat_of_zero_le (show 0 ≤ s % 18446744073709551616 by omega); rw [u64_wrap_mod, hL, show (1099511627775 : Int) = ((2 ^ 40 - 1 : Nat) : Int) from rfl, u64_and_nat L _ (by omega) (by decide), Nat.and_two_pow_sub_one_eq_mod]; omega
  have er : IntKind.u64.wrap (IntKind.u64.wrap r * 72057594037927936) = (((r % 256).toNat * 2 ^ 56 : Nat) : Int) := by
    rw [u64_wrap_mod, u64_wrap_mod]; omega
  have el2 : IntKind.u64.wrap ((((l % 65536).toNat : Nat) : Int) * 1099511627776) = (((l % 65536).toNat * 2 ^ 40 : Nat) : Int) := by
    rw [u64_wrap_mod]; omega
  rw [el, es, er, el2, u64_or_dis _ _ 56 (by omega) (by omega) (by decide)]; have e3 : (r % 256).toNat * 2 ^ 56 + (l % 65536).toNat * 2 ^ 40 = ((r % 256).toNat * 65536 + (l % 65536).toNat) * 2 ^ 40 := by omega
  rw [e3, u64_or_dis _ _ 40 (by omega) (by omega) (by decide)]; unfold metaN; omega
def roleI (m : Int) : Int := m / 72057594037927936
def lpnI (m : Int) : Int := m / 1099511627776 % 65536
def seqI (m : Int) : Int := m % 1099511627776
theorem of_form (m : Int) (h0 : 0 ≤ m) (h1 : m < 18446744073709551616) : wrap64 (m / 72057594037927936) = roleI m ∧ wrap64 (bits .and .u64 (m / 1099511627776) 65535) = lpnI m ∧ wrap64 (bits .and .u64 m 1099511627775) = seqI m := by
  obtain ⟨M, rfl⟩ := Int.eq_ofNat_of_zero_le h0
  have el : bits .and .u64 ((M : Int) / 1099511627776) 65535 = (M : Int) / 1099511627776 % 65536 := by
    rw [show (M : Int) / 1099511627776 = ((M / 1099511627776 : Nat) : Int) by omega, show (65535 : Int) = ((2 ^ 16 - 1 : Nat) : Int) from rfl, u64_and_nat _ _ (by omega) (by decide), Nat.and_two_pow_sub_one_eq_mod]; omega
  have es : bits .and .u64 (M : Int) 1099511627775 = (M : Int) % 1099511627776 := by
    rw [show (1099511627775 : Int) = ((2 ^ 40 - 1 : Nat) : Int) from rfl, u64_and_nat _ _ (by omega) (by decide), Nat.and_two_pow_sub_one_eq_mod]; omega
  rw [el, es]; unfold roleI lpnI seqI; refine ⟨za0 _ (by omega) (by omega), za0 _ (by omega) (by omega), za0 _ (by omega) (by omega)⟩
theorem of_meta (r l s : Int) : roleI (metaN r l s) = r % 256 ∧ lpnI (metaN r l s) = l % 65536 ∧ seqI (metaN r l s) = s % 1099511627776 := by
  unfold roleI lpnI seqI metaN; omega
theorem meta_of (m : Int) (h0 : 0 ≤ m) (h1 : m < 18446744073709551616) : (metaN (roleI m) (lpnI m) (seqI m) : Int) = m := by
  unfold roleI lpnI seqI metaN; omega
end Go.Proofs.YtpbigfopmompfaaGreat
namespace Go.Proofs.YtpbigfopmompfaaGreat
open Go.RowKit
end Go.Proofs.YtpbigfopmompfaaGreat
namespace Go.Proofs.YtpbigfopmompfaaGreat
open Go.RowKit

def over (a b : List Nat) : List Nat := List.zipWith (· ^^^ ·) a b
theorem over_length (a b : List Nat) (h : a.length = b.length) : (over a b).length = a.length := by simp [over, h]
end Go.Proofs.YtpbigfopmompfaaGreat
namespace Go.Proofs.YtpbigfopmompfaaGreat
open Go.RowKit

theorem getD_lt' (l : List Nat) (hb : ∀ x ∈ l, x < 256) (j : Nat) : l.getD j 0 < 256 := by
  rw [List.getD_eq_getElem?_getD]; by_cases h : j < l.length
  · rw [List.getElem?_eq_getElem h]; exact hb _ (List.getElem_mem _)
  · rw [List.getElem?_eq_none (by omega)]; decide
end Go.Proofs.YtpbigfopmompfaaGreat
namespace Go.Proofs.YtpbigfopmompfaaGreat
open Go.RowKit

theorem bytesN_len (l : List Bool) : (bytesN l).length = (l.length + 7) / 8 := by rw [bytesN, zbz]
theorem zb0 (b : List Nat) : (ofN b).length = 8 * b.length := by
  induction b with
  | nil => rfl
  | cons x b ih =>
    show (bitsL x 8 ++ ofN b).length = _
    rw [List.length_append, ih, zaw, List.length_cons]; omega
theorem bytesN_lt (l : List Bool) : ∀ x ∈ bytesN l, x < 256 := by
  intro x hx; unfold bytesN bytesTo at hx; obtain ⟨j, _, rfl⟩ := List.mem_map.1 hx; exact octN_lt _ _
theorem ofN_bytesN (l : List Bool) (i : Nat) (h : i < l.length) : (ofN (bytesN l))[i]? = l[i]? := by
  obtain ⟨x, h1, h2⟩ := ofN_get (bytesN l) i (by rw [bytesN_len]; omega)
  have e : (bytesN l)[i / 8]? = some (octN l (8 * (i / 8))) := by
    have : i / 8 < (l.length + 7) / 8 := by omega
    simp [bytesN, bytesTo, this]
  rw [e] at h1; rw [h2, ← Option.some.inj h1, zbu, show decide (7 - i % 8 < 8) = true by (simp; omega), Bool.true_and, show 8 * (i / 8) + (7 - (7 - i % 8)) = i by omega, List.getD_eq_getElem?_getD, List.getElem?_eq_getElem h]; rfl
end Go.Proofs.YtpbigfopmompfaaGreat
set_option linter.unusedVariables false
namespace Go.Proofs.YtpbigfopmompfaaGreat
open Go.RowKit
theorem bytesN_of (b : List Nat) (hb : ∀ x ∈ b, x < 256) : bytesN (ofN b) = b := by
  apply List.ext_getElem?
  intro j; have hl : (bytesN (ofN b)).length = b.length := by rw [bytesN_len, zb0]; omega
  by_cases hj : j < b.length
  · have e : (bytesN (ofN b))[j]? = some (octN (ofN b) (8 * j)) := by
      have : j < ((ofN b).length + 7) / 8 := by rw [zb0]; omega
      simp [bytesN, bytesTo, this]
    rw [e, List.getElem?_eq_getElem hj]; congr 1
    apply Nat.eq_of_testBit_eq
    intro q; rw [zbu]; by_cases hq : q < 8
    · obtain ⟨x, h1, h2⟩ := ofN_get b (8 * j + (7 - q)) (by omega)
      rw [show (8 * j + (7 - q)) / 8 = j by omega, List.getElem?_eq_getElem hj] at h1; rw [List.getD_eq_getElem?_getD, h2, show decide (q < 8) = true by simpa using hq, Option.some.inj h1, show 7 - (8 * j + (7 - q)) % 8 = q by omega]; rfl
    · rw [show decide (q < 8) = false by simpa using hq, Bool.false_and]
      have := hb b[j] (List.getElem_mem hj); exact (Nat.testBit_lt_two_pow (Nat.lt_of_lt_of_le this (Nat.pow_le_pow_right (n := 2) (by decide) (show 8 ≤ q by omega)))).symm
  · rw [List.getElem?_eq_none (by omega), List.getElem?_eq_none (by omega)]
theorem ofN_app (a b : List Nat) : ofN (a ++ b) = ofN a ++ ofN b := by simp [ofN, List.flatMap_append]
theorem ofN_bytes (l : List Bool) (h : l.length % 8 = 0) : ofN (bytesN l) = l := by
  apply List.ext_getElem?
  intro i; by_cases hi : i < l.length
  · exact ofN_bytesN l i hi
  · rw [List.getElem?_eq_none (by rw [zb0, bytesN_len]; omega), List.getElem?_eq_none (by omega)]
theorem bytes_app (a b : List Nat) (ha : ∀ x ∈ a, x < 256) (hb : ∀ x ∈ b, x < 256) : ∀ x ∈ a ++ b, x < 256 := by
  intro x hx; rcases List.mem_append.1 hx with h | h
  · exact ha x h
  · exact hb x h
theorem bytesN_app (a b : List Bool) (ha : a.length % 8 = 0) (hb : b.length % 8 = 0) : bytesN (a ++ b) = bytesN a ++ bytesN b := by
  have := bytesN_of (bytesN a ++ bytesN b) (bytes_app _ _ (bytesN_lt a) (bytesN_lt b)); rw [ofN_app, ofN_bytes a ha, ofN_bytes b hb] at this; exact this
def mbits (r l s k b o m : Int) : List Bool := bitsL (metaN r l s) 64 ++ (bitsL b.toNat 8 ++ (bitsL o.toNat 8 ++ (bitsL m.toNat 8 ++ bitsL k.toNat 8)))
theorem mbits_length (r l s k b o m : Int) : (mbits r l s k b o m).length = 96 := by simp [mbits, zaw]
def headN (r l s k b o m : Int) : List Nat := bytesN (mbits r l s k b o m)
theorem headN_length (r l s k b o m : Int) : (headN r l s k b o m).length = 12 := by rw [headN, bytesN_len, mbits_length]
theorem headN_lt (r l s k b o m : Int) : ∀ x ∈ headN r l s k b o m, x < 256 := bytesN_lt _
def crcN (P : List Nat) : List Nat := bytesN (bitsL (kof P) 32)
theorem crcN_length (P : List Nat) : (crcN P).length = 4 := by rw [crcN, bytesN_len, zaw]
theorem crcN_lt (P : List Nat) : ∀ x ∈ crcN P, x < 256 := bytesN_lt _
def pageN (d : List Nat) (r l s k b o m : Int) : List Nat := d ++ headN r l s k b o m ++ crcN (d ++ headN r l s k b o m)
theorem pageN_length {d : List Nat} (h : d.length = 16) (r l s k b o m : Int) : (pageN d r l s k b o m).length = 32 := by simp [pageN, headN_length, crcN_length, h]
theorem pageN_lt {d : List Nat} (h : ∀ x ∈ d, x < 256) (r l s k b o m : Int) : ∀ x ∈ pageN d r l s k b o m, x < 256 := bytes_app _ _ (bytes_app _ _ h (headN_lt r l s k b o m)) (crcN_lt _)
def fld (P : List Nat) (a k : Nat) : Nat := numN (cutB (ofN P) a k)
theorem fld_lt (P : List Nat) (a k : Nat) (h : a + k ≤ 8 * P.length) : fld P a k < 2 ^ k := by
  have := numN_lt (cutB (ofN P) a k); rwa [cutB_length _ _ _ (by rw [zb0]; exact h)] at this
theorem cut_join (l : List Bool) (a j k : Nat) (h : a + j ≤ l.length) : cutB l a j ++ cutB l (a + j) k = cutB l a (j + k) := by
  unfold cutB; rw [← List.drop_drop, List.take_add]
theorem bits_fld (P : List Nat) (a k : Nat) (h : a + k ≤ 8 * P.length) : bitsL (fld P a k) k = cutB (ofN P) a k := by
  have := bitsL_numN (cutB (ofN P) a k); rwa [cutB_length _ _ _ (by rw [zb0]; exact h)] at this
theorem ofN_drop (P : List Nat) (n : Nat) : ofN (P.drop n) = (ofN P).drop (8 * n) := by
  by_cases h : n ≤ P.length
  · have e := ofN_app (P.take n) (P.drop n)
    rw [List.take_append_drop] at e; have hl : (ofN (P.take n)).length = 8 * n := by rw [zb0, List.length_take]; omega
    rw [e, ← hl, List.drop_left]
  · rw [List.drop_eq_nil_of_le (by omega), List.drop_eq_nil_of_le (by rw [zb0]; omega)]; rfl
theorem ofN_take (P : List Nat) (n : Nat) : ofN (P.take n) = (ofN P).take (8 * n) := by
  by_cases h : n ≤ P.length
  · have e := ofN_app (P.take n) (P.drop n)
    rw [List.take_append_drop] at e; have hl : (ofN (P.take n)).length = 8 * n := by rw [zb0, List.length_take]; omega
    rw [e, ← hl, List.take_left]
  · rw [List.take_of_length_le (by omega), List.take_of_length_le (by rw [zb0]; omega)]
theorem cut_behind (P : List Nat) (a k : Nat) : cutB (ofN (P.drop 16)) a k = cutB (ofN P) (128 + a) k := by
  unfold cutB; rw [ofN_drop, List.drop_drop]
theorem drop_lt {P : List Nat} (h : ∀ x ∈ P, x < 256) (n : Nat) : ∀ x ∈ P.drop n, x < 256 := fun x hx => h x (List.mem_of_mem_drop hx)
theorem take_lt {P : List Nat} (h : ∀ x ∈ P, x < 256) (n : Nat) : ∀ x ∈ P.take n, x < 256 := fun x hx => h x (List.mem_of_mem_take hx)
def rM (P : List Nat) : Nat := fld P 128 64
def rR (P : List Nat) : Int := roleI (rM P)
def rL (P : List Nat) : Int := lpnI (rM P)
def rS (P : List Nat) : Int := seqI (rM P)
def rB (P : List Nat) : Int := fld P 192 8
def rO (P : List Nat) : Int := fld P 200 8
def rK (P : List Nat) : Int := fld P 216 8
def rMask (P : List Nat) : Int := fld P 208 8
theorem rM_lt {P : List Nat} (h : P.length = 32) : rM P < 18446744073709551616 := fld_lt P 128 64 (by omega)
theorem mbits_read {P : List Nat} (h : P.length = 32) : mbits (rR P) (rL P) (rS P) (rK P) (rB P) (rO P) (rMask P) = cutB (ofN P) 128 96 := by
  have e : metaN (rR P) (rL P) (rS P) = rM P := by
    have := meta_of (rM P) (by omega) (by have := rM_lt h; omega); unfold rR rL rS; omega
  have hl : (ofN P).length = 256 := by rw [zb0]; omega
  unfold mbits; rw [e]; unfold rM rB rO rMask rK; simp only [Int.toNat_natCast]
  rw [bits_fld _ _ _ (by omega), bits_fld _ _ _ (by omega), bits_fld _ _ _ (by omega), bits_fld _ _ _ (by omega), bits_fld _ _ _ (by omega),
    show (216 : Nat) = 208 + 8 from rfl, cut_join _ _ _ _ (by omega), show (208 : Nat) = 200 + 8 from rfl, cut_join _ _ _ _ (by omega), show (200 : Nat) = 192 + 8 from rfl, cut_join _ _ _ _ (by omega), show (192 : Nat) = 128 + 64 from rfl, cut_join _ _ _ _ (by omega)]
theorem head_read {P : List Nat} (h : P.length = 32) (hb : ∀ x ∈ P, x < 256) : headN (rR P) (rL P) (rS P) (rK P) (rB P) (rO P) (rMask P) = (P.drop 16).take 12 := by
  unfold headN; rw [mbits_read h]; have e : cutB (ofN P) 128 96 = ofN ((P.drop 16).take 12) := by rw [ofN_take, ofN_drop]; rfl
  rw [e, bytesN_of _ (take_lt (drop_lt hb _) _)]
theorem page_read {P : List Nat} (h : P.length = 32) (hb : ∀ x ∈ P, x < 256) : pageN (P.take 16) (rR P) (rL P) (rS P) (rK P) (rB P) (rO P) (rMask P) = P.take 28 ++ crcN (P.take 28) := by
  unfold pageN; rw [head_read h hb, show P.take 16 ++ (P.drop 16).take 12 = P.take 28 from (List.take_add (i := 16) (j := 12)).symm]
theorem page_iff {P : List Nat} (h : P.length = 32) (hb : ∀ x ∈ P, x < 256) : pageN (P.take 16) (rR P) (rL P) (rS P) (rK P) (rB P) (rO P) (rMask P) = P ↔ fld P 224 32 = kof (P.take 28) := by
  rw [page_read h hb]
  have hc : cutB (ofN P) 224 32 = ofN (P.drop 28) := by
    unfold cutB; rw [ofN_drop, List.take_of_length_le (by rw [List.length_drop, zb0]; omega)]
  have hk : kof (P.take 28) < 2 ^ 32 := ksum_lt _ _ (by decide) (take_lt hb _); constructor
  · intro e
    have e2 : crcN (P.take 28) = P.drop 28 := by
      have e3 := congrArg (List.drop 28) e; rwa [List.drop_append_of_le_length (by rw [List.length_take]; omega), List.drop_eq_nil_of_le (by rw [List.length_take]; omega), List.nil_append] at e3
    unfold fld; rw [hc, ← e2, crcN, ofN_bytes _ (by rw [zaw]), numN_bitsL _ _ hk]
  · intro e
    have e2 : crcN (P.take 28) = P.drop 28 := by
      unfold crcN; rw [← e, bits_fld _ _ _ (by omega), hc, bytesN_of _ (drop_lt hb _)]
    rw [e2, List.take_append_drop]
theorem bits_page {d : List Nat} (hb : ∀ x ∈ d, x < 256) (r l s k b o m : Int) : ofN (pageN d r l s k b o m) = ofN d ++ (mbits r l s k b o m ++ bitsL (kof (d ++ headN r l s k b o m)) 32) := by
  unfold pageN crcN headN; rw [ofN_app, ofN_app, ofN_bytes _ (by rw [mbits_length]), ofN_bytes _ (by rw [zaw]), List.append_assoc]
theorem cut_mid (a b c : List Bool) (i k : Nat) (hi : a.length = i) (hk : b.length = k) : cutB (a ++ (b ++ c)) i k = b := by
  unfold cutB; rw [← hi, List.drop_left, ← hk, List.take_left]
theorem read_page {d : List Nat} (hd : d.length = 16) (hb : ∀ x ∈ d, x < 256) {r l s k b o m : Int} (r0 : 0 ≤ r) (r1 : r < 256) (l0 : 0 ≤ l) (l1 : l < 65536) (s0 : 0 ≤ s) (s1 : s < 1099511627776)
    (k0 : 0 ≤ k) (k1 : k < 256) (b0 : 0 ≤ b) (b1 : b < 256) (o0 : 0 ≤ o) (o1 : o < 256) (m0 : 0 ≤ m) (m1 : m < 256) :
    (pageN d r l s k b o m).take 16 = d ∧ rR (pageN d r l s k b o m) = r ∧ rL (pageN d r l s k b o m) = l ∧ rS (pageN d r l s k b o m) = s ∧ rK (pageN d r l s k b o m) = k ∧ rB (pageN d r l s k b o m) = b ∧ rO (pageN d r l s k b o m) = o ∧ rMask (pageN d r l s k b o m) = m := by
  have e := bits_page hb r l s k b o m; have hl : (ofN d).length = 128 := by rw [zb0]; omega
  generalize hC : bitsL (kof (d ++ headN r l s k b o m)) 32 = C at e
  have eM : rM (pageN d r l s k b o m) = metaN r l s := by
    unfold rM fld; rw [e, mbits, List.append_assoc, cut_mid _ _ _ _ _ hl (zaw _ _), numN_bitsL _ _ (metaN_lt r l s)]
  have hm := of_meta r l s; have eb : ∀ x : Int, 0 ≤ x → x < 256 → ((numN (bitsL x.toNat 8) : Nat) : Int) = x := fun x h0 h1 => by rw [numN_bitsL _ _ (by omega)]; omega
  refine ⟨by rw [pageN, List.append_assoc, List.take_append_of_le_length (by omega), List.take_of_length_le (by omega)], ?_, ?_, ?_, ?_, ?_, ?_, ?_⟩
  · unfold rR; rw [eM, hm.1]; omega
  · unfold rL; rw [eM, hm.2.1]; omega
  · unfold rS; rw [eM, hm.2.2]; omega
  · unfold rK fld
    rw [e, mbits, show ofN d ++ (bitsL (metaN r l s) 64 ++ (bitsL b.toNat 8 ++ (bitsL o.toNat 8 ++ (bitsL m.toNat 8 ++ bitsL k.toNat 8))) ++ C) = (ofN d ++ bitsL (metaN r l s) 64 ++ bitsL b.toNat 8 ++ bitsL o.toNat 8 ++ bitsL m.toNat 8) ++ (bitsL k.toNat 8 ++ C) by simp only [List.append_assoc], cut_mid _ _ _ _ _ (by simp [zaw, hl]) (zaw _ _), eb k k0 k1]
  · unfold rB fld
    rw [e, mbits, show ofN d ++ (bitsL (metaN r l s) 64 ++ (bitsL b.toNat 8 ++ (bitsL o.toNat 8 ++ (bitsL m.toNat 8 ++ bitsL k.toNat 8))) ++ C) = (ofN d ++ bitsL (metaN r l s) 64) ++ (bitsL b.toNat 8 ++ (bitsL o.toNat 8 ++ bitsL m.toNat 8 ++ bitsL k.toNat 8 ++ C)) by simp only [List.append_assoc], cut_mid _ _ _ _ _ (by simp [zaw, hl]) (zaw _ _), eb b b0 b1]
  · unfold rO fld
    rw [e, mbits, show ofN d ++ (bitsL (metaN r l s) 64 ++ (bitsL b.toNat 8 ++ (bitsL o.toNat 8 ++ (bitsL m.toNat 8 ++ bitsL k.toNat 8))) ++ C) = (ofN d ++ bitsL (metaN r l s) 64 ++ bitsL b.toNat 8) ++ (bitsL o.toNat 8 ++ (bitsL m.toNat 8 ++ bitsL k.toNat 8 ++ C)) by simp only [List.append_assoc], cut_mid _ _ _ _ _ (by simp [zaw, hl]) (zaw _ _), eb o o0 o1]
  · unfold rMask fld
    rw [e, mbits, show ofN d ++ (bitsL (metaN r l s) 64 ++ (bitsL b.toNat 8 ++ (bitsL o.toNat 8 ++ (bitsL m.toNat 8 ++ bitsL k.toNat 8))) ++ C) = (ofN d ++ bitsL (metaN r l s) 64 ++ bitsL b.toNat 8 ++ bitsL o.toNat 8) ++ (bitsL m.toNat 8 ++ (bitsL k.toNat 8 ++ C)) by simp only [List.append_assoc], cut_mid _ _ _ _ _ (by simp [zaw, hl]) (zaw _ _), eb m m0 m1]
end Go.Proofs.YtpbigfopmompfaaGreat
namespace Go.Proofs.YtpbigfopmompfaaGreat
open Go.RowKit
end Go.Proofs.YtpbigfopmompfaaGreat
namespace Go.Proofs.YtpbigfopmompfaaGreat
open Go.RowKit
structure Sh where
  d : List Nat
  r : Int
  l : Int
  s : Int
  k : Int
  b : Int
  o : Int
  m : Int
def xorN (l : List Nat) : Nat := l.foldl (· ^^^ ·) 0
theorem xorN_from (l : List Nat) : ∀ s, l.foldl (· ^^^ ·) s = s ^^^ xorN l := by
  induction l with
  | nil => intro s; simp [xorN]
  | cons x l ih =>
    intro s; have h := ih (0 ^^^ x); unfold xorN; rw [List.foldl_cons, List.foldl_cons, ih, h, Nat.zero_xor, Nat.xor_assoc]
theorem xorN_append (a b : List Nat) : xorN (a ++ b) = xorN a ^^^ xorN b := by
  unfold xorN; rw [List.foldl_append, xorN_from]; rfl
theorem xorN_cons (a : Nat) (b : List Nat) : xorN (a :: b) = a ^^^ xorN b := by
  rw [show a :: b = [a] ++ b from rfl, xorN_append]; simp [xorN]
theorem xorN_lt {n : Nat} : ∀ {l : List Nat}, (∀ x ∈ l, x < 2 ^ n) → xorN l < 2 ^ n
  | [], _ => Nat.two_pow_pos n
  | x :: l, h => by rw [xorN_cons]; exact Nat.xor_lt_two_pow (h x (by simp)) (xorN_lt fun y hy => h y (by simp [hy]))
def overD (l : List Sh) : List Nat := l.foldl (fun a x => over a x.d) (List.replicate 16 0)
def overM (l : List Sh) : Nat := xorN (l.map fun x => metaN x.r x.l x.s)
theorem overD_snoc (l : List Sh) (x : Sh) : overD (l ++ [x]) = over (overD l) x.d := by simp [overD, List.foldl_append]
theorem overM_snoc (l : List Sh) (x : Sh) : overM (l ++ [x]) = overM l ^^^ metaN x.r x.l x.s := by
  unfold overM; rw [List.map_append, xorN_append]; simp [xorN]
theorem overM_lt (l : List Sh) : overM l < 18446744073709551616 := xorN_lt (n := 64) fun x hx => by
  obtain ⟨y, -, rfl⟩ := List.mem_map.1 hx; exact metaN_lt _ _ _
theorem zb2 {l : List Sh} (h : ∀ x ∈ l, x.d.length = 16) : (overD l).length = 16 := by
  induction l using snoc_ind with
  | h0 => rfl
  | h1 l x ih =>
    rw [overD_snoc, over_length _ _ (by rw [ih fun y hy => h y (by simp [hy]), h x (by simp)])]; exact ih fun y hy => h y (by simp [hy])
theorem overD_get {l : List Sh} (h : ∀ x ∈ l, x.d.length = 16) (i : Nat) (hi : i < 16) : (overD l)[i]? = some (xorN (l.map fun x => x.d.getD i 0)) := by
  induction l using snoc_ind with
  | h0 =>
    simp only [overD, List.foldl_nil, List.getElem?_replicate, if_pos hi]; rfl
  | h1 l x ih =>
    have h1 := ih fun y hy => h y (by simp [hy])
    have hx := h x (by simp); rw [overD_snoc, List.map_append, xorN_append]; unfold over; rw [List.getElem?_zipWith, h1, List.getElem?_eq_getElem (by omega)]; simp [xorN, hx, hi]
theorem overD_lt {l : List Sh} (h : ∀ x ∈ l, x.d.length = 16) (hb : ∀ x ∈ l, ∀ y ∈ x.d, y < 256) : ∀ y ∈ overD l, y < 256 := by
  intro y hy; obtain ⟨i, hi, rfl⟩ := List.getElem_of_mem hy; have hl := zb2 h; have e := overD_get h i (by omega); rw [List.getElem?_eq_getElem hi] at e; rw [Option.some.inj e]; refine xorN_lt (n := 8) fun x hx => ?_; obtain ⟨z, hz, rfl⟩ := List.mem_map.1 hx; exact getD_lt' _ (hb z hz) i
end Go.Proofs.YtpbigfopmompfaaGreat
