import Derived.Test.YtlahcmldbgeifaaBegun
/- LanePairs: two sets: who is in one is with it; in whichever order dies come the set is the same; no condition. -/
namespace Go.Proofs.Ytlahcmldbgeifaa.lanePairs
open Go.RowKit
set_option linter.unusedVariables false
/-- The set of the first k dies. -/
def joint (D : Nat → Nat) : Nat → Nat
  | 0 => 0
  | k + 1 => joint D k ||| 2 ^ D k
theorem joint_bit (D : Nat → Nat) (k j : Nat) : (joint D k).testBit j = true ↔ ∃ i, i < k ∧ D i = j := by
  induction k with
  | zero => simp [joint]
  | succ k ih =>
    rw [joint, Nat.testBit_or, Bool.or_eq_true, ih, Nat.testBit_two_pow]
    constructor
    · rintro (⟨i, h1, h2⟩ | h)
      · exact ⟨i, by omega, h2⟩
      · exact ⟨k, by omega, by simpa using h⟩
    · rintro ⟨i, h1, h2⟩
      by_cases hi : i = k
      · subst hi; exact .inr (by simpa using h2)
      · exact .inl ⟨i, by omega, h2⟩
theorem joint_lt (D : Nat → Nat) (hD : ∀ i, D i < 8) (k : Nat) : joint D k < 256 := by
  induction k with
  | zero => show 0 < 256; decide
  | succ k ih =>
    have : (2 : Nat) ^ D k < 2 ^ 8 := Nat.pow_lt_pow_right (by decide) (hD k)
    exact Nat.or_lt_two_pow (n := 8) ih this
theorem with_nat (m d : Nat) (hm : m < 256) (hd : d < 8) : withI (m : Int) (d : Int) = ((m ||| 2 ^ d : Nat) : Int) := by
  rw [withI, setB_of (by omega) (by omega), if_pos rfl, oneI, if_neg (by omega), toNat_two_pow']; rfl
theorem has_nat (m d : Nat) (hm : m < 256) (hd : d < 8) : hasB (m : Int) (d : Int) = m.testBit d := by
  rw [hasB, setB_of (by omega) (by omega), show decide ((0 : Int) ≤ (d : Int)) = true by simp, show decide ((d : Int) < 8) = true by (simp; omega)]
  rfl
theorem cnt_fin : ∀ m : Fin 256, ∀ d : Fin 8, cnt (m.val ||| 2 ^ d.val) 8 ≤ cnt m.val 8 + 1 := by decide +kernel
theorem joint_cnt (D : Nat → Nat) (hD : ∀ i, D i < 8) (k : Nat) : cnt (joint D k) 8 ≤ k := by
  induction k with
  | zero => show cnt 0 8 ≤ 0; decide
  | succ k ih => have := cnt_fin ⟨joint D k, joint_lt D hD k⟩ ⟨D k, hD k⟩; simp only at this; rw [joint]; omega
theorem joint_turn (D : Nat → Nat) (n t : Nat) (ht : t < n) : joint (fun i => D ((i + t) % n)) n = joint D n := by
  apply Nat.eq_of_testBit_eq
  intro j
  rw [Bool.eq_iff_iff, joint_bit, joint_bit]
  constructor
  · rintro ⟨i, h1, h2⟩
    exact ⟨_, Nat.mod_lt _ (by omega), h2⟩
  · rintro ⟨i, h1, h2⟩
    by_cases h : t ≤ i
    · refine ⟨i - t, by omega, ?_⟩
      show D ((i - t + t) % n) = j
      rw [show i - t + t = i by omega, Nat.mod_eq_of_lt h1]; exact h2
    · refine ⟨i + n - t, by omega, ?_⟩
      show D ((i + n - t + t) % n) = j
      rw [show i + n - t + t = i + n by omega, Nat.add_mod_right, Nat.mod_eq_of_lt h1]; exact h2
theorem joint_pos (D : Nat → Nat) (n : Nat) (h : 0 < n) : joint D n ≠ 0 := by
  intro e
  have := (joint_bit D n (D 0)).2 ⟨0, h, rfl⟩
  rw [e] at this
  simp at this
/-- A die of a number. -/
def dieN (x : Int) : Nat := ((x.tmod 8 + 8).tmod 8).toNat
theorem die_lt (x : Int) : dieN x < 8 := by
  have := Int.tmod_lt_of_pos (x.tmod 8 + 8) (show (0 : Int) < 8 by decide)
  unfold dieN; omega
theorem tmod_bd (x : Int) (n : Int) (h : 0 < n) : -n < x.tmod n ∧ x.tmod n < n := by
  have h1 := Int.lt_tmod_of_pos x h
  have h2 := Int.tmod_lt_of_pos x h
  exact ⟨by omega, by omega⟩
theorem die_eq (x : Int) : (x.tmod 8 + 8).tmod 8 = (dieN x : Int) := by
  have h1 := tmod_bd x 8 (by decide)
  have h2 := Int.tmod_nonneg (a := x.tmod 8 + 8) 8 (by omega)
  unfold dieN; omega
theorem die_wrap (x : Int) : (wrap64 (x.tmod 8 + 8)).tmod 8 = (dieN x : Int) := by
  have h1 := tmod_bd x 8 (by decide)
  rw [← die_eq, show wrap64 (x.tmod 8 + 8) = x.tmod 8 + 8 by unfold wrap64; omega]
theorem at_run (x : Int) (n : Nat) (h : 0 < n) (h' : n ≤ 10) : ∃ t : Nat, t < n ∧ (wrap64 (x.tmod n + n)).tmod n = (t : Int) := by
  have h1 := tmod_bd x n (by omega)
  have h2 := Int.tmod_nonneg (a := x.tmod n + n) n (by omega)
  have h3 := Int.tmod_lt_of_pos (x.tmod n + n) (show (0 : Int) < n by omega)
  rw [show wrap64 (x.tmod n + n) = x.tmod n + n by unfold wrap64; omega]
  exact ⟨((x.tmod n + n).tmod n).toNat, by omega, by omega⟩
set_option maxRecDepth 100000 in
theorem walk (A : Option Addr) (n c : Nat) (z : List Int) (turn : Int) (w : World) (w0 : IsRow .i64 w A n c z) (w1 : (Lit.int .i64 turn).wf = true) :
    Calls Try.prog 15 #[.slice A n c, .int .i64 turn] w fun e w' => e = .returned (.bool true) ∧ Below w.heap.size w w' := by
  obtain ⟨hr, hnc, hcm, hlen, hwf⟩ := w0.rd
  generalize z.take n = l at hr hlen
  clear w0 w1 hwf
  unfold maxLen at hcm
  have hq2 : min n 10 ≤ n := by omega
  have hq3 : min n 10 ≤ 10 := by omega
  have hc : (10 < (n : Int) ∧ min n 10 = 10) ∨ (decide (10 < (n : Int)) = false ∧ min n 10 = n) := by
    by_cases h : n ≤ 10
    · exact .inr ⟨by simp; omega, by omega⟩
    · exact .inl ⟨by omega, by omega⟩
  generalize min n 10 = q at *
  obtain ⟨D, hD⟩ : ∃ D : Nat → Nat, D = fun i => dieN (l.getD i 0) := ⟨_, rfl⟩
  have hd : ∀ i, D i < 8 := fun i => by rw [hD]; exact die_lt _
  have hDl : ∀ (i : Nat) (h : i < l.length), (wrap64 (l[i].tmod 8 + 8)).tmod 8 = (D i : Int) := by
    intro i h
    rw [die_wrap, hD]
    simp only [List.getD_eq_getElem?_getD, List.getElem?_eq_getElem h, Option.getD_some]
  clear hD
  obtain ⟨t, hto⟩ : ∃ t : Nat, 0 < q → t < q ∧ (wrap64 (turn.tmod q + q)).tmod q = (t : Int) := by
    by_cases h0 : q = 0
    · exact ⟨0, fun h => absurd h (by omega)⟩
    · obtain ⟨t, h1, h2⟩ := at_run turn q (by omega) hq3
      exact ⟨t, fun _ => ⟨h1, h2⟩⟩
  go_enter Try.func15, Try.ntmps15
  go_wp2_with fail
  refine (begun_any _).mono ?_
  rintro e w1 ⟨rfl, hb1⟩
  have hr1 := hr.below hb1 (Nat.le_refl _)
  rcases hc with ⟨hc, hq⟩ | ⟨hc, hq⟩
  all_goals
    go_wp2_with fail
    first | rw [show (10 : Int) = (q : Int) by omega] | rw [show (n : Int) = (q : Int) by omega]
    clear hc hq
    go_loop [7, 8, 9, 10] (fun a b i _ => ∃ k : Nat, k ≤ q ∧ i = .int .i64 k ∧ a = .int .i64 (joint D k) ∧ b = .int .i64 (joint (fun i => D ((i + t) % q)) k)) (fun _ _ i _ => 10 - (intOf i).toNat)
    case atStart => exact ⟨0, by omega, rfl, rfl, rfl⟩
    case round =>
      obtain ⟨k, hk, rfl, rfl, rfl⟩ := hrel
      by_cases hlt : k < q
      · obtain ⟨ht, hte⟩ := hto (by omega)
        obtain ⟨b, o, rfl, hb2, hc⟩ := hr1.at_ (show k < n by omega)
        rw [ints_at' _ l k (by omega)] at hc
        have hx := hDl k (by omega)
        generalize l[k]'(by omega) = x at hc hx
        have hkt : (wrap64 ((k : Int) + (wrap64 (turn.tmod q + q)).tmod q)).tmod (q : Int) = (((k + t) % q : Nat) : Int) := by
          rw [hte, show wrap64 ((k : Int) + (t : Int)) = (k : Int) + t by unfold wrap64; omega, Int.tmod_eq_emod_of_nonneg (by omega), Int.natCast_emod, Int.natCast_add]
        have hkq : (k + t) % q < q := Nat.mod_lt _ (by omega)
        have W1 := Lib.hid (with_nat (joint D k) (D k) (joint_lt D hd k) (hd k))
        have W2 := Lib.hid (with_nat (joint (fun i => D ((i + t) % q)) k) (D ((k + t) % q)) (joint_lt _ (fun i => hd _) k) (hd _))
        have W3 : Hid (joint D (k + 1) = joint D k ||| 2 ^ D k) := rfl
        have W4 : Hid (joint (fun i => D ((i + t) % q)) (k + 1) = joint (fun i => D ((i + t) % q)) k ||| 2 ^ D ((k + t) % q)) := rfl
        obtain ⟨b', o', e', hb2', hc'⟩ := hr1.at_ (show (k + t) % q < n by omega)
        rw [ints_at' _ l _ (by omega)] at hc'
        have hx' := hDl ((k + t) % q) (by omega)
        generalize l[(k + t) % q]'(by omega) = x' at hc' hx'
        cases e'
        generalize (k + t) % q = k' at *
        generalize joint D k = a at *
        generalize joint (fun i => D ((i + t) % q)) k = b at *
        generalize D k = dk at *
        generalize D k' = dk' at *
        have HX := Lib.hid hx
        have HX' := Lib.hid hx'
        have t2 : t ≤ 10 := by omega
        clear hx hx' hDl hto hte
        go_wp2_with fail
        rw [HX.out]
        refine (with_any _ _ _).mono ?_
        rw [W1.out]; rintro e w' ⟨rfl, rfl⟩
        go_wp2_with fail
        rw [HX'.out]
        refine (with_any _ _ _).mono ?_
        rw [W2.out]; rintro e w' ⟨rfl, rfl⟩
        go_wp2_with fail
        go_round
        case rel => exact ⟨k + 1, by omega, by go_num, by rw [W3.out], by rw [W4.out]⟩
        case measure => simp [intOf]; omega
      · obtain rfl : k = q := by omega
        have HT : Hid (joint (fun i => D ((i + t) % k)) k = joint D k) := by
          show _ = _
          by_cases h0 : k = 0
          · subst h0; rfl
          · exact joint_turn D k t (hto (by omega)).1
        have HB := joint_bit D k
        have HC : Hid (countI (joint D k : Int) = (cnt (joint D k) 8 : Int)) := by
          show _ = _
          rw [countI, setB_of (by omega) (by have := joint_lt D hd k; omega)]; rfl
        have hC : ((cnt (joint D k) 8 : Nat) : Int) ≤ (k : Int) := by have := joint_cnt D hd k; omega
        have HZ : Hid ((((joint D k : Nat) : Int) == 0) = ((k : Int) == 0)) := by
          show _ = _
          by_cases h0 : k = 0
          · subst h0; rfl
          · have := joint_pos D k (by omega)
            rw [show ((k : Int) == 0) = false by (simp; omega)]
            simp; omega
        have HL := joint_lt D hd k
        rw [HT.out]
        clear HT hto
        generalize joint D k = a at *
        generalize cnt a 8 = ca at *
        go_wp2_with fail
        go_loop [11] (fun i => ∃ j : Nat, j ≤ k ∧ i = .int .i64 j) (fun i => 10 - (intOf i).toNat)
        case atStart => exact ⟨0, by omega, rfl⟩
        case round =>
          obtain ⟨j, hj, rfl⟩ := hrel
          by_cases hlt : j < k
          · obtain ⟨b, o, rfl, hb2, hc⟩ := hr1.at_ (show j < n by omega)
            rw [ints_at' _ l j (by omega)] at hc
            have hx := hDl j (by omega)
            have hbit := (HB (D j)).2 ⟨j, by omega, rfl⟩
            have hh := Lib.hid (has_nat a (D j) HL (hd j))
            rw [hbit] at hh
            have HX := Lib.hid hx
            generalize l[j]'(by omega) = x at hc hx HX
            clear hx hDl HB
            generalize D j = dj at *
            go_wp2_with fail
            rw [HX.out]
            refine (has_any _ _ _).mono ?_
            rw [hh.out]; rintro e w' ⟨rfl, rfl⟩
            go_wp2_with fail
            go_round
            case rel => exact ⟨j + 1, by omega, by go_num⟩
            case measure => simp [intOf]; omega
          · obtain rfl : j = k := by omega
            go_wp2_with fail
            refine (count_any _ _).mono ?_
            rw [HC.out]; rintro e w' ⟨rfl, rfl⟩
            go_wp2_with fail
            go_ret
            exact ⟨by rw [HZ.out]; simp, hb1⟩
end Go.Proofs.Ytlahcmldbgeifaa.lanePairs
