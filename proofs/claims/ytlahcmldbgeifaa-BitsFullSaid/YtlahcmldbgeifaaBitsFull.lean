import Derived.Test.YtlahcmldbgeifaaBegun
/- BitsFull: four thousand and ninety-six bits, and not one more; no condition. -/
namespace Go.Proofs.Ytlahcmldbgeifaa.bitsFull
open Go.RowKit
set_option linter.unusedVariables false
/-- So many bits lie there behind k rounds. -/
def lenAt (V k : Nat) : Nat := min k (4096 / V) * V
theorem len_zero (V : Nat) : lenAt V 0 = 0 := by simp [lenAt]
theorem len_room (V k : Nat) (hV : 0 < V) (h : (k + 1) * V ≤ 4096) : lenAt V (k + 1) = lenAt V k + V ∧ lenAt V k + V ≤ 4096 := by
  have h1 : k + 1 ≤ 4096 / V := (Nat.le_div_iff_mul_le hV).2 h
  unfold lenAt
  rw [Nat.min_eq_left h1, Nat.min_eq_left (by omega), Nat.succ_mul]
  rw [Nat.succ_mul] at h
  exact ⟨rfl, h⟩
theorem len_full (V k : Nat) (hV : 0 < V) (h : 4096 < (k + 1) * V) : lenAt V (k + 1) = lenAt V k ∧ lenAt V k ≤ 4096 ∧ 4096 < lenAt V k + V := by
  have h1 : ¬ k + 1 ≤ 4096 / V := fun e => by have := (Nat.le_div_iff_mul_le hV).1 e; omega
  have h2 : 4096 < (4096 / V + 1) * V := (Nat.div_lt_iff_lt_mul hV).1 (Nat.lt_succ_self _)
  have h3 := Nat.div_mul_le_self 4096 V
  unfold lenAt
  rw [Nat.min_eq_right (by omega), Nat.min_eq_right (by omega)]
  rw [Nat.succ_mul] at h2
  exact ⟨rfl, h3, h2⟩
theorem owner {w : World} {B g : Nat} {r : Option Nat} {l : List Bool} (h : IsOut w B g r l) : ∀ k, some k = r → B ≤ k := by
  obtain ⟨hBg, v, hv, hg, hown⟩ := h
  intro k hk
  exact (hown.lt k (by rw [hv]; exact hk.symm)).1
set_option maxRecDepth 100000 in
set_option maxHeartbeats 1000000 in
theorem walk (width n : Int) (w : World) (w0 : (Lit.int .i64 width).wf = true) (w1 : (Lit.int .i64 n).wf = true) :
    Calls Try.prog 7 #[.int .i64 width, .int .i64 n] w fun e w' => e = .returned (.bool true) ∧ Below w.heap.size w w' := by
  clear w0 w1
  by_cases h : width < 1 ∨ 64 < width ∨ n < 0 ∨ 4200 < n
  · go_enter Try.func7, Try.ntmps7
    go_wp2_with fail
    refine (begun_any _).mono ?_
    rintro e w1 ⟨rfl, hb1⟩
    rcases h with h | h | h | h
    all_goals
      go_wp2_with fail
      all_goals go_ret
      all_goals exact ⟨rfl, hb1⟩
  · obtain ⟨V, rfl⟩ := Int.eq_ofNat_of_zero_le (show 0 ≤ width by omega)
    obtain ⟨N, rfl⟩ := Int.eq_ofNat_of_zero_le (show 0 ≤ n by omega)
    have hV1 : 1 ≤ V := by omega
    have hV2 : V ≤ 64 := by omega
    have hN : N ≤ 4200 := by omega
    have c1 : decide ((V : Int) < 1) = false := by simp; omega
    have c2 : decide (64 < (V : Int)) = false := by simp; omega
    have c3 : decide ((N : Int) < 0) = false := by simp
    have c4 : decide (4200 < (N : Int)) = false := by simp; omega
    clear h
    go_enter Try.func7, Try.ntmps7
    go_wp2_with fail
    refine (begun_any _).mono ?_
    rintro e w1 ⟨rfl, hb1⟩
    go_wp2_with fail
    have ho := isOut_new w1 w.heap.size hb1.size
    have hb2 := hb1.alloc hb1.size (.cells #[.slice none 0 0, .int .i64 0] 34)
    have hge := hb1.size
    generalize w1.alloc (.cells #[.slice none 0 0, .int .i64 0] 34) = w2 at *
    generalize w1.heap.size = g at *
    clear hb1
    go_loopw [7] (fun i wr => ∃ (k : Nat) (r : Option Nat) (l : List Bool), k ≤ N ∧ i = .int .i64 k ∧ l.length = lenAt V k ∧ IsOut wr w.heap.size g r l ∧ Below w.heap.size w wr) (fun i _ => 4200 - (intOf i).toNat)
    case atStart => exact ⟨0, none, [], by omega, rfl, by rw [len_zero]; rfl, ho, hb2⟩
    case round =>
      obtain ⟨k, r, l, hk, rfl, hl, hout, hbel⟩ := hrel
      clear ho hb2
      by_cases hlt : k < N
      · have hlt' : (k : Int) < (N : Int) := by omega
        by_cases hroom : (k + 1) * V ≤ 4096
        · obtain ⟨e1, e2⟩ := len_room V k hV1 hroom
          obtain ⟨M, hM⟩ : ∃ M, M = (k + 1) * V := ⟨_, rfl⟩
          have hm : wrap64 (((k : Int) + 1) * (V : Int)) = (M : Int) := by
            have : ((k : Int) + 1) * (V : Int) = (M : Int) := by rw [hM, Int.natCast_mul, Int.natCast_add]; rfl
            rw [this]; unfold wrap64; omega
          have hMle : M ≤ 4096 := by rw [hM]; exact hroom
          have hsz : w.heap.size ≤ wr.heap.size := hbel.size
          clear hM hroom
          have d1 : decide ((M : Int) ≤ 4096) = true := decide_eq_true (by omega)
          go_wp2_with fail
          refine (put_true w.heap.size g r l 1 V _ hout (by omega) (by omega) (Nat.one_lt_two_pow (by omega)) (by omega) hsz).mono ?_
          rintro e w3 ⟨rfl, r1, ho1, hr1, hk1⟩
          have hb3 := hbel.trans (hk1.below hsz (by rintro i (rfl | hi); exact hge; exact owner hout i hi))
          go_wp2_with fail
          go_roundw
          case rel => exact ⟨k + 1, r1, _, by omega, by go_num, by rw [e1, ← hl, List.length_append, bitsL_length], ho1, hb3⟩
          case measure => simp [intOf]; omega
        · obtain ⟨e1, e2, e3⟩ := len_full V k hV1 (by omega)
          obtain ⟨M, hM⟩ : ∃ M, M = (k + 1) * V := ⟨_, rfl⟩
          have hMle : 4096 < M := by rw [hM]; omega
          have hMbd : M ≤ 268864 := by
            rw [hM]
            exact Nat.le_trans (Nat.mul_le_mul (show k + 1 ≤ 4201 by omega) hV2) (by decide)
          have hm : wrap64 (((k : Int) + 1) * (V : Int)) = (M : Int) := by
            have : ((k : Int) + 1) * (V : Int) = (M : Int) := by rw [hM, Int.natCast_mul, Int.natCast_add]; rfl
            rw [this]; clear hM hroom this; unfold wrap64; omega
          clear hM hroom
          have d1 : decide ((M : Int) ≤ 4096) = false := decide_eq_false (by omega)
          clear hMle hMbd
          go_wp2_with fail
          refine (put_full w.heap.size g r l 1 V _ hout (by omega) (by omega) (by omega) (by omega)).mono ?_
          rintro e w3 ⟨rfl, rfl⟩
          go_wp2_with fail
          go_roundw
          case rel => exact ⟨k + 1, r, l, by omega, by go_num, by rw [e1, ← hl], hout, hbel⟩
          case measure => simp [intOf]; omega
      · obtain rfl : k = N := by omega
        have hq1 : (4096 : Int) / (V : Int) = ((4096 / V : Nat) : Int) := rfl
        have hq2 : (4096 : Int).tdiv (V : Int) = ((4096 / V : Nat) : Int) := rfl
        have hL : l.length ≤ 4096 := by
          rw [hl, lenAt]
          exact Nat.le_trans (Nat.mul_le_mul_right V (Nat.min_le_right _ _)) (Nat.div_mul_le_self 4096 V)
        have hL2 : min k (4096 / V) * V = l.length := hl.symm
        have hqle : 4096 / V ≤ 4096 := Nat.div_le_self _ _
        obtain ⟨q, hq⟩ : ∃ q, q = 4096 / V := ⟨_, rfl⟩
        rw [← hq] at hq1 hq2 hL2 hqle
        obtain ⟨m, hm⟩ : ∃ m, m = min k q := ⟨_, rfl⟩
        rw [← hm] at hL2
        have f1 : (if q < k then (q : Int) else (k : Int)) = (m : Int) := by split <;> omega
        have f2 : wrap64 ((m : Int) * (V : Int)) = (l.length : Int) := by
          rw [← Int.natCast_mul, hL2]; clear hL2 hq hm f1; unfold wrap64; omega
        have f3 : (m : Int) * (V : Int) = (l.length : Int) := by rw [← Int.natCast_mul, hL2]
        clear hq hm hl hL2
        have C0 : ∀ n, Calls Try.prog 29 #[.pointer (some ⟨g, 0, none⟩)] (wr.drewN n) fun e w' => e = .returned (.int .i64 (l.length : Int)) ∧ w' = wr.drewN n :=
          fun n => (len_any w.heap.size g r l _ (hout.drewN n)).mono fun _ _ h => ⟨h.1, h.2.symm⟩
        clear f2
        generalize l.length = L at *
        have f4 : wrap64 (L : Int) = (L : Int) := by clear f1 f3 C0; unfold wrap64; omega
        go_wp2_with fail
        go_quiet ((go_at_call 29; exact Calls.quiet_of_same (C0 _)))
        go_wp2_with fail
        go_ret
        exact ⟨rfl, below_drewN hbel _⟩
end Go.Proofs.Ytlahcmldbgeifaa.bitsFull
