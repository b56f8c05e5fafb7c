import Derived.Test.YtnfigkoefmldiaaGreatDies
import Derived.Test.YtnfigkoefmldiaaGreatBunC
import Derived.Test.YtnfigkoefmldiaaGreatBunH
/- The reference: a set out of a list of dies; which places are in. -/
namespace Go.Proofs.YtnfigkoefmldiaaGreat
open Go.RowKit
set_option linter.unusedVariables false
def setN (l : List Nat) : Nat := l.foldl (fun m d => m + 2 ^ d) 0
theorem setN_snoc (l : List Nat) (d : Nat) : setN (l ++ [d]) = setN l + 2 ^ d := by simp [setN, List.foldl_append]
theorem setN_le : ∀ {l : List Nat}, (∀ d ∈ l, d < 8) → setN l ≤ l.length * 128 := by
  intro l h
  induction l using snoc_ind with
  | h0 => simp [setN]
  | h1 l x ih =>
    rw [setN_snoc, List.length_append]
    have h1 := ih fun d hd => h d (by simp [hd])
    have h2 : 2 ^ x ≤ 2 ^ 7 := Nat.pow_le_pow_right (by omega) (by have := h x (by simp); omega)
    simp
    omega
theorem powI_nat (d : Nat) : powI (d : Int) = ((2 ^ d : Nat) : Int) := by
  unfold powI
  rw [Int.toNat_natCast, Int.natCast_pow]; rfl
set_option maxRecDepth 100000 in
theorem refset_any (A : Option Addr) (n c B : Nat) (l : List Nat) (w : World) (hr : Rd w B A n (nats .i64 l)) (hd : ∀ d ∈ l, d < 8) (hn : n ≤ 1000) :
    Calls Tryz.prog 30 #[.slice A n c] w fun e w' => e = .returned (.int .i64 (setN l : Int)) ∧ w = w' := by
  have hl : l.length = n := by have := hr.1; rwa [nats_length] at this
  have HR := Lib.hid hr
  have HL := Lib.hid hl
  have HD := Lib.hid hd
  clear hr hl hd
  go_enter Tryz.func30, Tryz.ntmps30
  go_wp2_with fail
  go_loop [3, 4] (fun m i => ∃ k : Nat, k ≤ n ∧ i = .int .i64 k ∧ m = .int .i64 (setN (l.take k) : Int)) (fun _ i => n - (intOf i).toNat)
  case atStart => exact ⟨0, by omega, rfl, rfl⟩
  case round =>
    obtain ⟨k, hk, rfl, rfl⟩ := hrel
    by_cases hlt : k < n
    · have hkl : k < l.length := by rw [HL.out]; exact hlt
      obtain ⟨b, o, rfl, hb, hc⟩ := HR.out.at_ hlt
      rw [nats_at .i64 l k hkl] at hc
      have hd8 := HD.out l[k] (List.getElem_mem hkl)
      have hs := setN_snoc (l.take k) l[k]
      rw [show l.take k ++ [l[k]] = l.take (k + 1) by rw [List.take_succ_eq_append_getElem hkl]] at hs
      have hle := setN_le (l := l.take (k + 1)) (fun d hd => HD.out d (List.mem_of_mem_take hd))
      have hle2 : (l.take (k + 1)).length ≤ n := by rw [List.length_take, HL.out]; omega
      generalize l[k] = d at *
      have hp := powI_nat d
      have hpl : 2 ^ d ≤ 2 ^ 7 := Nat.pow_le_pow_right (by omega) (by omega)
      generalize 2 ^ d = q at *
      generalize setN (l.take k) = x at *
      generalize hy : setN (l.take (k + 1)) = y at *
      generalize (l.take (k + 1)).length = z at *
      have hltI : (k : Int) < (n : Int) := by omega
      have HY := Lib.hid hy
      have HS := Lib.hid hs
      have hxb : (x : Int) + (q : Int) ≤ 1000000 := by omega
      have hq0 : (q : Int) ≤ 128 := by omega
      clear hy hs hle hle2 hpl
      go_wp2_with (go_at_call 54; refine (pow_any _ _ (by omega) (by omega)).mono ?_; rw [hp]; rintro e w' ⟨rfl, rfl⟩)
      go_round
      case rel => exact ⟨k + 1, by omega, by go_num, by rw [HY.out, HS.out]; go_num⟩
      case measure => simp [intOf]; omega
    · obtain rfl : k = n := by omega
      have HE := Lib.hid (show setN (l.take k) = setN l by rw [List.take_of_length_le (by rw [HL.out]; exact Nat.le_refl _)])
      generalize setN (l.take k) = s at *
      go_wp2_with fail
      go_ret
      exact ⟨by rw [← HE.out]; rfl, rfl⟩
theorem inG_iff {D B P d b p : Int} : inG D B P d b p = (decide (0 ≤ d) && (decide (d < D) && (decide (0 ≤ b) && (decide (b < B) && (decide (0 ≤ p) && decide (p < P)))))) := by
  rw [Bool.eq_iff_iff]
  simp [inG, wiB]
  omega
set_option maxRecDepth 100000 in
set_option maxHeartbeats 4000000 in
theorem refin_any (D B P d b p : Int) (w : World) : Calls Tryz.prog 28 #[.agg #[.int .i64 D, .int .i64 B, .int .i64 P], .agg #[.int .i64 d, .int .i64 b, .int .i64 p]] w fun e w' => e = .returned (.bool (inG D B P d b p)) ∧ Below w.heap.size w w' := by
  have hbel := below2 w (.cells #[.int .i64 D, .int .i64 B, .int .i64 P] 25) (.cells #[.int .i64 d, .int .i64 b, .int .i64 p] 32)
  have hg := heap_at1 w (.cells #[.int .i64 D, .int .i64 B, .int .i64 P] 25) (.cells #[.int .i64 d, .int .i64 b, .int .i64 p] 32)
  have ha := heap_new' (w.alloc (.cells #[.int .i64 D, .int .i64 B, .int .i64 P] 25)) (.cells #[.int .i64 d, .int .i64 b, .int .i64 p] 32) (w.heap.size + 1) (by simp)
  have HBL := Lib.hid hbel
  have HE := Lib.hid (inG_iff (D := D) (B := B) (P := P) (d := d) (b := b) (p := p))
  clear hbel
  go_enter Tryz.func28, Tryz.ntmps28
  go_upto_region 1 with fail
  generalize (w.alloc (.cells #[.int .i64 D, .int .i64 B, .int .i64 P] 25)).alloc (.cells #[.int .i64 d, .int .i64 b, .int .i64 p] 32) = w2 at *
  have c0 : w2.cell? ⟨w.heap.size, 0, none⟩ = some (.int .i64 D) := by rw [blk_cell hg]; rfl
  have c1 : w2.cell? ⟨w.heap.size, 1, none⟩ = some (.int .i64 B) := by rw [blk_cell hg]; rfl
  have c2 : w2.cell? ⟨w.heap.size, 2, none⟩ = some (.int .i64 P) := by rw [blk_cell hg]; rfl
  have d0 : w2.cell? ⟨w.heap.size + 1, 0, none⟩ = some (.int .i64 d) := by rw [blk_cell ha]; rfl
  have d1 : w2.cell? ⟨w.heap.size + 1, 1, none⟩ = some (.int .i64 b) := by rw [blk_cell ha]; rfl
  have d2 : w2.cell? ⟨w.heap.size + 1, 2, none⟩ = some (.int .i64 p) := by rw [blk_cell ha]; rfl
  clear hg ha
  by_cases a1 : 0 ≤ d
  · by_cases a2 : d < D
    · by_cases a3 : 0 ≤ b
      · by_cases a4 : b < B
        · by_cases a5 : 0 ≤ p
          · by_cases a6 : p < P
            · go_wp2_with fail
              go_ret
              exact ⟨by rw [HE.out, decide_eq_true a1, decide_eq_true a2, decide_eq_true a3, decide_eq_true a4, decide_eq_true a5, decide_eq_true a6]; rfl, HBL.out⟩
            · go_wp2_with fail
              go_ret
              exact ⟨by rw [HE.out, decide_eq_true a1, decide_eq_true a2, decide_eq_true a3, decide_eq_true a4, decide_eq_true a5, decide_eq_false (by omega)]; rfl, HBL.out⟩
          · go_wp2_with fail
            go_ret
            exact ⟨by rw [HE.out, decide_eq_true a1, decide_eq_true a2, decide_eq_true a3, decide_eq_true a4, decide_eq_false (by omega)]; rfl, HBL.out⟩
        · go_wp2_with fail
          go_ret
          exact ⟨by rw [HE.out, decide_eq_true a1, decide_eq_true a2, decide_eq_true a3, decide_eq_false (by omega)]; rfl, HBL.out⟩
      · go_wp2_with fail
        go_ret
        exact ⟨by rw [HE.out, decide_eq_true a1, decide_eq_true a2, decide_eq_false (by omega)]; rfl, HBL.out⟩
    · go_wp2_with fail
      go_ret
      exact ⟨by rw [HE.out, decide_eq_true a1, decide_eq_false (by omega)]; rfl, HBL.out⟩
  · go_wp2_with fail
    go_ret
    exact ⟨by rw [HE.out, decide_eq_false (by omega)]; rfl, HBL.out⟩
end Go.Proofs.YtnfigkoefmldiaaGreat
