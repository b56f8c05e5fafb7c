import Derived.Test.YtakekjbbbjmdpaaBackOpen
import Derived.Test.YtakekjbbbjmdpaaRefBack
import Derived.Test.YtakekjbbbjmdpaaBegun9
import Derived.Test.YtakekjbbbjmdpaaOpen9
import Derived.Test.YtakekjbbbjmdpaaTurnLaw
/- WeaveAny: the walk. -/
namespace Go.Proofs.Ytakekjbbbjmdpaa.weaveAny
open Go.RowKit
set_option linter.unusedVariables false
theorem en_kinds {x : En} (h : x.ok) (hw : (Lit.int .i64 x.l).wf = true ∧ (Lit.int .i64 x.s).wf = true ∧ (Lit.int .i64 x.r).wf = true) : okAll ([.int .i64, .int .i64, .int .i64] ++ List.replicate 16 (Kd.int .u8)) x.v = true := by
  have h1 := ok_bytes x.d h.2
  rw [h.1] at h1
  obtain ⟨a1, a2, a3⟩ := hw
  refine okAll_append (vs := [.int .i64 x.l, .int .i64 x.s, .int .i64 x.r]) ?_ h1
  simp [okAll, Kd.ok, a1, a2, a3]
theorem back_en (p : Sh) (l : List Sh) (hp : p.ok) (hok : ∀ x ∈ l, x.ok) : ∃ y : En, backV p l = y.v ∧ y.ok ∧ (Lit.int .i64 y.l).wf = true ∧ (Lit.int .i64 y.s).wf = true ∧ (Lit.int .i64 y.r).wf = true := by
  have hall : ∀ x ∈ l ++ [p], x.ok := fun x hx => (List.mem_append.1 hx).elim (hok x) (fun h => by rw [List.mem_singleton.1 h]; exact hp)
  have hM := overM_lt (l ++ [p])
  unfold backV
  split
  · refine ⟨backE p l, rfl, ⟨overD_length fun y hy => (hall y hy).1, overD_lt (fun y hy => (hall y hy).1) fun y hy => (hall y hy).2⟩, ?_⟩
    unfold backE backM roleI lpnI seqI
    simp only
    generalize overM (l ++ [p]) = M at *
    have small : ∀ n : Int, 0 ≤ n → n < 1099511627776 → (Lit.int .i64 n).wf = true := fun n h0 h1 => by
      simp [Lit.wf, IntKind.min, IntKind.max, IntKind.bits, IntKind.signed]; omega
    exact ⟨small _ (by omega) (by omega), small _ (by omega) (by omega), small _ (by omega) (by omega)⟩
  · exact ⟨⟨0, 0, 0, zero16⟩, rfl, ⟨rfl, by decide⟩, rfl, rfl, rfl⟩
set_option maxRecDepth 100000 in
set_option maxHeartbeats 8000000 in
theorem walk (cs : List Value) (A : Option Addr) (n c : Nat) (w : World) (w0 : okAll (List.replicate 16 (Kd.int .u8) ++ List.replicate 7 (Kd.int .i64)) cs = true) (w1 : IsRows (List.replicate 16 (Kd.int .u8) ++ List.replicate 7 (Kd.int .i64)) w A n c) :
    Calls Try.prog 13 #[.agg cs.toArray, .slice A n c] w fun e w' => e = .returned (.bool true) ∧ Below w.heap.size w w' := by
  obtain ⟨p, rfl, hp, -⟩ := open_sh w0
  obtain ⟨l0, hr0, hl0, hnc, hcm⟩ := open_shs w1
  clear w0 w1
  unfold maxLen at hcm
  have hq2 : min n 8 ≤ n := by omega
  have hq3 : min n 8 ≤ 8 := by omega
  have hr := hr0.take hq2
  rw [show (shs l0).take (min n 8) = shs (l0.take (min n 8)) by simp [shs, List.map_take]] at hr
  have hok : ∀ x ∈ l0.take (min n 8), x.ok := fun x hx => (hl0 x (List.mem_of_mem_take hx)).1
  have hc : (8 < (n : Int) ∧ min n 8 = 8) ∨ (decide (8 < (n : Int)) = false ∧ min n 8 = n) := by
    by_cases h : n ≤ 8
    · exact .inr ⟨by simp; omega, by omega⟩
    · exact .inl ⟨by omega, by omega⟩
  have hqc : min n 8 ≤ c := by omega
  generalize l0.take (min n 8) = l at *
  generalize min n 8 = q at *
  obtain ⟨y, ey, hy, hyw⟩ := back_en p l hp hok
  have qE : ∀ w, (binOp .eql 68 (.agg y.v.toArray) (.agg y.v.toArray)).run Try.prog w = .ok (.bool true) w := fun w => by
    rw [run_eql_flat w flatEn eqEn (by kernel_rfl) (by decide) (en_kinds hy hyw) (en_kinds hy hyw), lEq_self (en_kinds hy hyw)]
  have HQ := Lib.hid qE
  have iP := shInfo p.d hp.1 p.r p.l p.s p.k p.b p.o p.m
  have iE := enInfo hy.1 y.l y.s y.r
  have iEl := Lib.hid (enV_length hy.1 y.l y.s y.r)
  have h0 := heap_alloc_new w (.cells p.v.toArray 40)
  have hbel := (Below.refl _ w).alloc (Nat.le_refl _) (.cells p.v.toArray 40)
  have hrb := hr.below hbel (Nat.le_refl _)
  have HOk := Lib.hid hok
  have HP := Lib.hid hp
  have HY := Lib.hid ey
  clear hr0 hl0 hok hr hp hy hyw ey qE
  go_enter Try.func13, Try.ntmps13
  go_upto_region 1 with fail
  generalize w.alloc (.cells p.v.toArray 40) = wa at *
  go_wp2_with fail
  refine (begun9_any _).mono ?_
  rintro e w1 ⟨rfl, hb⟩
  have h1 := blk_below h0 hb
  have hr1 := hrb.below hb hbel.size
  have hb_w1 := hbel.trans (hb.mono hbel.size)
  clear hb hbel h0 hrb
  rcases hc with ⟨hc, hq⟩ | ⟨hc, hq⟩
  all_goals
    go_wp2_with (first | (refine wpList_load_mid rfl 40 (.tmp 2) rfl w.heap.size 0 rfl _ _ (range_blk h1) Try.underlying40 rfl iP ?_))
    first | rw [show (8 : Int) = (q : Int) by omega, show (8 : Nat) = q by omega] | rw [show (n : Int) = (q : Int) by omega, show n = q by omega] | skip
    have hq1 : q ≤ 1000 := by omega
    have C1 := fun (w' : World) (hr : Rds w' w.heap.size A 23 q (shs l)) (hB : w.heap.size ≤ w'.heap.size) => back_all p l A q c w.heap.size w' HP.out hr hB HOk.out hq1
    have C2 := fun (w' : World) (hr : Rds w' w.heap.size A 23 q (shs l)) (hB : w.heap.size ≤ w'.heap.size) => refback_any p l A q c w.heap.size w' HP.out hr hB HOk.out hq1
    simp only [HY.out] at C1 C2
    generalize backB p l = gb at *
    have HC1 := Lib.hid C1
    have HC2 := Lib.hid C2
    clear C1 C2 hc hq2 hq3
    clear hq
    refine (HC1.out _ hr1 hb_w1.size).mono ?_
    rintro e w5 ⟨rfl, hb⟩
    have h15 := blk_below h1 hb
    have hr5 := hr1.below hb hb_w1.size
    have hb5 := hb_w1.trans (hb.mono hb_w1.size)
    clear hb h1 hr1 hb_w1
    go_wp2_with (first | (refine wpList_put_row rfl 68 (.tmp 6) (.tmp 22) rfl w5.heap.size y.v rfl rfl 68 _ (heap_new' w5 _ _ rfl) iE (by rw [En.v, iEl.out]; rfl) (one_enV _ _ _ _) ?_; intro w6 hU6; have h66 := hU6.at_; have h16 := hU6.old (blk_alloc h15 _) (by have := lt_of_cells h15; omega); have hr6 := (hr5.below ((Below.refl _ w5).alloc (Nat.le_refl _) _) hb5.size).upd hU6 hb5.size; have hb6 := hU6.below (hb5.alloc hb5.size _) hb5.size; clear hU6 h15 hr5 hb5) | (refine wpList_load_mid rfl 40 (.tmp 2) rfl w.heap.size 0 rfl _ _ (range_blk h16) Try.underlying40 rfl iP ?_))
    refine (HC2.out _ hr6 hb6.size).mono ?_
    rintro e w7 ⟨rfl, hb⟩
    have h67 := blk_below h66 hb
    have hb7 := hb6.trans (hb.mono hb6.size)
    clear hb h16 hr6 hb6 h66
    have qe := HQ.out
    cases gb
    all_goals
      go_wp2_with (first | (refine wpList_put_row rfl 68 (.tmp 8) (.tmp 28) rfl w7.heap.size y.v rfl rfl 68 _ (heap_new' w7 _ _ rfl) iE (by rw [En.v, iEl.out]; rfl) (one_enV _ _ _ _) ?_; intro w8 hU8; have h88 := hU8.at_; have h68 := hU8.old (blk_alloc h67 _) (by have := lt_of_cells h67; omega); have hb8 := hU8.below (hb7.alloc hb7.size _) hb7.size; clear hU8 h67 hb7) | (refine wpList_want_any 68 (.tmp 6) rfl w5.heap.size 0 rfl rfl _ _ (range_blk h68) Try.underlying68 rfl iE ?_) | (refine wpList_want_any 68 (.tmp 8) rfl w7.heap.size 0 rfl rfl _ _ (range_blk h88) Try.underlying68 rfl iE ?_))
      go_ret
      exact ⟨rfl, hb8⟩
end Go.Proofs.Ytakekjbbbjmdpaa.weaveAny
