import Derived.Test.YtakekjbbbjmdpaaTornLaw
import Derived.Test.YtakekjbbbjmdpaaTells
import Derived.Test.YtakekjbbbjmdpaaRefBlank
import Derived.Test.YtakekjbbbjmdpaaBunD
import Derived.Test.YtakekjbbbjmdpaaRegion3
/- SherdTorn: the walk. -/
namespace Go.Proofs.Ytakekjbbbjmdpaa.sherdTorn
open Go.RowKit
set_option linter.unusedVariables false
set_option maxRecDepth 100000 in
set_option maxHeartbeats 8000000 in
theorem walk (cs : List Value) (keep : Int) (w : World) (w0 : okAll (List.replicate 16 (Kd.int .u8) ++ List.replicate 7 (Kd.int .i64)) cs = true) (w1 : (Lit.int .i64 keep).wf = true) :
    Calls Try.prog 9 #[.agg cs.toArray, .int .i64 keep] w fun e w' => e = .returned (.bool true) ∧ Below w.heap.size w w' := by
  obtain ⟨x, rfl, hx, hwx⟩ := open_sh w0
  have iX := shInfo x.d hx.1 x.r x.l x.s x.k x.b x.o x.m
  have PX : ∀ w, Calls Try.prog 36 #[.agg x.v.toArray] w fun e w' => e = .returned (.tuple #[.agg (nats .u8 (putP x.d x.r x.l x.s x.k x.b x.o x.m)).toArray, .bool x.may]) ∧ Below w.heap.size w w' := fun w => put_sherd x.d x.r x.l x.s x.k x.b x.o x.m w hx.1 hx.2
  have RM : ∀ w, Calls Try.prog 39 #[.agg x.v.toArray] w fun e w' => e = .returned (.bool x.may) ∧ Below w.heap.size w w' := fun w => refmay_any x.d x.r x.l x.s x.k x.b x.o x.m w hx.1 hx.2
  have BP := fun (mx : x.may = true) => blank_put hx mx
  obtain ⟨LX, BX⟩ := putP_ok hx
  have h0 := heap_alloc_new w (.cells x.v.toArray 40)
  have hbel := (Below.refl _ w).alloc (Nat.le_refl _) (.cells x.v.toArray 40)
  clear w0 w1 hx hwx
  generalize putP x.d x.r x.l x.s x.k x.b x.o x.m = px at *
  have iPX := pgInfo LX
  have HLX := Lib.hid LX
  have HBX := Lib.hid BX
  have CB := fun w => blank_any px w LX
  generalize x.may = mx at *
  have HPX := Lib.hid PX
  have HRM := Lib.hid RM
  have HBP := Lib.hid BP
  have HCB := Lib.hid CB
  clear PX RM BP CB BX LX
  go_enter Try.func9, Try.ntmps9
  go_upto_region 1 with fail
  generalize w.alloc (.cells x.v.toArray 40) = wa at *
  go_wp2_with fail
  refine (begun9_any _).mono ?_
  rintro e w1 ⟨rfl, hb⟩
  have hA := blk_below h0 hb
  have hb_w1 := hbel.trans (hb.mono hbel.size)
  clear hb hbel h0
  go_wp2_with (first | (refine wpList_load_mid rfl 40 (.tmp 2) rfl w.heap.size 0 rfl _ _ (range_blk hA) Try.underlying40 rfl iX ?_))
  refine (HPX.out _).mono ?_
  rintro e w5 ⟨rfl, hb⟩
  have hA_w5 := blk_below hA hb
  have hb_w5 := hb_w1.trans (hb.mono hb_w1.size)
  clear hb hb_w1 hA
  have NEP := lt_of_cells hA_w5
  cases mx with
  | false =>
    go_wp2_with (first | (refine wpList_put_row rfl 42 (.tmp 6) (.tmp 16) rfl w5.heap.size (nats .u8 px) rfl rfl 42 _ (heap_new' w5 _ _ rfl) iPX (by rw [nats_length, HLX.out]; rfl) (one_nats _ _) ?_; intro w6 hUw6; have hp_w6 := hUw6.at_; have hA_w6 := hUw6.old (blk_alloc hA_w5 _) (show w.heap.size ≠ w5.heap.size by have := lt_of_cells hA_w5; omega); have hb_w6 := hUw6.below (hb_w5.alloc hb_w5.size _) hb_w5.size; clear hb_w5 hA_w5 hUw6; have NPQ := lt_of_cells hp_w6) | (refine wpList_load_mid rfl 40 (.tmp 2) rfl w.heap.size 0 rfl _ _ (range_blk hA_w6) Try.underlying40 rfl iX ?_))
    refine (HRM.out _).mono ?_
    rintro e w7 ⟨rfl, hb⟩
    have hA_w7 := blk_below hA_w6 hb
    have hp_w7 := blk_below hp_w6 hb
    have hb_w7 := hb_w6.trans (hb.mono hb_w6.size)
    clear hb hb_w6 hA_w6 hp_w6
    go_wp2_with fail
    go_ret
    exact ⟨rfl, hb_w7⟩
  | true =>
    by_cases hk0 : keep < 0
    · go_wp2_with (first | (refine wpList_put_row rfl 42 (.tmp 6) (.tmp 16) rfl w5.heap.size (nats .u8 px) rfl rfl 42 _ (heap_new' w5 _ _ rfl) iPX (by rw [nats_length, HLX.out]; rfl) (one_nats _ _) ?_; intro w6 hUw6; have hp_w6 := hUw6.at_; have hA_w6 := hUw6.old (blk_alloc hA_w5 _) (show w.heap.size ≠ w5.heap.size by have := lt_of_cells hA_w5; omega); have hb_w6 := hUw6.below (hb_w5.alloc hb_w5.size _) hb_w5.size; clear hb_w5 hA_w5 hUw6; have NPQ := lt_of_cells hp_w6) | (refine wpList_load_mid rfl 40 (.tmp 2) rfl w.heap.size 0 rfl _ _ (range_blk hA_w6) Try.underlying40 rfl iX ?_))
      refine (HRM.out _).mono ?_
      rintro e w7 ⟨rfl, hb⟩
      have hA_w7 := blk_below hA_w6 hb
      have hp_w7 := blk_below hp_w6 hb
      have hb_w7 := hb_w6.trans (hb.mono hb_w6.size)
      clear hb hb_w6 hA_w6 hp_w6
      go_wp2_with fail
      go_ret
      exact ⟨rfl, hb_w7⟩
    by_cases hk1 : 32 < keep
    · go_wp2_with (first | (refine wpList_put_row rfl 42 (.tmp 6) (.tmp 16) rfl w5.heap.size (nats .u8 px) rfl rfl 42 _ (heap_new' w5 _ _ rfl) iPX (by rw [nats_length, HLX.out]; rfl) (one_nats _ _) ?_; intro w6 hUw6; have hp_w6 := hUw6.at_; have hA_w6 := hUw6.old (blk_alloc hA_w5 _) (show w.heap.size ≠ w5.heap.size by have := lt_of_cells hA_w5; omega); have hb_w6 := hUw6.below (hb_w5.alloc hb_w5.size _) hb_w5.size; clear hb_w5 hA_w5 hUw6; have NPQ := lt_of_cells hp_w6) | (refine wpList_load_mid rfl 40 (.tmp 2) rfl w.heap.size 0 rfl _ _ (range_blk hA_w6) Try.underlying40 rfl iX ?_))
      refine (HRM.out _).mono ?_
      rintro e w7 ⟨rfl, hb⟩
      have hA_w7 := blk_below hA_w6 hb
      have hp_w7 := blk_below hp_w6 hb
      have hb_w7 := hb_w6.trans (hb.mono hb_w6.size)
      clear hb hb_w6 hA_w6 hp_w6
      go_wp2_with fail
      go_ret
      exact ⟨rfl, hb_w7⟩
    obtain ⟨K, rfl⟩ := Int.eq_ofNat_of_zero_le (show 0 ≤ keep by omega)
    go_wp2_with (first | (refine wpList_put_row rfl 42 (.tmp 6) (.tmp 16) rfl w5.heap.size (nats .u8 px) rfl rfl 42 _ (heap_new' w5 _ _ rfl) iPX (by rw [nats_length, HLX.out]; rfl) (one_nats _ _) ?_; intro w6 hUw6; have hp_w6 := hUw6.at_; have hA_w6 := hUw6.old (blk_alloc hA_w5 _) (show w.heap.size ≠ w5.heap.size by have := lt_of_cells hA_w5; omega); have hb_w6 := hUw6.below (hb_w5.alloc hb_w5.size _) hb_w5.size; clear hb_w5 hA_w5 hUw6; have NPQ := lt_of_cells hp_w6) | (refine wpList_put_row rfl 42 (.tmp 8) (.tmp 32) rfl w6.heap.size (nats .u8 px) rfl rfl 42 _ (heap_new' w6 _ _ rfl) iPX (by rw [nats_length, HLX.out]; rfl) (one_nats _ _) ?_; intro w7 hUw7; have hq_w7 := hUw7.at_; have hA_w7 := hUw7.old (blk_alloc hA_w6 _) (show w.heap.size ≠ w6.heap.size by have := lt_of_cells hA_w6; omega); have hp_w7 := hUw7.old (blk_alloc hp_w6 _) (show w5.heap.size ≠ w6.heap.size by have := lt_of_cells hp_w6; omega); have hb_w7 := hUw7.below (hb_w6.alloc hb_w6.size _) hb_w6.size; clear hb_w6 hA_w6 hp_w6 hUw7) | (refine wpList_load_mid rfl 42 (.tmp 6) rfl w5.heap.size 0 rfl _ _ (range_blk hp_w6) Try.underlying42 rfl iPX ?_))
    have hKK : K ≤ 32 := by omega
    go_loopw [9] (fun i wr => ∃ j : Nat, K ≤ j ∧ j ≤ 32 ∧ i = .int .i64 j ∧ wr.heap[w6.heap.size]? = some (.cells (nats .u8 (tornTo px K j)).toArray 42 (0, 0)) ∧ wr.heap[w5.heap.size]? = some (.cells (nats .u8 px).toArray 42 (0, 0)) ∧ Below w.heap.size w wr) (fun i _ => 32 - (intOf i).toNat)
    case atStart => exact ⟨K, Nat.le_refl _, hKK, rfl, by rw [tornTo_start]; exact hq_w7, hp_w7, hb_w7⟩
    case round =>
      clear hq_w7 hp_w7 hA_w7 hb_w7
      obtain ⟨j, hKj, hj, rfl, h8, h6, hb⟩ := hrel
      by_cases hlt : j < 32
      · have lT := tornTo_length HLX.out hKj hj
        have hc : wr.cell? ⟨w6.heap.size, j, none⟩ = some (.int .u8 (((tornTo px K j).getD j 0 : Nat) : Int)) := by rw [blk_cell h8, List.getElem?_toArray, nats_at .u8 _ j (by rw [lT]; exact hlt), List.getD_eq_getElem?_getD, List.getElem?_eq_getElem (by rw [lT]; exact hlt)]; rfl
        have ff := blk_frozen h8 j
        have U := upd_setCell (i := j) h8 (.int .u8 255)
        have hset : (nats .u8 (tornTo px K j)).set j (.int .u8 255) = nats .u8 (tornTo px K (j + 1)) := by rw [← tornTo_step HLX.out hKj hlt]; simp only [nats, List.map_set]; rfl
        have k8 := U.at_
        rw [hset] at k8
        have HU := Lib.hid (And.intro k8 (And.intro (U.old h6 (Nat.ne_of_lt NPQ)) (U.below hb (by omega))))
        have hlt2 : (j : Int) < 32 := by omega
        clear U hset k8 h8 h6 hb lT
        generalize (tornTo px K j).getD j 0 = z at *
        go_wp2_with fail
        go_roundw
        case rel => exact ⟨j + 1, by omega, by omega, by go_num, HU.out.1, HU.out.2.1, HU.out.2.2⟩
        case measure => simp [intOf]; omega
      · obtain rfl : j = 32 := by omega
        have lT := tornTo_length HLX.out hKj hj
        have bT := tornTo_lt HBX.out K 32
        have iT := pgInfo lT
        have TT := fun w => tells_any (tornTo px K 32) w lT bT
        have BT := fun w => blank_any (tornTo px K 32) w lT
        have RT := fun w => refblank_any (tornTo px K 32) w lT
        have BF : blankB px = false := HBP.out (by trivial)
        have CBX := HCB.out
        rw [BF] at CBX
        have HCX := Lib.hid CBX
        generalize blankB (tornTo px K 32) = bt at *
        generalize tornTo px K 32 = qq at *
        have HTT := Lib.hid TT
        have HBT := Lib.hid BT
        have HRT := Lib.hid RT
        clear TT BT RT BF CBX lT bT
        go_upto_region 12 with fail
        cases bt with
        | false =>
          refine wp_region_puts_g (by kernel_rfl) (by kernel_rfl) (X := Unit) (fun _ => [(some 40, .agg (nats .u8 qq).toArray), (some 41, .bool true), (some 42, .bool true), (some 43, .agg (nats .u8 qq).toArray), (some 44, .bool false), (some 45, .agg (nats .u8 qq).toArray), (some 46, .bool false), (some 47, .bool true), (some 48, .bool true), (some 49, .bool true), (some 50, .agg (nats .u8 px).toArray), (some 51, .bool false), (some 52, .bool true), (some 53, .bool true), (some 4, .bool true)])
            (fun _ L w' => w'.heap[w5.heap.size]? = some (.cells (nats .u8 px).toArray 42 (0, 0)) ∧ w'.heap[w6.heap.size]? = some (.cells (nats .u8 qq).toArray 42 (0, 0)) ∧ Below w.heap.size w w') (fun _ => rfl) (by kernel_rfl) ⟨(), fun _ _ => ⟨h6, h8, hb.drew⟩⟩ ?_ ?_
          · refine ⟨?_, ?_, ?_, ?_, ?_, ?_, ?_, ?_, ?_, ?_, ?_, ?_, ?_, ?_, ?_, trivial⟩
            · intro _ L w' hL hpre hJ a ha
              obtain ⟨j6, j8, jb⟩ := hJ
              simp [Region.binds] at hpre
              refine .inl ⟨wanted_none rfl, ?_⟩
              exact wp_load_mid 42 (.tmp 8) rfl w6.heap.size 0 (by rw [ha, eval_puts_out rfl]; rfl) (nats .u8 qq) _ (range_blk j8) Try.underlying42 rfl iT ⟨(), _, rfl, rfl, j6, j8, jb⟩
            · intro _ L w' hL hpre hJ a ha
              obtain ⟨j6, j8, jb⟩ := hJ
              simp [Region.binds] at hpre
              refine .inl ⟨wanted_none rfl, ?_⟩
              have e40 : a.eval (.tmp 40) = .agg (nats .u8 qq).toArray := by rw [ha]; exact eval_puts_in (i := 0) rfl (by simp [hpre]) (by simp) rfl
              clear ha
              have j6' := Lib.hid j6
              have j8' := Lib.hid j8
              have jb' := Lib.hid jb
              clear j6 j8 jb
              refine wp_intro fun K HK => ?_
              unfold Oper.wp
              simp only [execOp, resolve, List.map_toArray, List.map_cons, List.map_nil, e40]
              go_simp
              refine (HTT.out w').mono ?_
              rintro e w'' ⟨rfl, hb⟩
              exact HK.out _ _ ⟨(), _, rfl, rfl, blk_below j6'.out hb, blk_below j8'.out hb, jb'.out.trans (hb.mono jb'.out.size)⟩
            · intro _ L w' hL hpre hJ a ha
              obtain ⟨j6, j8, jb⟩ := hJ
              simp [Region.binds] at hpre
              refine .inl ⟨wanted_none rfl, ?_⟩
              exact wp_move' (.tmp 41) (.inl rfl) (.bool true) (by rw [ha]; exact eval_puts_in (i := 1) rfl (by simp [hpre]) (by simp) rfl) ⟨(), _, rfl, rfl, j6, j8, jb⟩
            · intro _ L w' hL hpre hJ a ha
              obtain ⟨j6, j8, jb⟩ := hJ
              simp [Region.binds] at hpre
              refine .inl ⟨wanted_yes (g := 2) (t := 42) (b := true) rfl rfl (by rw [ha]; exact eval_puts_in (i := 2) rfl (by simp [hpre]) (by simp) rfl), ?_⟩
              exact wp_load_mid 42 (.tmp 8) rfl w6.heap.size 0 (by rw [ha, eval_puts_out rfl]; rfl) (nats .u8 qq) _ (range_blk j8) Try.underlying42 rfl iT ⟨(), _, rfl, rfl, j6, j8, jb⟩
            · intro _ L w' hL hpre hJ a ha
              obtain ⟨j6, j8, jb⟩ := hJ
              simp [Region.binds] at hpre
              refine .inl ⟨wanted_yes (g := 2) (t := 42) (b := true) rfl rfl (by rw [ha]; exact eval_puts_in (i := 2) rfl (by simp [hpre]) (by simp) rfl), ?_⟩
              have e43 : a.eval (.tmp 43) = .agg (nats .u8 qq).toArray := by rw [ha]; exact eval_puts_in (i := 3) rfl (by simp [hpre]) (by simp) rfl
              clear ha
              have j6' := Lib.hid j6
              have j8' := Lib.hid j8
              have jb' := Lib.hid jb
              clear j6 j8 jb
              refine wp_intro fun K HK => ?_
              unfold Oper.wp
              simp only [execOp, resolve, List.map_toArray, List.map_cons, List.map_nil, e43]
              go_simp
              refine (HBT.out w').mono ?_
              rintro e w'' ⟨rfl, hb⟩
              exact HK.out _ _ ⟨(), _, rfl, rfl, blk_below j6'.out hb, blk_below j8'.out hb, jb'.out.trans (hb.mono jb'.out.size)⟩
            · intro _ L w' hL hpre hJ a ha
              obtain ⟨j6, j8, jb⟩ := hJ
              simp [Region.binds] at hpre
              refine .inl ⟨wanted_yes (g := 2) (t := 42) (b := true) rfl rfl (by rw [ha]; exact eval_puts_in (i := 2) rfl (by simp [hpre]) (by simp) rfl), ?_⟩
              exact wp_load_mid 42 (.tmp 8) rfl w6.heap.size 0 (by rw [ha, eval_puts_out rfl]; rfl) (nats .u8 qq) _ (range_blk j8) Try.underlying42 rfl iT ⟨(), _, rfl, rfl, j6, j8, jb⟩
            · intro _ L w' hL hpre hJ a ha
              obtain ⟨j6, j8, jb⟩ := hJ
              simp [Region.binds] at hpre
              refine .inl ⟨wanted_yes (g := 2) (t := 42) (b := true) rfl rfl (by rw [ha]; exact eval_puts_in (i := 2) rfl (by simp [hpre]) (by simp) rfl), ?_⟩
              have e45 : a.eval (.tmp 45) = .agg (nats .u8 qq).toArray := by rw [ha]; exact eval_puts_in (i := 5) rfl (by simp [hpre]) (by simp) rfl
              clear ha
              have j6' := Lib.hid j6
              have j8' := Lib.hid j8
              have jb' := Lib.hid jb
              clear j6 j8 jb
              refine wp_intro fun K HK => ?_
              unfold Oper.wp
              simp only [execOp, resolve, List.map_toArray, List.map_cons, List.map_nil, e45]
              go_simp
              refine (HRT.out w').mono ?_
              rintro e w'' ⟨rfl, hb⟩
              exact HK.out _ _ ⟨(), _, rfl, rfl, blk_below j6'.out hb, blk_below j8'.out hb, jb'.out.trans (hb.mono jb'.out.size)⟩
            · intro _ L w' hL hpre hJ a ha
              obtain ⟨j6, j8, jb⟩ := hJ
              simp [Region.binds] at hpre
              refine .inl ⟨wanted_yes (g := 2) (t := 42) (b := true) rfl rfl (by rw [ha]; exact eval_puts_in (i := 2) rfl (by simp [hpre]) (by simp) rfl), ?_⟩
              have e44 : a.eval (.tmp 44) = .bool false := by rw [ha]; exact eval_puts_in (i := 4) rfl (by simp [hpre]) (by simp) rfl
              have e46 : a.eval (.tmp 46) = .bool false := by rw [ha]; exact eval_puts_in (i := 6) rfl (by simp [hpre]) (by simp) rfl
              clear ha
              have j6' := Lib.hid j6
              have j8' := Lib.hid j8
              have jb' := Lib.hid jb
              clear j6 j8 jb
              refine wp_intro fun K HK => ?_
              unfold Oper.wp
              simp only [execOp, e44, e46]
              go_simp
              exact HK.out _ _ ⟨(), _, rfl, rfl, j6'.out, j8'.out, jb'.out⟩
            · intro _ L w' hL hpre hJ a ha
              obtain ⟨j6, j8, jb⟩ := hJ
              simp [Region.binds] at hpre
              refine .inl ⟨wanted_none rfl, ?_⟩
              have e42 : a.eval (.tmp 42) = .bool true := by rw [ha]; exact eval_puts_in (i := 2) rfl (by simp [hpre]) (by simp) rfl
              have e47 : a.eval (.tmp 47) = .bool true := by rw [ha]; exact eval_puts_in (i := 7) rfl (by simp [hpre]) (by simp) rfl
              clear ha
              have j6' := Lib.hid j6
              have j8' := Lib.hid j8
              have jb' := Lib.hid jb
              clear j6 j8 jb
              refine wp_intro fun K HK => ?_
              unfold Oper.wp
              simp only [execOp, e42, e47]
              go_simp
              exact HK.out _ _ ⟨(), _, rfl, rfl, j6'.out, j8'.out, jb'.out⟩
            · intro _ L w' hL hpre hJ a ha
              obtain ⟨j6, j8, jb⟩ := hJ
              simp [Region.binds] at hpre
              refine .inl ⟨wanted_none rfl, ?_⟩
              exact wp_move' (.tmp 48) (.inl rfl) (.bool true) (by rw [ha]; exact eval_puts_in (i := 8) rfl (by simp [hpre]) (by simp) rfl) ⟨(), _, rfl, rfl, j6, j8, jb⟩
            · intro _ L w' hL hpre hJ a ha
              obtain ⟨j6, j8, jb⟩ := hJ
              simp [Region.binds] at hpre
              refine .inl ⟨wanted_yes (g := 9) (t := 49) (b := true) rfl rfl (by rw [ha]; exact eval_puts_in (i := 9) rfl (by simp [hpre]) (by simp) rfl), ?_⟩
              exact wp_load_mid 42 (.tmp 6) rfl w5.heap.size 0 (by rw [ha, eval_puts_out rfl]; rfl) (nats .u8 px) _ (range_blk j6) Try.underlying42 rfl iPX ⟨(), _, rfl, rfl, j6, j8, jb⟩
            · intro _ L w' hL hpre hJ a ha
              obtain ⟨j6, j8, jb⟩ := hJ
              simp [Region.binds] at hpre
              refine .inl ⟨wanted_yes (g := 9) (t := 49) (b := true) rfl rfl (by rw [ha]; exact eval_puts_in (i := 9) rfl (by simp [hpre]) (by simp) rfl), ?_⟩
              have e50 : a.eval (.tmp 50) = .agg (nats .u8 px).toArray := by rw [ha]; exact eval_puts_in (i := 10) rfl (by simp [hpre]) (by simp) rfl
              clear ha
              have j6' := Lib.hid j6
              have j8' := Lib.hid j8
              have jb' := Lib.hid jb
              clear j6 j8 jb
              refine wp_intro fun K HK => ?_
              unfold Oper.wp
              simp only [execOp, resolve, List.map_toArray, List.map_cons, List.map_nil, e50]
              go_simp
              refine (HCX.out w').mono ?_
              rintro e w'' ⟨rfl, hb⟩
              exact HK.out _ _ ⟨(), _, rfl, rfl, blk_below j6'.out hb, blk_below j8'.out hb, jb'.out.trans (hb.mono jb'.out.size)⟩
            · intro _ L w' hL hpre hJ a ha
              obtain ⟨j6, j8, jb⟩ := hJ
              simp [Region.binds] at hpre
              refine .inl ⟨wanted_yes (g := 9) (t := 49) (b := true) rfl rfl (by rw [ha]; exact eval_puts_in (i := 9) rfl (by simp [hpre]) (by simp) rfl), ?_⟩
              have e51 : a.eval (.tmp 51) = .bool false := by rw [ha]; exact eval_puts_in (i := 11) rfl (by simp [hpre]) (by simp) rfl
              clear ha
              have j6' := Lib.hid j6
              have j8' := Lib.hid j8
              have jb' := Lib.hid jb
              clear j6 j8 jb
              refine wp_intro fun K HK => ?_
              unfold Oper.wp
              simp only [execOp, e51]
              go_simp
              exact HK.out _ _ ⟨(), _, rfl, rfl, j6'.out, j8'.out, jb'.out⟩
            · intro _ L w' hL hpre hJ a ha
              obtain ⟨j6, j8, jb⟩ := hJ
              simp [Region.binds] at hpre
              refine .inl ⟨wanted_none rfl, ?_⟩
              have e49 : a.eval (.tmp 49) = .bool true := by rw [ha]; exact eval_puts_in (i := 9) rfl (by simp [hpre]) (by simp) rfl
              have e52 : a.eval (.tmp 52) = .bool true := by rw [ha]; exact eval_puts_in (i := 12) rfl (by simp [hpre]) (by simp) rfl
              clear ha
              have j6' := Lib.hid j6
              have j8' := Lib.hid j8
              have jb' := Lib.hid jb
              clear j6 j8 jb
              refine wp_intro fun K HK => ?_
              unfold Oper.wp
              simp only [execOp, e49, e52]
              go_simp
              exact HK.out _ _ ⟨(), _, rfl, rfl, j6'.out, j8'.out, jb'.out⟩
            · intro _ L w' hL hpre hJ a ha
              obtain ⟨j6, j8, jb⟩ := hJ
              simp [Region.binds] at hpre
              refine .inl ⟨wanted_none rfl, ?_⟩
              exact wp_move' (.tmp 53) (.inr rfl) (.bool true) (by rw [ha]; exact eval_puts_in (i := 13) rfl (by simp [hpre]) (by simp) rfl) ⟨(), _, rfl, rfl, j6, j8, jb⟩
          · intro _ L w' hL hJ
            obtain ⟨j6, j8, jb⟩ := hJ
            clear hL
            simp only [List.foldl_cons, List.foldl_nil]
            go_simp
            go_wp2_with fail
            go_ret
            exact ⟨rfl, jb⟩
        | true =>
          refine wp_region_puts_g (by kernel_rfl) (by kernel_rfl) (X := Unit) (fun _ => [(some 40, .agg (nats .u8 qq).toArray), (some 41, .bool true), (some 42, .bool true), (some 43, .agg (nats .u8 qq).toArray), (some 44, .bool true), (some 45, .agg (nats .u8 qq).toArray), (some 46, .bool true), (some 47, .bool true), (some 48, .bool true), (some 49, .bool true), (some 50, .agg (nats .u8 px).toArray), (some 51, .bool false), (some 52, .bool true), (some 53, .bool true), (some 4, .bool true)])
            (fun _ L w' => w'.heap[w5.heap.size]? = some (.cells (nats .u8 px).toArray 42 (0, 0)) ∧ w'.heap[w6.heap.size]? = some (.cells (nats .u8 qq).toArray 42 (0, 0)) ∧ Below w.heap.size w w') (fun _ => rfl) (by kernel_rfl) ⟨(), fun _ _ => ⟨h6, h8, hb.drew⟩⟩ ?_ ?_
          · refine ⟨?_, ?_, ?_, ?_, ?_, ?_, ?_, ?_, ?_, ?_, ?_, ?_, ?_, ?_, ?_, trivial⟩
            · intro _ L w' hL hpre hJ a ha
              obtain ⟨j6, j8, jb⟩ := hJ
              simp [Region.binds] at hpre
              refine .inl ⟨wanted_none rfl, ?_⟩
              exact wp_load_mid 42 (.tmp 8) rfl w6.heap.size 0 (by rw [ha, eval_puts_out rfl]; rfl) (nats .u8 qq) _ (range_blk j8) Try.underlying42 rfl iT ⟨(), _, rfl, rfl, j6, j8, jb⟩
            · intro _ L w' hL hpre hJ a ha
              obtain ⟨j6, j8, jb⟩ := hJ
              simp [Region.binds] at hpre
              refine .inl ⟨wanted_none rfl, ?_⟩
              have e40 : a.eval (.tmp 40) = .agg (nats .u8 qq).toArray := by rw [ha]; exact eval_puts_in (i := 0) rfl (by simp [hpre]) (by simp) rfl
              clear ha
              have j6' := Lib.hid j6
              have j8' := Lib.hid j8
              have jb' := Lib.hid jb
              clear j6 j8 jb
              refine wp_intro fun K HK => ?_
              unfold Oper.wp
              simp only [execOp, resolve, List.map_toArray, List.map_cons, List.map_nil, e40]
              go_simp
              refine (HTT.out w').mono ?_
              rintro e w'' ⟨rfl, hb⟩
              exact HK.out _ _ ⟨(), _, rfl, rfl, blk_below j6'.out hb, blk_below j8'.out hb, jb'.out.trans (hb.mono jb'.out.size)⟩
            · intro _ L w' hL hpre hJ a ha
              obtain ⟨j6, j8, jb⟩ := hJ
              simp [Region.binds] at hpre
              refine .inl ⟨wanted_none rfl, ?_⟩
              exact wp_move' (.tmp 41) (.inl rfl) (.bool true) (by rw [ha]; exact eval_puts_in (i := 1) rfl (by simp [hpre]) (by simp) rfl) ⟨(), _, rfl, rfl, j6, j8, jb⟩
            · intro _ L w' hL hpre hJ a ha
              obtain ⟨j6, j8, jb⟩ := hJ
              simp [Region.binds] at hpre
              refine .inl ⟨wanted_yes (g := 2) (t := 42) (b := true) rfl rfl (by rw [ha]; exact eval_puts_in (i := 2) rfl (by simp [hpre]) (by simp) rfl), ?_⟩
              exact wp_load_mid 42 (.tmp 8) rfl w6.heap.size 0 (by rw [ha, eval_puts_out rfl]; rfl) (nats .u8 qq) _ (range_blk j8) Try.underlying42 rfl iT ⟨(), _, rfl, rfl, j6, j8, jb⟩
            · intro _ L w' hL hpre hJ a ha
              obtain ⟨j6, j8, jb⟩ := hJ
              simp [Region.binds] at hpre
              refine .inl ⟨wanted_yes (g := 2) (t := 42) (b := true) rfl rfl (by rw [ha]; exact eval_puts_in (i := 2) rfl (by simp [hpre]) (by simp) rfl), ?_⟩
              have e43 : a.eval (.tmp 43) = .agg (nats .u8 qq).toArray := by rw [ha]; exact eval_puts_in (i := 3) rfl (by simp [hpre]) (by simp) rfl
              clear ha
              have j6' := Lib.hid j6
              have j8' := Lib.hid j8
              have jb' := Lib.hid jb
              clear j6 j8 jb
              refine wp_intro fun K HK => ?_
              unfold Oper.wp
              simp only [execOp, resolve, List.map_toArray, List.map_cons, List.map_nil, e43]
              go_simp
              refine (HBT.out w').mono ?_
              rintro e w'' ⟨rfl, hb⟩
              exact HK.out _ _ ⟨(), _, rfl, rfl, blk_below j6'.out hb, blk_below j8'.out hb, jb'.out.trans (hb.mono jb'.out.size)⟩
            · intro _ L w' hL hpre hJ a ha
              obtain ⟨j6, j8, jb⟩ := hJ
              simp [Region.binds] at hpre
              refine .inl ⟨wanted_yes (g := 2) (t := 42) (b := true) rfl rfl (by rw [ha]; exact eval_puts_in (i := 2) rfl (by simp [hpre]) (by simp) rfl), ?_⟩
              exact wp_load_mid 42 (.tmp 8) rfl w6.heap.size 0 (by rw [ha, eval_puts_out rfl]; rfl) (nats .u8 qq) _ (range_blk j8) Try.underlying42 rfl iT ⟨(), _, rfl, rfl, j6, j8, jb⟩
            · intro _ L w' hL hpre hJ a ha
              obtain ⟨j6, j8, jb⟩ := hJ
              simp [Region.binds] at hpre
              refine .inl ⟨wanted_yes (g := 2) (t := 42) (b := true) rfl rfl (by rw [ha]; exact eval_puts_in (i := 2) rfl (by simp [hpre]) (by simp) rfl), ?_⟩
              have e45 : a.eval (.tmp 45) = .agg (nats .u8 qq).toArray := by rw [ha]; exact eval_puts_in (i := 5) rfl (by simp [hpre]) (by simp) rfl
              clear ha
              have j6' := Lib.hid j6
              have j8' := Lib.hid j8
              have jb' := Lib.hid jb
              clear j6 j8 jb
              refine wp_intro fun K HK => ?_
              unfold Oper.wp
              simp only [execOp, resolve, List.map_toArray, List.map_cons, List.map_nil, e45]
              go_simp
              refine (HRT.out w').mono ?_
              rintro e w'' ⟨rfl, hb⟩
              exact HK.out _ _ ⟨(), _, rfl, rfl, blk_below j6'.out hb, blk_below j8'.out hb, jb'.out.trans (hb.mono jb'.out.size)⟩
            · intro _ L w' hL hpre hJ a ha
              obtain ⟨j6, j8, jb⟩ := hJ
              simp [Region.binds] at hpre
              refine .inl ⟨wanted_yes (g := 2) (t := 42) (b := true) rfl rfl (by rw [ha]; exact eval_puts_in (i := 2) rfl (by simp [hpre]) (by simp) rfl), ?_⟩
              have e44 : a.eval (.tmp 44) = .bool true := by rw [ha]; exact eval_puts_in (i := 4) rfl (by simp [hpre]) (by simp) rfl
              have e46 : a.eval (.tmp 46) = .bool true := by rw [ha]; exact eval_puts_in (i := 6) rfl (by simp [hpre]) (by simp) rfl
              clear ha
              have j6' := Lib.hid j6
              have j8' := Lib.hid j8
              have jb' := Lib.hid jb
              clear j6 j8 jb
              refine wp_intro fun K HK => ?_
              unfold Oper.wp
              simp only [execOp, e44, e46]
              go_simp
              exact HK.out _ _ ⟨(), _, rfl, rfl, j6'.out, j8'.out, jb'.out⟩
            · intro _ L w' hL hpre hJ a ha
              obtain ⟨j6, j8, jb⟩ := hJ
              simp [Region.binds] at hpre
              refine .inl ⟨wanted_none rfl, ?_⟩
              have e42 : a.eval (.tmp 42) = .bool true := by rw [ha]; exact eval_puts_in (i := 2) rfl (by simp [hpre]) (by simp) rfl
              have e47 : a.eval (.tmp 47) = .bool true := by rw [ha]; exact eval_puts_in (i := 7) rfl (by simp [hpre]) (by simp) rfl
              clear ha
              have j6' := Lib.hid j6
              have j8' := Lib.hid j8
              have jb' := Lib.hid jb
              clear j6 j8 jb
              refine wp_intro fun K HK => ?_
              unfold Oper.wp
              simp only [execOp, e42, e47]
              go_simp
              exact HK.out _ _ ⟨(), _, rfl, rfl, j6'.out, j8'.out, jb'.out⟩
            · intro _ L w' hL hpre hJ a ha
              obtain ⟨j6, j8, jb⟩ := hJ
              simp [Region.binds] at hpre
              refine .inl ⟨wanted_none rfl, ?_⟩
              exact wp_move' (.tmp 48) (.inl rfl) (.bool true) (by rw [ha]; exact eval_puts_in (i := 8) rfl (by simp [hpre]) (by simp) rfl) ⟨(), _, rfl, rfl, j6, j8, jb⟩
            · intro _ L w' hL hpre hJ a ha
              obtain ⟨j6, j8, jb⟩ := hJ
              simp [Region.binds] at hpre
              refine .inl ⟨wanted_yes (g := 9) (t := 49) (b := true) rfl rfl (by rw [ha]; exact eval_puts_in (i := 9) rfl (by simp [hpre]) (by simp) rfl), ?_⟩
              exact wp_load_mid 42 (.tmp 6) rfl w5.heap.size 0 (by rw [ha, eval_puts_out rfl]; rfl) (nats .u8 px) _ (range_blk j6) Try.underlying42 rfl iPX ⟨(), _, rfl, rfl, j6, j8, jb⟩
            · intro _ L w' hL hpre hJ a ha
              obtain ⟨j6, j8, jb⟩ := hJ
              simp [Region.binds] at hpre
              refine .inl ⟨wanted_yes (g := 9) (t := 49) (b := true) rfl rfl (by rw [ha]; exact eval_puts_in (i := 9) rfl (by simp [hpre]) (by simp) rfl), ?_⟩
              have e50 : a.eval (.tmp 50) = .agg (nats .u8 px).toArray := by rw [ha]; exact eval_puts_in (i := 10) rfl (by simp [hpre]) (by simp) rfl
              clear ha
              have j6' := Lib.hid j6
              have j8' := Lib.hid j8
              have jb' := Lib.hid jb
              clear j6 j8 jb
              refine wp_intro fun K HK => ?_
              unfold Oper.wp
              simp only [execOp, resolve, List.map_toArray, List.map_cons, List.map_nil, e50]
              go_simp
              refine (HCX.out w').mono ?_
              rintro e w'' ⟨rfl, hb⟩
              exact HK.out _ _ ⟨(), _, rfl, rfl, blk_below j6'.out hb, blk_below j8'.out hb, jb'.out.trans (hb.mono jb'.out.size)⟩
            · intro _ L w' hL hpre hJ a ha
              obtain ⟨j6, j8, jb⟩ := hJ
              simp [Region.binds] at hpre
              refine .inl ⟨wanted_yes (g := 9) (t := 49) (b := true) rfl rfl (by rw [ha]; exact eval_puts_in (i := 9) rfl (by simp [hpre]) (by simp) rfl), ?_⟩
              have e51 : a.eval (.tmp 51) = .bool false := by rw [ha]; exact eval_puts_in (i := 11) rfl (by simp [hpre]) (by simp) rfl
              clear ha
              have j6' := Lib.hid j6
              have j8' := Lib.hid j8
              have jb' := Lib.hid jb
              clear j6 j8 jb
              refine wp_intro fun K HK => ?_
              unfold Oper.wp
              simp only [execOp, e51]
              go_simp
              exact HK.out _ _ ⟨(), _, rfl, rfl, j6'.out, j8'.out, jb'.out⟩
            · intro _ L w' hL hpre hJ a ha
              obtain ⟨j6, j8, jb⟩ := hJ
              simp [Region.binds] at hpre
              refine .inl ⟨wanted_none rfl, ?_⟩
              have e49 : a.eval (.tmp 49) = .bool true := by rw [ha]; exact eval_puts_in (i := 9) rfl (by simp [hpre]) (by simp) rfl
              have e52 : a.eval (.tmp 52) = .bool true := by rw [ha]; exact eval_puts_in (i := 12) rfl (by simp [hpre]) (by simp) rfl
              clear ha
              have j6' := Lib.hid j6
              have j8' := Lib.hid j8
              have jb' := Lib.hid jb
              clear j6 j8 jb
              refine wp_intro fun K HK => ?_
              unfold Oper.wp
              simp only [execOp, e49, e52]
              go_simp
              exact HK.out _ _ ⟨(), _, rfl, rfl, j6'.out, j8'.out, jb'.out⟩
            · intro _ L w' hL hpre hJ a ha
              obtain ⟨j6, j8, jb⟩ := hJ
              simp [Region.binds] at hpre
              refine .inl ⟨wanted_none rfl, ?_⟩
              exact wp_move' (.tmp 53) (.inr rfl) (.bool true) (by rw [ha]; exact eval_puts_in (i := 13) rfl (by simp [hpre]) (by simp) rfl) ⟨(), _, rfl, rfl, j6, j8, jb⟩
          · intro _ L w' hL hJ
            obtain ⟨j6, j8, jb⟩ := hJ
            clear hL
            simp only [List.foldl_cons, List.foldl_nil]
            go_simp
            go_wp2_with fail
            go_ret
            exact ⟨rfl, jb⟩
end Go.Proofs.Ytakekjbbbjmdpaa.sherdTorn
