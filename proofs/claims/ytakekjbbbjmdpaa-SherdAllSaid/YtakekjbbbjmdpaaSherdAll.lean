import Derived.Test.YtakekjbbbjmdpaaTurnLaw
import Derived.Test.YtakekjbbbjmdpaaRefPut
import Derived.Test.YtakekjbbbjmdpaaRegion3
/- SherdAll: the walk. -/
namespace Go.Proofs.Ytakekjbbbjmdpaa.sherdAll
open Go.RowKit
set_option linter.unusedVariables false
theorem get_put {x : Sh} (hx : x.ok) (h : x.may = true) : getV (putP x.d x.r x.l x.s x.k x.b x.o x.m) = x.v ∧ getE (putP x.d x.r x.l x.s x.k x.b x.o x.m) = 0 := by
  have e : putP x.d x.r x.l x.s x.k x.b x.o x.m = pageN x.d x.r x.l x.s x.k x.b x.o x.m := by unfold putP; rw [show maySh x.d x.r x.l x.s x.k x.b x.o x.m = true from h]; rfl
  obtain ⟨g1, g2⟩ := get_page hx.1 hx.2 h
  rw [e]
  unfold getV getE
  rw [g1]
  exact ⟨g2, rfl⟩
set_option maxRecDepth 100000 in
set_option maxHeartbeats 8000000 in
theorem walk (cs : List Value) (ds : List Value) (w : World) (w0 : okAll (List.replicate 16 (Kd.int .u8) ++ List.replicate 7 (Kd.int .i64)) cs = true) (w1 : okAll (List.replicate 16 (Kd.int .u8) ++ List.replicate 7 (Kd.int .i64)) ds = true) :
    Calls Try.prog 7 #[.agg cs.toArray, .agg ds.toArray] w fun e w' => e = .returned (.bool true) ∧ Below w.heap.size w w' := by
  obtain ⟨x, rfl, hx, hwx⟩ := open_sh w0
  obtain ⟨y, rfl, hy, hwy⟩ := open_sh w1
  obtain ⟨q, Eq1, Eq2⟩ := eql_sh_all hx hwx hy hwy
  obtain ⟨q', Es1, Es2⟩ := eql_sh_all hx hwx hx hwx
  obtain rfl : q' = true := Es2.2 rfl
  have iX := shInfo x.d hx.1 x.r x.l x.s x.k x.b x.o x.m
  have iY := shInfo y.d hy.1 y.r y.l y.s y.k y.b y.o y.m
  have iXl := Lib.hid (shV_length hx.1 x.r x.l x.s x.k x.b x.o x.m)
  have PX : ∀ w, Calls Try.prog 36 #[.agg x.v.toArray] w fun e w' => e = .returned (.tuple #[.agg (nats .u8 (putP x.d x.r x.l x.s x.k x.b x.o x.m)).toArray, .bool x.may]) ∧ Below w.heap.size w w' := fun w => put_sherd x.d x.r x.l x.s x.k x.b x.o x.m w hx.1 hx.2
  have RX : ∀ w, Calls Try.prog 37 #[.agg x.v.toArray] w fun e w' => e = .returned (.tuple #[.agg (nats .u8 (putP x.d x.r x.l x.s x.k x.b x.o x.m)).toArray, .bool x.may]) ∧ Below w.heap.size w w' := fun w => refput_any x.d x.r x.l x.s x.k x.b x.o x.m w hx.1 hx.2
  have PY : ∀ w, Calls Try.prog 36 #[.agg y.v.toArray] w fun e w' => e = .returned (.tuple #[.agg (nats .u8 (putP y.d y.r y.l y.s y.k y.b y.o y.m)).toArray, .bool y.may]) ∧ Below w.heap.size w w' := fun w => put_sherd y.d y.r y.l y.s y.k y.b y.o y.m w hy.1 hy.2
  have MX : ∀ w, Calls Try.prog 38 #[.agg x.v.toArray] w fun e w' => e = .returned (.bool x.may) ∧ Below w.heap.size w w' := fun w => smay_any x.d x.r x.l x.s x.k x.b x.o x.m w hx.1 hx.2
  have RM : ∀ w, Calls Try.prog 39 #[.agg x.v.toArray] w fun e w' => e = .returned (.bool x.may) ∧ Below w.heap.size w w' := fun w => refmay_any x.d x.r x.l x.s x.k x.b x.o x.m w hx.1 hx.2
  have QQ := fun (mx : x.may = true) (my : y.may = true) => put_eq hx hy Eq2 mx my
  have GP := fun (mx : x.may = true) => get_put hx mx
  have ZP : x.may = false → (putP x.d x.r x.l x.s x.k x.b x.o x.m) = zero32 := fun h => by unfold putP; rw [show maySh x.d x.r x.l x.s x.k x.b x.o x.m = false from h]; rfl
  obtain ⟨LX, BX⟩ := putP_ok hx
  obtain ⟨LY, BY⟩ := putP_ok hy
  have h0 := heap_at1 w (.cells x.v.toArray 40) (.cells y.v.toArray 40)
  have h1 := heap_new' (w.alloc (.cells x.v.toArray 40)) (.cells y.v.toArray 40) (w.heap.size + 1) (by simp)
  have hbel := below2 w (.cells x.v.toArray 40) (.cells y.v.toArray 40)
  clear Eq2 Es2 w0 w1 hx hy hwx hwy
  generalize putP x.d x.r x.l x.s x.k x.b x.o x.m = px at *
  generalize putP y.d y.r y.l y.s y.k y.b y.o y.m = py at *
  have GX : ∀ w, Calls Try.prog 40 #[.agg (nats .u8 px).toArray] w fun e w' => e = .returned (.tuple #[.agg (getV px).toArray, .int .i64 (getE px)]) ∧ Below w.heap.size w w' := fun w => get_sherd px w LX BX
  have QP := fun w => eql_page w px py BX BY LX LY
  have NX : ∀ w, (binOp .neq 42 (.agg (nats .u8 px).toArray) (.agg (nats .u8 px).toArray)).run Try.prog w = .ok (.bool false) w := fun w => by
    rw [neq_page w px px BX BX LX LX]; simp
  have iPX := pgInfo LX
  have iPY := pgInfo LY
  have HLX := Lib.hid LX
  have HLY := Lib.hid LY
  clear BX BY LX LY
  generalize x.may = mx at *
  generalize y.may = my at *
  have HPX := Lib.hid PX
  have HRX := Lib.hid RX
  have HPY := Lib.hid PY
  have HMX := Lib.hid MX
  have HRM := Lib.hid RM
  have HQQ := Lib.hid QQ
  have HGP := Lib.hid GP
  have HZP := Lib.hid ZP
  have HGX := Lib.hid GX
  have HQP := Lib.hid QP
  have HNX := Lib.hid NX
  have HEq1 := Lib.hid Eq1
  have HEs1 := Lib.hid Es1
  clear PX RX PY MX RM QQ GP ZP GX QP NX Eq1 Es1
  go_enter Try.func7, Try.ntmps7
  go_upto_region 1 with fail
  generalize (w.alloc (.cells x.v.toArray 40)).alloc (.cells y.v.toArray 40) = wa at *
  go_wp2_with fail
  refine (begun9_any _).mono ?_
  rintro e w1 ⟨rfl, hb⟩
  have hA := blk_below h0 hb
  have hB := blk_below h1 hb
  have hb_w1 := hbel.trans (hb.mono hbel.size)
  clear hb hbel h0 h1
  go_wp2_with (first | (refine wpList_load_mid rfl 40 (.tmp 2) rfl w.heap.size 0 rfl _ _ (range_blk hA) Try.underlying40 rfl iX ?_))
  refine (HPX.out _).mono ?_
  rintro e w5 ⟨rfl, hb⟩
  have hA_w5 := blk_below hA hb
  have hB_w5 := blk_below hB hb
  have hb_w5 := hb_w1.trans (hb.mono hb_w1.size)
  clear hb hb_w1 hA hB
  go_wp2_with (first | (refine wpList_put_row rfl 42 (.tmp 6) (.tmp 20) rfl w5.heap.size (nats .u8 px) rfl rfl 42 _ (heap_new' w5 _ _ rfl) iPX (by rw [nats_length, HLX.out]; rfl) (one_nats _ _) ?_; intro w6 hUw6; have hp_w6 := hUw6.at_; have hA_w6 := hUw6.old (blk_alloc hA_w5 _) (show w.heap.size ≠ w5.heap.size by have := lt_of_cells hA_w5; omega); have hB_w6 := hUw6.old (blk_alloc hB_w5 _) (show (w.heap.size + 1) ≠ w5.heap.size by have := lt_of_cells hB_w5; omega); have hb_w6 := hUw6.below (hb_w5.alloc hb_w5.size _) hb_w5.size; clear hb_w5 hA_w5 hB_w5 hUw6) | (refine wpList_load_mid rfl 40 (.tmp 2) rfl w.heap.size 0 rfl _ _ (range_blk hA_w6) Try.underlying40 rfl iX ?_))
  refine (HRX.out _).mono ?_
  rintro e w7 ⟨rfl, hb⟩
  have hA_w7 := blk_below hA_w6 hb
  have hB_w7 := blk_below hB_w6 hb
  have hp_w7 := blk_below hp_w6 hb
  have hb_w7 := hb_w6.trans (hb.mono hb_w6.size)
  clear hb hb_w6 hA_w6 hB_w6 hp_w6
  go_wp2_with (first | (refine wpList_put_row rfl 42 (.tmp 8) (.tmp 25) rfl w7.heap.size (nats .u8 px) rfl rfl 42 _ (heap_new' w7 _ _ rfl) iPX (by rw [nats_length, HLX.out]; rfl) (one_nats _ _) ?_; intro w8 hUw8; have hw_w8 := hUw8.at_; have hA_w8 := hUw8.old (blk_alloc hA_w7 _) (show w.heap.size ≠ w7.heap.size by have := lt_of_cells hA_w7; omega); have hB_w8 := hUw8.old (blk_alloc hB_w7 _) (show (w.heap.size + 1) ≠ w7.heap.size by have := lt_of_cells hB_w7; omega); have hp_w8 := hUw8.old (blk_alloc hp_w7 _) (show w5.heap.size ≠ w7.heap.size by have := lt_of_cells hp_w7; omega); have hb_w8 := hUw8.below (hb_w7.alloc hb_w7.size _) hb_w7.size; clear hb_w7 hA_w7 hB_w7 hp_w7 hUw8) | (refine wpList_load_mid rfl 40 (.tmp 3) rfl (w.heap.size + 1) 0 rfl _ _ (range_blk hB_w8) Try.underlying40 rfl iY ?_))
  refine (HPY.out _).mono ?_
  rintro e w9 ⟨rfl, hb⟩
  have hA_w9 := blk_below hA_w8 hb
  have hB_w9 := blk_below hB_w8 hb
  have hp_w9 := blk_below hp_w8 hb
  have hw_w9 := blk_below hw_w8 hb
  have hb_w9 := hb_w8.trans (hb.mono hb_w8.size)
  clear hb hb_w8 hA_w8 hB_w8 hp_w8 hw_w8
  go_upto_region 7 with (first | (refine wpList_put_row rfl 42 (.tmp 10) (.tmp 30) rfl w9.heap.size (nats .u8 py) rfl rfl 42 _ (heap_new' w9 _ _ rfl) iPY (by rw [nats_length, HLY.out]; rfl) (one_nats _ _) ?_; intro w10 hUw10; have hq_w10 := hUw10.at_; have hA_w10 := hUw10.old (blk_alloc hA_w9 _) (show w.heap.size ≠ w9.heap.size by have := lt_of_cells hA_w9; omega); have hB_w10 := hUw10.old (blk_alloc hB_w9 _) (show (w.heap.size + 1) ≠ w9.heap.size by have := lt_of_cells hB_w9; omega); have hp_w10 := hUw10.old (blk_alloc hp_w9 _) (show w5.heap.size ≠ w9.heap.size by have := lt_of_cells hp_w9; omega); have hw_w10 := hUw10.old (blk_alloc hw_w9 _) (show w7.heap.size ≠ w9.heap.size by have := lt_of_cells hw_w9; omega); have hb_w10 := hUw10.below (hb_w9.alloc hb_w9.size _) hb_w9.size; clear hb_w9 hA_w9 hB_w9 hp_w9 hw_w9 hUw10))
  cases mx with
  | false =>
    obtain rfl := HZP.out rfl
    have hz : Try.prog.built 42 [] = some (nats .u8 zero32).toArray := by kernel_rfl
    have HQP : Hid (∀ w, (binOp .eql 42 (.agg (nats .u8 zero32).toArray) (.agg (nats .u8 zero32).toArray)).run Try.prog w = .ok (.bool true) w) := Lib.hid fun w => by rw [eql_page w zero32 zero32 (by decide) (by decide) rfl rfl]; simp
    refine wp_region_puts_g (by kernel_rfl) (by kernel_rfl) (X := Unit) (fun _ => [(some 32, .agg (x.v).toArray), (some 33, .bool false), (some 34, .agg (x.v).toArray), (some 35, .bool false), (some 36, .bool false), (some 37, .bool false), (some 38, .bool false), (some 39, .bool false), (some 40, .bool false), (some 41, .bool false), (some 42, .bool false), (some 43, .agg (nats .u8 zero32).toArray), (some 44, .agg (nats .u8 zero32).toArray), (some 45, .bool false), (some 46, .bool false)])
      (fun _ L w' => w'.heap[w.heap.size]? = some (.cells (x.v).toArray 40 (0, 0)) ∧ w'.heap[(w.heap.size + 1)]? = some (.cells (y.v).toArray 40 (0, 0)) ∧ w'.heap[w5.heap.size]? = some (.cells (nats .u8 zero32).toArray 42 (0, 0)) ∧ w'.heap[w7.heap.size]? = some (.cells (nats .u8 zero32).toArray 42 (0, 0)) ∧ w'.heap[w9.heap.size]? = some (.cells (nats .u8 py).toArray 42 (0, 0)) ∧ Below w.heap.size w w') (fun _ => rfl) (by kernel_rfl) ⟨(), fun _ _ => ⟨hA_w10, hB_w10, hp_w10, hw_w10, hq_w10, hb_w10.drew⟩⟩ ?_ ?_
    · refine ⟨?_, ?_, ?_, ?_, ?_, ?_, ?_, ?_, ?_, ?_, ?_, ?_, ?_, ?_, ?_, trivial⟩
      · intro _ L w' hL hpre hJ a ha
        obtain ⟨jA, jB, jp, jw, jq, jb⟩ := hJ
        simp [Region.binds] at hpre
        refine .inl ⟨wanted_none rfl, ?_⟩
        exact wp_load_mid 40 (.tmp 2) rfl w.heap.size 0 (by rw [ha, eval_puts_out rfl]; rfl) (x.v) _ (range_blk jA) Try.underlying40 rfl iX ⟨(), _, rfl, rfl, jA, jB, jp, jw, jq, jb⟩
      · intro _ L w' hL hpre hJ a ha
        obtain ⟨jA, jB, jp, jw, jq, jb⟩ := hJ
        simp [Region.binds] at hpre
        refine .inl ⟨wanted_none rfl, ?_⟩
        have e32 : a.eval (.tmp 32) = .agg (x.v).toArray := by rw [ha]; exact eval_puts_in (i := 0) rfl (by simp [hpre]) (by simp) rfl
        clear ha
        have jA' := Lib.hid jA
        have jB' := Lib.hid jB
        have jp' := Lib.hid jp
        have jw' := Lib.hid jw
        have jq' := Lib.hid jq
        have jb' := Lib.hid jb
        clear jA jB jp jw jq jb
        refine wp_intro fun K HK => ?_
        unfold Oper.wp
        simp only [execOp, resolve, List.map_toArray, List.map_cons, List.map_nil, e32]
        go_simp
        refine (HMX.out w').mono ?_
        rintro e w'' ⟨rfl, hb⟩
        exact HK.out _ _ ⟨(), _, rfl, rfl, blk_below jA'.out hb, blk_below jB'.out hb, blk_below jp'.out hb, blk_below jw'.out hb, blk_below jq'.out hb, jb'.out.trans (hb.mono jb'.out.size)⟩
      · intro _ L w' hL hpre hJ a ha
        obtain ⟨jA, jB, jp, jw, jq, jb⟩ := hJ
        simp [Region.binds] at hpre
        refine .inl ⟨wanted_none rfl, ?_⟩
        exact wp_load_mid 40 (.tmp 2) rfl w.heap.size 0 (by rw [ha, eval_puts_out rfl]; rfl) (x.v) _ (range_blk jA) Try.underlying40 rfl iX ⟨(), _, rfl, rfl, jA, jB, jp, jw, jq, jb⟩
      · intro _ L w' hL hpre hJ a ha
        obtain ⟨jA, jB, jp, jw, jq, jb⟩ := hJ
        simp [Region.binds] at hpre
        refine .inl ⟨wanted_none rfl, ?_⟩
        have e34 : a.eval (.tmp 34) = .agg (x.v).toArray := by rw [ha]; exact eval_puts_in (i := 2) rfl (by simp [hpre]) (by simp) rfl
        clear ha
        have jA' := Lib.hid jA
        have jB' := Lib.hid jB
        have jp' := Lib.hid jp
        have jw' := Lib.hid jw
        have jq' := Lib.hid jq
        have jb' := Lib.hid jb
        clear jA jB jp jw jq jb
        refine wp_intro fun K HK => ?_
        unfold Oper.wp
        simp only [execOp, resolve, List.map_toArray, List.map_cons, List.map_nil, e34]
        go_simp
        refine (HRM.out w').mono ?_
        rintro e w'' ⟨rfl, hb⟩
        exact HK.out _ _ ⟨(), _, rfl, rfl, blk_below jA'.out hb, blk_below jB'.out hb, blk_below jp'.out hb, blk_below jw'.out hb, blk_below jq'.out hb, jb'.out.trans (hb.mono jb'.out.size)⟩
      · intro _ L w' hL hpre hJ a ha
        obtain ⟨jA, jB, jp, jw, jq, jb⟩ := hJ
        simp [Region.binds] at hpre
        refine .inl ⟨wanted_none rfl, ?_⟩
        have e33 : a.eval (.tmp 33) = .bool false := by rw [ha]; exact eval_puts_in (i := 1) rfl (by simp [hpre]) (by simp) rfl
        have e35 : a.eval (.tmp 35) = .bool false := by rw [ha]; exact eval_puts_in (i := 3) rfl (by simp [hpre]) (by simp) rfl
        clear ha
        have jA' := Lib.hid jA
        have jB' := Lib.hid jB
        have jp' := Lib.hid jp
        have jw' := Lib.hid jw
        have jq' := Lib.hid jq
        have jb' := Lib.hid jb
        clear jA jB jp jw jq jb
        refine wp_intro fun K HK => ?_
        unfold Oper.wp
        simp only [execOp, e33, e35]
        go_simp
        exact HK.out _ _ ⟨(), _, rfl, rfl, jA'.out, jB'.out, jp'.out, jw'.out, jq'.out, jb'.out⟩
      · intro _ L w' hL hpre hJ a ha
        obtain ⟨jA, jB, jp, jw, jq, jb⟩ := hJ
        simp [Region.binds] at hpre
        refine .inl ⟨wanted_none rfl, ?_⟩
        exact wp_move' (.tmp 36) (.inl rfl) (.bool false) (by rw [ha]; exact eval_puts_in (i := 4) rfl (by simp [hpre]) (by simp) rfl) ⟨(), _, rfl, rfl, jA, jB, jp, jw, jq, jb⟩
      · intro _ L w' hL hpre hJ a ha
        obtain ⟨jA, jB, jp, jw, jq, jb⟩ := hJ
        simp [Region.binds] at hpre
        refine .inl ⟨wanted_yes (g := 5) (t := 37) (b := false) rfl rfl (by rw [ha]; exact eval_puts_in (i := 5) rfl (by simp [hpre]) (by simp) rfl), ?_⟩
        exact wp_move' (.tmp 7) (.inl rfl) (.bool false) (by rw [ha, eval_puts_out rfl]; rfl) ⟨(), _, rfl, rfl, jA, jB, jp, jw, jq, jb⟩
      · intro _ L w' hL hpre hJ a ha
        obtain ⟨jA, jB, jp, jw, jq, jb⟩ := hJ
        simp [Region.binds] at hpre
        refine .inl ⟨wanted_yes (g := 5) (t := 37) (b := false) rfl rfl (by rw [ha]; exact eval_puts_in (i := 5) rfl (by simp [hpre]) (by simp) rfl), ?_⟩
        exact wp_move' (.tmp 9) (.inl rfl) (.bool false) (by rw [ha, eval_puts_out rfl]; rfl) ⟨(), _, rfl, rfl, jA, jB, jp, jw, jq, jb⟩
      · intro _ L w' hL hpre hJ a ha
        obtain ⟨jA, jB, jp, jw, jq, jb⟩ := hJ
        simp [Region.binds] at hpre
        refine .inl ⟨wanted_yes (g := 5) (t := 37) (b := false) rfl rfl (by rw [ha]; exact eval_puts_in (i := 5) rfl (by simp [hpre]) (by simp) rfl), ?_⟩
        have e38 : a.eval (.tmp 38) = .bool false := by rw [ha]; exact eval_puts_in (i := 6) rfl (by simp [hpre]) (by simp) rfl
        have e39 : a.eval (.tmp 39) = .bool false := by rw [ha]; exact eval_puts_in (i := 7) rfl (by simp [hpre]) (by simp) rfl
        clear ha
        have jA' := Lib.hid jA
        have jB' := Lib.hid jB
        have jp' := Lib.hid jp
        have jw' := Lib.hid jw
        have jq' := Lib.hid jq
        have jb' := Lib.hid jb
        clear jA jB jp jw jq jb
        refine wp_intro fun K HK => ?_
        unfold Oper.wp
        simp only [execOp, e38, e39]
        go_simp
        exact HK.out _ _ ⟨(), _, rfl, rfl, jA'.out, jB'.out, jp'.out, jw'.out, jq'.out, jb'.out⟩
      · intro _ L w' hL hpre hJ a ha
        obtain ⟨jA, jB, jp, jw, jq, jb⟩ := hJ
        simp [Region.binds] at hpre
        refine .inl ⟨wanted_none rfl, ?_⟩
        have e37 : a.eval (.tmp 37) = .bool false := by rw [ha]; exact eval_puts_in (i := 5) rfl (by simp [hpre]) (by simp) rfl
        have e40 : a.eval (.tmp 40) = .bool false := by rw [ha]; exact eval_puts_in (i := 8) rfl (by simp [hpre]) (by simp) rfl
        clear ha
        have jA' := Lib.hid jA
        have jB' := Lib.hid jB
        have jp' := Lib.hid jp
        have jw' := Lib.hid jw
        have jq' := Lib.hid jq
        have jb' := Lib.hid jb
        clear jA jB jp jw jq jb
        refine wp_intro fun K HK => ?_
        unfold Oper.wp
        simp only [execOp, e37, e40]
        go_simp
        exact HK.out _ _ ⟨(), _, rfl, rfl, jA'.out, jB'.out, jp'.out, jw'.out, jq'.out, jb'.out⟩
      · intro _ L w' hL hpre hJ a ha
        obtain ⟨jA, jB, jp, jw, jq, jb⟩ := hJ
        simp [Region.binds] at hpre
        refine .inl ⟨wanted_none rfl, ?_⟩
        exact wp_move' (.tmp 41) (.inl rfl) (.bool false) (by rw [ha]; exact eval_puts_in (i := 9) rfl (by simp [hpre]) (by simp) rfl) ⟨(), _, rfl, rfl, jA, jB, jp, jw, jq, jb⟩
      · intro _ L w' hL hpre hJ a ha
        obtain ⟨jA, jB, jp, jw, jq, jb⟩ := hJ
        simp [Region.binds] at hpre
        refine .inl ⟨wanted_yes (g := 10) (t := 42) (b := false) rfl rfl (by rw [ha]; exact eval_puts_in (i := 10) rfl (by simp [hpre]) (by simp) rfl), ?_⟩
        exact wp_load_mid 42 (.tmp 6) rfl w5.heap.size 0 (by rw [ha, eval_puts_out rfl]; rfl) (nats .u8 zero32) _ (range_blk jp) Try.underlying42 rfl iPX ⟨(), _, rfl, rfl, jA, jB, jp, jw, jq, jb⟩
      · intro _ L w' hL hpre hJ a ha
        obtain ⟨jA, jB, jp, jw, jq, jb⟩ := hJ
        simp [Region.binds] at hpre
        refine .inl ⟨wanted_yes (g := 10) (t := 42) (b := false) rfl rfl (by rw [ha]; exact eval_puts_in (i := 10) rfl (by simp [hpre]) (by simp) rfl), ?_⟩
        exact wp_load_mid 42 (.tmp 8) rfl w7.heap.size 0 (by rw [ha, eval_puts_out rfl]; rfl) (nats .u8 zero32) _ (range_blk jw) Try.underlying42 rfl iPX ⟨(), _, rfl, rfl, jA, jB, jp, jw, jq, jb⟩
      · intro _ L w' hL hpre hJ a ha
        obtain ⟨jA, jB, jp, jw, jq, jb⟩ := hJ
        simp [Region.binds] at hpre
        refine .inl ⟨wanted_yes (g := 10) (t := 42) (b := false) rfl rfl (by rw [ha]; exact eval_puts_in (i := 10) rfl (by simp [hpre]) (by simp) rfl), ?_⟩
        have e43 : a.eval (.tmp 43) = .agg (nats .u8 zero32).toArray := by rw [ha]; exact eval_puts_in (i := 11) rfl (by simp [hpre]) (by simp) rfl
        have e44 : a.eval (.tmp 44) = .agg (nats .u8 zero32).toArray := by rw [ha]; exact eval_puts_in (i := 12) rfl (by simp [hpre]) (by simp) rfl
        clear ha
        have nx := HNX.out
        have jA' := Lib.hid jA
        have jB' := Lib.hid jB
        have jp' := Lib.hid jp
        have jw' := Lib.hid jw
        have jq' := Lib.hid jq
        have jb' := Lib.hid jb
        clear jA jB jp jw jq jb
        refine wp_intro fun K HK => ?_
        unfold Oper.wp
        simp only [execOp, e43, e44]
        go_simp
        exact HK.out _ _ ⟨(), _, rfl, rfl, jA'.out, jB'.out, jp'.out, jw'.out, jq'.out, jb'.out⟩
      · intro _ L w' hL hpre hJ a ha
        obtain ⟨jA, jB, jp, jw, jq, jb⟩ := hJ
        simp [Region.binds] at hpre
        refine .inl ⟨wanted_none rfl, ?_⟩
        have e42 : a.eval (.tmp 42) = .bool false := by rw [ha]; exact eval_puts_in (i := 10) rfl (by simp [hpre]) (by simp) rfl
        have e45 : a.eval (.tmp 45) = .bool false := by rw [ha]; exact eval_puts_in (i := 13) rfl (by simp [hpre]) (by simp) rfl
        clear ha
        have jA' := Lib.hid jA
        have jB' := Lib.hid jB
        have jp' := Lib.hid jp
        have jw' := Lib.hid jw
        have jq' := Lib.hid jq
        have jb' := Lib.hid jb
        clear jA jB jp jw jq jb
        refine wp_intro fun K HK => ?_
        unfold Oper.wp
        simp only [execOp, e42, e45]
        go_simp
        exact HK.out _ _ ⟨(), _, rfl, rfl, jA'.out, jB'.out, jp'.out, jw'.out, jq'.out, jb'.out⟩
    · intro _ L w' hL hJ
      obtain ⟨jA, jB, jp, jw, jq, jb⟩ := hJ
      clear hL
      simp only [List.foldl_cons, List.foldl_nil]
      go_simp
      have qz := HQP.out
      go_wp2_with (first | (refine wpList_load_mid rfl 42 (.tmp 6) rfl w5.heap.size 0 rfl _ _ (range_blk jp) Try.underlying42 rfl iPX ?_) | (refine wpList_build_l rfl 42 _ rfl _ rfl _ hz ?_))
      go_ret
      exact ⟨rfl, jb⟩
  | true =>
    have GP1 := Lib.hid (HGP.out rfl).1
    have GP2 := Lib.hid (HGP.out rfl).2
    cases my with
    | false =>
      refine wp_region_puts_g (by kernel_rfl) (by kernel_rfl) (X := Unit) (fun _ => [(some 32, .agg (x.v).toArray), (some 33, .bool true), (some 34, .agg (x.v).toArray), (some 35, .bool true), (some 36, .bool false), (some 37, .bool false), (some 38, .bool true), (some 39, .bool true), (some 40, .bool false), (some 41, .bool false), (some 42, .bool false), (some 43, .agg (nats .u8 px).toArray), (some 44, .agg (nats .u8 px).toArray), (some 45, .bool false), (some 46, .bool false)])
        (fun _ L w' => w'.heap[w.heap.size]? = some (.cells (x.v).toArray 40 (0, 0)) ∧ w'.heap[(w.heap.size + 1)]? = some (.cells (y.v).toArray 40 (0, 0)) ∧ w'.heap[w5.heap.size]? = some (.cells (nats .u8 px).toArray 42 (0, 0)) ∧ w'.heap[w7.heap.size]? = some (.cells (nats .u8 px).toArray 42 (0, 0)) ∧ w'.heap[w9.heap.size]? = some (.cells (nats .u8 py).toArray 42 (0, 0)) ∧ Below w.heap.size w w') (fun _ => rfl) (by kernel_rfl) ⟨(), fun _ _ => ⟨hA_w10, hB_w10, hp_w10, hw_w10, hq_w10, hb_w10.drew⟩⟩ ?_ ?_
      · refine ⟨?_, ?_, ?_, ?_, ?_, ?_, ?_, ?_, ?_, ?_, ?_, ?_, ?_, ?_, ?_, trivial⟩
        · intro _ L w' hL hpre hJ a ha
          obtain ⟨jA, jB, jp, jw, jq, jb⟩ := hJ
          simp [Region.binds] at hpre
          refine .inl ⟨wanted_none rfl, ?_⟩
          exact wp_load_mid 40 (.tmp 2) rfl w.heap.size 0 (by rw [ha, eval_puts_out rfl]; rfl) (x.v) _ (range_blk jA) Try.underlying40 rfl iX ⟨(), _, rfl, rfl, jA, jB, jp, jw, jq, jb⟩
        · intro _ L w' hL hpre hJ a ha
          obtain ⟨jA, jB, jp, jw, jq, jb⟩ := hJ
          simp [Region.binds] at hpre
          refine .inl ⟨wanted_none rfl, ?_⟩
          have e32 : a.eval (.tmp 32) = .agg (x.v).toArray := by rw [ha]; exact eval_puts_in (i := 0) rfl (by simp [hpre]) (by simp) rfl
          clear ha
          have jA' := Lib.hid jA
          have jB' := Lib.hid jB
          have jp' := Lib.hid jp
          have jw' := Lib.hid jw
          have jq' := Lib.hid jq
          have jb' := Lib.hid jb
          clear jA jB jp jw jq jb
          refine wp_intro fun K HK => ?_
          unfold Oper.wp
          simp only [execOp, resolve, List.map_toArray, List.map_cons, List.map_nil, e32]
          go_simp
          refine (HMX.out w').mono ?_
          rintro e w'' ⟨rfl, hb⟩
          exact HK.out _ _ ⟨(), _, rfl, rfl, blk_below jA'.out hb, blk_below jB'.out hb, blk_below jp'.out hb, blk_below jw'.out hb, blk_below jq'.out hb, jb'.out.trans (hb.mono jb'.out.size)⟩
        · intro _ L w' hL hpre hJ a ha
          obtain ⟨jA, jB, jp, jw, jq, jb⟩ := hJ
          simp [Region.binds] at hpre
          refine .inl ⟨wanted_none rfl, ?_⟩
          exact wp_load_mid 40 (.tmp 2) rfl w.heap.size 0 (by rw [ha, eval_puts_out rfl]; rfl) (x.v) _ (range_blk jA) Try.underlying40 rfl iX ⟨(), _, rfl, rfl, jA, jB, jp, jw, jq, jb⟩
        · intro _ L w' hL hpre hJ a ha
          obtain ⟨jA, jB, jp, jw, jq, jb⟩ := hJ
          simp [Region.binds] at hpre
          refine .inl ⟨wanted_none rfl, ?_⟩
          have e34 : a.eval (.tmp 34) = .agg (x.v).toArray := by rw [ha]; exact eval_puts_in (i := 2) rfl (by simp [hpre]) (by simp) rfl
          clear ha
          have jA' := Lib.hid jA
          have jB' := Lib.hid jB
          have jp' := Lib.hid jp
          have jw' := Lib.hid jw
          have jq' := Lib.hid jq
          have jb' := Lib.hid jb
          clear jA jB jp jw jq jb
          refine wp_intro fun K HK => ?_
          unfold Oper.wp
          simp only [execOp, resolve, List.map_toArray, List.map_cons, List.map_nil, e34]
          go_simp
          refine (HRM.out w').mono ?_
          rintro e w'' ⟨rfl, hb⟩
          exact HK.out _ _ ⟨(), _, rfl, rfl, blk_below jA'.out hb, blk_below jB'.out hb, blk_below jp'.out hb, blk_below jw'.out hb, blk_below jq'.out hb, jb'.out.trans (hb.mono jb'.out.size)⟩
        · intro _ L w' hL hpre hJ a ha
          obtain ⟨jA, jB, jp, jw, jq, jb⟩ := hJ
          simp [Region.binds] at hpre
          refine .inl ⟨wanted_none rfl, ?_⟩
          have e33 : a.eval (.tmp 33) = .bool true := by rw [ha]; exact eval_puts_in (i := 1) rfl (by simp [hpre]) (by simp) rfl
          have e35 : a.eval (.tmp 35) = .bool true := by rw [ha]; exact eval_puts_in (i := 3) rfl (by simp [hpre]) (by simp) rfl
          clear ha
          have jA' := Lib.hid jA
          have jB' := Lib.hid jB
          have jp' := Lib.hid jp
          have jw' := Lib.hid jw
          have jq' := Lib.hid jq
          have jb' := Lib.hid jb
          clear jA jB jp jw jq jb
          refine wp_intro fun K HK => ?_
          unfold Oper.wp
          simp only [execOp, e33, e35]
          go_simp
          exact HK.out _ _ ⟨(), _, rfl, rfl, jA'.out, jB'.out, jp'.out, jw'.out, jq'.out, jb'.out⟩
        · intro _ L w' hL hpre hJ a ha
          obtain ⟨jA, jB, jp, jw, jq, jb⟩ := hJ
          simp [Region.binds] at hpre
          refine .inl ⟨wanted_none rfl, ?_⟩
          exact wp_move' (.tmp 36) (.inl rfl) (.bool false) (by rw [ha]; exact eval_puts_in (i := 4) rfl (by simp [hpre]) (by simp) rfl) ⟨(), _, rfl, rfl, jA, jB, jp, jw, jq, jb⟩
        · intro _ L w' hL hpre hJ a ha
          obtain ⟨jA, jB, jp, jw, jq, jb⟩ := hJ
          simp [Region.binds] at hpre
          refine .inl ⟨wanted_yes (g := 5) (t := 37) (b := false) rfl rfl (by rw [ha]; exact eval_puts_in (i := 5) rfl (by simp [hpre]) (by simp) rfl), ?_⟩
          exact wp_move' (.tmp 7) (.inl rfl) (.bool true) (by rw [ha, eval_puts_out rfl]; rfl) ⟨(), _, rfl, rfl, jA, jB, jp, jw, jq, jb⟩
        · intro _ L w' hL hpre hJ a ha
          obtain ⟨jA, jB, jp, jw, jq, jb⟩ := hJ
          simp [Region.binds] at hpre
          refine .inl ⟨wanted_yes (g := 5) (t := 37) (b := false) rfl rfl (by rw [ha]; exact eval_puts_in (i := 5) rfl (by simp [hpre]) (by simp) rfl), ?_⟩
          exact wp_move' (.tmp 9) (.inl rfl) (.bool true) (by rw [ha, eval_puts_out rfl]; rfl) ⟨(), _, rfl, rfl, jA, jB, jp, jw, jq, jb⟩
        · intro _ L w' hL hpre hJ a ha
          obtain ⟨jA, jB, jp, jw, jq, jb⟩ := hJ
          simp [Region.binds] at hpre
          refine .inl ⟨wanted_yes (g := 5) (t := 37) (b := false) rfl rfl (by rw [ha]; exact eval_puts_in (i := 5) rfl (by simp [hpre]) (by simp) rfl), ?_⟩
          have e38 : a.eval (.tmp 38) = .bool true := by rw [ha]; exact eval_puts_in (i := 6) rfl (by simp [hpre]) (by simp) rfl
          have e39 : a.eval (.tmp 39) = .bool true := by rw [ha]; exact eval_puts_in (i := 7) rfl (by simp [hpre]) (by simp) rfl
          clear ha
          have jA' := Lib.hid jA
          have jB' := Lib.hid jB
          have jp' := Lib.hid jp
          have jw' := Lib.hid jw
          have jq' := Lib.hid jq
          have jb' := Lib.hid jb
          clear jA jB jp jw jq jb
          refine wp_intro fun K HK => ?_
          unfold Oper.wp
          simp only [execOp, e38, e39]
          go_simp
          exact HK.out _ _ ⟨(), _, rfl, rfl, jA'.out, jB'.out, jp'.out, jw'.out, jq'.out, jb'.out⟩
        · intro _ L w' hL hpre hJ a ha
          obtain ⟨jA, jB, jp, jw, jq, jb⟩ := hJ
          simp [Region.binds] at hpre
          refine .inl ⟨wanted_none rfl, ?_⟩
          have e37 : a.eval (.tmp 37) = .bool false := by rw [ha]; exact eval_puts_in (i := 5) rfl (by simp [hpre]) (by simp) rfl
          have e40 : a.eval (.tmp 40) = .bool false := by rw [ha]; exact eval_puts_in (i := 8) rfl (by simp [hpre]) (by simp) rfl
          clear ha
          have jA' := Lib.hid jA
          have jB' := Lib.hid jB
          have jp' := Lib.hid jp
          have jw' := Lib.hid jw
          have jq' := Lib.hid jq
          have jb' := Lib.hid jb
          clear jA jB jp jw jq jb
          refine wp_intro fun K HK => ?_
          unfold Oper.wp
          simp only [execOp, e37, e40]
          go_simp
          exact HK.out _ _ ⟨(), _, rfl, rfl, jA'.out, jB'.out, jp'.out, jw'.out, jq'.out, jb'.out⟩
        · intro _ L w' hL hpre hJ a ha
          obtain ⟨jA, jB, jp, jw, jq, jb⟩ := hJ
          simp [Region.binds] at hpre
          refine .inl ⟨wanted_none rfl, ?_⟩
          exact wp_move' (.tmp 41) (.inl rfl) (.bool false) (by rw [ha]; exact eval_puts_in (i := 9) rfl (by simp [hpre]) (by simp) rfl) ⟨(), _, rfl, rfl, jA, jB, jp, jw, jq, jb⟩
        · intro _ L w' hL hpre hJ a ha
          obtain ⟨jA, jB, jp, jw, jq, jb⟩ := hJ
          simp [Region.binds] at hpre
          refine .inl ⟨wanted_yes (g := 10) (t := 42) (b := false) rfl rfl (by rw [ha]; exact eval_puts_in (i := 10) rfl (by simp [hpre]) (by simp) rfl), ?_⟩
          exact wp_load_mid 42 (.tmp 6) rfl w5.heap.size 0 (by rw [ha, eval_puts_out rfl]; rfl) (nats .u8 px) _ (range_blk jp) Try.underlying42 rfl iPX ⟨(), _, rfl, rfl, jA, jB, jp, jw, jq, jb⟩
        · intro _ L w' hL hpre hJ a ha
          obtain ⟨jA, jB, jp, jw, jq, jb⟩ := hJ
          simp [Region.binds] at hpre
          refine .inl ⟨wanted_yes (g := 10) (t := 42) (b := false) rfl rfl (by rw [ha]; exact eval_puts_in (i := 10) rfl (by simp [hpre]) (by simp) rfl), ?_⟩
          exact wp_load_mid 42 (.tmp 8) rfl w7.heap.size 0 (by rw [ha, eval_puts_out rfl]; rfl) (nats .u8 px) _ (range_blk jw) Try.underlying42 rfl iPX ⟨(), _, rfl, rfl, jA, jB, jp, jw, jq, jb⟩
        · intro _ L w' hL hpre hJ a ha
          obtain ⟨jA, jB, jp, jw, jq, jb⟩ := hJ
          simp [Region.binds] at hpre
          refine .inl ⟨wanted_yes (g := 10) (t := 42) (b := false) rfl rfl (by rw [ha]; exact eval_puts_in (i := 10) rfl (by simp [hpre]) (by simp) rfl), ?_⟩
          have e43 : a.eval (.tmp 43) = .agg (nats .u8 px).toArray := by rw [ha]; exact eval_puts_in (i := 11) rfl (by simp [hpre]) (by simp) rfl
          have e44 : a.eval (.tmp 44) = .agg (nats .u8 px).toArray := by rw [ha]; exact eval_puts_in (i := 12) rfl (by simp [hpre]) (by simp) rfl
          clear ha
          have nx := HNX.out
          have jA' := Lib.hid jA
          have jB' := Lib.hid jB
          have jp' := Lib.hid jp
          have jw' := Lib.hid jw
          have jq' := Lib.hid jq
          have jb' := Lib.hid jb
          clear jA jB jp jw jq jb
          refine wp_intro fun K HK => ?_
          unfold Oper.wp
          simp only [execOp, e43, e44]
          go_simp
          exact HK.out _ _ ⟨(), _, rfl, rfl, jA'.out, jB'.out, jp'.out, jw'.out, jq'.out, jb'.out⟩
        · intro _ L w' hL hpre hJ a ha
          obtain ⟨jA, jB, jp, jw, jq, jb⟩ := hJ
          simp [Region.binds] at hpre
          refine .inl ⟨wanted_none rfl, ?_⟩
          have e42 : a.eval (.tmp 42) = .bool false := by rw [ha]; exact eval_puts_in (i := 10) rfl (by simp [hpre]) (by simp) rfl
          have e45 : a.eval (.tmp 45) = .bool false := by rw [ha]; exact eval_puts_in (i := 13) rfl (by simp [hpre]) (by simp) rfl
          clear ha
          have jA' := Lib.hid jA
          have jB' := Lib.hid jB
          have jp' := Lib.hid jp
          have jw' := Lib.hid jw
          have jq' := Lib.hid jq
          have jb' := Lib.hid jb
          clear jA jB jp jw jq jb
          refine wp_intro fun K HK => ?_
          unfold Oper.wp
          simp only [execOp, e42, e45]
          go_simp
          exact HK.out _ _ ⟨(), _, rfl, rfl, jA'.out, jB'.out, jp'.out, jw'.out, jq'.out, jb'.out⟩
      · intro _ L w' hL hJ
        obtain ⟨jA, jB, jp, jw, jq, jb⟩ := hJ
        clear hL
        simp only [List.foldl_cons, List.foldl_nil]
        go_simp
        have hb_w' := jb
        clear jb
        go_wp2_with (first | (refine wpList_load_mid rfl 42 (.tmp 6) rfl w5.heap.size 0 rfl _ _ (range_blk jp) Try.underlying42 rfl iPX ?_))
        refine (HGX.out _).mono ?_
        rw [GP1.out, GP2.out]
        rintro e w21 ⟨rfl, hb⟩
        have hA_w21 := blk_below jA hb
        have hB_w21 := blk_below jB hb
        have hp_w21 := blk_below jp hb
        have hw_w21 := blk_below jw hb
        have hq_w21 := blk_below jq hb
        have hb_w21 := hb_w'.trans (hb.mono hb_w'.size)
        clear hb hb_w' jA jB jp jw jq
        go_upto_region 12 with (first | (refine wpList_put_row rfl 40 (.tmp 12) (.tmp 55) rfl w21.heap.size x.v rfl rfl 40 _ (heap_new' w21 _ _ rfl) iX (by rw [Sh.v, iXl.out]; rfl) (one_shV _ _ _ _ _ _ _ _) ?_; intro w22 hUw22; have hs_w22 := hUw22.at_; have hA_w22 := hUw22.old (blk_alloc hA_w21 _) (show w.heap.size ≠ w21.heap.size by have := lt_of_cells hA_w21; omega); have hB_w22 := hUw22.old (blk_alloc hB_w21 _) (show (w.heap.size + 1) ≠ w21.heap.size by have := lt_of_cells hB_w21; omega); have hp_w22 := hUw22.old (blk_alloc hp_w21 _) (show w5.heap.size ≠ w21.heap.size by have := lt_of_cells hp_w21; omega); have hw_w22 := hUw22.old (blk_alloc hw_w21 _) (show w7.heap.size ≠ w21.heap.size by have := lt_of_cells hw_w21; omega); have hq_w22 := hUw22.old (blk_alloc hq_w21 _) (show w9.heap.size ≠ w21.heap.size by have := lt_of_cells hq_w21; omega); have hb_w22 := hUw22.below (hb_w21.alloc hb_w21.size _) hb_w21.size; clear hb_w21 hA_w21 hB_w21 hp_w21 hw_w21 hq_w21 hUw22))
        refine wp_region_puts_g (by kernel_rfl) (by kernel_rfl) (X := Unit) (fun _ => [(some 57, .int .i64 0), (some 58, .bool true), (some 59, .bool true), (some 60, .agg (x.v).toArray), (some 61, .agg (x.v).toArray), (some 62, .bool true), (some 63, .bool true), (some 64, .bool true), (some 65, .bool false), (some 66, .bool true), (some 67, .bool true), (some 68, undef), (some 69, undef), (some 70, undef), (some 71, undef), (some 72, undef), (some 73, undef), (some 74, undef), (some 75, .bool true), (some 76, .bool true), (some 4, .bool true)])
          (fun _ L w' => w'.heap[w.heap.size]? = some (.cells (x.v).toArray 40 (0, 0)) ∧ w'.heap[(w.heap.size + 1)]? = some (.cells (y.v).toArray 40 (0, 0)) ∧ w'.heap[w5.heap.size]? = some (.cells (nats .u8 px).toArray 42 (0, 0)) ∧ w'.heap[w7.heap.size]? = some (.cells (nats .u8 px).toArray 42 (0, 0)) ∧ w'.heap[w9.heap.size]? = some (.cells (nats .u8 py).toArray 42 (0, 0)) ∧ w'.heap[w21.heap.size]? = some (.cells (x.v).toArray 40 (0, 0)) ∧ Below w.heap.size w w') (fun _ => rfl) (by kernel_rfl) ⟨(), fun _ _ => ⟨hA_w22, hB_w22, hp_w22, hw_w22, hq_w22, hs_w22, hb_w22.drew⟩⟩ ?_ ?_
        · refine ⟨?_, ?_, ?_, ?_, ?_, ?_, ?_, ?_, ?_, ?_, ?_, ?_, ?_, ?_, ?_, ?_, ?_, ?_, ?_, ?_, ?_, trivial⟩
          · intro _ L w' hL hpre hJ a ha
            obtain ⟨jA, jB, jp, jw, jq, js, jb⟩ := hJ
            simp [Region.binds] at hpre
            refine .inl ⟨wanted_none rfl, ?_⟩
            exact wp_move' (.tmp 13) (.inl rfl) (.int .i64 0) (by rw [ha, eval_puts_out rfl]; rfl) ⟨(), _, rfl, rfl, jA, jB, jp, jw, jq, js, jb⟩
          · intro _ L w' hL hpre hJ a ha
            obtain ⟨jA, jB, jp, jw, jq, js, jb⟩ := hJ
            simp [Region.binds] at hpre
            refine .inl ⟨wanted_none rfl, ?_⟩
            have e57 : a.eval (.tmp 57) = .int .i64 0 := by rw [ha]; exact eval_puts_in (i := 0) rfl (by simp [hpre]) (by simp) rfl
            clear ha
            have jA' := Lib.hid jA
            have jB' := Lib.hid jB
            have jp' := Lib.hid jp
            have jw' := Lib.hid jw
            have jq' := Lib.hid jq
            have js' := Lib.hid js
            have jb' := Lib.hid jb
            clear jA jB jp jw jq js jb
            refine wp_intro fun K HK => ?_
            unfold Oper.wp
            simp only [execOp, e57]
            go_simp
            exact HK.out _ _ ⟨(), _, rfl, rfl, jA'.out, jB'.out, jp'.out, jw'.out, jq'.out, js'.out, jb'.out⟩
          · intro _ L w' hL hpre hJ a ha
            obtain ⟨jA, jB, jp, jw, jq, js, jb⟩ := hJ
            simp [Region.binds] at hpre
            refine .inl ⟨wanted_none rfl, ?_⟩
            exact wp_move' (.tmp 58) (.inl rfl) (.bool true) (by rw [ha]; exact eval_puts_in (i := 1) rfl (by simp [hpre]) (by simp) rfl) ⟨(), _, rfl, rfl, jA, jB, jp, jw, jq, js, jb⟩
          · intro _ L w' hL hpre hJ a ha
            obtain ⟨jA, jB, jp, jw, jq, js, jb⟩ := hJ
            simp [Region.binds] at hpre
            refine .inl ⟨wanted_yes (g := 2) (t := 59) (b := true) rfl rfl (by rw [ha]; exact eval_puts_in (i := 2) rfl (by simp [hpre]) (by simp) rfl), ?_⟩
            exact wp_load_mid 40 (.tmp 12) rfl w21.heap.size 0 (by rw [ha, eval_puts_out rfl]; rfl) (x.v) _ (range_blk js) Try.underlying40 rfl iX ⟨(), _, rfl, rfl, jA, jB, jp, jw, jq, js, jb⟩
          · intro _ L w' hL hpre hJ a ha
            obtain ⟨jA, jB, jp, jw, jq, js, jb⟩ := hJ
            simp [Region.binds] at hpre
            refine .inl ⟨wanted_yes (g := 2) (t := 59) (b := true) rfl rfl (by rw [ha]; exact eval_puts_in (i := 2) rfl (by simp [hpre]) (by simp) rfl), ?_⟩
            exact wp_load_mid 40 (.tmp 2) rfl w.heap.size 0 (by rw [ha, eval_puts_out rfl]; rfl) (x.v) _ (range_blk jA) Try.underlying40 rfl iX ⟨(), _, rfl, rfl, jA, jB, jp, jw, jq, js, jb⟩
          · intro _ L w' hL hpre hJ a ha
            obtain ⟨jA, jB, jp, jw, jq, js, jb⟩ := hJ
            simp [Region.binds] at hpre
            refine .inl ⟨wanted_yes (g := 2) (t := 59) (b := true) rfl rfl (by rw [ha]; exact eval_puts_in (i := 2) rfl (by simp [hpre]) (by simp) rfl), ?_⟩
            have e60 : a.eval (.tmp 60) = .agg (x.v).toArray := by rw [ha]; exact eval_puts_in (i := 3) rfl (by simp [hpre]) (by simp) rfl
            have e61 : a.eval (.tmp 61) = .agg (x.v).toArray := by rw [ha]; exact eval_puts_in (i := 4) rfl (by simp [hpre]) (by simp) rfl
            clear ha
            have qe := HEs1.out
            have jA' := Lib.hid jA
            have jB' := Lib.hid jB
            have jp' := Lib.hid jp
            have jw' := Lib.hid jw
            have jq' := Lib.hid jq
            have js' := Lib.hid js
            have jb' := Lib.hid jb
            clear jA jB jp jw jq js jb
            refine wp_intro fun K HK => ?_
            unfold Oper.wp
            simp only [execOp, e60, e61]
            go_simp
            exact HK.out _ _ ⟨(), _, rfl, rfl, jA'.out, jB'.out, jp'.out, jw'.out, jq'.out, js'.out, jb'.out⟩
          · intro _ L w' hL hpre hJ a ha
            obtain ⟨jA, jB, jp, jw, jq, js, jb⟩ := hJ
            simp [Region.binds] at hpre
            refine .inl ⟨wanted_none rfl, ?_⟩
            have e59 : a.eval (.tmp 59) = .bool true := by rw [ha]; exact eval_puts_in (i := 2) rfl (by simp [hpre]) (by simp) rfl
            have e62 : a.eval (.tmp 62) = .bool true := by rw [ha]; exact eval_puts_in (i := 5) rfl (by simp [hpre]) (by simp) rfl
            clear ha
            have jA' := Lib.hid jA
            have jB' := Lib.hid jB
            have jp' := Lib.hid jp
            have jw' := Lib.hid jw
            have jq' := Lib.hid jq
            have js' := Lib.hid js
            have jb' := Lib.hid jb
            clear jA jB jp jw jq js jb
            refine wp_intro fun K HK => ?_
            unfold Oper.wp
            simp only [execOp, e59, e62]
            go_simp
            exact HK.out _ _ ⟨(), _, rfl, rfl, jA'.out, jB'.out, jp'.out, jw'.out, jq'.out, js'.out, jb'.out⟩
          · intro _ L w' hL hpre hJ a ha
            obtain ⟨jA, jB, jp, jw, jq, js, jb⟩ := hJ
            simp [Region.binds] at hpre
            refine .inl ⟨wanted_none rfl, ?_⟩
            exact wp_move' (.tmp 63) (.inl rfl) (.bool true) (by rw [ha]; exact eval_puts_in (i := 6) rfl (by simp [hpre]) (by simp) rfl) ⟨(), _, rfl, rfl, jA, jB, jp, jw, jq, js, jb⟩
          · intro _ L w' hL hpre hJ a ha
            obtain ⟨jA, jB, jp, jw, jq, js, jb⟩ := hJ
            simp [Region.binds] at hpre
            refine .inl ⟨wanted_yes (g := 7) (t := 64) (b := true) rfl rfl (by rw [ha]; exact eval_puts_in (i := 7) rfl (by simp [hpre]) (by simp) rfl), ?_⟩
            exact wp_move' (.tmp 11) (.inl rfl) (.bool false) (by rw [ha, eval_puts_out rfl]; rfl) ⟨(), _, rfl, rfl, jA, jB, jp, jw, jq, js, jb⟩
          · intro _ L w' hL hpre hJ a ha
            obtain ⟨jA, jB, jp, jw, jq, js, jb⟩ := hJ
            simp [Region.binds] at hpre
            refine .inl ⟨wanted_yes (g := 7) (t := 64) (b := true) rfl rfl (by rw [ha]; exact eval_puts_in (i := 7) rfl (by simp [hpre]) (by simp) rfl), ?_⟩
            have e65 : a.eval (.tmp 65) = .bool false := by rw [ha]; exact eval_puts_in (i := 8) rfl (by simp [hpre]) (by simp) rfl
            clear ha
            have jA' := Lib.hid jA
            have jB' := Lib.hid jB
            have jp' := Lib.hid jp
            have jw' := Lib.hid jw
            have jq' := Lib.hid jq
            have js' := Lib.hid js
            have jb' := Lib.hid jb
            clear jA jB jp jw jq js jb
            refine wp_intro fun K HK => ?_
            unfold Oper.wp
            simp only [execOp, e65]
            go_simp
            exact HK.out _ _ ⟨(), _, rfl, rfl, jA'.out, jB'.out, jp'.out, jw'.out, jq'.out, js'.out, jb'.out⟩
          · intro _ L w' hL hpre hJ a ha
            obtain ⟨jA, jB, jp, jw, jq, js, jb⟩ := hJ
            simp [Region.binds] at hpre
            refine .inl ⟨wanted_yes (g := 7) (t := 64) (b := true) rfl rfl (by rw [ha]; exact eval_puts_in (i := 7) rfl (by simp [hpre]) (by simp) rfl), ?_⟩
            exact wp_move' (.tmp 66) (.inl rfl) (.bool true) (by rw [ha]; exact eval_puts_in (i := 9) rfl (by simp [hpre]) (by simp) rfl) ⟨(), _, rfl, rfl, jA, jB, jp, jw, jq, js, jb⟩
          · intro _ L w' hL hpre hJ a ha
            obtain ⟨jA, jB, jp, jw, jq, js, jb⟩ := hJ
            simp [Region.binds] at hpre
            exact .inr ⟨wanted_no (g := 10) (t := 67) (b := false) rfl rfl (by rw [ha]; exact eval_puts_in (i := 10) rfl (by simp [hpre]) (by simp) rfl), (), rfl, jA, jB, jp, jw, jq, js, jb⟩
          · intro _ L w' hL hpre hJ a ha
            obtain ⟨jA, jB, jp, jw, jq, js, jb⟩ := hJ
            simp [Region.binds] at hpre
            exact .inr ⟨wanted_no (g := 10) (t := 67) (b := false) rfl rfl (by rw [ha]; exact eval_puts_in (i := 10) rfl (by simp [hpre]) (by simp) rfl), (), rfl, jA, jB, jp, jw, jq, js, jb⟩
          · intro _ L w' hL hpre hJ a ha
            obtain ⟨jA, jB, jp, jw, jq, js, jb⟩ := hJ
            simp [Region.binds] at hpre
            exact .inr ⟨wanted_no (g := 10) (t := 67) (b := false) rfl rfl (by rw [ha]; exact eval_puts_in (i := 10) rfl (by simp [hpre]) (by simp) rfl), (), rfl, jA, jB, jp, jw, jq, js, jb⟩
          · intro _ L w' hL hpre hJ a ha
            obtain ⟨jA, jB, jp, jw, jq, js, jb⟩ := hJ
            simp [Region.binds] at hpre
            exact .inr ⟨wanted_no (g := 10) (t := 67) (b := false) rfl rfl (by rw [ha]; exact eval_puts_in (i := 10) rfl (by simp [hpre]) (by simp) rfl), (), rfl, jA, jB, jp, jw, jq, js, jb⟩
          · intro _ L w' hL hpre hJ a ha
            obtain ⟨jA, jB, jp, jw, jq, js, jb⟩ := hJ
            simp [Region.binds] at hpre
            exact .inr ⟨wanted_no (g := 10) (t := 67) (b := false) rfl rfl (by rw [ha]; exact eval_puts_in (i := 10) rfl (by simp [hpre]) (by simp) rfl), (), rfl, jA, jB, jp, jw, jq, js, jb⟩
          · intro _ L w' hL hpre hJ a ha
            obtain ⟨jA, jB, jp, jw, jq, js, jb⟩ := hJ
            simp [Region.binds] at hpre
            exact .inr ⟨wanted_no (g := 10) (t := 67) (b := false) rfl rfl (by rw [ha]; exact eval_puts_in (i := 10) rfl (by simp [hpre]) (by simp) rfl), (), rfl, jA, jB, jp, jw, jq, js, jb⟩
          · intro _ L w' hL hpre hJ a ha
            obtain ⟨jA, jB, jp, jw, jq, js, jb⟩ := hJ
            simp [Region.binds] at hpre
            exact .inr ⟨wanted_no (g := 10) (t := 67) (b := false) rfl rfl (by rw [ha]; exact eval_puts_in (i := 10) rfl (by simp [hpre]) (by simp) rfl), (), rfl, jA, jB, jp, jw, jq, js, jb⟩
          · intro _ L w' hL hpre hJ a ha
            obtain ⟨jA, jB, jp, jw, jq, js, jb⟩ := hJ
            simp [Region.binds] at hpre
            refine .inl ⟨wanted_yes (g := 7) (t := 64) (b := true) rfl rfl (by rw [ha]; exact eval_puts_in (i := 7) rfl (by simp [hpre]) (by simp) rfl), ?_⟩
            have e67 : a.eval (.tmp 67) = .bool true := by rw [ha]; exact eval_puts_in (i := 10) rfl (by simp [hpre]) (by simp) rfl
            clear ha
            have jA' := Lib.hid jA
            have jB' := Lib.hid jB
            have jp' := Lib.hid jp
            have jw' := Lib.hid jw
            have jq' := Lib.hid jq
            have js' := Lib.hid js
            have jb' := Lib.hid jb
            clear jA jB jp jw jq js jb
            refine wp_intro fun K HK => ?_
            unfold Oper.wp
            simp only [execOp, e67]
            go_simp
            exact HK.out _ _ ⟨(), _, rfl, rfl, jA'.out, jB'.out, jp'.out, jw'.out, jq'.out, js'.out, jb'.out⟩
          · intro _ L w' hL hpre hJ a ha
            obtain ⟨jA, jB, jp, jw, jq, js, jb⟩ := hJ
            simp [Region.binds] at hpre
            refine .inl ⟨wanted_none rfl, ?_⟩
            have e64 : a.eval (.tmp 64) = .bool true := by rw [ha]; exact eval_puts_in (i := 7) rfl (by simp [hpre]) (by simp) rfl
            have e75 : a.eval (.tmp 75) = .bool true := by rw [ha]; exact eval_puts_in (i := 18) rfl (by simp [hpre]) (by simp) rfl
            clear ha
            have jA' := Lib.hid jA
            have jB' := Lib.hid jB
            have jp' := Lib.hid jp
            have jw' := Lib.hid jw
            have jq' := Lib.hid jq
            have js' := Lib.hid js
            have jb' := Lib.hid jb
            clear jA jB jp jw jq js jb
            refine wp_intro fun K HK => ?_
            unfold Oper.wp
            simp only [execOp, e64, e75]
            go_simp
            exact HK.out _ _ ⟨(), _, rfl, rfl, jA'.out, jB'.out, jp'.out, jw'.out, jq'.out, js'.out, jb'.out⟩
          · intro _ L w' hL hpre hJ a ha
            obtain ⟨jA, jB, jp, jw, jq, js, jb⟩ := hJ
            simp [Region.binds] at hpre
            refine .inl ⟨wanted_none rfl, ?_⟩
            exact wp_move' (.tmp 76) (.inr rfl) (.bool true) (by rw [ha]; exact eval_puts_in (i := 19) rfl (by simp [hpre]) (by simp) rfl) ⟨(), _, rfl, rfl, jA, jB, jp, jw, jq, js, jb⟩
        · intro _ L w' hL hJ
          obtain ⟨jA, jB, jp, jw, jq, js, jb⟩ := hJ
          clear hL
          simp only [List.foldl_cons, List.foldl_nil]
          go_simp
          go_wp2_with fail
          go_ret
          exact ⟨rfl, jb⟩
    | true =>
      rw [HQQ.out rfl rfl] at HQP
      cases q with
      | false =>
        refine wp_region_puts_g (by kernel_rfl) (by kernel_rfl) (X := Unit) (fun _ => [(some 32, .agg (x.v).toArray), (some 33, .bool true), (some 34, .agg (x.v).toArray), (some 35, .bool true), (some 36, .bool false), (some 37, .bool false), (some 38, .bool true), (some 39, .bool true), (some 40, .bool false), (some 41, .bool false), (some 42, .bool false), (some 43, .agg (nats .u8 px).toArray), (some 44, .agg (nats .u8 px).toArray), (some 45, .bool false), (some 46, .bool false)])
          (fun _ L w' => w'.heap[w.heap.size]? = some (.cells (x.v).toArray 40 (0, 0)) ∧ w'.heap[(w.heap.size + 1)]? = some (.cells (y.v).toArray 40 (0, 0)) ∧ w'.heap[w5.heap.size]? = some (.cells (nats .u8 px).toArray 42 (0, 0)) ∧ w'.heap[w7.heap.size]? = some (.cells (nats .u8 px).toArray 42 (0, 0)) ∧ w'.heap[w9.heap.size]? = some (.cells (nats .u8 py).toArray 42 (0, 0)) ∧ Below w.heap.size w w') (fun _ => rfl) (by kernel_rfl) ⟨(), fun _ _ => ⟨hA_w10, hB_w10, hp_w10, hw_w10, hq_w10, hb_w10.drew⟩⟩ ?_ ?_
        · refine ⟨?_, ?_, ?_, ?_, ?_, ?_, ?_, ?_, ?_, ?_, ?_, ?_, ?_, ?_, ?_, trivial⟩
          · intro _ L w' hL hpre hJ a ha
            obtain ⟨jA, jB, jp, jw, jq, jb⟩ := hJ
            simp [Region.binds] at hpre
            refine .inl ⟨wanted_none rfl, ?_⟩
            exact wp_load_mid 40 (.tmp 2) rfl w.heap.size 0 (by rw [ha, eval_puts_out rfl]; rfl) (x.v) _ (range_blk jA) Try.underlying40 rfl iX ⟨(), _, rfl, rfl, jA, jB, jp, jw, jq, jb⟩
          · intro _ L w' hL hpre hJ a ha
            obtain ⟨jA, jB, jp, jw, jq, jb⟩ := hJ
            simp [Region.binds] at hpre
            refine .inl ⟨wanted_none rfl, ?_⟩
            have e32 : a.eval (.tmp 32) = .agg (x.v).toArray := by rw [ha]; exact eval_puts_in (i := 0) rfl (by simp [hpre]) (by simp) rfl
            clear ha
            have jA' := Lib.hid jA
            have jB' := Lib.hid jB
            have jp' := Lib.hid jp
            have jw' := Lib.hid jw
            have jq' := Lib.hid jq
            have jb' := Lib.hid jb
            clear jA jB jp jw jq jb
            refine wp_intro fun K HK => ?_
            unfold Oper.wp
            simp only [execOp, resolve, List.map_toArray, List.map_cons, List.map_nil, e32]
            go_simp
            refine (HMX.out w').mono ?_
            rintro e w'' ⟨rfl, hb⟩
            exact HK.out _ _ ⟨(), _, rfl, rfl, blk_below jA'.out hb, blk_below jB'.out hb, blk_below jp'.out hb, blk_below jw'.out hb, blk_below jq'.out hb, jb'.out.trans (hb.mono jb'.out.size)⟩
          · intro _ L w' hL hpre hJ a ha
            obtain ⟨jA, jB, jp, jw, jq, jb⟩ := hJ
            simp [Region.binds] at hpre
            refine .inl ⟨wanted_none rfl, ?_⟩
            exact wp_load_mid 40 (.tmp 2) rfl w.heap.size 0 (by rw [ha, eval_puts_out rfl]; rfl) (x.v) _ (range_blk jA) Try.underlying40 rfl iX ⟨(), _, rfl, rfl, jA, jB, jp, jw, jq, jb⟩
          · intro _ L w' hL hpre hJ a ha
            obtain ⟨jA, jB, jp, jw, jq, jb⟩ := hJ
            simp [Region.binds] at hpre
            refine .inl ⟨wanted_none rfl, ?_⟩
            have e34 : a.eval (.tmp 34) = .agg (x.v).toArray := by rw [ha]; exact eval_puts_in (i := 2) rfl (by simp [hpre]) (by simp) rfl
            clear ha
            have jA' := Lib.hid jA
            have jB' := Lib.hid jB
            have jp' := Lib.hid jp
            have jw' := Lib.hid jw
            have jq' := Lib.hid jq
            have jb' := Lib.hid jb
            clear jA jB jp jw jq jb
            refine wp_intro fun K HK => ?_
            unfold Oper.wp
            simp only [execOp, resolve, List.map_toArray, List.map_cons, List.map_nil, e34]
            go_simp
            refine (HRM.out w').mono ?_
            rintro e w'' ⟨rfl, hb⟩
            exact HK.out _ _ ⟨(), _, rfl, rfl, blk_below jA'.out hb, blk_below jB'.out hb, blk_below jp'.out hb, blk_below jw'.out hb, blk_below jq'.out hb, jb'.out.trans (hb.mono jb'.out.size)⟩
          · intro _ L w' hL hpre hJ a ha
            obtain ⟨jA, jB, jp, jw, jq, jb⟩ := hJ
            simp [Region.binds] at hpre
            refine .inl ⟨wanted_none rfl, ?_⟩
            have e33 : a.eval (.tmp 33) = .bool true := by rw [ha]; exact eval_puts_in (i := 1) rfl (by simp [hpre]) (by simp) rfl
            have e35 : a.eval (.tmp 35) = .bool true := by rw [ha]; exact eval_puts_in (i := 3) rfl (by simp [hpre]) (by simp) rfl
            clear ha
            have jA' := Lib.hid jA
            have jB' := Lib.hid jB
            have jp' := Lib.hid jp
            have jw' := Lib.hid jw
            have jq' := Lib.hid jq
            have jb' := Lib.hid jb
            clear jA jB jp jw jq jb
            refine wp_intro fun K HK => ?_
            unfold Oper.wp
            simp only [execOp, e33, e35]
            go_simp
            exact HK.out _ _ ⟨(), _, rfl, rfl, jA'.out, jB'.out, jp'.out, jw'.out, jq'.out, jb'.out⟩
          · intro _ L w' hL hpre hJ a ha
            obtain ⟨jA, jB, jp, jw, jq, jb⟩ := hJ
            simp [Region.binds] at hpre
            refine .inl ⟨wanted_none rfl, ?_⟩
            exact wp_move' (.tmp 36) (.inl rfl) (.bool false) (by rw [ha]; exact eval_puts_in (i := 4) rfl (by simp [hpre]) (by simp) rfl) ⟨(), _, rfl, rfl, jA, jB, jp, jw, jq, jb⟩
          · intro _ L w' hL hpre hJ a ha
            obtain ⟨jA, jB, jp, jw, jq, jb⟩ := hJ
            simp [Region.binds] at hpre
            refine .inl ⟨wanted_yes (g := 5) (t := 37) (b := false) rfl rfl (by rw [ha]; exact eval_puts_in (i := 5) rfl (by simp [hpre]) (by simp) rfl), ?_⟩
            exact wp_move' (.tmp 7) (.inl rfl) (.bool true) (by rw [ha, eval_puts_out rfl]; rfl) ⟨(), _, rfl, rfl, jA, jB, jp, jw, jq, jb⟩
          · intro _ L w' hL hpre hJ a ha
            obtain ⟨jA, jB, jp, jw, jq, jb⟩ := hJ
            simp [Region.binds] at hpre
            refine .inl ⟨wanted_yes (g := 5) (t := 37) (b := false) rfl rfl (by rw [ha]; exact eval_puts_in (i := 5) rfl (by simp [hpre]) (by simp) rfl), ?_⟩
            exact wp_move' (.tmp 9) (.inl rfl) (.bool true) (by rw [ha, eval_puts_out rfl]; rfl) ⟨(), _, rfl, rfl, jA, jB, jp, jw, jq, jb⟩
          · intro _ L w' hL hpre hJ a ha
            obtain ⟨jA, jB, jp, jw, jq, jb⟩ := hJ
            simp [Region.binds] at hpre
            refine .inl ⟨wanted_yes (g := 5) (t := 37) (b := false) rfl rfl (by rw [ha]; exact eval_puts_in (i := 5) rfl (by simp [hpre]) (by simp) rfl), ?_⟩
            have e38 : a.eval (.tmp 38) = .bool true := by rw [ha]; exact eval_puts_in (i := 6) rfl (by simp [hpre]) (by simp) rfl
            have e39 : a.eval (.tmp 39) = .bool true := by rw [ha]; exact eval_puts_in (i := 7) rfl (by simp [hpre]) (by simp) rfl
            clear ha
            have jA' := Lib.hid jA
            have jB' := Lib.hid jB
            have jp' := Lib.hid jp
            have jw' := Lib.hid jw
            have jq' := Lib.hid jq
            have jb' := Lib.hid jb
            clear jA jB jp jw jq jb
            refine wp_intro fun K HK => ?_
            unfold Oper.wp
            simp only [execOp, e38, e39]
            go_simp
            exact HK.out _ _ ⟨(), _, rfl, rfl, jA'.out, jB'.out, jp'.out, jw'.out, jq'.out, jb'.out⟩
          · intro _ L w' hL hpre hJ a ha
            obtain ⟨jA, jB, jp, jw, jq, jb⟩ := hJ
            simp [Region.binds] at hpre
            refine .inl ⟨wanted_none rfl, ?_⟩
            have e37 : a.eval (.tmp 37) = .bool false := by rw [ha]; exact eval_puts_in (i := 5) rfl (by simp [hpre]) (by simp) rfl
            have e40 : a.eval (.tmp 40) = .bool false := by rw [ha]; exact eval_puts_in (i := 8) rfl (by simp [hpre]) (by simp) rfl
            clear ha
            have jA' := Lib.hid jA
            have jB' := Lib.hid jB
            have jp' := Lib.hid jp
            have jw' := Lib.hid jw
            have jq' := Lib.hid jq
            have jb' := Lib.hid jb
            clear jA jB jp jw jq jb
            refine wp_intro fun K HK => ?_
            unfold Oper.wp
            simp only [execOp, e37, e40]
            go_simp
            exact HK.out _ _ ⟨(), _, rfl, rfl, jA'.out, jB'.out, jp'.out, jw'.out, jq'.out, jb'.out⟩
          · intro _ L w' hL hpre hJ a ha
            obtain ⟨jA, jB, jp, jw, jq, jb⟩ := hJ
            simp [Region.binds] at hpre
            refine .inl ⟨wanted_none rfl, ?_⟩
            exact wp_move' (.tmp 41) (.inl rfl) (.bool false) (by rw [ha]; exact eval_puts_in (i := 9) rfl (by simp [hpre]) (by simp) rfl) ⟨(), _, rfl, rfl, jA, jB, jp, jw, jq, jb⟩
          · intro _ L w' hL hpre hJ a ha
            obtain ⟨jA, jB, jp, jw, jq, jb⟩ := hJ
            simp [Region.binds] at hpre
            refine .inl ⟨wanted_yes (g := 10) (t := 42) (b := false) rfl rfl (by rw [ha]; exact eval_puts_in (i := 10) rfl (by simp [hpre]) (by simp) rfl), ?_⟩
            exact wp_load_mid 42 (.tmp 6) rfl w5.heap.size 0 (by rw [ha, eval_puts_out rfl]; rfl) (nats .u8 px) _ (range_blk jp) Try.underlying42 rfl iPX ⟨(), _, rfl, rfl, jA, jB, jp, jw, jq, jb⟩
          · intro _ L w' hL hpre hJ a ha
            obtain ⟨jA, jB, jp, jw, jq, jb⟩ := hJ
            simp [Region.binds] at hpre
            refine .inl ⟨wanted_yes (g := 10) (t := 42) (b := false) rfl rfl (by rw [ha]; exact eval_puts_in (i := 10) rfl (by simp [hpre]) (by simp) rfl), ?_⟩
            exact wp_load_mid 42 (.tmp 8) rfl w7.heap.size 0 (by rw [ha, eval_puts_out rfl]; rfl) (nats .u8 px) _ (range_blk jw) Try.underlying42 rfl iPX ⟨(), _, rfl, rfl, jA, jB, jp, jw, jq, jb⟩
          · intro _ L w' hL hpre hJ a ha
            obtain ⟨jA, jB, jp, jw, jq, jb⟩ := hJ
            simp [Region.binds] at hpre
            refine .inl ⟨wanted_yes (g := 10) (t := 42) (b := false) rfl rfl (by rw [ha]; exact eval_puts_in (i := 10) rfl (by simp [hpre]) (by simp) rfl), ?_⟩
            have e43 : a.eval (.tmp 43) = .agg (nats .u8 px).toArray := by rw [ha]; exact eval_puts_in (i := 11) rfl (by simp [hpre]) (by simp) rfl
            have e44 : a.eval (.tmp 44) = .agg (nats .u8 px).toArray := by rw [ha]; exact eval_puts_in (i := 12) rfl (by simp [hpre]) (by simp) rfl
            clear ha
            have nx := HNX.out
            have jA' := Lib.hid jA
            have jB' := Lib.hid jB
            have jp' := Lib.hid jp
            have jw' := Lib.hid jw
            have jq' := Lib.hid jq
            have jb' := Lib.hid jb
            clear jA jB jp jw jq jb
            refine wp_intro fun K HK => ?_
            unfold Oper.wp
            simp only [execOp, e43, e44]
            go_simp
            exact HK.out _ _ ⟨(), _, rfl, rfl, jA'.out, jB'.out, jp'.out, jw'.out, jq'.out, jb'.out⟩
          · intro _ L w' hL hpre hJ a ha
            obtain ⟨jA, jB, jp, jw, jq, jb⟩ := hJ
            simp [Region.binds] at hpre
            refine .inl ⟨wanted_none rfl, ?_⟩
            have e42 : a.eval (.tmp 42) = .bool false := by rw [ha]; exact eval_puts_in (i := 10) rfl (by simp [hpre]) (by simp) rfl
            have e45 : a.eval (.tmp 45) = .bool false := by rw [ha]; exact eval_puts_in (i := 13) rfl (by simp [hpre]) (by simp) rfl
            clear ha
            have jA' := Lib.hid jA
            have jB' := Lib.hid jB
            have jp' := Lib.hid jp
            have jw' := Lib.hid jw
            have jq' := Lib.hid jq
            have jb' := Lib.hid jb
            clear jA jB jp jw jq jb
            refine wp_intro fun K HK => ?_
            unfold Oper.wp
            simp only [execOp, e42, e45]
            go_simp
            exact HK.out _ _ ⟨(), _, rfl, rfl, jA'.out, jB'.out, jp'.out, jw'.out, jq'.out, jb'.out⟩
        · intro _ L w' hL hJ
          obtain ⟨jA, jB, jp, jw, jq, jb⟩ := hJ
          clear hL
          simp only [List.foldl_cons, List.foldl_nil]
          go_simp
          have hb_w' := jb
          clear jb
          go_wp2_with (first | (refine wpList_load_mid rfl 42 (.tmp 6) rfl w5.heap.size 0 rfl _ _ (range_blk jp) Try.underlying42 rfl iPX ?_))
          refine (HGX.out _).mono ?_
          rw [GP1.out, GP2.out]
          rintro e w21 ⟨rfl, hb⟩
          have hA_w21 := blk_below jA hb
          have hB_w21 := blk_below jB hb
          have hp_w21 := blk_below jp hb
          have hw_w21 := blk_below jw hb
          have hq_w21 := blk_below jq hb
          have hb_w21 := hb_w'.trans (hb.mono hb_w'.size)
          clear hb hb_w' jA jB jp jw jq
          go_upto_region 12 with (first | (refine wpList_put_row rfl 40 (.tmp 12) (.tmp 55) rfl w21.heap.size x.v rfl rfl 40 _ (heap_new' w21 _ _ rfl) iX (by rw [Sh.v, iXl.out]; rfl) (one_shV _ _ _ _ _ _ _ _) ?_; intro w22 hUw22; have hs_w22 := hUw22.at_; have hA_w22 := hUw22.old (blk_alloc hA_w21 _) (show w.heap.size ≠ w21.heap.size by have := lt_of_cells hA_w21; omega); have hB_w22 := hUw22.old (blk_alloc hB_w21 _) (show (w.heap.size + 1) ≠ w21.heap.size by have := lt_of_cells hB_w21; omega); have hp_w22 := hUw22.old (blk_alloc hp_w21 _) (show w5.heap.size ≠ w21.heap.size by have := lt_of_cells hp_w21; omega); have hw_w22 := hUw22.old (blk_alloc hw_w21 _) (show w7.heap.size ≠ w21.heap.size by have := lt_of_cells hw_w21; omega); have hq_w22 := hUw22.old (blk_alloc hq_w21 _) (show w9.heap.size ≠ w21.heap.size by have := lt_of_cells hq_w21; omega); have hb_w22 := hUw22.below (hb_w21.alloc hb_w21.size _) hb_w21.size; clear hb_w21 hA_w21 hB_w21 hp_w21 hw_w21 hq_w21 hUw22))
          refine wp_region_puts_g (by kernel_rfl) (by kernel_rfl) (X := Unit) (fun _ => [(some 57, .int .i64 0), (some 58, .bool true), (some 59, .bool true), (some 60, .agg (x.v).toArray), (some 61, .agg (x.v).toArray), (some 62, .bool true), (some 63, .bool true), (some 64, .bool true), (some 65, .bool true), (some 66, .bool false), (some 67, .bool false), (some 68, .agg (nats .u8 px).toArray), (some 69, .agg (nats .u8 py).toArray), (some 70, .bool false), (some 71, .agg (x.v).toArray), (some 72, .agg (y.v).toArray), (some 73, .bool false), (some 74, .bool true), (some 75, .bool true), (some 76, .bool true), (some 4, .bool true)])
            (fun _ L w' => w'.heap[w.heap.size]? = some (.cells (x.v).toArray 40 (0, 0)) ∧ w'.heap[(w.heap.size + 1)]? = some (.cells (y.v).toArray 40 (0, 0)) ∧ w'.heap[w5.heap.size]? = some (.cells (nats .u8 px).toArray 42 (0, 0)) ∧ w'.heap[w7.heap.size]? = some (.cells (nats .u8 px).toArray 42 (0, 0)) ∧ w'.heap[w9.heap.size]? = some (.cells (nats .u8 py).toArray 42 (0, 0)) ∧ w'.heap[w21.heap.size]? = some (.cells (x.v).toArray 40 (0, 0)) ∧ Below w.heap.size w w') (fun _ => rfl) (by kernel_rfl) ⟨(), fun _ _ => ⟨hA_w22, hB_w22, hp_w22, hw_w22, hq_w22, hs_w22, hb_w22.drew⟩⟩ ?_ ?_
          · refine ⟨?_, ?_, ?_, ?_, ?_, ?_, ?_, ?_, ?_, ?_, ?_, ?_, ?_, ?_, ?_, ?_, ?_, ?_, ?_, ?_, ?_, trivial⟩
            · intro _ L w' hL hpre hJ a ha
              obtain ⟨jA, jB, jp, jw, jq, js, jb⟩ := hJ
              simp [Region.binds] at hpre
              refine .inl ⟨wanted_none rfl, ?_⟩
              exact wp_move' (.tmp 13) (.inl rfl) (.int .i64 0) (by rw [ha, eval_puts_out rfl]; rfl) ⟨(), _, rfl, rfl, jA, jB, jp, jw, jq, js, jb⟩
            · intro _ L w' hL hpre hJ a ha
              obtain ⟨jA, jB, jp, jw, jq, js, jb⟩ := hJ
              simp [Region.binds] at hpre
              refine .inl ⟨wanted_none rfl, ?_⟩
              have e57 : a.eval (.tmp 57) = .int .i64 0 := by rw [ha]; exact eval_puts_in (i := 0) rfl (by simp [hpre]) (by simp) rfl
              clear ha
              have jA' := Lib.hid jA
              have jB' := Lib.hid jB
              have jp' := Lib.hid jp
              have jw' := Lib.hid jw
              have jq' := Lib.hid jq
              have js' := Lib.hid js
              have jb' := Lib.hid jb
              clear jA jB jp jw jq js jb
              refine wp_intro fun K HK => ?_
              unfold Oper.wp
              simp only [execOp, e57]
              go_simp
              exact HK.out _ _ ⟨(), _, rfl, rfl, jA'.out, jB'.out, jp'.out, jw'.out, jq'.out, js'.out, jb'.out⟩
            · intro _ L w' hL hpre hJ a ha
              obtain ⟨jA, jB, jp, jw, jq, js, jb⟩ := hJ
              simp [Region.binds] at hpre
              refine .inl ⟨wanted_none rfl, ?_⟩
              exact wp_move' (.tmp 58) (.inl rfl) (.bool true) (by rw [ha]; exact eval_puts_in (i := 1) rfl (by simp [hpre]) (by simp) rfl) ⟨(), _, rfl, rfl, jA, jB, jp, jw, jq, js, jb⟩
            · intro _ L w' hL hpre hJ a ha
              obtain ⟨jA, jB, jp, jw, jq, js, jb⟩ := hJ
              simp [Region.binds] at hpre
              refine .inl ⟨wanted_yes (g := 2) (t := 59) (b := true) rfl rfl (by rw [ha]; exact eval_puts_in (i := 2) rfl (by simp [hpre]) (by simp) rfl), ?_⟩
              exact wp_load_mid 40 (.tmp 12) rfl w21.heap.size 0 (by rw [ha, eval_puts_out rfl]; rfl) (x.v) _ (range_blk js) Try.underlying40 rfl iX ⟨(), _, rfl, rfl, jA, jB, jp, jw, jq, js, jb⟩
            · intro _ L w' hL hpre hJ a ha
              obtain ⟨jA, jB, jp, jw, jq, js, jb⟩ := hJ
              simp [Region.binds] at hpre
              refine .inl ⟨wanted_yes (g := 2) (t := 59) (b := true) rfl rfl (by rw [ha]; exact eval_puts_in (i := 2) rfl (by simp [hpre]) (by simp) rfl), ?_⟩
              exact wp_load_mid 40 (.tmp 2) rfl w.heap.size 0 (by rw [ha, eval_puts_out rfl]; rfl) (x.v) _ (range_blk jA) Try.underlying40 rfl iX ⟨(), _, rfl, rfl, jA, jB, jp, jw, jq, js, jb⟩
            · intro _ L w' hL hpre hJ a ha
              obtain ⟨jA, jB, jp, jw, jq, js, jb⟩ := hJ
              simp [Region.binds] at hpre
              refine .inl ⟨wanted_yes (g := 2) (t := 59) (b := true) rfl rfl (by rw [ha]; exact eval_puts_in (i := 2) rfl (by simp [hpre]) (by simp) rfl), ?_⟩
              have e60 : a.eval (.tmp 60) = .agg (x.v).toArray := by rw [ha]; exact eval_puts_in (i := 3) rfl (by simp [hpre]) (by simp) rfl
              have e61 : a.eval (.tmp 61) = .agg (x.v).toArray := by rw [ha]; exact eval_puts_in (i := 4) rfl (by simp [hpre]) (by simp) rfl
              clear ha
              have qe := HEs1.out
              have jA' := Lib.hid jA
              have jB' := Lib.hid jB
              have jp' := Lib.hid jp
              have jw' := Lib.hid jw
              have jq' := Lib.hid jq
              have js' := Lib.hid js
              have jb' := Lib.hid jb
              clear jA jB jp jw jq js jb
              refine wp_intro fun K HK => ?_
              unfold Oper.wp
              simp only [execOp, e60, e61]
              go_simp
              exact HK.out _ _ ⟨(), _, rfl, rfl, jA'.out, jB'.out, jp'.out, jw'.out, jq'.out, js'.out, jb'.out⟩
            · intro _ L w' hL hpre hJ a ha
              obtain ⟨jA, jB, jp, jw, jq, js, jb⟩ := hJ
              simp [Region.binds] at hpre
              refine .inl ⟨wanted_none rfl, ?_⟩
              have e59 : a.eval (.tmp 59) = .bool true := by rw [ha]; exact eval_puts_in (i := 2) rfl (by simp [hpre]) (by simp) rfl
              have e62 : a.eval (.tmp 62) = .bool true := by rw [ha]; exact eval_puts_in (i := 5) rfl (by simp [hpre]) (by simp) rfl
              clear ha
              have jA' := Lib.hid jA
              have jB' := Lib.hid jB
              have jp' := Lib.hid jp
              have jw' := Lib.hid jw
              have jq' := Lib.hid jq
              have js' := Lib.hid js
              have jb' := Lib.hid jb
              clear jA jB jp jw jq js jb
              refine wp_intro fun K HK => ?_
              unfold Oper.wp
              simp only [execOp, e59, e62]
              go_simp
              exact HK.out _ _ ⟨(), _, rfl, rfl, jA'.out, jB'.out, jp'.out, jw'.out, jq'.out, js'.out, jb'.out⟩
            · intro _ L w' hL hpre hJ a ha
              obtain ⟨jA, jB, jp, jw, jq, js, jb⟩ := hJ
              simp [Region.binds] at hpre
              refine .inl ⟨wanted_none rfl, ?_⟩
              exact wp_move' (.tmp 63) (.inl rfl) (.bool true) (by rw [ha]; exact eval_puts_in (i := 6) rfl (by simp [hpre]) (by simp) rfl) ⟨(), _, rfl, rfl, jA, jB, jp, jw, jq, js, jb⟩
            · intro _ L w' hL hpre hJ a ha
              obtain ⟨jA, jB, jp, jw, jq, js, jb⟩ := hJ
              simp [Region.binds] at hpre
              refine .inl ⟨wanted_yes (g := 7) (t := 64) (b := true) rfl rfl (by rw [ha]; exact eval_puts_in (i := 7) rfl (by simp [hpre]) (by simp) rfl), ?_⟩
              exact wp_move' (.tmp 11) (.inl rfl) (.bool true) (by rw [ha, eval_puts_out rfl]; rfl) ⟨(), _, rfl, rfl, jA, jB, jp, jw, jq, js, jb⟩
            · intro _ L w' hL hpre hJ a ha
              obtain ⟨jA, jB, jp, jw, jq, js, jb⟩ := hJ
              simp [Region.binds] at hpre
              refine .inl ⟨wanted_yes (g := 7) (t := 64) (b := true) rfl rfl (by rw [ha]; exact eval_puts_in (i := 7) rfl (by simp [hpre]) (by simp) rfl), ?_⟩
              have e65 : a.eval (.tmp 65) = .bool true := by rw [ha]; exact eval_puts_in (i := 8) rfl (by simp [hpre]) (by simp) rfl
              clear ha
              have jA' := Lib.hid jA
              have jB' := Lib.hid jB
              have jp' := Lib.hid jp
              have jw' := Lib.hid jw
              have jq' := Lib.hid jq
              have js' := Lib.hid js
              have jb' := Lib.hid jb
              clear jA jB jp jw jq js jb
              refine wp_intro fun K HK => ?_
              unfold Oper.wp
              simp only [execOp, e65]
              go_simp
              exact HK.out _ _ ⟨(), _, rfl, rfl, jA'.out, jB'.out, jp'.out, jw'.out, jq'.out, js'.out, jb'.out⟩
            · intro _ L w' hL hpre hJ a ha
              obtain ⟨jA, jB, jp, jw, jq, js, jb⟩ := hJ
              simp [Region.binds] at hpre
              refine .inl ⟨wanted_yes (g := 7) (t := 64) (b := true) rfl rfl (by rw [ha]; exact eval_puts_in (i := 7) rfl (by simp [hpre]) (by simp) rfl), ?_⟩
              exact wp_move' (.tmp 66) (.inl rfl) (.bool false) (by rw [ha]; exact eval_puts_in (i := 9) rfl (by simp [hpre]) (by simp) rfl) ⟨(), _, rfl, rfl, jA, jB, jp, jw, jq, js, jb⟩
            · intro _ L w' hL hpre hJ a ha
              obtain ⟨jA, jB, jp, jw, jq, js, jb⟩ := hJ
              simp [Region.binds] at hpre
              refine .inl ⟨wanted_yes (g := 10) (t := 67) (b := false) rfl rfl (by rw [ha]; exact eval_puts_in (i := 10) rfl (by simp [hpre]) (by simp) rfl), ?_⟩
              exact wp_load_mid 42 (.tmp 6) rfl w5.heap.size 0 (by rw [ha, eval_puts_out rfl]; rfl) (nats .u8 px) _ (range_blk jp) Try.underlying42 rfl iPX ⟨(), _, rfl, rfl, jA, jB, jp, jw, jq, js, jb⟩
            · intro _ L w' hL hpre hJ a ha
              obtain ⟨jA, jB, jp, jw, jq, js, jb⟩ := hJ
              simp [Region.binds] at hpre
              refine .inl ⟨wanted_yes (g := 10) (t := 67) (b := false) rfl rfl (by rw [ha]; exact eval_puts_in (i := 10) rfl (by simp [hpre]) (by simp) rfl), ?_⟩
              exact wp_load_mid 42 (.tmp 10) rfl w9.heap.size 0 (by rw [ha, eval_puts_out rfl]; rfl) (nats .u8 py) _ (range_blk jq) Try.underlying42 rfl iPY ⟨(), _, rfl, rfl, jA, jB, jp, jw, jq, js, jb⟩
            · intro _ L w' hL hpre hJ a ha
              obtain ⟨jA, jB, jp, jw, jq, js, jb⟩ := hJ
              simp [Region.binds] at hpre
              refine .inl ⟨wanted_yes (g := 10) (t := 67) (b := false) rfl rfl (by rw [ha]; exact eval_puts_in (i := 10) rfl (by simp [hpre]) (by simp) rfl), ?_⟩
              have e68 : a.eval (.tmp 68) = .agg (nats .u8 px).toArray := by rw [ha]; exact eval_puts_in (i := 11) rfl (by simp [hpre]) (by simp) rfl
              have e69 : a.eval (.tmp 69) = .agg (nats .u8 py).toArray := by rw [ha]; exact eval_puts_in (i := 12) rfl (by simp [hpre]) (by simp) rfl
              clear ha
              have qp := HQP.out
              have jA' := Lib.hid jA
              have jB' := Lib.hid jB
              have jp' := Lib.hid jp
              have jw' := Lib.hid jw
              have jq' := Lib.hid jq
              have js' := Lib.hid js
              have jb' := Lib.hid jb
              clear jA jB jp jw jq js jb
              refine wp_intro fun K HK => ?_
              unfold Oper.wp
              simp only [execOp, e68, e69]
              go_simp
              exact HK.out _ _ ⟨(), _, rfl, rfl, jA'.out, jB'.out, jp'.out, jw'.out, jq'.out, js'.out, jb'.out⟩
            · intro _ L w' hL hpre hJ a ha
              obtain ⟨jA, jB, jp, jw, jq, js, jb⟩ := hJ
              simp [Region.binds] at hpre
              refine .inl ⟨wanted_yes (g := 10) (t := 67) (b := false) rfl rfl (by rw [ha]; exact eval_puts_in (i := 10) rfl (by simp [hpre]) (by simp) rfl), ?_⟩
              exact wp_load_mid 40 (.tmp 2) rfl w.heap.size 0 (by rw [ha, eval_puts_out rfl]; rfl) (x.v) _ (range_blk jA) Try.underlying40 rfl iX ⟨(), _, rfl, rfl, jA, jB, jp, jw, jq, js, jb⟩
            · intro _ L w' hL hpre hJ a ha
              obtain ⟨jA, jB, jp, jw, jq, js, jb⟩ := hJ
              simp [Region.binds] at hpre
              refine .inl ⟨wanted_yes (g := 10) (t := 67) (b := false) rfl rfl (by rw [ha]; exact eval_puts_in (i := 10) rfl (by simp [hpre]) (by simp) rfl), ?_⟩
              exact wp_load_mid 40 (.tmp 3) rfl (w.heap.size + 1) 0 (by rw [ha, eval_puts_out rfl]; rfl) (y.v) _ (range_blk jB) Try.underlying40 rfl iY ⟨(), _, rfl, rfl, jA, jB, jp, jw, jq, js, jb⟩
            · intro _ L w' hL hpre hJ a ha
              obtain ⟨jA, jB, jp, jw, jq, js, jb⟩ := hJ
              simp [Region.binds] at hpre
              refine .inl ⟨wanted_yes (g := 10) (t := 67) (b := false) rfl rfl (by rw [ha]; exact eval_puts_in (i := 10) rfl (by simp [hpre]) (by simp) rfl), ?_⟩
              have e71 : a.eval (.tmp 71) = .agg (x.v).toArray := by rw [ha]; exact eval_puts_in (i := 14) rfl (by simp [hpre]) (by simp) rfl
              have e72 : a.eval (.tmp 72) = .agg (y.v).toArray := by rw [ha]; exact eval_puts_in (i := 15) rfl (by simp [hpre]) (by simp) rfl
              clear ha
              have qe := HEq1.out
              have jA' := Lib.hid jA
              have jB' := Lib.hid jB
              have jp' := Lib.hid jp
              have jw' := Lib.hid jw
              have jq' := Lib.hid jq
              have js' := Lib.hid js
              have jb' := Lib.hid jb
              clear jA jB jp jw jq js jb
              refine wp_intro fun K HK => ?_
              unfold Oper.wp
              simp only [execOp, e71, e72]
              go_simp
              exact HK.out _ _ ⟨(), _, rfl, rfl, jA'.out, jB'.out, jp'.out, jw'.out, jq'.out, js'.out, jb'.out⟩
            · intro _ L w' hL hpre hJ a ha
              obtain ⟨jA, jB, jp, jw, jq, js, jb⟩ := hJ
              simp [Region.binds] at hpre
              refine .inl ⟨wanted_yes (g := 10) (t := 67) (b := false) rfl rfl (by rw [ha]; exact eval_puts_in (i := 10) rfl (by simp [hpre]) (by simp) rfl), ?_⟩
              have e70 : a.eval (.tmp 70) = .bool false := by rw [ha]; exact eval_puts_in (i := 13) rfl (by simp [hpre]) (by simp) rfl
              have e73 : a.eval (.tmp 73) = .bool false := by rw [ha]; exact eval_puts_in (i := 16) rfl (by simp [hpre]) (by simp) rfl
              clear ha
              have jA' := Lib.hid jA
              have jB' := Lib.hid jB
              have jp' := Lib.hid jp
              have jw' := Lib.hid jw
              have jq' := Lib.hid jq
              have js' := Lib.hid js
              have jb' := Lib.hid jb
              clear jA jB jp jw jq js jb
              refine wp_intro fun K HK => ?_
              unfold Oper.wp
              simp only [execOp, e70, e73]
              go_simp
              exact HK.out _ _ ⟨(), _, rfl, rfl, jA'.out, jB'.out, jp'.out, jw'.out, jq'.out, js'.out, jb'.out⟩
            · intro _ L w' hL hpre hJ a ha
              obtain ⟨jA, jB, jp, jw, jq, js, jb⟩ := hJ
              simp [Region.binds] at hpre
              refine .inl ⟨wanted_yes (g := 7) (t := 64) (b := true) rfl rfl (by rw [ha]; exact eval_puts_in (i := 7) rfl (by simp [hpre]) (by simp) rfl), ?_⟩
              have e67 : a.eval (.tmp 67) = .bool false := by rw [ha]; exact eval_puts_in (i := 10) rfl (by simp [hpre]) (by simp) rfl
              have e74 : a.eval (.tmp 74) = .bool true := by rw [ha]; exact eval_puts_in (i := 17) rfl (by simp [hpre]) (by simp) rfl
              clear ha
              have jA' := Lib.hid jA
              have jB' := Lib.hid jB
              have jp' := Lib.hid jp
              have jw' := Lib.hid jw
              have jq' := Lib.hid jq
              have js' := Lib.hid js
              have jb' := Lib.hid jb
              clear jA jB jp jw jq js jb
              refine wp_intro fun K HK => ?_
              unfold Oper.wp
              simp only [execOp, e67, e74]
              go_simp
              exact HK.out _ _ ⟨(), _, rfl, rfl, jA'.out, jB'.out, jp'.out, jw'.out, jq'.out, js'.out, jb'.out⟩
            · intro _ L w' hL hpre hJ a ha
              obtain ⟨jA, jB, jp, jw, jq, js, jb⟩ := hJ
              simp [Region.binds] at hpre
              refine .inl ⟨wanted_none rfl, ?_⟩
              have e64 : a.eval (.tmp 64) = .bool true := by rw [ha]; exact eval_puts_in (i := 7) rfl (by simp [hpre]) (by simp) rfl
              have e75 : a.eval (.tmp 75) = .bool true := by rw [ha]; exact eval_puts_in (i := 18) rfl (by simp [hpre]) (by simp) rfl
              clear ha
              have jA' := Lib.hid jA
              have jB' := Lib.hid jB
              have jp' := Lib.hid jp
              have jw' := Lib.hid jw
              have jq' := Lib.hid jq
              have js' := Lib.hid js
              have jb' := Lib.hid jb
              clear jA jB jp jw jq js jb
              refine wp_intro fun K HK => ?_
              unfold Oper.wp
              simp only [execOp, e64, e75]
              go_simp
              exact HK.out _ _ ⟨(), _, rfl, rfl, jA'.out, jB'.out, jp'.out, jw'.out, jq'.out, js'.out, jb'.out⟩
            · intro _ L w' hL hpre hJ a ha
              obtain ⟨jA, jB, jp, jw, jq, js, jb⟩ := hJ
              simp [Region.binds] at hpre
              refine .inl ⟨wanted_none rfl, ?_⟩
              exact wp_move' (.tmp 76) (.inr rfl) (.bool true) (by rw [ha]; exact eval_puts_in (i := 19) rfl (by simp [hpre]) (by simp) rfl) ⟨(), _, rfl, rfl, jA, jB, jp, jw, jq, js, jb⟩
          · intro _ L w' hL hJ
            obtain ⟨jA, jB, jp, jw, jq, js, jb⟩ := hJ
            clear hL
            simp only [List.foldl_cons, List.foldl_nil]
            go_simp
            go_wp2_with fail
            go_ret
            exact ⟨rfl, jb⟩
      | true =>
        refine wp_region_puts_g (by kernel_rfl) (by kernel_rfl) (X := Unit) (fun _ => [(some 32, .agg (x.v).toArray), (some 33, .bool true), (some 34, .agg (x.v).toArray), (some 35, .bool true), (some 36, .bool false), (some 37, .bool false), (some 38, .bool true), (some 39, .bool true), (some 40, .bool false), (some 41, .bool false), (some 42, .bool false), (some 43, .agg (nats .u8 px).toArray), (some 44, .agg (nats .u8 px).toArray), (some 45, .bool false), (some 46, .bool false)])
          (fun _ L w' => w'.heap[w.heap.size]? = some (.cells (x.v).toArray 40 (0, 0)) ∧ w'.heap[(w.heap.size + 1)]? = some (.cells (y.v).toArray 40 (0, 0)) ∧ w'.heap[w5.heap.size]? = some (.cells (nats .u8 px).toArray 42 (0, 0)) ∧ w'.heap[w7.heap.size]? = some (.cells (nats .u8 px).toArray 42 (0, 0)) ∧ w'.heap[w9.heap.size]? = some (.cells (nats .u8 py).toArray 42 (0, 0)) ∧ Below w.heap.size w w') (fun _ => rfl) (by kernel_rfl) ⟨(), fun _ _ => ⟨hA_w10, hB_w10, hp_w10, hw_w10, hq_w10, hb_w10.drew⟩⟩ ?_ ?_
        · refine ⟨?_, ?_, ?_, ?_, ?_, ?_, ?_, ?_, ?_, ?_, ?_, ?_, ?_, ?_, ?_, trivial⟩
          · intro _ L w' hL hpre hJ a ha
            obtain ⟨jA, jB, jp, jw, jq, jb⟩ := hJ
            simp [Region.binds] at hpre
            refine .inl ⟨wanted_none rfl, ?_⟩
            exact wp_load_mid 40 (.tmp 2) rfl w.heap.size 0 (by rw [ha, eval_puts_out rfl]; rfl) (x.v) _ (range_blk jA) Try.underlying40 rfl iX ⟨(), _, rfl, rfl, jA, jB, jp, jw, jq, jb⟩
          · intro _ L w' hL hpre hJ a ha
            obtain ⟨jA, jB, jp, jw, jq, jb⟩ := hJ
            simp [Region.binds] at hpre
            refine .inl ⟨wanted_none rfl, ?_⟩
            have e32 : a.eval (.tmp 32) = .agg (x.v).toArray := by rw [ha]; exact eval_puts_in (i := 0) rfl (by simp [hpre]) (by simp) rfl
            clear ha
            have jA' := Lib.hid jA
            have jB' := Lib.hid jB
            have jp' := Lib.hid jp
            have jw' := Lib.hid jw
            have jq' := Lib.hid jq
            have jb' := Lib.hid jb
            clear jA jB jp jw jq jb
            refine wp_intro fun K HK => ?_
            unfold Oper.wp
            simp only [execOp, resolve, List.map_toArray, List.map_cons, List.map_nil, e32]
            go_simp
            refine (HMX.out w').mono ?_
            rintro e w'' ⟨rfl, hb⟩
            exact HK.out _ _ ⟨(), _, rfl, rfl, blk_below jA'.out hb, blk_below jB'.out hb, blk_below jp'.out hb, blk_below jw'.out hb, blk_below jq'.out hb, jb'.out.trans (hb.mono jb'.out.size)⟩
          · intro _ L w' hL hpre hJ a ha
            obtain ⟨jA, jB, jp, jw, jq, jb⟩ := hJ
            simp [Region.binds] at hpre
            refine .inl ⟨wanted_none rfl, ?_⟩
            exact wp_load_mid 40 (.tmp 2) rfl w.heap.size 0 (by rw [ha, eval_puts_out rfl]; rfl) (x.v) _ (range_blk jA) Try.underlying40 rfl iX ⟨(), _, rfl, rfl, jA, jB, jp, jw, jq, jb⟩
          · intro _ L w' hL hpre hJ a ha
            obtain ⟨jA, jB, jp, jw, jq, jb⟩ := hJ
            simp [Region.binds] at hpre
            refine .inl ⟨wanted_none rfl, ?_⟩
            have e34 : a.eval (.tmp 34) = .agg (x.v).toArray := by rw [ha]; exact eval_puts_in (i := 2) rfl (by simp [hpre]) (by simp) rfl
            clear ha
            have jA' := Lib.hid jA
            have jB' := Lib.hid jB
            have jp' := Lib.hid jp
            have jw' := Lib.hid jw
            have jq' := Lib.hid jq
            have jb' := Lib.hid jb
            clear jA jB jp jw jq jb
            refine wp_intro fun K HK => ?_
            unfold Oper.wp
            simp only [execOp, resolve, List.map_toArray, List.map_cons, List.map_nil, e34]
            go_simp
            refine (HRM.out w').mono ?_
            rintro e w'' ⟨rfl, hb⟩
            exact HK.out _ _ ⟨(), _, rfl, rfl, blk_below jA'.out hb, blk_below jB'.out hb, blk_below jp'.out hb, blk_below jw'.out hb, blk_below jq'.out hb, jb'.out.trans (hb.mono jb'.out.size)⟩
          · intro _ L w' hL hpre hJ a ha
            obtain ⟨jA, jB, jp, jw, jq, jb⟩ := hJ
            simp [Region.binds] at hpre
            refine .inl ⟨wanted_none rfl, ?_⟩
            have e33 : a.eval (.tmp 33) = .bool true := by rw [ha]; exact eval_puts_in (i := 1) rfl (by simp [hpre]) (by simp) rfl
            have e35 : a.eval (.tmp 35) = .bool true := by rw [ha]; exact eval_puts_in (i := 3) rfl (by simp [hpre]) (by simp) rfl
            clear ha
            have jA' := Lib.hid jA
            have jB' := Lib.hid jB
            have jp' := Lib.hid jp
            have jw' := Lib.hid jw
            have jq' := Lib.hid jq
            have jb' := Lib.hid jb
            clear jA jB jp jw jq jb
            refine wp_intro fun K HK => ?_
            unfold Oper.wp
            simp only [execOp, e33, e35]
            go_simp
            exact HK.out _ _ ⟨(), _, rfl, rfl, jA'.out, jB'.out, jp'.out, jw'.out, jq'.out, jb'.out⟩
          · intro _ L w' hL hpre hJ a ha
            obtain ⟨jA, jB, jp, jw, jq, jb⟩ := hJ
            simp [Region.binds] at hpre
            refine .inl ⟨wanted_none rfl, ?_⟩
            exact wp_move' (.tmp 36) (.inl rfl) (.bool false) (by rw [ha]; exact eval_puts_in (i := 4) rfl (by simp [hpre]) (by simp) rfl) ⟨(), _, rfl, rfl, jA, jB, jp, jw, jq, jb⟩
          · intro _ L w' hL hpre hJ a ha
            obtain ⟨jA, jB, jp, jw, jq, jb⟩ := hJ
            simp [Region.binds] at hpre
            refine .inl ⟨wanted_yes (g := 5) (t := 37) (b := false) rfl rfl (by rw [ha]; exact eval_puts_in (i := 5) rfl (by simp [hpre]) (by simp) rfl), ?_⟩
            exact wp_move' (.tmp 7) (.inl rfl) (.bool true) (by rw [ha, eval_puts_out rfl]; rfl) ⟨(), _, rfl, rfl, jA, jB, jp, jw, jq, jb⟩
          · intro _ L w' hL hpre hJ a ha
            obtain ⟨jA, jB, jp, jw, jq, jb⟩ := hJ
            simp [Region.binds] at hpre
            refine .inl ⟨wanted_yes (g := 5) (t := 37) (b := false) rfl rfl (by rw [ha]; exact eval_puts_in (i := 5) rfl (by simp [hpre]) (by simp) rfl), ?_⟩
            exact wp_move' (.tmp 9) (.inl rfl) (.bool true) (by rw [ha, eval_puts_out rfl]; rfl) ⟨(), _, rfl, rfl, jA, jB, jp, jw, jq, jb⟩
          · intro _ L w' hL hpre hJ a ha
            obtain ⟨jA, jB, jp, jw, jq, jb⟩ := hJ
            simp [Region.binds] at hpre
            refine .inl ⟨wanted_yes (g := 5) (t := 37) (b := false) rfl rfl (by rw [ha]; exact eval_puts_in (i := 5) rfl (by simp [hpre]) (by simp) rfl), ?_⟩
            have e38 : a.eval (.tmp 38) = .bool true := by rw [ha]; exact eval_puts_in (i := 6) rfl (by simp [hpre]) (by simp) rfl
            have e39 : a.eval (.tmp 39) = .bool true := by rw [ha]; exact eval_puts_in (i := 7) rfl (by simp [hpre]) (by simp) rfl
            clear ha
            have jA' := Lib.hid jA
            have jB' := Lib.hid jB
            have jp' := Lib.hid jp
            have jw' := Lib.hid jw
            have jq' := Lib.hid jq
            have jb' := Lib.hid jb
            clear jA jB jp jw jq jb
            refine wp_intro fun K HK => ?_
            unfold Oper.wp
            simp only [execOp, e38, e39]
            go_simp
            exact HK.out _ _ ⟨(), _, rfl, rfl, jA'.out, jB'.out, jp'.out, jw'.out, jq'.out, jb'.out⟩
          · intro _ L w' hL hpre hJ a ha
            obtain ⟨jA, jB, jp, jw, jq, jb⟩ := hJ
            simp [Region.binds] at hpre
            refine .inl ⟨wanted_none rfl, ?_⟩
            have e37 : a.eval (.tmp 37) = .bool false := by rw [ha]; exact eval_puts_in (i := 5) rfl (by simp [hpre]) (by simp) rfl
            have e40 : a.eval (.tmp 40) = .bool false := by rw [ha]; exact eval_puts_in (i := 8) rfl (by simp [hpre]) (by simp) rfl
            clear ha
            have jA' := Lib.hid jA
            have jB' := Lib.hid jB
            have jp' := Lib.hid jp
            have jw' := Lib.hid jw
            have jq' := Lib.hid jq
            have jb' := Lib.hid jb
            clear jA jB jp jw jq jb
            refine wp_intro fun K HK => ?_
            unfold Oper.wp
            simp only [execOp, e37, e40]
            go_simp
            exact HK.out _ _ ⟨(), _, rfl, rfl, jA'.out, jB'.out, jp'.out, jw'.out, jq'.out, jb'.out⟩
          · intro _ L w' hL hpre hJ a ha
            obtain ⟨jA, jB, jp, jw, jq, jb⟩ := hJ
            simp [Region.binds] at hpre
            refine .inl ⟨wanted_none rfl, ?_⟩
            exact wp_move' (.tmp 41) (.inl rfl) (.bool false) (by rw [ha]; exact eval_puts_in (i := 9) rfl (by simp [hpre]) (by simp) rfl) ⟨(), _, rfl, rfl, jA, jB, jp, jw, jq, jb⟩
          · intro _ L w' hL hpre hJ a ha
            obtain ⟨jA, jB, jp, jw, jq, jb⟩ := hJ
            simp [Region.binds] at hpre
            refine .inl ⟨wanted_yes (g := 10) (t := 42) (b := false) rfl rfl (by rw [ha]; exact eval_puts_in (i := 10) rfl (by simp [hpre]) (by simp) rfl), ?_⟩
            exact wp_load_mid 42 (.tmp 6) rfl w5.heap.size 0 (by rw [ha, eval_puts_out rfl]; rfl) (nats .u8 px) _ (range_blk jp) Try.underlying42 rfl iPX ⟨(), _, rfl, rfl, jA, jB, jp, jw, jq, jb⟩
          · intro _ L w' hL hpre hJ a ha
            obtain ⟨jA, jB, jp, jw, jq, jb⟩ := hJ
            simp [Region.binds] at hpre
            refine .inl ⟨wanted_yes (g := 10) (t := 42) (b := false) rfl rfl (by rw [ha]; exact eval_puts_in (i := 10) rfl (by simp [hpre]) (by simp) rfl), ?_⟩
            exact wp_load_mid 42 (.tmp 8) rfl w7.heap.size 0 (by rw [ha, eval_puts_out rfl]; rfl) (nats .u8 px) _ (range_blk jw) Try.underlying42 rfl iPX ⟨(), _, rfl, rfl, jA, jB, jp, jw, jq, jb⟩
          · intro _ L w' hL hpre hJ a ha
            obtain ⟨jA, jB, jp, jw, jq, jb⟩ := hJ
            simp [Region.binds] at hpre
            refine .inl ⟨wanted_yes (g := 10) (t := 42) (b := false) rfl rfl (by rw [ha]; exact eval_puts_in (i := 10) rfl (by simp [hpre]) (by simp) rfl), ?_⟩
            have e43 : a.eval (.tmp 43) = .agg (nats .u8 px).toArray := by rw [ha]; exact eval_puts_in (i := 11) rfl (by simp [hpre]) (by simp) rfl
            have e44 : a.eval (.tmp 44) = .agg (nats .u8 px).toArray := by rw [ha]; exact eval_puts_in (i := 12) rfl (by simp [hpre]) (by simp) rfl
            clear ha
            have nx := HNX.out
            have jA' := Lib.hid jA
            have jB' := Lib.hid jB
            have jp' := Lib.hid jp
            have jw' := Lib.hid jw
            have jq' := Lib.hid jq
            have jb' := Lib.hid jb
            clear jA jB jp jw jq jb
            refine wp_intro fun K HK => ?_
            unfold Oper.wp
            simp only [execOp, e43, e44]
            go_simp
            exact HK.out _ _ ⟨(), _, rfl, rfl, jA'.out, jB'.out, jp'.out, jw'.out, jq'.out, jb'.out⟩
          · intro _ L w' hL hpre hJ a ha
            obtain ⟨jA, jB, jp, jw, jq, jb⟩ := hJ
            simp [Region.binds] at hpre
            refine .inl ⟨wanted_none rfl, ?_⟩
            have e42 : a.eval (.tmp 42) = .bool false := by rw [ha]; exact eval_puts_in (i := 10) rfl (by simp [hpre]) (by simp) rfl
            have e45 : a.eval (.tmp 45) = .bool false := by rw [ha]; exact eval_puts_in (i := 13) rfl (by simp [hpre]) (by simp) rfl
            clear ha
            have jA' := Lib.hid jA
            have jB' := Lib.hid jB
            have jp' := Lib.hid jp
            have jw' := Lib.hid jw
            have jq' := Lib.hid jq
            have jb' := Lib.hid jb
            clear jA jB jp jw jq jb
            refine wp_intro fun K HK => ?_
            unfold Oper.wp
            simp only [execOp, e42, e45]
            go_simp
            exact HK.out _ _ ⟨(), _, rfl, rfl, jA'.out, jB'.out, jp'.out, jw'.out, jq'.out, jb'.out⟩
        · intro _ L w' hL hJ
          obtain ⟨jA, jB, jp, jw, jq, jb⟩ := hJ
          clear hL
          simp only [List.foldl_cons, List.foldl_nil]
          go_simp
          have hb_w' := jb
          clear jb
          go_wp2_with (first | (refine wpList_load_mid rfl 42 (.tmp 6) rfl w5.heap.size 0 rfl _ _ (range_blk jp) Try.underlying42 rfl iPX ?_))
          refine (HGX.out _).mono ?_
          rw [GP1.out, GP2.out]
          rintro e w21 ⟨rfl, hb⟩
          have hA_w21 := blk_below jA hb
          have hB_w21 := blk_below jB hb
          have hp_w21 := blk_below jp hb
          have hw_w21 := blk_below jw hb
          have hq_w21 := blk_below jq hb
          have hb_w21 := hb_w'.trans (hb.mono hb_w'.size)
          clear hb hb_w' jA jB jp jw jq
          go_upto_region 12 with (first | (refine wpList_put_row rfl 40 (.tmp 12) (.tmp 55) rfl w21.heap.size x.v rfl rfl 40 _ (heap_new' w21 _ _ rfl) iX (by rw [Sh.v, iXl.out]; rfl) (one_shV _ _ _ _ _ _ _ _) ?_; intro w22 hUw22; have hs_w22 := hUw22.at_; have hA_w22 := hUw22.old (blk_alloc hA_w21 _) (show w.heap.size ≠ w21.heap.size by have := lt_of_cells hA_w21; omega); have hB_w22 := hUw22.old (blk_alloc hB_w21 _) (show (w.heap.size + 1) ≠ w21.heap.size by have := lt_of_cells hB_w21; omega); have hp_w22 := hUw22.old (blk_alloc hp_w21 _) (show w5.heap.size ≠ w21.heap.size by have := lt_of_cells hp_w21; omega); have hw_w22 := hUw22.old (blk_alloc hw_w21 _) (show w7.heap.size ≠ w21.heap.size by have := lt_of_cells hw_w21; omega); have hq_w22 := hUw22.old (blk_alloc hq_w21 _) (show w9.heap.size ≠ w21.heap.size by have := lt_of_cells hq_w21; omega); have hb_w22 := hUw22.below (hb_w21.alloc hb_w21.size _) hb_w21.size; clear hb_w21 hA_w21 hB_w21 hp_w21 hw_w21 hq_w21 hUw22))
          refine wp_region_puts_g (by kernel_rfl) (by kernel_rfl) (X := Unit) (fun _ => [(some 57, .int .i64 0), (some 58, .bool true), (some 59, .bool true), (some 60, .agg (x.v).toArray), (some 61, .agg (x.v).toArray), (some 62, .bool true), (some 63, .bool true), (some 64, .bool true), (some 65, .bool true), (some 66, .bool false), (some 67, .bool false), (some 68, .agg (nats .u8 px).toArray), (some 69, .agg (nats .u8 py).toArray), (some 70, .bool true), (some 71, .agg (x.v).toArray), (some 72, .agg (y.v).toArray), (some 73, .bool true), (some 74, .bool true), (some 75, .bool true), (some 76, .bool true), (some 4, .bool true)])
            (fun _ L w' => w'.heap[w.heap.size]? = some (.cells (x.v).toArray 40 (0, 0)) ∧ w'.heap[(w.heap.size + 1)]? = some (.cells (y.v).toArray 40 (0, 0)) ∧ w'.heap[w5.heap.size]? = some (.cells (nats .u8 px).toArray 42 (0, 0)) ∧ w'.heap[w7.heap.size]? = some (.cells (nats .u8 px).toArray 42 (0, 0)) ∧ w'.heap[w9.heap.size]? = some (.cells (nats .u8 py).toArray 42 (0, 0)) ∧ w'.heap[w21.heap.size]? = some (.cells (x.v).toArray 40 (0, 0)) ∧ Below w.heap.size w w') (fun _ => rfl) (by kernel_rfl) ⟨(), fun _ _ => ⟨hA_w22, hB_w22, hp_w22, hw_w22, hq_w22, hs_w22, hb_w22.drew⟩⟩ ?_ ?_
          · refine ⟨?_, ?_, ?_, ?_, ?_, ?_, ?_, ?_, ?_, ?_, ?_, ?_, ?_, ?_, ?_, ?_, ?_, ?_, ?_, ?_, ?_, trivial⟩
            · intro _ L w' hL hpre hJ a ha
              obtain ⟨jA, jB, jp, jw, jq, js, jb⟩ := hJ
              simp [Region.binds] at hpre
              refine .inl ⟨wanted_none rfl, ?_⟩
              exact wp_move' (.tmp 13) (.inl rfl) (.int .i64 0) (by rw [ha, eval_puts_out rfl]; rfl) ⟨(), _, rfl, rfl, jA, jB, jp, jw, jq, js, jb⟩
            · intro _ L w' hL hpre hJ a ha
              obtain ⟨jA, jB, jp, jw, jq, js, jb⟩ := hJ
              simp [Region.binds] at hpre
              refine .inl ⟨wanted_none rfl, ?_⟩
              have e57 : a.eval (.tmp 57) = .int .i64 0 := by rw [ha]; exact eval_puts_in (i := 0) rfl (by simp [hpre]) (by simp) rfl
              clear ha
              have jA' := Lib.hid jA
              have jB' := Lib.hid jB
              have jp' := Lib.hid jp
              have jw' := Lib.hid jw
              have jq' := Lib.hid jq
              have js' := Lib.hid js
              have jb' := Lib.hid jb
              clear jA jB jp jw jq js jb
              refine wp_intro fun K HK => ?_
              unfold Oper.wp
              simp only [execOp, e57]
              go_simp
              exact HK.out _ _ ⟨(), _, rfl, rfl, jA'.out, jB'.out, jp'.out, jw'.out, jq'.out, js'.out, jb'.out⟩
            · intro _ L w' hL hpre hJ a ha
              obtain ⟨jA, jB, jp, jw, jq, js, jb⟩ := hJ
              simp [Region.binds] at hpre
              refine .inl ⟨wanted_none rfl, ?_⟩
              exact wp_move' (.tmp 58) (.inl rfl) (.bool true) (by rw [ha]; exact eval_puts_in (i := 1) rfl (by simp [hpre]) (by simp) rfl) ⟨(), _, rfl, rfl, jA, jB, jp, jw, jq, js, jb⟩
            · intro _ L w' hL hpre hJ a ha
              obtain ⟨jA, jB, jp, jw, jq, js, jb⟩ := hJ
              simp [Region.binds] at hpre
              refine .inl ⟨wanted_yes (g := 2) (t := 59) (b := true) rfl rfl (by rw [ha]; exact eval_puts_in (i := 2) rfl (by simp [hpre]) (by simp) rfl), ?_⟩
              exact wp_load_mid 40 (.tmp 12) rfl w21.heap.size 0 (by rw [ha, eval_puts_out rfl]; rfl) (x.v) _ (range_blk js) Try.underlying40 rfl iX ⟨(), _, rfl, rfl, jA, jB, jp, jw, jq, js, jb⟩
            · intro _ L w' hL hpre hJ a ha
              obtain ⟨jA, jB, jp, jw, jq, js, jb⟩ := hJ
              simp [Region.binds] at hpre
              refine .inl ⟨wanted_yes (g := 2) (t := 59) (b := true) rfl rfl (by rw [ha]; exact eval_puts_in (i := 2) rfl (by simp [hpre]) (by simp) rfl), ?_⟩
              exact wp_load_mid 40 (.tmp 2) rfl w.heap.size 0 (by rw [ha, eval_puts_out rfl]; rfl) (x.v) _ (range_blk jA) Try.underlying40 rfl iX ⟨(), _, rfl, rfl, jA, jB, jp, jw, jq, js, jb⟩
            · intro _ L w' hL hpre hJ a ha
              obtain ⟨jA, jB, jp, jw, jq, js, jb⟩ := hJ
              simp [Region.binds] at hpre
              refine .inl ⟨wanted_yes (g := 2) (t := 59) (b := true) rfl rfl (by rw [ha]; exact eval_puts_in (i := 2) rfl (by simp [hpre]) (by simp) rfl), ?_⟩
              have e60 : a.eval (.tmp 60) = .agg (x.v).toArray := by rw [ha]; exact eval_puts_in (i := 3) rfl (by simp [hpre]) (by simp) rfl
              have e61 : a.eval (.tmp 61) = .agg (x.v).toArray := by rw [ha]; exact eval_puts_in (i := 4) rfl (by simp [hpre]) (by simp) rfl
              clear ha
              have qe := HEs1.out
              have jA' := Lib.hid jA
              have jB' := Lib.hid jB
              have jp' := Lib.hid jp
              have jw' := Lib.hid jw
              have jq' := Lib.hid jq
              have js' := Lib.hid js
              have jb' := Lib.hid jb
              clear jA jB jp jw jq js jb
              refine wp_intro fun K HK => ?_
              unfold Oper.wp
              simp only [execOp, e60, e61]
              go_simp
              exact HK.out _ _ ⟨(), _, rfl, rfl, jA'.out, jB'.out, jp'.out, jw'.out, jq'.out, js'.out, jb'.out⟩
            · intro _ L w' hL hpre hJ a ha
              obtain ⟨jA, jB, jp, jw, jq, js, jb⟩ := hJ
              simp [Region.binds] at hpre
              refine .inl ⟨wanted_none rfl, ?_⟩
              have e59 : a.eval (.tmp 59) = .bool true := by rw [ha]; exact eval_puts_in (i := 2) rfl (by simp [hpre]) (by simp) rfl
              have e62 : a.eval (.tmp 62) = .bool true := by rw [ha]; exact eval_puts_in (i := 5) rfl (by simp [hpre]) (by simp) rfl
              clear ha
              have jA' := Lib.hid jA
              have jB' := Lib.hid jB
              have jp' := Lib.hid jp
              have jw' := Lib.hid jw
              have jq' := Lib.hid jq
              have js' := Lib.hid js
              have jb' := Lib.hid jb
              clear jA jB jp jw jq js jb
              refine wp_intro fun K HK => ?_
              unfold Oper.wp
              simp only [execOp, e59, e62]
              go_simp
              exact HK.out _ _ ⟨(), _, rfl, rfl, jA'.out, jB'.out, jp'.out, jw'.out, jq'.out, js'.out, jb'.out⟩
            · intro _ L w' hL hpre hJ a ha
              obtain ⟨jA, jB, jp, jw, jq, js, jb⟩ := hJ
              simp [Region.binds] at hpre
              refine .inl ⟨wanted_none rfl, ?_⟩
              exact wp_move' (.tmp 63) (.inl rfl) (.bool true) (by rw [ha]; exact eval_puts_in (i := 6) rfl (by simp [hpre]) (by simp) rfl) ⟨(), _, rfl, rfl, jA, jB, jp, jw, jq, js, jb⟩
            · intro _ L w' hL hpre hJ a ha
              obtain ⟨jA, jB, jp, jw, jq, js, jb⟩ := hJ
              simp [Region.binds] at hpre
              refine .inl ⟨wanted_yes (g := 7) (t := 64) (b := true) rfl rfl (by rw [ha]; exact eval_puts_in (i := 7) rfl (by simp [hpre]) (by simp) rfl), ?_⟩
              exact wp_move' (.tmp 11) (.inl rfl) (.bool true) (by rw [ha, eval_puts_out rfl]; rfl) ⟨(), _, rfl, rfl, jA, jB, jp, jw, jq, js, jb⟩
            · intro _ L w' hL hpre hJ a ha
              obtain ⟨jA, jB, jp, jw, jq, js, jb⟩ := hJ
              simp [Region.binds] at hpre
              refine .inl ⟨wanted_yes (g := 7) (t := 64) (b := true) rfl rfl (by rw [ha]; exact eval_puts_in (i := 7) rfl (by simp [hpre]) (by simp) rfl), ?_⟩
              have e65 : a.eval (.tmp 65) = .bool true := by rw [ha]; exact eval_puts_in (i := 8) rfl (by simp [hpre]) (by simp) rfl
              clear ha
              have jA' := Lib.hid jA
              have jB' := Lib.hid jB
              have jp' := Lib.hid jp
              have jw' := Lib.hid jw
              have jq' := Lib.hid jq
              have js' := Lib.hid js
              have jb' := Lib.hid jb
              clear jA jB jp jw jq js jb
              refine wp_intro fun K HK => ?_
              unfold Oper.wp
              simp only [execOp, e65]
              go_simp
              exact HK.out _ _ ⟨(), _, rfl, rfl, jA'.out, jB'.out, jp'.out, jw'.out, jq'.out, js'.out, jb'.out⟩
            · intro _ L w' hL hpre hJ a ha
              obtain ⟨jA, jB, jp, jw, jq, js, jb⟩ := hJ
              simp [Region.binds] at hpre
              refine .inl ⟨wanted_yes (g := 7) (t := 64) (b := true) rfl rfl (by rw [ha]; exact eval_puts_in (i := 7) rfl (by simp [hpre]) (by simp) rfl), ?_⟩
              exact wp_move' (.tmp 66) (.inl rfl) (.bool false) (by rw [ha]; exact eval_puts_in (i := 9) rfl (by simp [hpre]) (by simp) rfl) ⟨(), _, rfl, rfl, jA, jB, jp, jw, jq, js, jb⟩
            · intro _ L w' hL hpre hJ a ha
              obtain ⟨jA, jB, jp, jw, jq, js, jb⟩ := hJ
              simp [Region.binds] at hpre
              refine .inl ⟨wanted_yes (g := 10) (t := 67) (b := false) rfl rfl (by rw [ha]; exact eval_puts_in (i := 10) rfl (by simp [hpre]) (by simp) rfl), ?_⟩
              exact wp_load_mid 42 (.tmp 6) rfl w5.heap.size 0 (by rw [ha, eval_puts_out rfl]; rfl) (nats .u8 px) _ (range_blk jp) Try.underlying42 rfl iPX ⟨(), _, rfl, rfl, jA, jB, jp, jw, jq, js, jb⟩
            · intro _ L w' hL hpre hJ a ha
              obtain ⟨jA, jB, jp, jw, jq, js, jb⟩ := hJ
              simp [Region.binds] at hpre
              refine .inl ⟨wanted_yes (g := 10) (t := 67) (b := false) rfl rfl (by rw [ha]; exact eval_puts_in (i := 10) rfl (by simp [hpre]) (by simp) rfl), ?_⟩
              exact wp_load_mid 42 (.tmp 10) rfl w9.heap.size 0 (by rw [ha, eval_puts_out rfl]; rfl) (nats .u8 py) _ (range_blk jq) Try.underlying42 rfl iPY ⟨(), _, rfl, rfl, jA, jB, jp, jw, jq, js, jb⟩
            · intro _ L w' hL hpre hJ a ha
              obtain ⟨jA, jB, jp, jw, jq, js, jb⟩ := hJ
              simp [Region.binds] at hpre
              refine .inl ⟨wanted_yes (g := 10) (t := 67) (b := false) rfl rfl (by rw [ha]; exact eval_puts_in (i := 10) rfl (by simp [hpre]) (by simp) rfl), ?_⟩
              have e68 : a.eval (.tmp 68) = .agg (nats .u8 px).toArray := by rw [ha]; exact eval_puts_in (i := 11) rfl (by simp [hpre]) (by simp) rfl
              have e69 : a.eval (.tmp 69) = .agg (nats .u8 py).toArray := by rw [ha]; exact eval_puts_in (i := 12) rfl (by simp [hpre]) (by simp) rfl
              clear ha
              have qp := HQP.out
              have jA' := Lib.hid jA
              have jB' := Lib.hid jB
              have jp' := Lib.hid jp
              have jw' := Lib.hid jw
              have jq' := Lib.hid jq
              have js' := Lib.hid js
              have jb' := Lib.hid jb
              clear jA jB jp jw jq js jb
              refine wp_intro fun K HK => ?_
              unfold Oper.wp
              simp only [execOp, e68, e69]
              go_simp
              exact HK.out _ _ ⟨(), _, rfl, rfl, jA'.out, jB'.out, jp'.out, jw'.out, jq'.out, js'.out, jb'.out⟩
            · intro _ L w' hL hpre hJ a ha
              obtain ⟨jA, jB, jp, jw, jq, js, jb⟩ := hJ
              simp [Region.binds] at hpre
              refine .inl ⟨wanted_yes (g := 10) (t := 67) (b := false) rfl rfl (by rw [ha]; exact eval_puts_in (i := 10) rfl (by simp [hpre]) (by simp) rfl), ?_⟩
              exact wp_load_mid 40 (.tmp 2) rfl w.heap.size 0 (by rw [ha, eval_puts_out rfl]; rfl) (x.v) _ (range_blk jA) Try.underlying40 rfl iX ⟨(), _, rfl, rfl, jA, jB, jp, jw, jq, js, jb⟩
            · intro _ L w' hL hpre hJ a ha
              obtain ⟨jA, jB, jp, jw, jq, js, jb⟩ := hJ
              simp [Region.binds] at hpre
              refine .inl ⟨wanted_yes (g := 10) (t := 67) (b := false) rfl rfl (by rw [ha]; exact eval_puts_in (i := 10) rfl (by simp [hpre]) (by simp) rfl), ?_⟩
              exact wp_load_mid 40 (.tmp 3) rfl (w.heap.size + 1) 0 (by rw [ha, eval_puts_out rfl]; rfl) (y.v) _ (range_blk jB) Try.underlying40 rfl iY ⟨(), _, rfl, rfl, jA, jB, jp, jw, jq, js, jb⟩
            · intro _ L w' hL hpre hJ a ha
              obtain ⟨jA, jB, jp, jw, jq, js, jb⟩ := hJ
              simp [Region.binds] at hpre
              refine .inl ⟨wanted_yes (g := 10) (t := 67) (b := false) rfl rfl (by rw [ha]; exact eval_puts_in (i := 10) rfl (by simp [hpre]) (by simp) rfl), ?_⟩
              have e71 : a.eval (.tmp 71) = .agg (x.v).toArray := by rw [ha]; exact eval_puts_in (i := 14) rfl (by simp [hpre]) (by simp) rfl
              have e72 : a.eval (.tmp 72) = .agg (y.v).toArray := by rw [ha]; exact eval_puts_in (i := 15) rfl (by simp [hpre]) (by simp) rfl
              clear ha
              have qe := HEq1.out
              have jA' := Lib.hid jA
              have jB' := Lib.hid jB
              have jp' := Lib.hid jp
              have jw' := Lib.hid jw
              have jq' := Lib.hid jq
              have js' := Lib.hid js
              have jb' := Lib.hid jb
              clear jA jB jp jw jq js jb
              refine wp_intro fun K HK => ?_
              unfold Oper.wp
              simp only [execOp, e71, e72]
              go_simp
              exact HK.out _ _ ⟨(), _, rfl, rfl, jA'.out, jB'.out, jp'.out, jw'.out, jq'.out, js'.out, jb'.out⟩
            · intro _ L w' hL hpre hJ a ha
              obtain ⟨jA, jB, jp, jw, jq, js, jb⟩ := hJ
              simp [Region.binds] at hpre
              refine .inl ⟨wanted_yes (g := 10) (t := 67) (b := false) rfl rfl (by rw [ha]; exact eval_puts_in (i := 10) rfl (by simp [hpre]) (by simp) rfl), ?_⟩
              have e70 : a.eval (.tmp 70) = .bool true := by rw [ha]; exact eval_puts_in (i := 13) rfl (by simp [hpre]) (by simp) rfl
              have e73 : a.eval (.tmp 73) = .bool true := by rw [ha]; exact eval_puts_in (i := 16) rfl (by simp [hpre]) (by simp) rfl
              clear ha
              have jA' := Lib.hid jA
              have jB' := Lib.hid jB
              have jp' := Lib.hid jp
              have jw' := Lib.hid jw
              have jq' := Lib.hid jq
              have js' := Lib.hid js
              have jb' := Lib.hid jb
              clear jA jB jp jw jq js jb
              refine wp_intro fun K HK => ?_
              unfold Oper.wp
              simp only [execOp, e70, e73]
              go_simp
              exact HK.out _ _ ⟨(), _, rfl, rfl, jA'.out, jB'.out, jp'.out, jw'.out, jq'.out, js'.out, jb'.out⟩
            · intro _ L w' hL hpre hJ a ha
              obtain ⟨jA, jB, jp, jw, jq, js, jb⟩ := hJ
              simp [Region.binds] at hpre
              refine .inl ⟨wanted_yes (g := 7) (t := 64) (b := true) rfl rfl (by rw [ha]; exact eval_puts_in (i := 7) rfl (by simp [hpre]) (by simp) rfl), ?_⟩
              have e67 : a.eval (.tmp 67) = .bool false := by rw [ha]; exact eval_puts_in (i := 10) rfl (by simp [hpre]) (by simp) rfl
              have e74 : a.eval (.tmp 74) = .bool true := by rw [ha]; exact eval_puts_in (i := 17) rfl (by simp [hpre]) (by simp) rfl
              clear ha
              have jA' := Lib.hid jA
              have jB' := Lib.hid jB
              have jp' := Lib.hid jp
              have jw' := Lib.hid jw
              have jq' := Lib.hid jq
              have js' := Lib.hid js
              have jb' := Lib.hid jb
              clear jA jB jp jw jq js jb
              refine wp_intro fun K HK => ?_
              unfold Oper.wp
              simp only [execOp, e67, e74]
              go_simp
              exact HK.out _ _ ⟨(), _, rfl, rfl, jA'.out, jB'.out, jp'.out, jw'.out, jq'.out, js'.out, jb'.out⟩
            · intro _ L w' hL hpre hJ a ha
              obtain ⟨jA, jB, jp, jw, jq, js, jb⟩ := hJ
              simp [Region.binds] at hpre
              refine .inl ⟨wanted_none rfl, ?_⟩
              have e64 : a.eval (.tmp 64) = .bool true := by rw [ha]; exact eval_puts_in (i := 7) rfl (by simp [hpre]) (by simp) rfl
              have e75 : a.eval (.tmp 75) = .bool true := by rw [ha]; exact eval_puts_in (i := 18) rfl (by simp [hpre]) (by simp) rfl
              clear ha
              have jA' := Lib.hid jA
              have jB' := Lib.hid jB
              have jp' := Lib.hid jp
              have jw' := Lib.hid jw
              have jq' := Lib.hid jq
              have js' := Lib.hid js
              have jb' := Lib.hid jb
              clear jA jB jp jw jq js jb
              refine wp_intro fun K HK => ?_
              unfold Oper.wp
              simp only [execOp, e64, e75]
              go_simp
              exact HK.out _ _ ⟨(), _, rfl, rfl, jA'.out, jB'.out, jp'.out, jw'.out, jq'.out, js'.out, jb'.out⟩
            · intro _ L w' hL hpre hJ a ha
              obtain ⟨jA, jB, jp, jw, jq, js, jb⟩ := hJ
              simp [Region.binds] at hpre
              refine .inl ⟨wanted_none rfl, ?_⟩
              exact wp_move' (.tmp 76) (.inr rfl) (.bool true) (by rw [ha]; exact eval_puts_in (i := 19) rfl (by simp [hpre]) (by simp) rfl) ⟨(), _, rfl, rfl, jA, jB, jp, jw, jq, js, jb⟩
          · intro _ L w' hL hJ
            obtain ⟨jA, jB, jp, jw, jq, js, jb⟩ := hJ
            clear hL
            simp only [List.foldl_cons, List.foldl_nil]
            go_simp
            go_wp2_with fail
            go_ret
            exact ⟨rfl, jb⟩
end Go.Proofs.Ytakekjbbbjmdpaa.sherdAll
