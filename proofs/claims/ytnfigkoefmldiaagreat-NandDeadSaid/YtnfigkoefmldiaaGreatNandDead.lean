import Derived.Test.YtnfigkoefmldiaaGreatBunR
/- NandDead: a die that is dead tells so for ever; no condition. -/
namespace Go.Proofs.YtnfigkoefmldiaaGreat.nandDead
open Go.RowKit
open Go.Proofs.YtnfigkoefmldiaaGreat.nand
set_option linter.unusedVariables false
def M0 : Nd := Nd.new 4 8 2
def M1 (d : Nat) : Nd := M0.programN ⟨d, 0, 0⟩ (pg1 1)
def fD (d : Nat) : Flt := ⟨0, 4, d, 3, 1, 0, 0⟩
theorem fD_wf {d : Nat} (h : d < 4) : (fD d).wf := ⟨rfl, rfl, ad_wf (d := (d : Int)) (b := 3) (p := 1) (by omega) (by omega) (by omega), rfl, rfl⟩
def M2 (d : Nat) : Nd := (M1 d).faultN (fD d)
def M2c (d : Nat) : Nd := (M2 d).cutAt (-1) 0
def M3 (d : Nat) (on : Bool) : Nd := bif on then (M2c d).on else M2 d
theorem m3t (d : Nat) : M3 d true = (M2c d).on := by simp only [M3, cond_true]
theorem m3f (d : Nat) : M3 d false = M2 d := by simp only [M3, cond_false]
def M4 (d : Nat) (on : Bool) : Nd := (M3 d on).programN ⟨d, 0, 1⟩ zero32
def M5 (d : Nat) (on : Bool) : Nd := (M4 d on).eraseN d 0
def oth (d : Nat) : Nat := (d + 1) % 4
def M6 (d : Nat) (on : Bool) : Nd := (M5 d on).programN ⟨oth d, 0, 0⟩ (pg1 2)
theorem facts : ∀ d, d < 4 → ∀ on : Bool, (M1 d).faultB (fD d) = true ∧ (M3 d on).readP ⟨d, 0, 0⟩ = zero32 ∧ (M3 d on).readE ⟨d, 0, 0⟩ = 8 ∧ (M3 d on).programE ⟨d, 0, 1⟩ zero32 = 8 ∧ (M4 d on).eraseE d 0 = 8 ∧ (M5 d on).dead.getD (d : Int).toNat false = true ∧ (M5 d on).dead.getD (oth d : Int).toNat false = false ∧ (M5 d on).programE ⟨oth d, 0, 0⟩ (pg1 2) = 0 ∧ ((M6 d on).ops : Int) = 2 := by decide +kernel
theorem bounds : ∀ d, d < 4 → ∀ on : Bool, (M0.ops ≤ 1000000 ∧ M0.broken ≤ 1000000) ∧ ((M3 d on).ops ≤ 1000000 ∧ (M3 d on).broken ≤ 1000000) ∧ ((M4 d on).ops ≤ 1000000 ∧ ((M4 d on).blk (d : Int).toNat (0 : Int).toNat).worn ≤ 1000000) ∧ ((M5 d on).ops ≤ 1000000 ∧ (M5 d on).broken ≤ 1000000) ∧ (M5 d on).D = 4 := by decide +kernel
set_option maxRecDepth 100000 in
set_option maxHeartbeats 8000000 in
theorem walk (a0 : Int) (a1 : Bool) (w : World) (w0 : (Lit.int .i64 a0).wf = true) :
    Calls Tryz.prog 5 #[.int .i64 a0, .bool a1] w fun e w' => e = .returned (.bool true) ∧ Below w.heap.size w w' := by
  clear w0
  obtain ⟨d, hd, hd4⟩ := mod_norm (x := a0) (show (0 : Int) < 4 by decide) (by decide)
  replace hd4 : d < 4 := by omega
  have ho : ((d : Int) + 1) % 4 = (oth d : Int) := by unfold oth; omega
  have HF := Lib.hid (facts d hd4 a1)
  have HBo := Lib.hid (bounds d hd4 a1)
  have HD4 := Lib.hid hd4
  go_enter Tryz.func5, Tryz.ntmps5
  go_wp2_with fail
  refine (begun7_any _).mono ?_
  rintro e w1 ⟨rfl, hb1⟩
  have HB1 := Lib.hid hb1
  clear hb1
  go_wp2_with (first | (refine want_build 25 _ rfl [(0, .int .i64 _), (1, .int .i64 _), (2, .int .i64 _)] rfl _ (built_g3 4 8 2) (by rfl) ?_))
  refine (show Calls _ _ #[.agg #[.int .i64 4, .int .i64 8, .int .i64 2]] _ _ from new_any w1 4 8 2 (by decide)).mono ?_
  rintro e w2 ⟨g, rfl, hn2, hb2⟩
  obtain ⟨base, hbase⟩ : ∃ base, base = w1.heap.size := ⟨_, rfl⟩
  rw [← hbase] at hn2
  have HLB := Lib.hid (show w.heap.size ≤ base by rw [hbase]; exact HB1.out.size)
  have HN2 := Lib.hid hn2
  have HB2 := Lib.hid (HB1.out.trans (hb2.mono HB1.out.size))
  clear hn2 hb2 HB1 hbase
  obtain ⟨ab, hab⟩ : ∃ ab, ab = w2.heap.size := ⟨_, rfl⟩
  go_wp2_with (first | (refine want_build 32 _ rfl [(0, .int .i64 _)] rfl _ (ad_d _) (by rfl) ?_) | (refine wpList_put_row rfl 32 (.tmp 7) (.tmp 21) rfl _ (Ad.v ⟨d, 0, 0⟩) rfl rfl 32 _ (heap_new' _ _ _ rfl) aInfo rfl (one_ad _) ?_; intro w3 hU3; have h3 := hU3.at_; have hb3 := hU3.below (alloc_low _ _) (Nat.le_refl _); clear hU3) | (refine wpList_load_mid rfl 32 (.tmp 7) rfl w2.heap.size 0 rfl (Ad.v ⟨d, 0, 0⟩) _ (range_blk h3) Tryz.underlying32 rfl aInfo ?_) | (refine want_build 34 _ rfl [(0, .int .u8 _)] rfl _ (built_pg1 1) (by rfl) ?_))
  rw [← hab] at h3 ⊢
  have HN3 := Lib.hid (HN2.out.below hb3)
  have HB3 := Lib.hid (HB2.out.trans (hb3.mono HB2.out.size))
  clear hb3 HN2 HB2 
  have ha_3 := h3
  clear h3 hab
  refine (program_any (show NandIn _ _ _ 0 M0 from HN3.out) ⟨d, 0, 0⟩ (ad_wf (by have := HD4.out; omega) (by omega) (by omega)) (pg1 1) (pg1_ok (by decide)).1 (pg1_ok (by decide)).2 HBo.out.1.1 HBo.out.1.2).mono ?_
  rintro e w4 ⟨rfl, hn4, hf4⟩
  replace hn4 : NandIn w4 base g (0) (M1 d) := by rw [show (M1 d) = (M0.programN ⟨d, 0, 0⟩ (pg1 1)) from rfl]; exact hn4
  have HN4 := Lib.hid hn4
  have HB4 := Lib.hid (hf4.below HB3.out HLB.out (Nat.le_refl _))
  have ha_4 := hf4.blk ha_3 rfl
  clear hn4 hf4 HN3 HB3 ha_3
  generalize M0.programE ⟨d, 0, 0⟩ (pg1 1) = e4
  go_wp2_with (first | (refine want_build 32 _ rfl [(0, .int .i64 _), (1, .int .i64 _), (2, .int .i64 _)] rfl _ (ad_dbp _ _ _) (by rfl) ?_) | (refine want_build 44 _ rfl [(1, .int .i64 _), (2, .agg _)] rfl _ (flt_ka _ _ _ _) (by rfl) ?_))
  refine (fault_in (show NandIn _ _ _ 0 (M1 d) from HN4.out) (fD d) (fD_wf HD4.out) (by omega)).mono ?_
  rw [HF.out.1]
  rintro e w5 ⟨rfl, hn5, hf5⟩
  replace hn5 : NandIn w5 base g (1) (M2 d) := by rw [show (M2 d) = ((M1 d).faultN (fD d)) from rfl]; exact hn5
  have HN5 := Lib.hid hn5
  have HB5 := Lib.hid (hf5.below HB4.out HLB.out (Nat.le_refl _))
  have ha_5 := hf5.blk ha_4 rfl
  clear hn5 hf5 HN4 HB4 ha_4
  cases a1 with
  | true =>
    go_wp2_with fail
    refine (cut_in (show NandIn _ _ _ 1 (M2 d) from HN5.out) (-1) 0 (by omega)).mono ?_
    rintro e w6 ⟨rfl, hn6, hf6⟩
    replace hn6 : NandIn w6 base g (1) (M2c d) := by rw [show (M2c d) = ((M2 d).cutAt (-1) 0) from rfl]; exact hn6
    have HN6 := Lib.hid hn6
    have HB6 := Lib.hid (hf6.below HB5.out HLB.out (Nat.le_refl _))
    have ha_6 := hf6.blk ha_5 rfl
    clear hn6 hf6 HN5 HB5 ha_5
    go_wp2_with fail
    refine (on_in (show NandIn _ _ _ 1 (M2c d) from HN6.out)).mono ?_
    rintro e w7 ⟨rfl, hn7, hf7⟩
    replace hn7 : NandIn w7 base g (1) (M3 d true) := by rw [show (M3 d true) = ((M2c d).on) from m3t d]; exact hn7
    have HN7 := Lib.hid hn7
    have HB7 := Lib.hid (hf7.below HB6.out HLB.out (Nat.le_refl _))
    have ha_7 := hf7.blk ha_6 rfl
    clear hn7 hf7 HN6 HB6 ha_6
    go_wp2_with (first | (refine wpList_load_mid rfl 32 (.tmp 7) rfl ab 0 rfl (Ad.v ⟨d, 0, 0⟩) _ (range_blk ha_7) Tryz.underlying32 rfl aInfo ?_))
    refine (read_in (show NandIn _ _ _ 1 (M3 d true) from HN7.out) ⟨d, 0, 0⟩ (ad_wf (by have := HD4.out; omega) (by omega) (by omega))).mono ?_
    rw [HF.out.2.1, HF.out.2.2.1]
    rintro e w9 ⟨rfl, hb9⟩
    have HN9 := Lib.hid (HN7.out.below hb9)
    have HB9 := Lib.hid (HB7.out.trans (hb9.mono HB7.out.size))
    have ha_9 := blk_below ha_7 hb9
    clear hb9 HN7 HB7 ha_7
    go_upto_region 14 with (first | (refine wpList_put_row rfl 34 (.tmp 8) (.tmp 41) rfl _ (nats .u8 zero32) rfl rfl 34 _ (heap_new' _ _ _ rfl) (pgInfo rfl) rfl (one_nats _ _) ?_; intro w10 hU10; have h10 := hU10.at_; have hb10 := hU10.below (alloc_low _ _) (Nat.le_refl _); clear hU10))
    have HN10 := Lib.hid (HN9.out.below hb10)
    have HB10 := Lib.hid (HB9.out.trans (hb10.mono HB9.out.size))
    have ha_10 := blk_below ha_9 hb10
    clear hb10 HN9 HB9 ha_9
    clear h10
    obtain ⟨ob, hob⟩ : ∃ ob, ob = w10.heap.size := ⟨_, rfl⟩
    have HOb := Lib.hid hob
    clear hob
    go_wp2_with (first | (refine want_build 32 _ rfl [(0, .int .i64 _)] rfl _ (ad_d _) (by rfl) ?_) | (refine wpList_put_row rfl 32 (.tmp 10) (.tmp 46) rfl _ (Ad.v ⟨oth d, 0, 0⟩) rfl rfl 32 _ (heap_new' _ _ _ rfl) aInfo rfl (one_ad _) ?_; intro w11 hU11; have h11 := hU11.at_; have hb11 := hU11.below (alloc_low _ _) (Nat.le_refl _); clear hU11) | (refine want_build 32 _ rfl [(0, .int .i64 _), (2, .int .i64 _)] rfl _ (ad_dp _ _) (by rfl) ?_) | (refine want_build 34 _ rfl [] rfl _ built_pz (by rfl) ?_))
    rw [← HOb.out] at h11 ⊢
    have HN11 := Lib.hid (HN10.out.below hb11)
    have HB11 := Lib.hid (HB10.out.trans (hb11.mono HB10.out.size))
    have ha_11 := blk_below ha_10 hb11
    clear hb11 HN10 HB10 ha_10
    have ho_11 := h11
    clear h11
    refine (program_any (show NandIn _ _ _ 1 (M3 d true) from HN11.out) ⟨d, 0, 1⟩ (ad_wf (by have := HD4.out; omega) (by omega) (by omega)) zero32 zero32_ok.1 zero32_ok.2 HBo.out.2.1.1 HBo.out.2.1.2).mono ?_
    rw [HF.out.2.2.2.1]
    rintro e w12 ⟨rfl, hn12, hf12⟩
    replace hn12 : NandIn w12 base g (1) (M4 d true) := by rw [show (M4 d true) = ((M3 d true).programN ⟨d, 0, 1⟩ zero32) from rfl]; exact hn12
    have HN12 := Lib.hid hn12
    have HB12 := Lib.hid (hf12.below HB11.out HLB.out (Nat.le_refl _))
    have ha_12 := hf12.blk ha_11 rfl
    have ho_12 := hf12.blk ho_11 rfl
    clear hn12 hf12 HN11 HB11 ha_11 ho_11
    go_wp2_with fail
    refine (erase_any (show NandIn _ _ _ 1 (M4 d true) from HN12.out) (d : Int) 0 (ad_wf (by have := HD4.out; omega) (by omega) (by omega)) HBo.out.2.2.1.1 HBo.out.2.2.1.2 (by omega)).mono ?_
    rw [HF.out.2.2.2.2.1]
    rintro e w13 ⟨rfl, hn13, hf13⟩
    replace hn13 : NandIn w13 base g (1) (M5 d true) := by rw [show (M5 d true) = ((M4 d true).eraseN (d : Int) 0) from rfl]; exact hn13
    have HN13 := Lib.hid hn13
    have HB13 := Lib.hid (hf13.below HB12.out HLB.out (Nat.le_refl _))
    have ha_13 := hf13.blk ha_12 rfl
    have ho_13 := hf13.blk ho_12 rfl
    clear hn13 hf13 HN12 HB12 ha_12 ho_12
    go_wp2_with fail
    refine (dead_in (show NandIn _ _ _ 1 (M5 d true) from HN13.out) (d : Int) (by omega) (by rw [HBo.out.2.2.2.2]; have := HD4.out; omega)).mono ?_
    rw [HF.out.2.2.2.2.2.1]
    rintro e wq ⟨rfl, rfl⟩
    have co : w13.cell? ⟨ob, 0, none⟩ = some (.int .i64 (oth d : Int)) := by rw [blk_cell ho_13]; rfl
    have HO4 := Lib.hid (show oth d < 4 by unfold oth; omega)
    go_wp2_with fail
    refine (dead_in (show NandIn _ _ _ 1 (M5 d true) from HN13.out) (oth d : Int) (by omega) (by rw [HBo.out.2.2.2.2]; have := HO4.out; omega)).mono ?_
    rw [HF.out.2.2.2.2.2.2.1]
    rintro e wq ⟨rfl, rfl⟩
    clear co
    go_wp2_with (first | (refine want_addr (.tmp 10) rfl ob 0 rfl (by rfl) (range_blk (cs := Ad.v ⟨oth d, 0, 0⟩) ho_13) aInfo ?_) | (refine want_build 34 _ rfl [(0, .int .u8 _)] rfl _ (built_pg1 2) (by rfl) ?_))
    refine (program_any (show NandIn _ _ _ 1 (M5 d true) from HN13.out) ⟨oth d, 0, 0⟩ (ad_wf (by have := HO4.out; omega) (by omega) (by omega)) (pg1 2) (pg1_ok (by decide)).1 (pg1_ok (by decide)).2 HBo.out.2.2.2.1.1 HBo.out.2.2.2.1.2).mono ?_
    rw [HF.out.2.2.2.2.2.2.2.1]
    rintro e w14 ⟨rfl, hn14, hf14⟩
    replace hn14 : NandIn w14 base g (1) (M6 d true) := by rw [show (M6 d true) = ((M5 d true).programN ⟨oth d, 0, 0⟩ (pg1 2)) from rfl]; exact hn14
    have HN14 := Lib.hid hn14
    have HB14 := Lib.hid (hf14.below HB13.out HLB.out (Nat.le_refl _))
    have ha_14 := hf14.blk ha_13 rfl
    have ho_14 := hf14.blk ho_13 rfl
    clear hn14 hf14 HN13 HB13 ha_13 ho_13
    go_wp2_with fail
    refine (ops_in (show NandIn _ _ _ 1 (M6 d true) from HN14.out)).mono ?_
    rw [HF.out.2.2.2.2.2.2.2.2]
    rintro e wq ⟨rfl, rfl⟩
    go_wp2_with fail
    go_ret
    exact ⟨rfl, HB14.out⟩
  | false =>
    have hnf : NandIn w5 base g 1 (M3 d false) := by rw [m3f]; exact HN5.out
    replace HN5 := Lib.hid hnf
    clear hnf
    go_wp2_with (first | (refine wpList_load_mid rfl 32 (.tmp 7) rfl ab 0 rfl (Ad.v ⟨d, 0, 0⟩) _ (range_blk ha_5) Tryz.underlying32 rfl aInfo ?_))
    refine (read_in (show NandIn _ _ _ 1 (M3 d false) from HN5.out) ⟨d, 0, 0⟩ (ad_wf (by have := HD4.out; omega) (by omega) (by omega))).mono ?_
    rw [HF.out.2.1, HF.out.2.2.1]
    rintro e w9 ⟨rfl, hb9⟩
    have HN9 := Lib.hid (HN5.out.below hb9)
    have HB9 := Lib.hid (HB5.out.trans (hb9.mono HB5.out.size))
    have ha_9 := blk_below ha_5 hb9
    clear hb9 HN5 HB5 ha_5
    go_upto_region 14 with (first | (refine wpList_put_row rfl 34 (.tmp 8) (.tmp 41) rfl _ (nats .u8 zero32) rfl rfl 34 _ (heap_new' _ _ _ rfl) (pgInfo rfl) rfl (one_nats _ _) ?_; intro w10 hU10; have h10 := hU10.at_; have hb10 := hU10.below (alloc_low _ _) (Nat.le_refl _); clear hU10))
    have HN10 := Lib.hid (HN9.out.below hb10)
    have HB10 := Lib.hid (HB9.out.trans (hb10.mono HB9.out.size))
    have ha_10 := blk_below ha_9 hb10
    clear hb10 HN9 HB9 ha_9
    clear h10
    obtain ⟨ob, hob⟩ : ∃ ob, ob = w10.heap.size := ⟨_, rfl⟩
    have HOb := Lib.hid hob
    clear hob
    go_wp2_with (first | (refine want_build 32 _ rfl [(0, .int .i64 _)] rfl _ (ad_d _) (by rfl) ?_) | (refine wpList_put_row rfl 32 (.tmp 10) (.tmp 46) rfl _ (Ad.v ⟨oth d, 0, 0⟩) rfl rfl 32 _ (heap_new' _ _ _ rfl) aInfo rfl (one_ad _) ?_; intro w11 hU11; have h11 := hU11.at_; have hb11 := hU11.below (alloc_low _ _) (Nat.le_refl _); clear hU11) | (refine want_build 32 _ rfl [(0, .int .i64 _), (2, .int .i64 _)] rfl _ (ad_dp _ _) (by rfl) ?_) | (refine want_build 34 _ rfl [] rfl _ built_pz (by rfl) ?_))
    rw [← HOb.out] at h11 ⊢
    have HN11 := Lib.hid (HN10.out.below hb11)
    have HB11 := Lib.hid (HB10.out.trans (hb11.mono HB10.out.size))
    have ha_11 := blk_below ha_10 hb11
    clear hb11 HN10 HB10 ha_10
    have ho_11 := h11
    clear h11
    refine (program_any (show NandIn _ _ _ 1 (M3 d false) from HN11.out) ⟨d, 0, 1⟩ (ad_wf (by have := HD4.out; omega) (by omega) (by omega)) zero32 zero32_ok.1 zero32_ok.2 HBo.out.2.1.1 HBo.out.2.1.2).mono ?_
    rw [HF.out.2.2.2.1]
    rintro e w12 ⟨rfl, hn12, hf12⟩
    replace hn12 : NandIn w12 base g (1) (M4 d false) := by rw [show (M4 d false) = ((M3 d false).programN ⟨d, 0, 1⟩ zero32) from rfl]; exact hn12
    have HN12 := Lib.hid hn12
    have HB12 := Lib.hid (hf12.below HB11.out HLB.out (Nat.le_refl _))
    have ha_12 := hf12.blk ha_11 rfl
    have ho_12 := hf12.blk ho_11 rfl
    clear hn12 hf12 HN11 HB11 ha_11 ho_11
    go_wp2_with fail
    refine (erase_any (show NandIn _ _ _ 1 (M4 d false) from HN12.out) (d : Int) 0 (ad_wf (by have := HD4.out; omega) (by omega) (by omega)) HBo.out.2.2.1.1 HBo.out.2.2.1.2 (by omega)).mono ?_
    rw [HF.out.2.2.2.2.1]
    rintro e w13 ⟨rfl, hn13, hf13⟩
    replace hn13 : NandIn w13 base g (1) (M5 d false) := by rw [show (M5 d false) = ((M4 d false).eraseN (d : Int) 0) from rfl]; exact hn13
    have HN13 := Lib.hid hn13
    have HB13 := Lib.hid (hf13.below HB12.out HLB.out (Nat.le_refl _))
    have ha_13 := hf13.blk ha_12 rfl
    have ho_13 := hf13.blk ho_12 rfl
    clear hn13 hf13 HN12 HB12 ha_12 ho_12
    go_wp2_with fail
    refine (dead_in (show NandIn _ _ _ 1 (M5 d false) from HN13.out) (d : Int) (by omega) (by rw [HBo.out.2.2.2.2]; have := HD4.out; omega)).mono ?_
    rw [HF.out.2.2.2.2.2.1]
    rintro e wq ⟨rfl, rfl⟩
    have co : w13.cell? ⟨ob, 0, none⟩ = some (.int .i64 (oth d : Int)) := by rw [blk_cell ho_13]; rfl
    have HO4 := Lib.hid (show oth d < 4 by unfold oth; omega)
    go_wp2_with fail
    refine (dead_in (show NandIn _ _ _ 1 (M5 d false) from HN13.out) (oth d : Int) (by omega) (by rw [HBo.out.2.2.2.2]; have := HO4.out; omega)).mono ?_
    rw [HF.out.2.2.2.2.2.2.1]
    rintro e wq ⟨rfl, rfl⟩
    clear co
    go_wp2_with (first | (refine want_addr (.tmp 10) rfl ob 0 rfl (by rfl) (range_blk (cs := Ad.v ⟨oth d, 0, 0⟩) ho_13) aInfo ?_) | (refine want_build 34 _ rfl [(0, .int .u8 _)] rfl _ (built_pg1 2) (by rfl) ?_))
    refine (program_any (show NandIn _ _ _ 1 (M5 d false) from HN13.out) ⟨oth d, 0, 0⟩ (ad_wf (by have := HO4.out; omega) (by omega) (by omega)) (pg1 2) (pg1_ok (by decide)).1 (pg1_ok (by decide)).2 HBo.out.2.2.2.1.1 HBo.out.2.2.2.1.2).mono ?_
    rw [HF.out.2.2.2.2.2.2.2.1]
    rintro e w14 ⟨rfl, hn14, hf14⟩
    replace hn14 : NandIn w14 base g (1) (M6 d false) := by rw [show (M6 d false) = ((M5 d false).programN ⟨oth d, 0, 0⟩ (pg1 2)) from rfl]; exact hn14
    have HN14 := Lib.hid hn14
    have HB14 := Lib.hid (hf14.below HB13.out HLB.out (Nat.le_refl _))
    have ha_14 := hf14.blk ha_13 rfl
    have ho_14 := hf14.blk ho_13 rfl
    clear hn14 hf14 HN13 HB13 ha_13 ho_13
    go_wp2_with fail
    refine (ops_in (show NandIn _ _ _ 1 (M6 d false) from HN14.out)).mono ?_
    rw [HF.out.2.2.2.2.2.2.2.2]
    rintro e wq ⟨rfl, rfl⟩
    go_wp2_with fail
    go_ret
    exact ⟨rfl, HB14.out⟩
end Go.Proofs.YtnfigkoefmldiaaGreat.nandDead
