import Derived.Test.YtnfigkoefmldiaaGreatFPlanLaw
import Derived.Deep.DeepCutAuto
import Derived.Deep.CutBlock
/- FaultPlan: faults come at their time, in their order, each once; no condition. -/
namespace Go.Proofs.YtnfigkoefmldiaaGreat.faultPlan
open Go.RowKit
open Go.Proofs.YtnfigkoefmldiaaGreat.nand
set_option linter.unusedVariables false
def Hi (W : List Flt) (x : Flt) (j : Nat) : Prop := j ≤ W.length ∧ ∀ y ∈ W.drop j, x.at_ < y.at_
theorem low_at {W : List Flt} {x y : Flt} {jq : Nat} (hy : W[jq]? = some y) (hl : ¬ x.at_ < y.at_) : ∀ i y', i + 1 = jq + 1 → W[i]? = some y' → y'.at_ ≤ x.at_ := by
  intro i y' hi hy'
  obtain rfl : i = jq := by omega
  rw [hy] at hy'
  cases hy'
  omega
theorem Hi.start (W : List Flt) (x : Flt) : Hi W x W.length := ⟨Nat.le_refl _, by simp⟩
theorem Hi.down {W : List Flt} {x y : Flt} {j : Nat} (h : Hi W x (j + 1)) (hy : W[j]? = some y) (hl : x.at_ < y.at_) : Hi W x j := by
  have hj := (List.getElem?_eq_some_iff.1 hy)
  refine ⟨by have := h.1; omega, fun z hz => ?_⟩
  rw [List.drop_eq_getElem_cons hj.1, hj.2] at hz
  rcases List.mem_cons.1 hz with rfl | hz
  · exact hl
  · exact h.2 z hz
def Out5 (w : World) (bp S pp n2 : Nat) (vl i : Value) (wr : World) : Prop := ∃ (k : Nat) (Ls : List Flt), k ≤ n2 ∧ k ≤ 12 ∧ i = .int .i64 k ∧ Ls.length ≤ 20 ∧ (∀ f ∈ Ls, f.wf) ∧ PlanIn wr bp S pp (sortF Ls) ∧ OwnRows wr S 44 7 vl Ls.length (flts Ls) ∧ S ≤ wr.heap.size ∧ Below w.heap.size w wr
def RI (w6 : World) (t : Int) (Ls : List Flt) (nL : Nat) (vw vr i : Value) (wx : World) : Prop := ∃ k5 : Nat, k5 ≤ nL ∧ i = .int .i64 k5 ∧ In5 w6 wx t Ls k5 vw vr
theorem RI.of {w6 : World} {t : Int} {Ls : List Flt} {nL : Nat} {vw vr i : Value} {wx : World} (k5 : Nat) (h1 : k5 ≤ nL) (h2 : i = .int .i64 k5) (h3 : In5 w6 wx t Ls k5 vw vr) : RI w6 t Ls nL vw vr i wx := ⟨k5, h1, h2, h3⟩
theorem Out5.of {w : World} {bp S pp n2 : Nat} {vl i : Value} {wr : World} (k : Nat) (Ls : List Flt) (h1 : k ≤ n2) (h12 : k ≤ 12) (h2 : i = .int .i64 k) (h3 : Ls.length ≤ 20) (h4 : ∀ f ∈ Ls, f.wf) (h5 : PlanIn wr bp S pp (sortF Ls)) (h6 : OwnRows wr S 44 7 vl Ls.length (flts Ls)) (h7 : S ≤ wr.heap.size) (h8 : Below w.heap.size w wr) : Out5 w bp S pp n2 vl i wr := ⟨k, Ls, h1, h12, h2, h3, h4, h5, h6, h7, h8⟩
set_option maxRecDepth 100000 in
set_option maxHeartbeats 8000000 in
theorem walk (cs0 : List Value) (A : Option Addr) (n c : Nat) (A2 : Option Addr) (n2 c2 : Nat) (zs : List Int) (w : World) (w0 : okAll (List.replicate 3 (Kd.int .i64)) cs0 = true) (w1 : IsRows (List.replicate 7 (Kd.int .i64)) w A n c) (w2 : IsRow .i64 w A2 n2 c2 zs) :
    Calls Tryz.prog 7 #[.agg cs0.toArray, .slice A n c, .slice A2 n2 c2] w fun e w' => e = .returned (.bool true) ∧ Below w.heap.size w w' := by
  obtain ⟨a, b, cc, rfl⟩ := open_geo w0
  obtain ⟨l, hr, hwf, hnc, hcm⟩ := open_flts' w1
  obtain ⟨hr2, hnc2, hcm2, hzl, -⟩ := w2.rd
  obtain ⟨ts, hts⟩ : ∃ ts, ts = zs.take n2 := ⟨_, rfl⟩
  rw [← hts] at hr2 hzl
  unfold maxLen at hcm hcm2
  have hll : l.length = n := by have := hr.1; simpa [flts] using this
  have HR2 := Lib.hid hr2
  have HZL := Lib.hid hzl
  obtain ⟨K, hK⟩ : ∃ K, K = min n 20 := ⟨_, rfl⟩
  have hKn : K ≤ n := by omega
  have hK20 : K ≤ 20 := by omega
  have hmin : min (n : Int) 20 = (K : Int) := by omega
  have hr1 := hr.take hKn
  obtain ⟨l1, hl1⟩ : ∃ l1, l1 = l.take K := ⟨_, rfl⟩
  rw [show (flts l).take K = flts l1 by rw [hl1, flts, flts, List.map_take]] at hr1
  have hwf1 : ∀ f ∈ l1, f.wf := fun f hf => hwf f (by rw [hl1] at hf; exact List.mem_of_mem_take hf)
  have HL1 := Lib.hid (show l1.length = K by rw [hl1, List.length_take, hll]; omega)
  have HR1 := Lib.hid hr1
  have HWF := Lib.hid hwf1
  have HK := Lib.hid hmin
  clear hr hwf w0 w1 w2 hr2 hzl hts hll hr1 hl1 hwf1 hmin hK
  obtain ⟨D, eD, D1, D2⟩ := geoN a 4 4 rfl (by omega) 3
  obtain ⟨B, eB, B1, B2⟩ := geoN b 9 9 rfl (by omega) 8
  obtain ⟨P, eP, P1, P2⟩ := geoN cc 7 7 rfl (by omega) 2
  have hG := fun w => geo_any a b cc w
  rw [show (3 : Int) + a % 4 = (D : Int) from eD, show (8 : Int) + b % 9 = (B : Int) from eB, show (2 : Int) + cc % 7 = (P : Int) from eP] at hG
  have HG := Lib.hid hG
  clear hG eD eB eP
  have hbel := (Below.refl _ w).alloc (Nat.le_refl _) (.cells #[.int .i64 a, .int .i64 b, .int .i64 cc] 25)
  have hg := heap_new' w (.cells #[.int .i64 a, .int .i64 b, .int .i64 cc] 25) _ rfl
  go_enter Tryz.func7, Tryz.ntmps7
  go_upto_region 1 with fail
  change Code.wp _ _ _ _ (w.alloc (.cells #[.int .i64 a, .int .i64 b, .int .i64 cc] 25))
  generalize w.alloc (.cells #[.int .i64 a, .int .i64 b, .int .i64 cc] 25) = wa at *
  have HB0 := Lib.hid hbel
  have HG0 := Lib.hid hg
  clear hbel hg
  go_wp2_with fail
  refine (begun7_any _).mono ?_
  rintro e w1 ⟨rfl, hb⟩
  have HB1 := Lib.hid (HB0.out.trans (hb.mono HB0.out.size))
  have hg1 := blk_below HG0.out hb
  have c0 : w1.cell? ⟨w.heap.size, 0, none⟩ = some (.int .i64 a) := by rw [blk_cell hg1]; rfl
  have c1 : w1.cell? ⟨w.heap.size, 1, none⟩ = some (.int .i64 b) := by rw [blk_cell hg1]; rfl
  have c2 : w1.cell? ⟨w.heap.size, 2, none⟩ = some (.int .i64 cc) := by rw [blk_cell hg1]; rfl
  have HG1 := Lib.hid hg1
  clear hb hg1 HB0 HG0
  go_wp2_with fail
  refine (HG.out _).mono ?_
  rintro e w2 ⟨rfl, hb⟩
  have hg2 := blk_below HG1.out hb
  have HB2 := Lib.hid (HB1.out.trans (hb.mono HB1.out.size))
  have hmin := HK.out
  clear hb HG1 HB1 c0 c1 c2 HG
  go_upto_region 6 with (first | (refine wpList_put_row rfl 25 (.tmp 3) (.tmp 27) rfl w.heap.size (geoV D B P) rfl rfl 25 _ hg2 geoInfo rfl (by simp [geoV, Value.oneCell']) ?_; intro w3 hU3; have hg3 := hU3.at_; have hb3 := hU3.below HB2.out (Nat.le_refl _); clear hU3))
  have hrg := range_blk hg3
  have HG3 := Lib.hid hg3
  have HB3 := Lib.hid hb3
  have HR3 := Lib.hid (HR1.out.below hb3 (Nat.le_refl _))
  have hN := fun (w3 : World) (h : w.heap.size ≤ w3.heap.size) (hr : Rds w3 w.heap.size A 7 K (flts l1)) => plan_new D B P (by omega) l1 HWF.out A K c w.heap.size w3 hr h (by omega) sortF sortF_perm (fun v base w' ho hb => sort_stable v base _ w' ho (by have := List.length_filter_le (mayF D B P) l1; have := HL1.out; omega))
  have HN := Lib.hid hN
  clear hg2 HB2 hg3 hb3 hmin hN
  go_wp2_with (first | (refine wpList_load_mid rfl 25 (.tmp 3) rfl w.heap.size 0 rfl (geoV D B P) _ hrg Tryz.underlying25 rfl geoInfo ?_))
  refine (show Calls _ _ #[.agg (geoV D B P).toArray, .slice A K c] _ _ from HN.out w3 HB3.out.size HR3.out).mono ?_
  rintro e w4 ⟨pp, A8, c8, rfl, hp, hb⟩
  have hp4 := PlanIn.of_new hp
  have HG4 := Lib.hid (blk_below HG3.out hb)
  have HB4 := Lib.hid (HB3.out.trans (hb.mono HB3.out.size))
  have HSW3 := Lib.hid (show w.heap.size ≤ w3.heap.size from HB3.out.size)
  have HS34 := Lib.hid (show w3.heap.size ≤ w4.heap.size from hb.size)
  have HR4 := Lib.hid (HR1.out.below HB4.out (Nat.le_refl _))
  have HP4 := Lib.hid hp4
  clear hb hp hp4 HB3 HG3 HR3 HN hrg
  go_wp2_with fail
  go_loopw [9, 10] (fun vl i wr => ∃ k : Nat, k ≤ K ∧ i = .int .i64 k ∧ OwnRows wr w4.heap.size 44 7 vl ((l1.take k).filter (mayF D B P)).length (flts ((l1.take k).filter (mayF D B P))) ∧ Below w4.heap.size w4 wr) (fun _ i _ => K - (intOf i).toNat)
  case atStart => exact ⟨0, by omega, rfl, OwnRows.nil, Below.refl _ _⟩
  case round =>
    obtain ⟨k, hk, rfl, ho, hb⟩ := hrel
    obtain ⟨A9, c9, rfl, -, -⟩ := ho.slice
    by_cases hlt : k < K
    · have hkl : k < l1.length := by rw [HL1.out]; exact hlt
      obtain ⟨x, hKx⟩ : ∃ x, l1[k]? = some x := ⟨_, List.getElem?_eq_getElem hkl⟩
      obtain ⟨bb, oo, rfl, hbb, hRr⟩ := rds_range (HR4.out.below hb HB4.out.size) hlt (r := x.v) (flts_at hKx)
      have hltI : (k : Int) < (K : Int) := by omega
      have hg := blk_below HG4.out hb
      have hsn := take_snoc7 hKx
      obtain ⟨kept, hkept⟩ : ∃ kept, kept = (l1.take k).filter (mayF D B P) := ⟨_, rfl⟩
      rw [← hkept] at ho
      have HNX := Lib.hid (show (l1.take (k + 1)).filter (mayF D B P) = kept ++ (if mayF D B P x then [x] else []) by rw [hsn, List.filter_append, ← hkept]; simp only [List.filter_cons, List.filter_nil])
      have hK8 : kept.length ≤ k := by rw [hkept]; exact Nat.le_trans (List.length_filter_le _ _) (by simp; omega)
      obtain ⟨q, hq⟩ : ∃ q, q = kept.length := ⟨_, rfl⟩
      rw [← hkept, ← hq]
      rw [← hq] at ho hK8
      have HQ := Lib.hid hq
      have HO := Lib.hid ho
      have HB := Lib.hid hb
      have HRr := Lib.hid hRr
      clear hKx hkl hsn hkept hq
      go_upto_region 11 with fail
      cases hm : mayF D B P x with
      | false =>
        rw [hm] at HNX
        refine wp_region_puts_g (by kernel_rfl) (by kernel_rfl) (X := Unit) (fun _ => [(some 42, .agg (geoV D B P).toArray), (some 43, .slice (some ⟨bb, oo, none⟩) K c), (some 44, .int .i64 (k : Int)), (some 45, .pointer (some ⟨bb, oo + k * 7, none⟩)), (some 46, .agg (x.v).toArray), (some 47, .bool false)])
          (fun _ L w' => w'.heap[w.heap.size]? = some (.cells (geoV D B P).toArray 25 (0, 0)) ∧ w'.rangeAt bb (oo + k * 7) x.v ∧ Below wr.heap.size wr w') (fun _ => rfl) (by kernel_rfl) ⟨(), fun _ _ => ⟨hg, hRr, (Below.refl _ wr).drew⟩⟩ ?_ ?_
        · refine ⟨?_, ?_, ?_, ?_, ?_, ?_, trivial⟩
          · intro _ L w' hL hpre hJ a ha
            obtain ⟨jg, jr, jb⟩ := hJ
            simp [Region.binds] at hpre
            refine .inl ⟨wanted_none rfl, ?_⟩
            exact wp_load_mid 25 (.tmp 3) rfl w.heap.size 0 (by rw [ha, eval_puts_out rfl]; rfl) (geoV D B P) _ (range_blk jg) Tryz.underlying25 rfl geoInfo ⟨(), _, rfl, rfl, jg, jr, jb⟩
          · intro _ L w' hL hpre hJ a ha
            obtain ⟨jg, jr, jb⟩ := hJ
            simp [Region.binds] at hpre
            refine .inl ⟨wanted_none rfl, ?_⟩
            exact wp_move' (.tmp 1) (.inl rfl) (.slice (some ⟨bb, oo, none⟩) K c) (by rw [ha, eval_puts_out rfl]; rfl) ⟨(), _, rfl, rfl, jg, jr, jb⟩
          · intro _ L w' hL hpre hJ a ha
            obtain ⟨jg, jr, jb⟩ := hJ
            simp [Region.binds] at hpre
            refine .inl ⟨wanted_none rfl, ?_⟩
            exact wp_move' (.tmp 10) (.inl rfl) (.int .i64 (k : Int)) (by rw [ha, eval_puts_out rfl]; rfl) ⟨(), _, rfl, rfl, jg, jr, jb⟩
          · intro _ L w' hL hpre hJ a ha
            obtain ⟨jg, jr, jb⟩ := hJ
            simp [Region.binds] at hpre
            refine .inl ⟨wanted_none rfl, ?_⟩
            have e43 : a.eval (.tmp 43) = .slice (some ⟨bb, oo, none⟩) K c := by rw [ha]; exact eval_puts_in (i := 1) rfl (by simp [hpre]) (by simp) rfl
            have e44 : a.eval (.tmp 44) = .int .i64 (k : Int) := by rw [ha]; exact eval_puts_in (i := 2) rfl (by simp [hpre]) (by simp) rfl
            clear ha
            have jg' := Lib.hid jg
            have jr' := Lib.hid jr
            have jb' := Lib.hid jb
            clear jg jr jb
            refine wp_intro fun K HK => ?_
            unfold Oper.wp
            simp only [execOp, e43, e44]
            go_simp
            exact HK.out _ _ ⟨(), _, rfl, rfl, jg'.out, jr'.out, jb'.out⟩
          · intro _ L w' hL hpre hJ a ha
            obtain ⟨jg, jr, jb⟩ := hJ
            simp [Region.binds] at hpre
            refine .inl ⟨wanted_none rfl, ?_⟩
            exact wp_load_mid 44 (.tmp 45) rfl bb (oo + k * 7) (by rw [ha]; exact eval_puts_in (i := 3) rfl (by simp [hpre]) (by simp) rfl) (x.v) _ (jr) Tryz.underlying44 rfl fltInfo ⟨(), _, rfl, rfl, jg, jr, jb⟩
          · intro _ L w' hL hpre hJ a ha
            obtain ⟨jg, jr, jb⟩ := hJ
            simp [Region.binds] at hpre
            refine .inl ⟨wanted_none rfl, ?_⟩
            have e42 : a.eval (.tmp 42) = .agg (geoV D B P).toArray := by rw [ha]; exact eval_puts_in (i := 0) rfl (by simp [hpre]) (by simp) rfl
            have e46 : a.eval (.tmp 46) = .agg (x.v).toArray := by rw [ha]; exact eval_puts_in (i := 4) rfl (by simp [hpre]) (by simp) rfl
            clear ha
            have jg' := Lib.hid jg
            have jr' := Lib.hid jr
            have jb' := Lib.hid jb
            clear jg jr jb
            refine wp_intro fun K HK => ?_
            unfold Oper.wp
            simp only [execOp, resolve, List.map_toArray, List.map_cons, List.map_nil, e42, e46]
            go_simp
            refine (nand.may_any D B P x w' (by omega)).mono ?_
            rw [hm]
            rintro e w'' ⟨rfl, hb⟩
            exact HK.out _ _ ⟨(), _, rfl, rfl, blk_below jg'.out hb, range_keep' jr'.out hb, jb'.out.trans (hb.mono jb'.out.size)⟩
        · intro _ L w' hL hJ
          obtain ⟨jg, jr, jb⟩ := hJ
          clear hL
          simp only [List.foldl_cons, List.foldl_nil]
          have HBx := Lib.hid jb
          clear jg jr jb
          go_simp
          go_wp2_with fail
          go_roundw
          case rel => exact ⟨k + 1, by omega, by go_num, by rw [HNX.out]; simp only [Bool.false_eq_true, if_false, List.append_nil]; rw [← HQ.out]; exact HO.out.below HBx.out, HB.out.trans (HBx.out.mono HB.out.size)⟩
          case measure => simp [intOf]; omega
      | true =>
        rw [hm] at HNX
        refine wp_region_puts_g (by kernel_rfl) (by kernel_rfl) (X := Unit) (fun _ => [(some 42, .agg (geoV D B P).toArray), (some 43, .slice (some ⟨bb, oo, none⟩) K c), (some 44, .int .i64 (k : Int)), (some 45, .pointer (some ⟨bb, oo + k * 7, none⟩)), (some 46, .agg (x.v).toArray), (some 47, .bool true)])
          (fun _ L w' => w'.heap[w.heap.size]? = some (.cells (geoV D B P).toArray 25 (0, 0)) ∧ w'.rangeAt bb (oo + k * 7) x.v ∧ Below wr.heap.size wr w') (fun _ => rfl) (by kernel_rfl) ⟨(), fun _ _ => ⟨hg, hRr, (Below.refl _ wr).drew⟩⟩ ?_ ?_
        · refine ⟨?_, ?_, ?_, ?_, ?_, ?_, trivial⟩
          · intro _ L w' hL hpre hJ a ha
            obtain ⟨jg, jr, jb⟩ := hJ
            simp [Region.binds] at hpre
            refine .inl ⟨wanted_none rfl, ?_⟩
            exact wp_load_mid 25 (.tmp 3) rfl w.heap.size 0 (by rw [ha, eval_puts_out rfl]; rfl) (geoV D B P) _ (range_blk jg) Tryz.underlying25 rfl geoInfo ⟨(), _, rfl, rfl, jg, jr, jb⟩
          · intro _ L w' hL hpre hJ a ha
            obtain ⟨jg, jr, jb⟩ := hJ
            simp [Region.binds] at hpre
            refine .inl ⟨wanted_none rfl, ?_⟩
            exact wp_move' (.tmp 1) (.inl rfl) (.slice (some ⟨bb, oo, none⟩) K c) (by rw [ha, eval_puts_out rfl]; rfl) ⟨(), _, rfl, rfl, jg, jr, jb⟩
          · intro _ L w' hL hpre hJ a ha
            obtain ⟨jg, jr, jb⟩ := hJ
            simp [Region.binds] at hpre
            refine .inl ⟨wanted_none rfl, ?_⟩
            exact wp_move' (.tmp 10) (.inl rfl) (.int .i64 (k : Int)) (by rw [ha, eval_puts_out rfl]; rfl) ⟨(), _, rfl, rfl, jg, jr, jb⟩
          · intro _ L w' hL hpre hJ a ha
            obtain ⟨jg, jr, jb⟩ := hJ
            simp [Region.binds] at hpre
            refine .inl ⟨wanted_none rfl, ?_⟩
            have e43 : a.eval (.tmp 43) = .slice (some ⟨bb, oo, none⟩) K c := by rw [ha]; exact eval_puts_in (i := 1) rfl (by simp [hpre]) (by simp) rfl
            have e44 : a.eval (.tmp 44) = .int .i64 (k : Int) := by rw [ha]; exact eval_puts_in (i := 2) rfl (by simp [hpre]) (by simp) rfl
            clear ha
            have jg' := Lib.hid jg
            have jr' := Lib.hid jr
            have jb' := Lib.hid jb
            clear jg jr jb
            refine wp_intro fun K HK => ?_
            unfold Oper.wp
            simp only [execOp, e43, e44]
            go_simp
            exact HK.out _ _ ⟨(), _, rfl, rfl, jg'.out, jr'.out, jb'.out⟩
          · intro _ L w' hL hpre hJ a ha
            obtain ⟨jg, jr, jb⟩ := hJ
            simp [Region.binds] at hpre
            refine .inl ⟨wanted_none rfl, ?_⟩
            exact wp_load_mid 44 (.tmp 45) rfl bb (oo + k * 7) (by rw [ha]; exact eval_puts_in (i := 3) rfl (by simp [hpre]) (by simp) rfl) (x.v) _ (jr) Tryz.underlying44 rfl fltInfo ⟨(), _, rfl, rfl, jg, jr, jb⟩
          · intro _ L w' hL hpre hJ a ha
            obtain ⟨jg, jr, jb⟩ := hJ
            simp [Region.binds] at hpre
            refine .inl ⟨wanted_none rfl, ?_⟩
            have e42 : a.eval (.tmp 42) = .agg (geoV D B P).toArray := by rw [ha]; exact eval_puts_in (i := 0) rfl (by simp [hpre]) (by simp) rfl
            have e46 : a.eval (.tmp 46) = .agg (x.v).toArray := by rw [ha]; exact eval_puts_in (i := 4) rfl (by simp [hpre]) (by simp) rfl
            clear ha
            have jg' := Lib.hid jg
            have jr' := Lib.hid jr
            have jb' := Lib.hid jb
            clear jg jr jb
            refine wp_intro fun K HK => ?_
            unfold Oper.wp
            simp only [execOp, resolve, List.map_toArray, List.map_cons, List.map_nil, e42, e46]
            go_simp
            refine (nand.may_any D B P x w' (by omega)).mono ?_
            rw [hm]
            rintro e w'' ⟨rfl, hb⟩
            exact HK.out _ _ ⟨(), _, rfl, rfl, blk_below jg'.out hb, range_keep' jr'.out hb, jb'.out.trans (hb.mono jb'.out.size)⟩
        · intro _ L w' hL hJ
          obtain ⟨jg, jr, jb⟩ := hJ
          clear hL
          simp only [List.foldl_cons, List.foldl_nil]
          have HBx := Lib.hid jb
          clear jg jr jb
          go_simp
          obtain ⟨wm, hwm⟩ : ∃ y : World, y = w' := ⟨_, rfl⟩
          rw [← hwm] at HBx ⊢
          clear hwm
          have hrm := range_keep' HRr.out HBx.out
          have him := (HO.out.below HBx.out).alloc (.cells x.v.toArray 44)
          have hbm := (HB.out.trans (HBx.out.mono HB.out.size)).alloc (HB.out.trans (HBx.out.mono HB.out.size)).size (.cells x.v.toArray 44)
          have hrd : Rds (wm.alloc (.cells x.v.toArray 44)) (wm.alloc (.cells x.v.toArray 44)).heap.size (some ⟨wm.heap.size, 0, none⟩) 7 1 [x.v] := rds_one (row := x.v) (heap_new' wm (.cells x.v.toArray 44) _ rfl)
          have hs5 := hbm.size
          clear hg ho hb hm
          go_wp2_with (first | (refine wpList_load_mid rfl 44 (.tmp 51) rfl bb (oo + k * 7) rfl x.v _ hrm Tryz.underlying44 rfl fltInfo ?_) | (refine wpList_buildOne rfl 47 (.tmp 52) rfl 44 x.v _ 7 56 rfl Tryz.underlying47 fltInfo3 rfl (by decide) (by decide) ?_) | (at_builtin; refine wpList_appendRows rfl (.tmp 48) (.tmp 53) 47 rfl 44 _ 7 56 Tryz.underlying47 fltInfo3 rfl (by decide) him hbm rfl rfl hrd (fun r hr => by rw [List.mem_singleton.1 hr]; exact one_flt x) (by unfold maxLen; omega) (by omega) hs5 (Nat.le_refl _) ?_; intro v6 w6 hown6 hb6 hgr6 hat6))
          have HO6 := Lib.hid (show OwnRows w6 w4.heap.size 44 7 v6 (q + 1) (flts (kept ++ [x])) by have := hown6; rw [show flts (kept ++ [x]) = flts kept ++ [x.v] by simp [flts]]; exact this)
          have HB6 := Lib.hid hb6
          clear hrm him hbm hrd hs5 hown6 hb6 hgr6 hat6
          go_roundw
          case rel => exact ⟨k + 1, by omega, by go_num, by rw [HNX.out]; simp only [if_true]; rw [List.length_append, ← HQ.out]; exact HO6.out, HB6.out⟩
          case measure => simp [intOf]; omega
    · obtain rfl : k = K := by omega
      have hL : (l1.take k).filter (mayF D B P) = l1.filter (mayF D B P) := by rw [List.take_of_length_le (by rw [HL1.out]; exact Nat.le_refl _)]
      obtain ⟨Ls, hLL⟩ : ∃ Ls, Ls = l1.filter (mayF D B P) := ⟨_, rfl⟩
      rw [hL, ← hLL]
      rw [hL, ← hLL] at ho
      rw [← hLL] at HP4
      have hL20 : Ls.length ≤ 20 := by rw [hLL]; have := List.length_filter_le (mayF D B P) l1; have := HL1.out; omega
      have hLwf : ∀ f ∈ Ls, f.wf := fun f hf => HWF.out f (by rw [hLL] at hf; exact (List.mem_filter.1 hf).1)
      have HPr := Lib.hid (HP4.out.below hb)
      have CL := HPr.out.left
      rw [sortF_len] at CL
      have HCL := Lib.hid CL
      have HOr := Lib.hid ho
      have HBr := Lib.hid (HB4.out.trans (hb.mono HB4.out.size))
      have HSr := Lib.hid (show w4.heap.size ≤ wr.heap.size from hb.size)
      have HSw := Lib.hid (show w.heap.size ≤ w4.heap.size from HB4.out.size)
      have HLW := Lib.hid (And.intro hL20 hLwf)
      obtain ⟨S, hS⟩ : ∃ S, S = w4.heap.size := ⟨_, rfl⟩
      rw [← hS] at HPr HOr HSr HSw
      obtain ⟨bp, hbp⟩ : ∃ bp, bp = w3.heap.size := ⟨_, rfl⟩
      have HBW := Lib.hid (show w.heap.size ≤ bp by rw [hbp]; exact HSW3.out)
      have HBP := Lib.hid (show bp ≤ S by rw [hbp, hS]; exact HS34.out)
      rw [← hbp] at HPr
      have hl20 : Ls.length ≤ 20 := hL20
      obtain ⟨q, hq⟩ : ∃ q, q = Ls.length := ⟨_, rfl⟩
      rw [← hq]
      rw [← hq] at HOr HCL hl20
      have HQ := Lib.hid hq
      have hqq : ((q : Int) != (q : Int)) = false := by simp
      clear hL hLL ho hb hL20 hLwf CL HP4 HB4 HG4 HR4 hS hbp HS34 hk hlt HR1 HL1 HWF hq
      go_wp2_with fail
      refine HCL.out.mono ?_
      rintro e wq ⟨rfl, rfl⟩
      clear HCL
      go_wp2_with fail
      clear hqq
      go_loopw [9, 11] (fun vl i wr => Out5 w bp S pp n2 vl i wr) (fun _ i _ => n2 - (intOf i).toNat)
      case atStart => exact Out5.of 0 Ls (by omega) (by omega) rfl HLW.out.1 HLW.out.2 HPr.out (by rw [← HQ.out]; exact HOr.out) HSr.out HBr.out
      case round =>
        clear HPr HOr HSr HBr HLW HQ hl20
        obtain ⟨k, Ls, hk, hk12, rfl, hl20, hLwf, hp, ho, hs, hb⟩ := hrel
        obtain ⟨A9, c9, rfl, hc9, -⟩ := ho.slice
        have HLw := Lib.hid hLwf
        by_cases hlt : k < n2 ∧ k < 12
        · obtain ⟨b2, o2, rfl, hb2, hc⟩ := (HR2.out.below hb (Nat.le_refl _)).at_ hlt.1
          have hkl : k < ts.length := by rw [HZL.out]; exact hlt.1
          rw [show (ints .i64 ts)[k]? = some (.int .i64 ts[k]) by rw [ints, List.getElem?_map, List.getElem?_eq_getElem hkl]; rfl] at hc
          generalize ts[k] = t at *
          have hlt1 : (k : Int) < (n2 : Int) := by omega
          have hlt2 : (k : Int) < 12 := by omega
          have HD := Lib.hid (hp.due t (by omega) (by have := HBP.out; omega))
          have HO := Lib.hid ho
          have HB := Lib.hid hb
          have HP := Lib.hid hp
          obtain ⟨nL, hnL⟩ : ∃ nL, nL = Ls.length := ⟨_, rfl⟩
          have HNL := Lib.hid hnL
          rw [← hnL]
          rw [← hnL] at HO hl20 hc9
          have hlt12 : k < 12 := hlt.2
          have hkn2 : k < n2 := hlt.1
          clear hp ho hb hkl hLwf hnL hlt
          go_upto_region 18 with fail
          generalize hwr0 : wr = wr0 at *
          clear hwr0
          have hcD := hc
          go_wp2_with fail
          refine HD.out.mono ?_
          rintro e w6 ⟨vg, rfl, hgot, hp6, hg6⟩
          have hpp := hp6.1
          have HO6 := Lib.hid (show OwnRows w6 S 44 7 (.slice A9 nL c9) nL (flts Ls) from ⟨HO.out.1.kept hg6 (.inr (own_off' HO.out.1 hpp)), HO.out.2⟩)
          have HS6 := Lib.hid (show S ≤ w6.heap.size from Nat.le_trans hs hg6.size)
          have HB6 := Lib.hid (HB.out.grown hg6 HB.out.size (fun j hj => by cases hj; obtain ⟨-, A', c', hpa, -⟩ := hp6; have := hpa.low; have := HBW.out; omega))
          have hc6 : w6.cell? ⟨b2, o2 + k, none⟩ = some (.int .i64 t) := (World.cell?_of_block (hg6.block b2 (Nat.lt_of_lt_of_le hb2 HB.out.size) (fun e => by cases e; obtain ⟨-, A', c', hpa, -⟩ := hp6; have := hpa.low; have := HBW.out; omega))).trans hc
          have HC6 := Lib.hid hc6
          have HP6 := Lib.hid hp6
          obtain ⟨Ag, cg, rfl, -, -⟩ := hgot.slice
          have HGt := Lib.hid hgot.rds
          obtain ⟨ng, hng⟩ : ∃ ng, ng = (lowL t Ls).length := ⟨_, rfl⟩
          rw [← hng] at HGt ⊢
          have HNG := Lib.hid hng
          have HI0 := Lib.hid (In5.start w6 t Ls)
          clear hgot hp6 hg6 HD HO HB HP hc hcD hc6 hpp hs hb2 hng
          go_upto_block 4 with fail
          go_cut [13, 14] (fun vw vr wx => In5 w6 wx t Ls nL vw vr)
          case first =>
            go_wp2_with fail
            go_loopw [13, 14, 15, 16] (fun vw vr i _ wx => RI w6 t Ls nL vw vr i wx) (fun _ _ i _ _ => nL - (intOf i).toNat)
            case atStart => exact ⟨0, by omega, rfl, HI0.out⟩
            case round =>
              clear HI0
              obtain ⟨k5, hk5, rfl, hI⟩ := hrel
              obtain ⟨Aw, cw, rfl, hcw, -⟩ := hI.want.slice
              obtain ⟨Ar, cr, rfl, hcr, -⟩ := hI.rest.slice
              by_cases hl5 : k5 < nL
              · have hkl : k5 < Ls.length := by rw [← HNL.out]; exact hl5
                obtain ⟨x, hKx⟩ : ∃ x, Ls[k5]? = some x := ⟨_, List.getElem?_eq_getElem hkl⟩
                have hr9 := (HO6.out.rds).below hI.below (Nat.le_refl _)
                obtain ⟨bb, oo, rfl, hbb, hRr⟩ := rds_range hr9 hl5 (r := x.v) (flts_at hKx)
                have hl5I : (k5 : Int) < (nL : Int) := by omega
                have hx0 : wr.cell? ⟨bb, oo + k5 * 7, none⟩ = some (.int .i64 x.at_) := hRr 0 _ rfl
                have ht0 : wr.cell? ⟨b2, o2 + k, none⟩ = some (.int .i64 t) := (hI.below.cell (p := ⟨b2, o2 + k, none⟩) (World.block_lt_of_cell? _ _ HC6.out)).trans HC6.out
                have hlw : (lowL t (Ls.take k5)).length ≤ k5 := by have := lowhigh_len t (Ls.take k5); have : (Ls.take k5).length ≤ k5 := List.length_take_le _ _; omega
                have hlr : (highL t (Ls.take k5)).length ≤ k5 := by have := lowhigh_len t (Ls.take k5); have : (Ls.take k5).length ≤ k5 := List.length_take_le _ _; omega
                obtain ⟨nw, hnw⟩ : ∃ q, q = (lowL t (Ls.take k5)).length := ⟨_, rfl⟩
                obtain ⟨nr, hnr⟩ : ∃ q, q = (highL t (Ls.take k5)).length := ⟨_, rfl⟩
                rw [← hnw, ← hnr]
                rw [← hnw] at hlw hcw hI
                rw [← hnr] at hlr hcr hI
                have HNW := Lib.hid hnw
                have HNR := Lib.hid hnr
                have HI := Lib.hid hI
                have HKX := Lib.hid hKx
                have HRr := Lib.hid hRr
                clear hnw hnr hI hKx hkl hr9 hRr
                go_upto_region 23 with fail
                by_cases hat : t < x.at_
                · have HAT := Lib.hid hat
                  have HQ := Lib.hid (show decide (t < x.at_) = true from decide_eq_true hat)
                  clear hat
                  refine wp_region_puts_g (by kernel_rfl) (by kernel_rfl) (X := Unit) (fun _ => [(some 82, .slice (some ⟨bb, oo, none⟩) nL c9), (some 83, .int .i64 (k5 : Int)), (some 84, .pointer (some ⟨bb, oo + k5 * 7, none⟩)), (some 85, .pointer (some ⟨bb, oo + k5 * 7, none⟩)), (some 86, .int .i64 x.at_), (some 87, .slice (some ⟨b2, o2, none⟩) n2 c2), (some 88, .int .i64 (k : Int)), (some 89, .pointer (some ⟨b2, o2 + k, none⟩)), (some 90, .int .i64 t), (some 91, .bool true)])
                    (fun _ L w' => w'.cell? ⟨bb, oo + k5 * 7, none⟩ = some (.int .i64 x.at_) ∧ w'.cell? ⟨b2, o2 + k, none⟩ = some (.int .i64 t) ∧ Below wr.heap.size wr w') (fun _ => rfl) (by kernel_rfl) ⟨(), fun _ _ => ⟨hx0, ht0, (Below.refl _ wr).drew⟩⟩ ?_ ?_
                  · refine ⟨?_, ?_, ?_, ?_, ?_, ?_, ?_, ?_, ?_, ?_, trivial⟩
                    · intro _ L w' hL hpre hJ a ha
                      obtain ⟨jx, jt, jb⟩ := hJ
                      simp [Region.binds] at hpre
                      refine .inl ⟨wanted_none rfl, ?_⟩
                      exact wp_move' (.tmp 9) (.inl rfl) (.slice (some ⟨bb, oo, none⟩) nL c9) (by rw [ha, eval_puts_out rfl]; rfl) ⟨(), _, rfl, rfl, jx, jt, jb⟩
                    · intro _ L w' hL hpre hJ a ha
                      obtain ⟨jx, jt, jb⟩ := hJ
                      simp [Region.binds] at hpre
                      refine .inl ⟨wanted_none rfl, ?_⟩
                      exact wp_move' (.tmp 15) (.inl rfl) (.int .i64 (k5 : Int)) (by rw [ha, eval_puts_out rfl]; rfl) ⟨(), _, rfl, rfl, jx, jt, jb⟩
                    · intro _ L w' hL hpre hJ a ha
                      obtain ⟨jx, jt, jb⟩ := hJ
                      simp [Region.binds] at hpre
                      refine .inl ⟨wanted_none rfl, ?_⟩
                      have e82 : a.eval (.tmp 82) = .slice (some ⟨bb, oo, none⟩) nL c9 := by rw [ha]; exact eval_puts_in (i := 0) rfl (by simp [hpre]) (by simp) rfl
                      have e83 : a.eval (.tmp 83) = .int .i64 (k5 : Int) := by rw [ha]; exact eval_puts_in (i := 1) rfl (by simp [hpre]) (by simp) rfl
                      clear ha
                      have jx' := Lib.hid jx
                      have jt' := Lib.hid jt
                      have jb' := Lib.hid jb
                      clear jx jt jb
                      refine wp_intro fun K HK => ?_
                      unfold Oper.wp
                      simp only [execOp, e82, e83]
                      go_simp
                      exact HK.out _ _ ⟨(), _, rfl, rfl, jx'.out, jt'.out, jb'.out⟩
                    · intro _ L w' hL hpre hJ a ha
                      obtain ⟨jx, jt, jb⟩ := hJ
                      simp [Region.binds] at hpre
                      refine .inl ⟨wanted_none rfl, ?_⟩
                      have e84 : a.eval (.tmp 84) = .pointer (some ⟨bb, oo + k5 * 7, none⟩) := by rw [ha]; exact eval_puts_in (i := 2) rfl (by simp [hpre]) (by simp) rfl
                      clear ha
                      have jx' := Lib.hid jx
                      have jt' := Lib.hid jt
                      have jb' := Lib.hid jb
                      clear jx jt jb
                      refine wp_intro fun K HK => ?_
                      unfold Oper.wp
                      simp only [execOp, e84]
                      go_simp
                      exact HK.out _ _ ⟨(), _, rfl, rfl, jx'.out, jt'.out, jb'.out⟩
                    · intro _ L w' hL hpre hJ a ha
                      obtain ⟨jx, jt, jb⟩ := hJ
                      simp [Region.binds] at hpre
                      refine .inl ⟨wanted_none rfl, ?_⟩
                      have e85 : a.eval (.tmp 85) = .pointer (some ⟨bb, oo + k5 * 7, none⟩) := by rw [ha]; exact eval_puts_in (i := 3) rfl (by simp [hpre]) (by simp) rfl
                      clear ha
                      have jc := jx
                      have jx' := Lib.hid jx
                      have jt' := Lib.hid jt
                      have jb' := Lib.hid jb
                      clear jx jt jb
                      refine wp_intro fun K HK => ?_
                      unfold Oper.wp
                      simp only [execOp, e85]
                      go_simp
                      exact HK.out _ _ ⟨(), _, rfl, rfl, jx'.out, jt'.out, jb'.out⟩
                    · intro _ L w' hL hpre hJ a ha
                      obtain ⟨jx, jt, jb⟩ := hJ
                      simp [Region.binds] at hpre
                      refine .inl ⟨wanted_none rfl, ?_⟩
                      exact wp_move' (.tmp 2) (.inl rfl) (.slice (some ⟨b2, o2, none⟩) n2 c2) (by rw [ha, eval_puts_out rfl]; rfl) ⟨(), _, rfl, rfl, jx, jt, jb⟩
                    · intro _ L w' hL hpre hJ a ha
                      obtain ⟨jx, jt, jb⟩ := hJ
                      simp [Region.binds] at hpre
                      refine .inl ⟨wanted_none rfl, ?_⟩
                      exact wp_move' (.tmp 11) (.inl rfl) (.int .i64 (k : Int)) (by rw [ha, eval_puts_out rfl]; rfl) ⟨(), _, rfl, rfl, jx, jt, jb⟩
                    · intro _ L w' hL hpre hJ a ha
                      obtain ⟨jx, jt, jb⟩ := hJ
                      simp [Region.binds] at hpre
                      refine .inl ⟨wanted_none rfl, ?_⟩
                      have e87 : a.eval (.tmp 87) = .slice (some ⟨b2, o2, none⟩) n2 c2 := by rw [ha]; exact eval_puts_in (i := 5) rfl (by simp [hpre]) (by simp) rfl
                      have e88 : a.eval (.tmp 88) = .int .i64 (k : Int) := by rw [ha]; exact eval_puts_in (i := 6) rfl (by simp [hpre]) (by simp) rfl
                      clear ha
                      have jx' := Lib.hid jx
                      have jt' := Lib.hid jt
                      have jb' := Lib.hid jb
                      clear jx jt jb
                      refine wp_intro fun K HK => ?_
                      unfold Oper.wp
                      simp only [execOp, e87, e88]
                      go_simp
                      exact HK.out _ _ ⟨(), _, rfl, rfl, jx'.out, jt'.out, jb'.out⟩
                    · intro _ L w' hL hpre hJ a ha
                      obtain ⟨jx, jt, jb⟩ := hJ
                      simp [Region.binds] at hpre
                      refine .inl ⟨wanted_none rfl, ?_⟩
                      have e89 : a.eval (.tmp 89) = .pointer (some ⟨b2, o2 + k, none⟩) := by rw [ha]; exact eval_puts_in (i := 7) rfl (by simp [hpre]) (by simp) rfl
                      clear ha
                      have jc := jt
                      have jx' := Lib.hid jx
                      have jt' := Lib.hid jt
                      have jb' := Lib.hid jb
                      clear jx jt jb
                      refine wp_intro fun K HK => ?_
                      unfold Oper.wp
                      simp only [execOp, e89]
                      go_simp
                      exact HK.out _ _ ⟨(), _, rfl, rfl, jx'.out, jt'.out, jb'.out⟩
                    · intro _ L w' hL hpre hJ a ha
                      obtain ⟨jx, jt, jb⟩ := hJ
                      simp [Region.binds] at hpre
                      refine .inl ⟨wanted_none rfl, ?_⟩
                      have e86 : a.eval (.tmp 86) = .int .i64 x.at_ := by rw [ha]; exact eval_puts_in (i := 4) rfl (by simp [hpre]) (by simp) rfl
                      have e90 : a.eval (.tmp 90) = .int .i64 t := by rw [ha]; exact eval_puts_in (i := 8) rfl (by simp [hpre]) (by simp) rfl
                      clear ha
                      have hq := HQ.out
                      have jx' := Lib.hid jx
                      have jt' := Lib.hid jt
                      have jb' := Lib.hid jb
                      clear jx jt jb
                      refine wp_intro fun K HK => ?_
                      unfold Oper.wp
                      simp only [execOp, e86, e90]
                      go_simp
                      exact HK.out _ _ ⟨(), _, rfl, rfl, jx'.out, jt'.out, jb'.out⟩
                  · intro _ L w' hL hJ
                    obtain ⟨jx, jt, jb⟩ := hJ
                    clear hL
                    simp only [List.foldl_cons, List.foldl_nil]
                    have HBx := Lib.hid jb
                    clear jx jt jb
                    go_simp
                    obtain ⟨wm, hwm⟩ : ∃ y : World, y = w' := ⟨_, rfl⟩
                    rw [← hwm] at HBx ⊢
                    clear hwm
                    have hrm := range_keep' HRr.out HBx.out
                    have HIm := Lib.hid (HI.out.kept HBx.out)
                    have him := HIm.out.rest.alloc (.cells x.v.toArray 44)
                    have hbm := HIm.out.below.alloc HIm.out.below.size (.cells x.v.toArray 44)
                    have hrd : Rds (wm.alloc (.cells x.v.toArray 44)) (wm.alloc (.cells x.v.toArray 44)).heap.size (some ⟨wm.heap.size, 0, none⟩) 7 1 [x.v] := rds_one (row := x.v) (heap_new' wm (.cells x.v.toArray 44) _ rfl)
                    rw [← HNR.out] at him
                    have hs5 := hbm.size
                    clear hx0 ht0
                    go_wp2_with (first | (refine wpList_load_mid rfl 44 (.tmp 95) rfl bb (oo + k5 * 7) rfl x.v _ hrm Tryz.underlying44 rfl fltInfo ?_) | (refine wpList_buildOne rfl 47 (.tmp 96) rfl 44 x.v _ 7 56 rfl Tryz.underlying47 fltInfo3 rfl (by decide) (by decide) ?_) | (at_builtin; refine wpList_appendRows rfl (.tmp 92) (.tmp 97) 47 rfl 44 _ 7 56 Tryz.underlying47 fltInfo3 rfl (by decide) him hbm rfl rfl hrd (fun r hr => by rw [List.mem_singleton.1 hr]; exact one_flt x) (by unfold maxLen; omega) (by omega) hs5 (Nat.le_refl _) ?_; intro v6 w7 hown6 hb7 hgr6 hat6))
                    have HI7 := Lib.hid (HIm.out.later HKX.out HAT.out (by rw [← HNR.out]; exact hown6) hb7 hgr6 hat6)
                    clear hrm him hbm hrd hs5 hown6 hb7 hgr6 hat6 HIm
                    go_roundw
                    case rel => exact RI.of (k5 + 1) (by omega) (by go_num) HI7.out
                    case measure => simp [intOf]; omega
                · have HAT := Lib.hid hat
                  have HQ := Lib.hid (show decide (t < x.at_) = false from decide_eq_false hat)
                  clear hat
                  refine wp_region_puts_g (by kernel_rfl) (by kernel_rfl) (X := Unit) (fun _ => [(some 82, .slice (some ⟨bb, oo, none⟩) nL c9), (some 83, .int .i64 (k5 : Int)), (some 84, .pointer (some ⟨bb, oo + k5 * 7, none⟩)), (some 85, .pointer (some ⟨bb, oo + k5 * 7, none⟩)), (some 86, .int .i64 x.at_), (some 87, .slice (some ⟨b2, o2, none⟩) n2 c2), (some 88, .int .i64 (k : Int)), (some 89, .pointer (some ⟨b2, o2 + k, none⟩)), (some 90, .int .i64 t), (some 91, .bool false)])
                    (fun _ L w' => w'.cell? ⟨bb, oo + k5 * 7, none⟩ = some (.int .i64 x.at_) ∧ w'.cell? ⟨b2, o2 + k, none⟩ = some (.int .i64 t) ∧ Below wr.heap.size wr w') (fun _ => rfl) (by kernel_rfl) ⟨(), fun _ _ => ⟨hx0, ht0, (Below.refl _ wr).drew⟩⟩ ?_ ?_
                  · refine ⟨?_, ?_, ?_, ?_, ?_, ?_, ?_, ?_, ?_, ?_, trivial⟩
                    · intro _ L w' hL hpre hJ a ha
                      obtain ⟨jx, jt, jb⟩ := hJ
                      simp [Region.binds] at hpre
                      refine .inl ⟨wanted_none rfl, ?_⟩
                      exact wp_move' (.tmp 9) (.inl rfl) (.slice (some ⟨bb, oo, none⟩) nL c9) (by rw [ha, eval_puts_out rfl]; rfl) ⟨(), _, rfl, rfl, jx, jt, jb⟩
                    · intro _ L w' hL hpre hJ a ha
                      obtain ⟨jx, jt, jb⟩ := hJ
                      simp [Region.binds] at hpre
                      refine .inl ⟨wanted_none rfl, ?_⟩
                      exact wp_move' (.tmp 15) (.inl rfl) (.int .i64 (k5 : Int)) (by rw [ha, eval_puts_out rfl]; rfl) ⟨(), _, rfl, rfl, jx, jt, jb⟩
                    · intro _ L w' hL hpre hJ a ha
                      obtain ⟨jx, jt, jb⟩ := hJ
                      simp [Region.binds] at hpre
                      refine .inl ⟨wanted_none rfl, ?_⟩
                      have e82 : a.eval (.tmp 82) = .slice (some ⟨bb, oo, none⟩) nL c9 := by rw [ha]; exact eval_puts_in (i := 0) rfl (by simp [hpre]) (by simp) rfl
                      have e83 : a.eval (.tmp 83) = .int .i64 (k5 : Int) := by rw [ha]; exact eval_puts_in (i := 1) rfl (by simp [hpre]) (by simp) rfl
                      clear ha
                      have jx' := Lib.hid jx
                      have jt' := Lib.hid jt
                      have jb' := Lib.hid jb
                      clear jx jt jb
                      refine wp_intro fun K HK => ?_
                      unfold Oper.wp
                      simp only [execOp, e82, e83]
                      go_simp
                      exact HK.out _ _ ⟨(), _, rfl, rfl, jx'.out, jt'.out, jb'.out⟩
                    · intro _ L w' hL hpre hJ a ha
                      obtain ⟨jx, jt, jb⟩ := hJ
                      simp [Region.binds] at hpre
                      refine .inl ⟨wanted_none rfl, ?_⟩
                      have e84 : a.eval (.tmp 84) = .pointer (some ⟨bb, oo + k5 * 7, none⟩) := by rw [ha]; exact eval_puts_in (i := 2) rfl (by simp [hpre]) (by simp) rfl
                      clear ha
                      have jx' := Lib.hid jx
                      have jt' := Lib.hid jt
                      have jb' := Lib.hid jb
                      clear jx jt jb
                      refine wp_intro fun K HK => ?_
                      unfold Oper.wp
                      simp only [execOp, e84]
                      go_simp
                      exact HK.out _ _ ⟨(), _, rfl, rfl, jx'.out, jt'.out, jb'.out⟩
                    · intro _ L w' hL hpre hJ a ha
                      obtain ⟨jx, jt, jb⟩ := hJ
                      simp [Region.binds] at hpre
                      refine .inl ⟨wanted_none rfl, ?_⟩
                      have e85 : a.eval (.tmp 85) = .pointer (some ⟨bb, oo + k5 * 7, none⟩) := by rw [ha]; exact eval_puts_in (i := 3) rfl (by simp [hpre]) (by simp) rfl
                      clear ha
                      have jc := jx
                      have jx' := Lib.hid jx
                      have jt' := Lib.hid jt
                      have jb' := Lib.hid jb
                      clear jx jt jb
                      refine wp_intro fun K HK => ?_
                      unfold Oper.wp
                      simp only [execOp, e85]
                      go_simp
                      exact HK.out _ _ ⟨(), _, rfl, rfl, jx'.out, jt'.out, jb'.out⟩
                    · intro _ L w' hL hpre hJ a ha
                      obtain ⟨jx, jt, jb⟩ := hJ
                      simp [Region.binds] at hpre
                      refine .inl ⟨wanted_none rfl, ?_⟩
                      exact wp_move' (.tmp 2) (.inl rfl) (.slice (some ⟨b2, o2, none⟩) n2 c2) (by rw [ha, eval_puts_out rfl]; rfl) ⟨(), _, rfl, rfl, jx, jt, jb⟩
                    · intro _ L w' hL hpre hJ a ha
                      obtain ⟨jx, jt, jb⟩ := hJ
                      simp [Region.binds] at hpre
                      refine .inl ⟨wanted_none rfl, ?_⟩
                      exact wp_move' (.tmp 11) (.inl rfl) (.int .i64 (k : Int)) (by rw [ha, eval_puts_out rfl]; rfl) ⟨(), _, rfl, rfl, jx, jt, jb⟩
                    · intro _ L w' hL hpre hJ a ha
                      obtain ⟨jx, jt, jb⟩ := hJ
                      simp [Region.binds] at hpre
                      refine .inl ⟨wanted_none rfl, ?_⟩
                      have e87 : a.eval (.tmp 87) = .slice (some ⟨b2, o2, none⟩) n2 c2 := by rw [ha]; exact eval_puts_in (i := 5) rfl (by simp [hpre]) (by simp) rfl
                      have e88 : a.eval (.tmp 88) = .int .i64 (k : Int) := by rw [ha]; exact eval_puts_in (i := 6) rfl (by simp [hpre]) (by simp) rfl
                      clear ha
                      have jx' := Lib.hid jx
                      have jt' := Lib.hid jt
                      have jb' := Lib.hid jb
                      clear jx jt jb
                      refine wp_intro fun K HK => ?_
                      unfold Oper.wp
                      simp only [execOp, e87, e88]
                      go_simp
                      exact HK.out _ _ ⟨(), _, rfl, rfl, jx'.out, jt'.out, jb'.out⟩
                    · intro _ L w' hL hpre hJ a ha
                      obtain ⟨jx, jt, jb⟩ := hJ
                      simp [Region.binds] at hpre
                      refine .inl ⟨wanted_none rfl, ?_⟩
                      have e89 : a.eval (.tmp 89) = .pointer (some ⟨b2, o2 + k, none⟩) := by rw [ha]; exact eval_puts_in (i := 7) rfl (by simp [hpre]) (by simp) rfl
                      clear ha
                      have jc := jt
                      have jx' := Lib.hid jx
                      have jt' := Lib.hid jt
                      have jb' := Lib.hid jb
                      clear jx jt jb
                      refine wp_intro fun K HK => ?_
                      unfold Oper.wp
                      simp only [execOp, e89]
                      go_simp
                      exact HK.out _ _ ⟨(), _, rfl, rfl, jx'.out, jt'.out, jb'.out⟩
                    · intro _ L w' hL hpre hJ a ha
                      obtain ⟨jx, jt, jb⟩ := hJ
                      simp [Region.binds] at hpre
                      refine .inl ⟨wanted_none rfl, ?_⟩
                      have e86 : a.eval (.tmp 86) = .int .i64 x.at_ := by rw [ha]; exact eval_puts_in (i := 4) rfl (by simp [hpre]) (by simp) rfl
                      have e90 : a.eval (.tmp 90) = .int .i64 t := by rw [ha]; exact eval_puts_in (i := 8) rfl (by simp [hpre]) (by simp) rfl
                      clear ha
                      have hq := HQ.out
                      have jx' := Lib.hid jx
                      have jt' := Lib.hid jt
                      have jb' := Lib.hid jb
                      clear jx jt jb
                      refine wp_intro fun K HK => ?_
                      unfold Oper.wp
                      simp only [execOp, e86, e90]
                      go_simp
                      exact HK.out _ _ ⟨(), _, rfl, rfl, jx'.out, jt'.out, jb'.out⟩
                  · intro _ L w' hL hJ
                    obtain ⟨jx, jt, jb⟩ := hJ
                    clear hL
                    simp only [List.foldl_cons, List.foldl_nil]
                    have HBx := Lib.hid jb
                    clear jx jt jb hx0 ht0
                    go_simp
                    obtain ⟨wm, hwm⟩ : ∃ y : World, y = w' := ⟨_, rfl⟩
                    rw [← hwm] at HBx ⊢
                    clear hwm
                    have HIm := Lib.hid (HI.out.kept HBx.out)
                    have HRm := Lib.hid (range_keep' HRr.out HBx.out)
                    obtain ⟨W, hW⟩ : ∃ W, W = sortF (lowL t (Ls.take k5)) := ⟨_, rfl⟩
                    have HWl := Lib.hid (show W.length = nw by rw [hW, sortF_len, HNW.out])
                    have HW := Lib.hid hW
                    have hwd := HIm.out.want
                    rw [← hW, ← HNW.out] at hwd
                    have HWd := Lib.hid hwd
                    clear hwd hW
                    go_upto_block 6 with fail
                    go_cut [16] (fun v wx => ∃ j : Nat, v = .int .i64 j ∧ Hi W x j ∧ (∀ i y, i + 1 = j → W[i]? = some y → y.at_ ≤ x.at_) ∧ Below wm.heap.size wm wx)
                    case first =>
                      go_wp2_with fail
                      go_loopw [16] (fun v wx => ∃ j : Nat, v = .int .i64 j ∧ Hi W x j ∧ Below wm.heap.size wm wx) (fun v _ => (intOf v).toNat)
                      case atStart => exact ⟨nw, rfl, by rw [← HWl.out]; exact Hi.start W x, Below.refl _ _⟩
                      case round =>
                        obtain ⟨j, rfl, hhi, hbj⟩ := hrel
                        generalize hwj : wr = wj at *
                        clear hwj
                        have hjw : j ≤ nw := by rw [← HWl.out]; exact hhi.1
                        have HHI := Lib.hid hhi
                        have HBJ := Lib.hid hbj
                        have hxw : wj.cell? ⟨bb, oo + k5 * 7, none⟩ = some (.int .i64 x.at_) := (range_keep' HRm.out hbj) 0 _ rfl
                        rcases Nat.eq_zero_or_pos j with hj0 | hj0
                        · subst hj0
                          rw [show ((0 : Nat) : Int) = 0 from rfl]
                          clear hhi hbj hjw
                          go_upto_region 26 with fail
                          refine wp_region_puts_g (by kernel_rfl) (by kernel_rfl) (X := Unit) (fun _ => [(some 101, .int .i64 ((0 : Int))), (some 102, .bool false), (some 103, .bool false), (some 104, undef), (some 105, undef), (some 106, undef), (some 107, undef), (some 108, undef), (some 109, undef), (some 110, undef), (some 111, undef), (some 112, undef), (some 113, undef), (some 114, undef), (some 115, undef), (some 116, .bool false)])
                            (fun _ L w' => w'.cell? ⟨bb, oo + k5 * 7, none⟩ = some (.int .i64 x.at_) ∧ Below wj.heap.size wj w') (fun _ => rfl) (by kernel_rfl) ⟨(), fun _ _ => ⟨hxw, (Below.refl _ wj).drew⟩⟩ ?_ ?_
                          · refine ⟨?_, ?_, ?_, ?_, ?_, ?_, ?_, ?_, ?_, ?_, ?_, ?_, ?_, ?_, ?_, ?_, trivial⟩
                            · intro _ L w' hL hpre hJ a ha
                              obtain ⟨jx, jb⟩ := hJ
                              simp [Region.binds] at hpre
                              refine .inl ⟨wanted_none rfl, ?_⟩
                              exact wp_move' (.tmp 16) (.inl rfl) (.int .i64 ((0 : Int))) (by rw [ha, eval_puts_out rfl]; rfl) ⟨(), _, rfl, rfl, jx, jb⟩
                            · intro _ L w' hL hpre hJ a ha
                              obtain ⟨jx, jb⟩ := hJ
                              simp [Region.binds] at hpre
                              refine .inl ⟨wanted_none rfl, ?_⟩
                              have e101 : a.eval (.tmp 101) = .int .i64 ((0 : Int)) := by rw [ha]; exact eval_puts_in (i := 0) rfl (by simp [hpre]) (by simp) rfl
                              clear ha
                              have jx' := Lib.hid jx
                              have jb' := Lib.hid jb
                              clear jx jb
                              refine wp_intro fun K HK => ?_
                              unfold Oper.wp
                              simp only [execOp, e101]
                              go_simp
                              exact HK.out _ _ ⟨(), _, rfl, rfl, jx'.out, jb'.out⟩
                            · intro _ L w' hL hpre hJ a ha
                              obtain ⟨jx, jb⟩ := hJ
                              simp [Region.binds] at hpre
                              refine .inl ⟨wanted_none rfl, ?_⟩
                              exact wp_move' (.tmp 102) (.inl rfl) (.bool false) (by rw [ha]; exact eval_puts_in (i := 1) rfl (by simp [hpre]) (by simp) rfl) ⟨(), _, rfl, rfl, jx, jb⟩
                            · intro _ L w' hL hpre hJ a ha
                              obtain ⟨jx, jb⟩ := hJ
                              simp [Region.binds] at hpre
                              exact .inr ⟨wanted_no (g := 2) (t := 103) (b := true) rfl rfl (by rw [ha]; exact eval_puts_in (i := 2) rfl (by simp [hpre]) (by simp) rfl), (), rfl, jx, jb⟩
                            · intro _ L w' hL hpre hJ a ha
                              obtain ⟨jx, jb⟩ := hJ
                              simp [Region.binds] at hpre
                              exact .inr ⟨wanted_no (g := 2) (t := 103) (b := true) rfl rfl (by rw [ha]; exact eval_puts_in (i := 2) rfl (by simp [hpre]) (by simp) rfl), (), rfl, jx, jb⟩
                            · intro _ L w' hL hpre hJ a ha
                              obtain ⟨jx, jb⟩ := hJ
                              simp [Region.binds] at hpre
                              exact .inr ⟨wanted_no (g := 2) (t := 103) (b := true) rfl rfl (by rw [ha]; exact eval_puts_in (i := 2) rfl (by simp [hpre]) (by simp) rfl), (), rfl, jx, jb⟩
                            · intro _ L w' hL hpre hJ a ha
                              obtain ⟨jx, jb⟩ := hJ
                              simp [Region.binds] at hpre
                              exact .inr ⟨wanted_no (g := 2) (t := 103) (b := true) rfl rfl (by rw [ha]; exact eval_puts_in (i := 2) rfl (by simp [hpre]) (by simp) rfl), (), rfl, jx, jb⟩
                            · intro _ L w' hL hpre hJ a ha
                              obtain ⟨jx, jb⟩ := hJ
                              simp [Region.binds] at hpre
                              exact .inr ⟨wanted_no (g := 2) (t := 103) (b := true) rfl rfl (by rw [ha]; exact eval_puts_in (i := 2) rfl (by simp [hpre]) (by simp) rfl), (), rfl, jx, jb⟩
                            · intro _ L w' hL hpre hJ a ha
                              obtain ⟨jx, jb⟩ := hJ
                              simp [Region.binds] at hpre
                              exact .inr ⟨wanted_no (g := 2) (t := 103) (b := true) rfl rfl (by rw [ha]; exact eval_puts_in (i := 2) rfl (by simp [hpre]) (by simp) rfl), (), rfl, jx, jb⟩
                            · intro _ L w' hL hpre hJ a ha
                              obtain ⟨jx, jb⟩ := hJ
                              simp [Region.binds] at hpre
                              exact .inr ⟨wanted_no (g := 2) (t := 103) (b := true) rfl rfl (by rw [ha]; exact eval_puts_in (i := 2) rfl (by simp [hpre]) (by simp) rfl), (), rfl, jx, jb⟩
                            · intro _ L w' hL hpre hJ a ha
                              obtain ⟨jx, jb⟩ := hJ
                              simp [Region.binds] at hpre
                              exact .inr ⟨wanted_no (g := 2) (t := 103) (b := true) rfl rfl (by rw [ha]; exact eval_puts_in (i := 2) rfl (by simp [hpre]) (by simp) rfl), (), rfl, jx, jb⟩
                            · intro _ L w' hL hpre hJ a ha
                              obtain ⟨jx, jb⟩ := hJ
                              simp [Region.binds] at hpre
                              exact .inr ⟨wanted_no (g := 2) (t := 103) (b := true) rfl rfl (by rw [ha]; exact eval_puts_in (i := 2) rfl (by simp [hpre]) (by simp) rfl), (), rfl, jx, jb⟩
                            · intro _ L w' hL hpre hJ a ha
                              obtain ⟨jx, jb⟩ := hJ
                              simp [Region.binds] at hpre
                              exact .inr ⟨wanted_no (g := 2) (t := 103) (b := true) rfl rfl (by rw [ha]; exact eval_puts_in (i := 2) rfl (by simp [hpre]) (by simp) rfl), (), rfl, jx, jb⟩
                            · intro _ L w' hL hpre hJ a ha
                              obtain ⟨jx, jb⟩ := hJ
                              simp [Region.binds] at hpre
                              exact .inr ⟨wanted_no (g := 2) (t := 103) (b := true) rfl rfl (by rw [ha]; exact eval_puts_in (i := 2) rfl (by simp [hpre]) (by simp) rfl), (), rfl, jx, jb⟩
                            · intro _ L w' hL hpre hJ a ha
                              obtain ⟨jx, jb⟩ := hJ
                              simp [Region.binds] at hpre
                              exact .inr ⟨wanted_no (g := 2) (t := 103) (b := true) rfl rfl (by rw [ha]; exact eval_puts_in (i := 2) rfl (by simp [hpre]) (by simp) rfl), (), rfl, jx, jb⟩
                            · intro _ L w' hL hpre hJ a ha
                              obtain ⟨jx, jb⟩ := hJ
                              simp [Region.binds] at hpre
                              refine .inl ⟨wanted_none rfl, ?_⟩
                              have e103 : a.eval (.tmp 103) = .bool false := by rw [ha]; exact eval_puts_in (i := 2) rfl (by simp [hpre]) (by simp) rfl
                              clear ha
                              have jx' := Lib.hid jx
                              have jb' := Lib.hid jb
                              clear jx jb
                              refine wp_intro fun K HK => ?_
                              unfold Oper.wp
                              simp only [execOp, e103]
                              go_simp
                              exact HK.out _ _ ⟨(), _, rfl, rfl, jx'.out, jb'.out⟩
                          · intro _ L w' hL hJ
                            obtain ⟨jx, jb⟩ := hJ
                            clear hL
                            simp only [List.foldl_cons, List.foldl_nil]
                            have HBy := Lib.hid jb
                            clear jx jb hxw
                            go_simp
                            go_wp2_with fail
                            go_meet
                            case rel => exact ⟨0, rfl, HHI.out, by omega, HBJ.out.trans (HBy.out.mono HBJ.out.size)⟩
                        · obtain ⟨jq, rfl⟩ : ∃ jq, j = jq + 1 := ⟨j - 1, by omega⟩
                          have hjqW : jq < W.length := by rw [HWl.out]; omega
                          obtain ⟨y, hy⟩ : ∃ y, W[jq]? = some y := ⟨_, List.getElem?_eq_getElem hjqW⟩
                          obtain ⟨bw, ow, eAw, -, hyr⟩ := rds_range ((HWd.out.rds).below hbj (Nat.le_refl _)) (show jq < nw by omega) (r := y.v) (flts_at hy)
                          subst eAw
                          have hyw : wj.cell? ⟨bw, ow + jq * 7, none⟩ = some (.int .i64 y.at_) := hyr 0 _ rfl
                          have hjqI : (jq : Int) < (nw : Int) := by omega
                          have hjq20 : (jq : Int) < 100 := by omega
                          have HY := Lib.hid hy
                          have HWJ := Lib.hid (show IntKind.i64.wrap (jq : Int) = (jq : Int) by rw [IntKind.wrap_i64]; omega)
                          rw [show ((jq + 1 : Nat) : Int) = (jq : Int) + 1 from rfl]
                          clear hhi hbj hjw hy hyr hjqW hj0
                          go_upto_region 26 with fail
                          by_cases hgt : x.at_ < y.at_
                          · have HGT := Lib.hid hgt
                            have HQ2 := Lib.hid (show decide (x.at_ < y.at_) = true from decide_eq_true hgt)
                            clear hgt
                            refine wp_region_puts_g (by kernel_rfl) (by kernel_rfl) (X := Unit) (fun _ => [(some 101, .int .i64 (((jq : Nat) : Int) + 1)), (some 102, .bool true), (some 103, .bool true), (some 104, .slice (some ⟨bw, ow, none⟩) nw cw), (some 105, .int .i64 (((jq : Nat) : Int) + 1)), (some 106, .int .i64 (jq : Int)), (some 107, .pointer (some ⟨bw, ow + jq * 7, none⟩)), (some 108, .pointer (some ⟨bw, ow + jq * 7, none⟩)), (some 109, .int .i64 y.at_), (some 110, .slice (some ⟨bb, oo, none⟩) nL c9), (some 111, .int .i64 (k5 : Int)), (some 112, .pointer (some ⟨bb, oo + k5 * 7, none⟩)), (some 113, .pointer (some ⟨bb, oo + k5 * 7, none⟩)), (some 114, .int .i64 x.at_), (some 115, .bool true), (some 116, .bool true)])
                              (fun _ L w' => w'.cell? ⟨bb, oo + k5 * 7, none⟩ = some (.int .i64 x.at_) ∧ w'.cell? ⟨bw, ow + jq * 7, none⟩ = some (.int .i64 y.at_) ∧ Below wj.heap.size wj w') (fun _ => rfl) (by kernel_rfl) ⟨(), fun _ _ => ⟨hxw, hyw, (Below.refl _ wj).drew⟩⟩ ?_ ?_
                            · refine ⟨?_, ?_, ?_, ?_, ?_, ?_, ?_, ?_, ?_, ?_, ?_, ?_, ?_, ?_, ?_, ?_, trivial⟩
                              · intro _ L w' hL hpre hJ a ha
                                obtain ⟨jx, jy, jb⟩ := hJ
                                simp [Region.binds] at hpre
                                refine .inl ⟨wanted_none rfl, ?_⟩
                                exact wp_move' (.tmp 16) (.inl rfl) (.int .i64 (((jq : Nat) : Int) + 1)) (by rw [ha, eval_puts_out rfl]; rfl) ⟨(), _, rfl, rfl, jx, jy, jb⟩
                              · intro _ L w' hL hpre hJ a ha
                                obtain ⟨jx, jy, jb⟩ := hJ
                                simp [Region.binds] at hpre
                                refine .inl ⟨wanted_none rfl, ?_⟩
                                have e101 : a.eval (.tmp 101) = .int .i64 (((jq : Nat) : Int) + 1) := by rw [ha]; exact eval_puts_in (i := 0) rfl (by simp [hpre]) (by simp) rfl
                                clear ha
                                have jx' := Lib.hid jx
                                have jy' := Lib.hid jy
                                have jb' := Lib.hid jb
                                clear jx jy jb
                                refine wp_intro fun K HK => ?_
                                unfold Oper.wp
                                simp only [execOp, e101]
                                go_simp
                                exact HK.out _ _ ⟨(), _, rfl, rfl, jx'.out, jy'.out, jb'.out⟩
                              · intro _ L w' hL hpre hJ a ha
                                obtain ⟨jx, jy, jb⟩ := hJ
                                simp [Region.binds] at hpre
                                refine .inl ⟨wanted_none rfl, ?_⟩
                                exact wp_move' (.tmp 102) (.inl rfl) (.bool true) (by rw [ha]; exact eval_puts_in (i := 1) rfl (by simp [hpre]) (by simp) rfl) ⟨(), _, rfl, rfl, jx, jy, jb⟩
                              · intro _ L w' hL hpre hJ a ha
                                obtain ⟨jx, jy, jb⟩ := hJ
                                simp [Region.binds] at hpre
                                refine .inl ⟨wanted_yes (g := 2) (t := 103) (b := true) rfl rfl (by rw [ha]; exact eval_puts_in (i := 2) rfl (by simp [hpre]) (by simp) rfl), ?_⟩
                                exact wp_move' (.tmp 13) (.inl rfl) (.slice (some ⟨bw, ow, none⟩) nw cw) (by rw [ha, eval_puts_out rfl]; rfl) ⟨(), _, rfl, rfl, jx, jy, jb⟩
                              · intro _ L w' hL hpre hJ a ha
                                obtain ⟨jx, jy, jb⟩ := hJ
                                simp [Region.binds] at hpre
                                refine .inl ⟨wanted_yes (g := 2) (t := 103) (b := true) rfl rfl (by rw [ha]; exact eval_puts_in (i := 2) rfl (by simp [hpre]) (by simp) rfl), ?_⟩
                                exact wp_move' (.tmp 16) (.inl rfl) (.int .i64 (((jq : Nat) : Int) + 1)) (by rw [ha, eval_puts_out rfl]; rfl) ⟨(), _, rfl, rfl, jx, jy, jb⟩
                              · intro _ L w' hL hpre hJ a ha
                                obtain ⟨jx, jy, jb⟩ := hJ
                                simp [Region.binds] at hpre
                                refine .inl ⟨wanted_yes (g := 2) (t := 103) (b := true) rfl rfl (by rw [ha]; exact eval_puts_in (i := 2) rfl (by simp [hpre]) (by simp) rfl), ?_⟩
                                have e105 : a.eval (.tmp 105) = .int .i64 (((jq : Nat) : Int) + 1) := by rw [ha]; exact eval_puts_in (i := 4) rfl (by simp [hpre]) (by simp) rfl
                                clear ha
                                have jx' := Lib.hid jx
                                have jy' := Lib.hid jy
                                have jb' := Lib.hid jb
                                clear jx jy jb
                                refine wp_intro fun K HK => ?_
                                unfold Oper.wp
                                simp only [execOp, e105]
                                go_simp
                                rw [HWJ.out]
                                exact HK.out _ _ ⟨(), _, rfl, rfl, jx'.out, jy'.out, jb'.out⟩
                              · intro _ L w' hL hpre hJ a ha
                                obtain ⟨jx, jy, jb⟩ := hJ
                                simp [Region.binds] at hpre
                                refine .inl ⟨wanted_yes (g := 2) (t := 103) (b := true) rfl rfl (by rw [ha]; exact eval_puts_in (i := 2) rfl (by simp [hpre]) (by simp) rfl), ?_⟩
                                have e104 : a.eval (.tmp 104) = .slice (some ⟨bw, ow, none⟩) nw cw := by rw [ha]; exact eval_puts_in (i := 3) rfl (by simp [hpre]) (by simp) rfl
                                have e106 : a.eval (.tmp 106) = .int .i64 (jq : Int) := by rw [ha]; exact eval_puts_in (i := 5) rfl (by simp [hpre]) (by simp) rfl
                                clear ha
                                have jx' := Lib.hid jx
                                have jy' := Lib.hid jy
                                have jb' := Lib.hid jb
                                clear jx jy jb
                                refine wp_intro fun K HK => ?_
                                unfold Oper.wp
                                simp only [execOp, e104, e106]
                                go_simp
                                exact HK.out _ _ ⟨(), _, rfl, rfl, jx'.out, jy'.out, jb'.out⟩
                              · intro _ L w' hL hpre hJ a ha
                                obtain ⟨jx, jy, jb⟩ := hJ
                                simp [Region.binds] at hpre
                                refine .inl ⟨wanted_yes (g := 2) (t := 103) (b := true) rfl rfl (by rw [ha]; exact eval_puts_in (i := 2) rfl (by simp [hpre]) (by simp) rfl), ?_⟩
                                have e107 : a.eval (.tmp 107) = .pointer (some ⟨bw, ow + jq * 7, none⟩) := by rw [ha]; exact eval_puts_in (i := 6) rfl (by simp [hpre]) (by simp) rfl
                                clear ha
                                have jx' := Lib.hid jx
                                have jy' := Lib.hid jy
                                have jb' := Lib.hid jb
                                clear jx jy jb
                                refine wp_intro fun K HK => ?_
                                unfold Oper.wp
                                simp only [execOp, e107]
                                go_simp
                                exact HK.out _ _ ⟨(), _, rfl, rfl, jx'.out, jy'.out, jb'.out⟩
                              · intro _ L w' hL hpre hJ a ha
                                obtain ⟨jx, jy, jb⟩ := hJ
                                simp [Region.binds] at hpre
                                refine .inl ⟨wanted_yes (g := 2) (t := 103) (b := true) rfl rfl (by rw [ha]; exact eval_puts_in (i := 2) rfl (by simp [hpre]) (by simp) rfl), ?_⟩
                                have e108 : a.eval (.tmp 108) = .pointer (some ⟨bw, ow + jq * 7, none⟩) := by rw [ha]; exact eval_puts_in (i := 7) rfl (by simp [hpre]) (by simp) rfl
                                clear ha
                                have jc := jy
                                have jx' := Lib.hid jx
                                have jy' := Lib.hid jy
                                have jb' := Lib.hid jb
                                clear jx jy jb
                                refine wp_intro fun K HK => ?_
                                unfold Oper.wp
                                simp only [execOp, e108]
                                go_simp
                                exact HK.out _ _ ⟨(), _, rfl, rfl, jx'.out, jy'.out, jb'.out⟩
                              · intro _ L w' hL hpre hJ a ha
                                obtain ⟨jx, jy, jb⟩ := hJ
                                simp [Region.binds] at hpre
                                refine .inl ⟨wanted_yes (g := 2) (t := 103) (b := true) rfl rfl (by rw [ha]; exact eval_puts_in (i := 2) rfl (by simp [hpre]) (by simp) rfl), ?_⟩
                                exact wp_move' (.tmp 9) (.inl rfl) (.slice (some ⟨bb, oo, none⟩) nL c9) (by rw [ha, eval_puts_out rfl]; rfl) ⟨(), _, rfl, rfl, jx, jy, jb⟩
                              · intro _ L w' hL hpre hJ a ha
                                obtain ⟨jx, jy, jb⟩ := hJ
                                simp [Region.binds] at hpre
                                refine .inl ⟨wanted_yes (g := 2) (t := 103) (b := true) rfl rfl (by rw [ha]; exact eval_puts_in (i := 2) rfl (by simp [hpre]) (by simp) rfl), ?_⟩
                                exact wp_move' (.tmp 15) (.inl rfl) (.int .i64 (k5 : Int)) (by rw [ha, eval_puts_out rfl]; rfl) ⟨(), _, rfl, rfl, jx, jy, jb⟩
                              · intro _ L w' hL hpre hJ a ha
                                obtain ⟨jx, jy, jb⟩ := hJ
                                simp [Region.binds] at hpre
                                refine .inl ⟨wanted_yes (g := 2) (t := 103) (b := true) rfl rfl (by rw [ha]; exact eval_puts_in (i := 2) rfl (by simp [hpre]) (by simp) rfl), ?_⟩
                                have e110 : a.eval (.tmp 110) = .slice (some ⟨bb, oo, none⟩) nL c9 := by rw [ha]; exact eval_puts_in (i := 9) rfl (by simp [hpre]) (by simp) rfl
                                have e111 : a.eval (.tmp 111) = .int .i64 (k5 : Int) := by rw [ha]; exact eval_puts_in (i := 10) rfl (by simp [hpre]) (by simp) rfl
                                clear ha
                                have jx' := Lib.hid jx
                                have jy' := Lib.hid jy
                                have jb' := Lib.hid jb
                                clear jx jy jb
                                refine wp_intro fun K HK => ?_
                                unfold Oper.wp
                                simp only [execOp, e110, e111]
                                go_simp
                                exact HK.out _ _ ⟨(), _, rfl, rfl, jx'.out, jy'.out, jb'.out⟩
                              · intro _ L w' hL hpre hJ a ha
                                obtain ⟨jx, jy, jb⟩ := hJ
                                simp [Region.binds] at hpre
                                refine .inl ⟨wanted_yes (g := 2) (t := 103) (b := true) rfl rfl (by rw [ha]; exact eval_puts_in (i := 2) rfl (by simp [hpre]) (by simp) rfl), ?_⟩
                                have e112 : a.eval (.tmp 112) = .pointer (some ⟨bb, oo + k5 * 7, none⟩) := by rw [ha]; exact eval_puts_in (i := 11) rfl (by simp [hpre]) (by simp) rfl
                                clear ha
                                have jx' := Lib.hid jx
                                have jy' := Lib.hid jy
                                have jb' := Lib.hid jb
                                clear jx jy jb
                                refine wp_intro fun K HK => ?_
                                unfold Oper.wp
                                simp only [execOp, e112]
                                go_simp
                                exact HK.out _ _ ⟨(), _, rfl, rfl, jx'.out, jy'.out, jb'.out⟩
                              · intro _ L w' hL hpre hJ a ha
                                obtain ⟨jx, jy, jb⟩ := hJ
                                simp [Region.binds] at hpre
                                refine .inl ⟨wanted_yes (g := 2) (t := 103) (b := true) rfl rfl (by rw [ha]; exact eval_puts_in (i := 2) rfl (by simp [hpre]) (by simp) rfl), ?_⟩
                                have e113 : a.eval (.tmp 113) = .pointer (some ⟨bb, oo + k5 * 7, none⟩) := by rw [ha]; exact eval_puts_in (i := 12) rfl (by simp [hpre]) (by simp) rfl
                                clear ha
                                have jc := jx
                                have jx' := Lib.hid jx
                                have jy' := Lib.hid jy
                                have jb' := Lib.hid jb
                                clear jx jy jb
                                refine wp_intro fun K HK => ?_
                                unfold Oper.wp
                                simp only [execOp, e113]
                                go_simp
                                exact HK.out _ _ ⟨(), _, rfl, rfl, jx'.out, jy'.out, jb'.out⟩
                              · intro _ L w' hL hpre hJ a ha
                                obtain ⟨jx, jy, jb⟩ := hJ
                                simp [Region.binds] at hpre
                                refine .inl ⟨wanted_yes (g := 2) (t := 103) (b := true) rfl rfl (by rw [ha]; exact eval_puts_in (i := 2) rfl (by simp [hpre]) (by simp) rfl), ?_⟩
                                have e109 : a.eval (.tmp 109) = .int .i64 y.at_ := by rw [ha]; exact eval_puts_in (i := 8) rfl (by simp [hpre]) (by simp) rfl
                                have e114 : a.eval (.tmp 114) = .int .i64 x.at_ := by rw [ha]; exact eval_puts_in (i := 13) rfl (by simp [hpre]) (by simp) rfl
                                clear ha
                                have hq := HQ2.out
                                have jx' := Lib.hid jx
                                have jy' := Lib.hid jy
                                have jb' := Lib.hid jb
                                clear jx jy jb
                                refine wp_intro fun K HK => ?_
                                unfold Oper.wp
                                simp only [execOp, e109, e114]
                                go_simp
                                exact HK.out _ _ ⟨(), _, rfl, rfl, jx'.out, jy'.out, jb'.out⟩
                              · intro _ L w' hL hpre hJ a ha
                                obtain ⟨jx, jy, jb⟩ := hJ
                                simp [Region.binds] at hpre
                                refine .inl ⟨wanted_none rfl, ?_⟩
                                have e103 : a.eval (.tmp 103) = .bool true := by rw [ha]; exact eval_puts_in (i := 2) rfl (by simp [hpre]) (by simp) rfl
                                have e115 : a.eval (.tmp 115) = .bool true := by rw [ha]; exact eval_puts_in (i := 14) rfl (by simp [hpre]) (by simp) rfl
                                clear ha
                                have jx' := Lib.hid jx
                                have jy' := Lib.hid jy
                                have jb' := Lib.hid jb
                                clear jx jy jb
                                refine wp_intro fun K HK => ?_
                                unfold Oper.wp
                                simp only [execOp, e103, e115]
                                go_simp
                                exact HK.out _ _ ⟨(), _, rfl, rfl, jx'.out, jy'.out, jb'.out⟩
                            · intro _ L w' hL hJ
                              obtain ⟨jx, jy, jb⟩ := hJ
                              clear hL
                              simp only [List.foldl_cons, List.foldl_nil]
                              have HBy := Lib.hid jb
                              clear jx jy jb hxw hyw
                              go_simp
                              go_wp2_with fail
                              go_roundw
                              case rel => exact ⟨jq, rfl, HHI.out.down HY.out HGT.out, HBJ.out.trans (HBy.out.mono HBJ.out.size)⟩
                              case measure => simp [intOf] <;> omega
                          · have HGT := Lib.hid hgt
                            have HQ2 := Lib.hid (show decide (x.at_ < y.at_) = false from decide_eq_false hgt)
                            clear hgt
                            refine wp_region_puts_g (by kernel_rfl) (by kernel_rfl) (X := Unit) (fun _ => [(some 101, .int .i64 (((jq : Nat) : Int) + 1)), (some 102, .bool true), (some 103, .bool true), (some 104, .slice (some ⟨bw, ow, none⟩) nw cw), (some 105, .int .i64 (((jq : Nat) : Int) + 1)), (some 106, .int .i64 (jq : Int)), (some 107, .pointer (some ⟨bw, ow + jq * 7, none⟩)), (some 108, .pointer (some ⟨bw, ow + jq * 7, none⟩)), (some 109, .int .i64 y.at_), (some 110, .slice (some ⟨bb, oo, none⟩) nL c9), (some 111, .int .i64 (k5 : Int)), (some 112, .pointer (some ⟨bb, oo + k5 * 7, none⟩)), (some 113, .pointer (some ⟨bb, oo + k5 * 7, none⟩)), (some 114, .int .i64 x.at_), (some 115, .bool false), (some 116, .bool false)])
                              (fun _ L w' => w'.cell? ⟨bb, oo + k5 * 7, none⟩ = some (.int .i64 x.at_) ∧ w'.cell? ⟨bw, ow + jq * 7, none⟩ = some (.int .i64 y.at_) ∧ Below wj.heap.size wj w') (fun _ => rfl) (by kernel_rfl) ⟨(), fun _ _ => ⟨hxw, hyw, (Below.refl _ wj).drew⟩⟩ ?_ ?_
                            · refine ⟨?_, ?_, ?_, ?_, ?_, ?_, ?_, ?_, ?_, ?_, ?_, ?_, ?_, ?_, ?_, ?_, trivial⟩
                              · intro _ L w' hL hpre hJ a ha
                                obtain ⟨jx, jy, jb⟩ := hJ
                                simp [Region.binds] at hpre
                                refine .inl ⟨wanted_none rfl, ?_⟩
                                exact wp_move' (.tmp 16) (.inl rfl) (.int .i64 (((jq : Nat) : Int) + 1)) (by rw [ha, eval_puts_out rfl]; rfl) ⟨(), _, rfl, rfl, jx, jy, jb⟩
                              · intro _ L w' hL hpre hJ a ha
                                obtain ⟨jx, jy, jb⟩ := hJ
                                simp [Region.binds] at hpre
                                refine .inl ⟨wanted_none rfl, ?_⟩
                                have e101 : a.eval (.tmp 101) = .int .i64 (((jq : Nat) : Int) + 1) := by rw [ha]; exact eval_puts_in (i := 0) rfl (by simp [hpre]) (by simp) rfl
                                clear ha
                                have jx' := Lib.hid jx
                                have jy' := Lib.hid jy
                                have jb' := Lib.hid jb
                                clear jx jy jb
                                refine wp_intro fun K HK => ?_
                                unfold Oper.wp
                                simp only [execOp, e101]
                                go_simp
                                exact HK.out _ _ ⟨(), _, rfl, rfl, jx'.out, jy'.out, jb'.out⟩
                              · intro _ L w' hL hpre hJ a ha
                                obtain ⟨jx, jy, jb⟩ := hJ
                                simp [Region.binds] at hpre
                                refine .inl ⟨wanted_none rfl, ?_⟩
                                exact wp_move' (.tmp 102) (.inl rfl) (.bool true) (by rw [ha]; exact eval_puts_in (i := 1) rfl (by simp [hpre]) (by simp) rfl) ⟨(), _, rfl, rfl, jx, jy, jb⟩
                              · intro _ L w' hL hpre hJ a ha
                                obtain ⟨jx, jy, jb⟩ := hJ
                                simp [Region.binds] at hpre
                                refine .inl ⟨wanted_yes (g := 2) (t := 103) (b := true) rfl rfl (by rw [ha]; exact eval_puts_in (i := 2) rfl (by simp [hpre]) (by simp) rfl), ?_⟩
                                exact wp_move' (.tmp 13) (.inl rfl) (.slice (some ⟨bw, ow, none⟩) nw cw) (by rw [ha, eval_puts_out rfl]; rfl) ⟨(), _, rfl, rfl, jx, jy, jb⟩
                              · intro _ L w' hL hpre hJ a ha
                                obtain ⟨jx, jy, jb⟩ := hJ
                                simp [Region.binds] at hpre
                                refine .inl ⟨wanted_yes (g := 2) (t := 103) (b := true) rfl rfl (by rw [ha]; exact eval_puts_in (i := 2) rfl (by simp [hpre]) (by simp) rfl), ?_⟩
                                exact wp_move' (.tmp 16) (.inl rfl) (.int .i64 (((jq : Nat) : Int) + 1)) (by rw [ha, eval_puts_out rfl]; rfl) ⟨(), _, rfl, rfl, jx, jy, jb⟩
                              · intro _ L w' hL hpre hJ a ha
                                obtain ⟨jx, jy, jb⟩ := hJ
                                simp [Region.binds] at hpre
                                refine .inl ⟨wanted_yes (g := 2) (t := 103) (b := true) rfl rfl (by rw [ha]; exact eval_puts_in (i := 2) rfl (by simp [hpre]) (by simp) rfl), ?_⟩
                                have e105 : a.eval (.tmp 105) = .int .i64 (((jq : Nat) : Int) + 1) := by rw [ha]; exact eval_puts_in (i := 4) rfl (by simp [hpre]) (by simp) rfl
                                clear ha
                                have jx' := Lib.hid jx
                                have jy' := Lib.hid jy
                                have jb' := Lib.hid jb
                                clear jx jy jb
                                refine wp_intro fun K HK => ?_
                                unfold Oper.wp
                                simp only [execOp, e105]
                                go_simp
                                rw [HWJ.out]
                                exact HK.out _ _ ⟨(), _, rfl, rfl, jx'.out, jy'.out, jb'.out⟩
                              · intro _ L w' hL hpre hJ a ha
                                obtain ⟨jx, jy, jb⟩ := hJ
                                simp [Region.binds] at hpre
                                refine .inl ⟨wanted_yes (g := 2) (t := 103) (b := true) rfl rfl (by rw [ha]; exact eval_puts_in (i := 2) rfl (by simp [hpre]) (by simp) rfl), ?_⟩
                                have e104 : a.eval (.tmp 104) = .slice (some ⟨bw, ow, none⟩) nw cw := by rw [ha]; exact eval_puts_in (i := 3) rfl (by simp [hpre]) (by simp) rfl
                                have e106 : a.eval (.tmp 106) = .int .i64 (jq : Int) := by rw [ha]; exact eval_puts_in (i := 5) rfl (by simp [hpre]) (by simp) rfl
                                clear ha
                                have jx' := Lib.hid jx
                                have jy' := Lib.hid jy
                                have jb' := Lib.hid jb
                                clear jx jy jb
                                refine wp_intro fun K HK => ?_
                                unfold Oper.wp
                                simp only [execOp, e104, e106]
                                go_simp
                                exact HK.out _ _ ⟨(), _, rfl, rfl, jx'.out, jy'.out, jb'.out⟩
                              · intro _ L w' hL hpre hJ a ha
                                obtain ⟨jx, jy, jb⟩ := hJ
                                simp [Region.binds] at hpre
                                refine .inl ⟨wanted_yes (g := 2) (t := 103) (b := true) rfl rfl (by rw [ha]; exact eval_puts_in (i := 2) rfl (by simp [hpre]) (by simp) rfl), ?_⟩
                                have e107 : a.eval (.tmp 107) = .pointer (some ⟨bw, ow + jq * 7, none⟩) := by rw [ha]; exact eval_puts_in (i := 6) rfl (by simp [hpre]) (by simp) rfl
                                clear ha
                                have jx' := Lib.hid jx
                                have jy' := Lib.hid jy
                                have jb' := Lib.hid jb
                                clear jx jy jb
                                refine wp_intro fun K HK => ?_
                                unfold Oper.wp
                                simp only [execOp, e107]
                                go_simp
                                exact HK.out _ _ ⟨(), _, rfl, rfl, jx'.out, jy'.out, jb'.out⟩
                              · intro _ L w' hL hpre hJ a ha
                                obtain ⟨jx, jy, jb⟩ := hJ
                                simp [Region.binds] at hpre
                                refine .inl ⟨wanted_yes (g := 2) (t := 103) (b := true) rfl rfl (by rw [ha]; exact eval_puts_in (i := 2) rfl (by simp [hpre]) (by simp) rfl), ?_⟩
                                have e108 : a.eval (.tmp 108) = .pointer (some ⟨bw, ow + jq * 7, none⟩) := by rw [ha]; exact eval_puts_in (i := 7) rfl (by simp [hpre]) (by simp) rfl
                                clear ha
                                have jc := jy
                                have jx' := Lib.hid jx
                                have jy' := Lib.hid jy
                                have jb' := Lib.hid jb
                                clear jx jy jb
                                refine wp_intro fun K HK => ?_
                                unfold Oper.wp
                                simp only [execOp, e108]
                                go_simp
                                exact HK.out _ _ ⟨(), _, rfl, rfl, jx'.out, jy'.out, jb'.out⟩
                              · intro _ L w' hL hpre hJ a ha
                                obtain ⟨jx, jy, jb⟩ := hJ
                                simp [Region.binds] at hpre
                                refine .inl ⟨wanted_yes (g := 2) (t := 103) (b := true) rfl rfl (by rw [ha]; exact eval_puts_in (i := 2) rfl (by simp [hpre]) (by simp) rfl), ?_⟩
                                exact wp_move' (.tmp 9) (.inl rfl) (.slice (some ⟨bb, oo, none⟩) nL c9) (by rw [ha, eval_puts_out rfl]; rfl) ⟨(), _, rfl, rfl, jx, jy, jb⟩
                              · intro _ L w' hL hpre hJ a ha
                                obtain ⟨jx, jy, jb⟩ := hJ
                                simp [Region.binds] at hpre
                                refine .inl ⟨wanted_yes (g := 2) (t := 103) (b := true) rfl rfl (by rw [ha]; exact eval_puts_in (i := 2) rfl (by simp [hpre]) (by simp) rfl), ?_⟩
                                exact wp_move' (.tmp 15) (.inl rfl) (.int .i64 (k5 : Int)) (by rw [ha, eval_puts_out rfl]; rfl) ⟨(), _, rfl, rfl, jx, jy, jb⟩
                              · intro _ L w' hL hpre hJ a ha
                                obtain ⟨jx, jy, jb⟩ := hJ
                                simp [Region.binds] at hpre
                                refine .inl ⟨wanted_yes (g := 2) (t := 103) (b := true) rfl rfl (by rw [ha]; exact eval_puts_in (i := 2) rfl (by simp [hpre]) (by simp) rfl), ?_⟩
                                have e110 : a.eval (.tmp 110) = .slice (some ⟨bb, oo, none⟩) nL c9 := by rw [ha]; exact eval_puts_in (i := 9) rfl (by simp [hpre]) (by simp) rfl
                                have e111 : a.eval (.tmp 111) = .int .i64 (k5 : Int) := by rw [ha]; exact eval_puts_in (i := 10) rfl (by simp [hpre]) (by simp) rfl
                                clear ha
                                have jx' := Lib.hid jx
                                have jy' := Lib.hid jy
                                have jb' := Lib.hid jb
                                clear jx jy jb
                                refine wp_intro fun K HK => ?_
                                unfold Oper.wp
                                simp only [execOp, e110, e111]
                                go_simp
                                exact HK.out _ _ ⟨(), _, rfl, rfl, jx'.out, jy'.out, jb'.out⟩
                              · intro _ L w' hL hpre hJ a ha
                                obtain ⟨jx, jy, jb⟩ := hJ
                                simp [Region.binds] at hpre
                                refine .inl ⟨wanted_yes (g := 2) (t := 103) (b := true) rfl rfl (by rw [ha]; exact eval_puts_in (i := 2) rfl (by simp [hpre]) (by simp) rfl), ?_⟩
                                have e112 : a.eval (.tmp 112) = .pointer (some ⟨bb, oo + k5 * 7, none⟩) := by rw [ha]; exact eval_puts_in (i := 11) rfl (by simp [hpre]) (by simp) rfl
                                clear ha
                                have jx' := Lib.hid jx
                                have jy' := Lib.hid jy
                                have jb' := Lib.hid jb
                                clear jx jy jb
                                refine wp_intro fun K HK => ?_
                                unfold Oper.wp
                                simp only [execOp, e112]
                                go_simp
                                exact HK.out _ _ ⟨(), _, rfl, rfl, jx'.out, jy'.out, jb'.out⟩
                              · intro _ L w' hL hpre hJ a ha
                                obtain ⟨jx, jy, jb⟩ := hJ
                                simp [Region.binds] at hpre
                                refine .inl ⟨wanted_yes (g := 2) (t := 103) (b := true) rfl rfl (by rw [ha]; exact eval_puts_in (i := 2) rfl (by simp [hpre]) (by simp) rfl), ?_⟩
                                have e113 : a.eval (.tmp 113) = .pointer (some ⟨bb, oo + k5 * 7, none⟩) := by rw [ha]; exact eval_puts_in (i := 12) rfl (by simp [hpre]) (by simp) rfl
                                clear ha
                                have jc := jx
                                have jx' := Lib.hid jx
                                have jy' := Lib.hid jy
                                have jb' := Lib.hid jb
                                clear jx jy jb
                                refine wp_intro fun K HK => ?_
                                unfold Oper.wp
                                simp only [execOp, e113]
                                go_simp
                                exact HK.out _ _ ⟨(), _, rfl, rfl, jx'.out, jy'.out, jb'.out⟩
                              · intro _ L w' hL hpre hJ a ha
                                obtain ⟨jx, jy, jb⟩ := hJ
                                simp [Region.binds] at hpre
                                refine .inl ⟨wanted_yes (g := 2) (t := 103) (b := true) rfl rfl (by rw [ha]; exact eval_puts_in (i := 2) rfl (by simp [hpre]) (by simp) rfl), ?_⟩
                                have e109 : a.eval (.tmp 109) = .int .i64 y.at_ := by rw [ha]; exact eval_puts_in (i := 8) rfl (by simp [hpre]) (by simp) rfl
                                have e114 : a.eval (.tmp 114) = .int .i64 x.at_ := by rw [ha]; exact eval_puts_in (i := 13) rfl (by simp [hpre]) (by simp) rfl
                                clear ha
                                have hq := HQ2.out
                                have jx' := Lib.hid jx
                                have jy' := Lib.hid jy
                                have jb' := Lib.hid jb
                                clear jx jy jb
                                refine wp_intro fun K HK => ?_
                                unfold Oper.wp
                                simp only [execOp, e109, e114]
                                go_simp
                                exact HK.out _ _ ⟨(), _, rfl, rfl, jx'.out, jy'.out, jb'.out⟩
                              · intro _ L w' hL hpre hJ a ha
                                obtain ⟨jx, jy, jb⟩ := hJ
                                simp [Region.binds] at hpre
                                refine .inl ⟨wanted_none rfl, ?_⟩
                                have e103 : a.eval (.tmp 103) = .bool true := by rw [ha]; exact eval_puts_in (i := 2) rfl (by simp [hpre]) (by simp) rfl
                                have e115 : a.eval (.tmp 115) = .bool false := by rw [ha]; exact eval_puts_in (i := 14) rfl (by simp [hpre]) (by simp) rfl
                                clear ha
                                have jx' := Lib.hid jx
                                have jy' := Lib.hid jy
                                have jb' := Lib.hid jb
                                clear jx jy jb
                                refine wp_intro fun K HK => ?_
                                unfold Oper.wp
                                simp only [execOp, e103, e115]
                                go_simp
                                exact HK.out _ _ ⟨(), _, rfl, rfl, jx'.out, jy'.out, jb'.out⟩
                            · intro _ L w' hL hJ
                              obtain ⟨jx, jy, jb⟩ := hJ
                              clear hL
                              simp only [List.foldl_cons, List.foldl_nil]
                              have HBy := Lib.hid jb
                              clear jx jy jb hxw hyw
                              go_simp
                              go_wp2_with fail
                              go_meet
                              case rel => exact ⟨jq + 1, by go_num, HHI.out, low_at HY.out (by have := HGT.out; omega), HBJ.out.trans (HBy.out.mono HBJ.out.size)⟩
                    case rest =>
                      obtain ⟨j, rfl, hhi, hlo, hbj⟩ := hcut
                      have HIc := Lib.hid (HIm.out.kept hbj)
                      have HRc := Lib.hid (range_keep' HRm.out hbj)
                      have hwd := HWd.out.below hbj
                      have HHI := Lib.hid (And.intro hhi hlo)
                      have hjn : j ≤ nw := by rw [← HWl.out]; exact hhi.1
                      obtain ⟨A1x, hs1, hrp⟩ := cut_low (k := j) Tryz.underlying47 fltInfo hwd.rds hjn hcw
                      obtain ⟨A2x, hs2, hrq⟩ := cut_high (k := j) Tryz.underlying47 fltInfo hwd.rds hjn hcw
                      have HS1 := Lib.hid hs1
                      have HS2 := Lib.hid hs2
                      have HRp := Lib.hid hrp
                      have HRq := Lib.hid hrq
                      have HP0 : Hid (∀ u ∈ x.v, u.oneCell' = true) := Lib.hid (one_flt x)
                      have HP1 : Hid (∀ r ∈ (flts W).take j, ∀ u ∈ r, u.oneCell' = true) := Lib.hid fun r hr u hu => one_flts _ r (List.mem_of_mem_take hr) u hu
                      have HP2 : Hid (∀ r ∈ (flts W).drop j, ∀ u ∈ r, u.oneCell' = true) := Lib.hid fun r hr u hu => one_flts _ r (List.mem_of_mem_drop hr) u hu
                      clear hs1 hs2 hrp hrq hwd hhi hlo hbj
                      go_upto_region 28 with fail
                      refine wp_region_puts_g (by kernel_rfl) (by kernel_rfl) (X := (Value × Nat × Value × Value) × Value) (fun y => [(some 119, .slice Aw nw cw), (some 120, .int .i64 (j : Int)), (some 121, .slice A1x j cw), (some 122, y.1.1), (some 123, .slice (some ⟨bb, oo, none⟩) nL c9), (some 124, .int .i64 (k5 : Int)), (some 125, .pointer (some ⟨bb, oo + k5 * 7, none⟩)), (some 126, .agg (x.v).toArray), (some 127, .slice (some ⟨y.1.2.1, 0, none⟩) 1 1), (some 128, y.1.2.2.1), (some 129, .slice Aw nw cw), (some 130, .int .i64 (j : Int)), (some 131, .slice A2x (nw - j) (cw - j)), (some 132, y.1.2.2.2), (some 13, y.2)])
                        (fun y L w' => InsJ w' wc.heap.size 44 7 j (nw - j) ((flts W).take j) ((flts W).drop j) (x.v) y.1 (L 3) (L 8) (L 9) (L 13) ∧ (L 14 = true → (L 0 && L 10 && L 13) = true ∧ y.2 = y.1.2.2.2) ∧ Below wc.heap.size wc w') (fun _ => rfl) (by kernel_rfl) ⟨((undef, 0, undef, undef), undef), fun L hL => ⟨(by rw [hL 3, hL 8, hL 9, hL 13]; exact InsJ.start), (by rw [hL 14]; intro h; cases h), (Below.refl _ wc).drew⟩⟩ ?_ ?_
                      · refine ⟨?_, ?_, ?_, ?_, ?_, ?_, ?_, ?_, ?_, ?_, ?_, ?_, ?_, ?_, ?_, trivial⟩
                        · intro y L w' hL hpre hJ a ha
                          obtain ⟨jx, jl, jb⟩ := hJ
                          simp [Region.binds] at hpre
                          refine .inl ⟨wanted_none rfl, ?_⟩
                          have hN : L 14 = false := by
                            cases h : L 14 with
                            | false => rfl
                            | true => exact absurd (jl h).1 (by simp [hL])
                          exact wp_move' (.tmp 13) (.inl rfl) (.slice Aw nw cw) (by rw [ha, eval_puts_off (i := 14) rfl (by rw [Nat.zero_add]; exact hN) rfl]; rfl) ⟨y, _, rfl, rfl, jx, fun h => absurd (jl h).1 (by simp [hL]), jb⟩
                        · intro y L w' hL hpre hJ a ha
                          obtain ⟨jx, jl, jb⟩ := hJ
                          simp [Region.binds] at hpre
                          refine .inl ⟨wanted_none rfl, ?_⟩
                          exact wp_move' (.tmp 16) (.inl rfl) (.int .i64 (j : Int)) (by rw [ha, eval_puts_out rfl]; rfl) ⟨y, _, rfl, rfl, jx, jl, jb⟩
                        · intro y L w' hL hpre hJ a ha
                          obtain ⟨jx, jl, jb⟩ := hJ
                          simp [Region.binds] at hpre
                          refine .inl ⟨wanted_none rfl, ?_⟩
                          have e119 : a.eval (.tmp 119) = .slice Aw nw cw := by rw [ha]; exact eval_puts_in (i := 0) rfl (by simp [hpre]) (by simp) rfl
                          have e120 : a.eval (.tmp 120) = .int .i64 (j : Int) := by rw [ha]; exact eval_puts_in (i := 1) rfl (by simp [hpre]) (by simp) rfl
                          exact wp_slice_h 47 (.tmp 119) (.tmp 120) rfl e119 e120 HS1.out ⟨y, _, rfl, rfl, jx, jl, jb⟩
                        · intro y L w' hL hpre hJ a ha
                          obtain ⟨jx, jl, jb⟩ := hJ
                          simp [Region.binds] at hpre
                          refine .inl ⟨wanted_none rfl, ?_⟩
                          have e121 : a.eval (.tmp 121) = .slice A1x j cw := by rw [ha]; exact eval_puts_in (i := 2) rfl (by simp [hpre]) (by simp) rfl
                          refine wp_appendRows (.const (.slice none 0 0)) (.tmp 121) 47 rfl 44 _ 7 56 Tryz.underlying47 fltInfo3 rfl (by decide) (base := wc.heap.size) (B := wc.heap.size) (rows := []) OwnRows.nil jb rfl e121 (HRp.out.below jb (Nat.le_refl _)) HP1.out (by unfold maxLen; omega) (by omega) jb.size (Nat.le_refl _) ?_
                          intro v' w'' hown hb' hgr hat
                          rw [Nat.zero_add] at hown
                          exact ⟨((v', y.1.2), y.2), _, rfl, rfl, jx.s3 hgr hown hat, jl, hb'⟩
                        · intro y L w' hL hpre hJ a ha
                          obtain ⟨jx, jl, jb⟩ := hJ
                          simp [Region.binds] at hpre
                          refine .inl ⟨wanted_none rfl, ?_⟩
                          exact wp_move' (.tmp 9) (.inl rfl) (.slice (some ⟨bb, oo, none⟩) nL c9) (by rw [ha, eval_puts_out rfl]; rfl) ⟨y, _, rfl, rfl, jx, jl, jb⟩
                        · intro y L w' hL hpre hJ a ha
                          obtain ⟨jx, jl, jb⟩ := hJ
                          simp [Region.binds] at hpre
                          refine .inl ⟨wanted_none rfl, ?_⟩
                          exact wp_move' (.tmp 15) (.inl rfl) (.int .i64 (k5 : Int)) (by rw [ha, eval_puts_out rfl]; rfl) ⟨y, _, rfl, rfl, jx, jl, jb⟩
                        · intro y L w' hL hpre hJ a ha
                          obtain ⟨jx, jl, jb⟩ := hJ
                          simp [Region.binds] at hpre
                          refine .inl ⟨wanted_none rfl, ?_⟩
                          have e123 : a.eval (.tmp 123) = .slice (some ⟨bb, oo, none⟩) nL c9 := by rw [ha]; exact eval_puts_in (i := 4) rfl (by simp [hpre]) (by simp) rfl
                          have e124 : a.eval (.tmp 124) = .int .i64 (k5 : Int) := by rw [ha]; exact eval_puts_in (i := 5) rfl (by simp [hpre]) (by simp) rfl
                          clear ha
                          have jx' := Lib.hid jx
                          have jl' := Lib.hid jl
                          have jb' := Lib.hid jb
                          clear jx jl jb
                          refine wp_intro fun K HK => ?_
                          unfold Oper.wp
                          simp only [execOp, e123, e124]
                          go_simp
                          exact HK.out _ _ ⟨y, _, rfl, rfl, jx'.out, jl'.out, jb'.out⟩
                        · intro y L w' hL hpre hJ a ha
                          obtain ⟨jx, jl, jb⟩ := hJ
                          simp [Region.binds] at hpre
                          refine .inl ⟨wanted_none rfl, ?_⟩
                          exact wp_load_mid 44 (.tmp 125) rfl bb (oo + k5 * 7) (by rw [ha]; exact eval_puts_in (i := 6) rfl (by simp [hpre]) (by simp) rfl) (x.v) _ (range_keep' HRc.out jb) Tryz.underlying44 rfl fltInfo ⟨y, _, rfl, rfl, jx, jl, jb⟩
                        · intro y L w' hL hpre hJ a ha
                          obtain ⟨jx, jl, jb⟩ := hJ
                          simp [Region.binds] at hpre
                          refine .inl ⟨wanted_none rfl, ?_⟩
                          have e126 : a.eval (.tmp 126) = .agg (x.v).toArray := by rw [ha]; exact eval_puts_in (i := 7) rfl (by simp [hpre]) (by simp) rfl
                          refine wp_buildOne 47 (.tmp 126) rfl 44 (x.v) _ 7 56 e126 Tryz.underlying47 fltInfo3 rfl (by decide) (by decide) ?_
                          exact ⟨((y.1.1, w'.heap.size, y.1.2.2), y.2), _, rfl, rfl, jx.s6, jl, jb.alloc jb.size _⟩
                        · intro y L w' hL hpre hJ a ha
                          obtain ⟨jx, jl, jb⟩ := hJ
                          simp [Region.binds] at hpre
                          refine .inl ⟨wanted_none rfl, ?_⟩
                          have e122 : a.eval (.tmp 122) = y.1.1 := by rw [ha]; exact eval_puts_in (i := 3) rfl (by simp [hpre]) (by simp) rfl
                          have e127 : a.eval (.tmp 127) = .slice (some ⟨y.1.2.1, 0, none⟩) 1 1 := by rw [ha]; exact eval_puts_in (i := 8) rfl (by simp [hpre]) (by simp) rfl
                          have h3 : L 3 = true := by simp [hpre]
                          have h6 : L 8 = true := by simp [hpre]
                          have q2 := jx.b hL h6
                          refine wp_appendRows (.tmp 122) (.tmp 127) 47 rfl 44 _ 7 56 Tryz.underlying47 fltInfo3 rfl (by decide) (base := wc.heap.size) (B := wc.heap.size) (jx.a hL h3) jb e122 e127 (rds_one (row := x.v) q2.1) (fun r hr => by rw [List.mem_singleton.1 hr]; exact HP0.out) (by unfold maxLen; omega) (by omega) jb.size (Nat.le_refl _) ?_
                          intro v' w'' hown hb' hgr hat
                          exact ⟨((y.1.1, y.1.2.1, v', y.1.2.2.2), y.2), _, rfl, rfl, jx.s7 hL hown, jl, hb'⟩
                        · intro y L w' hL hpre hJ a ha
                          obtain ⟨jx, jl, jb⟩ := hJ
                          simp [Region.binds] at hpre
                          refine .inl ⟨wanted_none rfl, ?_⟩
                          have hN : L 14 = false := by
                            cases h : L 14 with
                            | false => rfl
                            | true => exact absurd (jl h).1 (by simp [hL])
                          exact wp_move' (.tmp 13) (.inl rfl) (.slice Aw nw cw) (by rw [ha, eval_puts_off (i := 14) rfl (by rw [Nat.zero_add]; exact hN) rfl]; rfl) ⟨y, _, rfl, rfl, jx, fun h => absurd (jl h).1 (by simp [hL]), jb⟩
                        · intro y L w' hL hpre hJ a ha
                          obtain ⟨jx, jl, jb⟩ := hJ
                          simp [Region.binds] at hpre
                          refine .inl ⟨wanted_none rfl, ?_⟩
                          exact wp_move' (.tmp 16) (.inl rfl) (.int .i64 (j : Int)) (by rw [ha, eval_puts_out rfl]; rfl) ⟨y, _, rfl, rfl, jx, jl, jb⟩
                        · intro y L w' hL hpre hJ a ha
                          obtain ⟨jx, jl, jb⟩ := hJ
                          simp [Region.binds] at hpre
                          refine .inl ⟨wanted_none rfl, ?_⟩
                          have e129 : a.eval (.tmp 129) = .slice Aw nw cw := by rw [ha]; exact eval_puts_in (i := 10) rfl (by simp [hpre]) (by simp) rfl
                          have e130 : a.eval (.tmp 130) = .int .i64 (j : Int) := by rw [ha]; exact eval_puts_in (i := 11) rfl (by simp [hpre]) (by simp) rfl
                          exact wp_slice_l 47 (.tmp 129) (.tmp 130) rfl e129 e130 HS2.out ⟨y, _, rfl, rfl, jx, jl, jb⟩
                        · intro y L w' hL hpre hJ a ha
                          obtain ⟨jx, jl, jb⟩ := hJ
                          simp [Region.binds] at hpre
                          refine .inl ⟨wanted_none rfl, ?_⟩
                          have e128 : a.eval (.tmp 128) = y.1.2.2.1 := by rw [ha]; exact eval_puts_in (i := 9) rfl (by simp [hpre]) (by simp) rfl
                          have e131 : a.eval (.tmp 131) = .slice A2x (nw - j) (cw - j) := by rw [ha]; exact eval_puts_in (i := 12) rfl (by simp [hpre]) (by simp) rfl
                          have h7 : L 9 = true := by simp [hpre]
                          refine wp_appendRows (.tmp 128) (.tmp 131) 47 rfl 44 _ 7 56 Tryz.underlying47 fltInfo3 rfl (by decide) (base := wc.heap.size) (B := wc.heap.size) (jx.c h7 hL) jb e128 e131 (HRq.out.below jb (Nat.le_refl _)) HP2.out (by unfold maxLen; omega) (by omega) jb.size (Nat.le_refl _) ?_
                          intro v' w'' hown hb' hgr hat
                          exact ⟨((y.1.1, y.1.2.1, y.1.2.2.1, v'), y.2), _, rfl, rfl, jx.s11 h7 hown, fun h => absurd (jl h).1 (by simp [hL]), hb'⟩
                        · intro y L w' hL hpre hJ a ha
                          obtain ⟨jx, jl, jb⟩ := hJ
                          simp [Region.binds] at hpre
                          refine .inl ⟨wanted_none rfl, ?_⟩
                          have e132 : a.eval (.tmp 132) = y.1.2.2.2 := by rw [ha]; exact eval_puts_in (i := 13) rfl (by simp [hpre]) (by simp) rfl
                          exact wp_move' (.tmp 132) (.inr rfl) (y.1.2.2.2) (by rw [ha]; exact eval_puts_in (i := 13) rfl (by simp [hpre]) (by simp) rfl) ⟨(y.1, y.1.2.2.2), _, rfl, rfl, jx, fun _ => ⟨by simp [also, hpre], rfl⟩, jb⟩
                      · intro y L w' hL hJ
                        obtain ⟨jx, jl, jb⟩ := hJ
                        have h7 := jx.d (hL 13 (by decide))
                        have hy := (jl (hL 14 (by decide))).2
                        clear hL jx jl
                        simp only [List.foldl_cons, List.foldl_nil]
                        obtain ⟨⟨y1, y2, y3, v7⟩, v0⟩ := y
                        obtain rfl : v7 = v0 := hy.symm
                        go_simp
                        have HI7 := Lib.hid (HIc.out.now HKX.out (Int.not_lt.1 HAT.out) (by rw [← HW.out, HWl.out]; exact hjn) (by rw [← HW.out]; exact HHI.out.1.2) (by rw [← HW.out]; exact HHI.out.2) (by rw [← HW.out, ← HNW.out]; exact h7) jb)
                        clear h7 jb HS1 HS2 HRp HRq HP0 HP1 HP2
                        go_wp2_with fail
                        go_roundw
                        case rel => exact RI.of (k5 + 1) (by omega) (by go_num) HI7.out
                        case measure => simp [intOf]; omega
              · obtain rfl : k5 = nL := by omega
                have HI := Lib.hid hI
                clear hI
                go_wp2_with fail
                go_meet
                exact HI.out
          case rest =>
            have hIn := hcut
            obtain ⟨w7, rfl⟩ : ∃ y : World, y = wc := ⟨_, rfl⟩
            have hLt : Ls.take nL = Ls := by rw [HNL.out]; exact List.take_length
            have hwd := hIn.want
            have hrs := hIn.rest
            rw [hLt] at hwd hrs
            obtain ⟨Aw, cw, rfl, -, -⟩ := hwd.slice
            obtain ⟨Ar, cr, rfl, -, -⟩ := hrs.slice
            have HBi := Lib.hid hIn.below
            have HGL := Lib.hid (show w6.heap.size ≤ w7.heap.size from hIn.below.size)
            have hp7 := HP6.out.below HBi.out
            have CL := hp7.left
            rw [sortF_len] at CL
            have hlh := lowhigh_len t Ls
            obtain ⟨nr, hnr⟩ : ∃ q, q = (highL t Ls).length := ⟨_, rfl⟩
            rw [← hnr] at hrs CL hlh ⊢
            rw [← HNG.out] at hwd hlh ⊢
            rw [← HNL.out] at hlh
            have HCL := Lib.hid CL
            have HP7 := Lib.hid hp7
            have HR7 := Lib.hid (hrs.lower HS6.out)
            have HNR := Lib.hid hnr
            have HWt := Lib.hid hwd.rds
            have HGt7 := Lib.hid (HGt.out.below HBi.out (Nat.le_refl _))
            have HB7 := Lib.hid (HB6.out.trans (HBi.out.mono HB6.out.size))
            have HS7 := Lib.hid (show S ≤ w7.heap.size from Nat.le_trans HS6.out HBi.out.size)
            have hq1 : ((ng : Int) != (ng : Int)) = false := by simp
            have hq2 : ((nr : Int) != (nr : Int)) = false := by simp
            clear hcut hIn hLt hwd hrs CL hp7 hnr HP6 HI0 HO6 HGt HC6 HBi
            go_wp2_with fail
            refine HCL.out.mono ?_
            rintro e wq ⟨rfl, rfl⟩
            clear HCL
            go_wp2_with fail
            clear hq1 hq2
            go_loopw [17] (fun i wx => ∃ k7 : Nat, k7 ≤ ng ∧ i = .int .i64 k7 ∧ Below w7.heap.size w7 wx) (fun i _ => ng - (intOf i).toNat)
            case atStart => exact ⟨0, by omega, rfl, Below.refl _ _⟩
            case round =>
              obtain ⟨k7, hk7, rfl, hb7⟩ := hrel
              by_cases hl7 : k7 < ng
              · have hk7l : k7 < (sortF (lowL t Ls)).length := by rw [sortF_len, ← HNG.out]; exact hl7
                obtain ⟨x, hx⟩ : ∃ x, (sortF (lowL t Ls))[k7]? = some x := ⟨_, List.getElem?_eq_getElem hk7l⟩
                obtain ⟨bw, ow, rfl, -, hxw⟩ := rds_range (HWt.out.below hb7 (Nat.le_refl _)) hl7 (r := x.v) (flts_at hx)
                obtain ⟨bg, og, rfl, -, hxg⟩ := rds_range (HGt7.out.below hb7 HGL.out) hl7 (r := x.v) (flts_at hx)
                have hwx : x.wf := HLw.out x (by have h1 := List.mem_of_getElem? hx; have h2 := (sortF_perm (lowL t Ls)).mem_iff.1 h1; exact (List.mem_filter.1 h2).1)
                have hne := fun w => neq_flt w hwx
                have HNE := Lib.hid hne
                have hl7I : (k7 : Int) < (ng : Int) := by omega
                have HB8 := Lib.hid hb7
                clear hx hk7l hwx hne hb7
                go_upto_region 35 with fail
                refine wp_region_puts_g (by kernel_rfl) (by kernel_rfl) (X := Unit) (fun _ => [(some 152, .slice (some ⟨bg, og, none⟩) ng cg), (some 153, .int .i64 (k7 : Int)), (some 154, .pointer (some ⟨bg, og + k7 * 7, none⟩)), (some 155, .agg (x.v).toArray), (some 156, .slice (some ⟨bw, ow, none⟩) ng cw), (some 157, .int .i64 (k7 : Int)), (some 158, .pointer (some ⟨bw, ow + k7 * 7, none⟩)), (some 159, .agg (x.v).toArray), (some 160, .bool false)])
                  (fun _ L w' => w'.rangeAt bw (ow + k7 * 7) x.v ∧ w'.rangeAt bg (og + k7 * 7) x.v ∧ Below wr.heap.size wr w') (fun _ => rfl) (by kernel_rfl) ⟨(), fun _ _ => ⟨hxw, hxg, (Below.refl _ wr).drew⟩⟩ ?_ ?_
                · refine ⟨?_, ?_, ?_, ?_, ?_, ?_, ?_, ?_, ?_, trivial⟩
                  · intro _ L w' hL hpre hJ a ha
                    obtain ⟨jw, jg, jb⟩ := hJ
                    simp [Region.binds] at hpre
                    refine .inl ⟨wanted_none rfl, ?_⟩
                    exact wp_move' (.tmp 12) (.inl rfl) (.slice (some ⟨bg, og, none⟩) ng cg) (by rw [ha, eval_puts_out rfl]; rfl) ⟨(), _, rfl, rfl, jw, jg, jb⟩
                  · intro _ L w' hL hpre hJ a ha
                    obtain ⟨jw, jg, jb⟩ := hJ
                    simp [Region.binds] at hpre
                    refine .inl ⟨wanted_none rfl, ?_⟩
                    exact wp_move' (.tmp 17) (.inl rfl) (.int .i64 (k7 : Int)) (by rw [ha, eval_puts_out rfl]; rfl) ⟨(), _, rfl, rfl, jw, jg, jb⟩
                  · intro _ L w' hL hpre hJ a ha
                    obtain ⟨jw, jg, jb⟩ := hJ
                    simp [Region.binds] at hpre
                    refine .inl ⟨wanted_none rfl, ?_⟩
                    have e152 : a.eval (.tmp 152) = .slice (some ⟨bg, og, none⟩) ng cg := by rw [ha]; exact eval_puts_in (i := 0) rfl (by simp [hpre]) (by simp) rfl
                    have e153 : a.eval (.tmp 153) = .int .i64 (k7 : Int) := by rw [ha]; exact eval_puts_in (i := 1) rfl (by simp [hpre]) (by simp) rfl
                    clear ha
                    have jw' := Lib.hid jw
                    have jg' := Lib.hid jg
                    have jb' := Lib.hid jb
                    clear jw jg jb
                    refine wp_intro fun K HK => ?_
                    unfold Oper.wp
                    simp only [execOp, e152, e153]
                    go_simp
                    exact HK.out _ _ ⟨(), _, rfl, rfl, jw'.out, jg'.out, jb'.out⟩
                  · intro _ L w' hL hpre hJ a ha
                    obtain ⟨jw, jg, jb⟩ := hJ
                    simp [Region.binds] at hpre
                    refine .inl ⟨wanted_none rfl, ?_⟩
                    exact wp_load_mid 44 (.tmp 154) rfl bg (og + k7 * 7) (by rw [ha]; exact eval_puts_in (i := 2) rfl (by simp [hpre]) (by simp) rfl) (x.v) _ (jg) Tryz.underlying44 rfl fltInfo ⟨(), _, rfl, rfl, jw, jg, jb⟩
                  · intro _ L w' hL hpre hJ a ha
                    obtain ⟨jw, jg, jb⟩ := hJ
                    simp [Region.binds] at hpre
                    refine .inl ⟨wanted_none rfl, ?_⟩
                    exact wp_move' (.tmp 13) (.inl rfl) (.slice (some ⟨bw, ow, none⟩) ng cw) (by rw [ha, eval_puts_out rfl]; rfl) ⟨(), _, rfl, rfl, jw, jg, jb⟩
                  · intro _ L w' hL hpre hJ a ha
                    obtain ⟨jw, jg, jb⟩ := hJ
                    simp [Region.binds] at hpre
                    refine .inl ⟨wanted_none rfl, ?_⟩
                    exact wp_move' (.tmp 17) (.inl rfl) (.int .i64 (k7 : Int)) (by rw [ha, eval_puts_out rfl]; rfl) ⟨(), _, rfl, rfl, jw, jg, jb⟩
                  · intro _ L w' hL hpre hJ a ha
                    obtain ⟨jw, jg, jb⟩ := hJ
                    simp [Region.binds] at hpre
                    refine .inl ⟨wanted_none rfl, ?_⟩
                    have e156 : a.eval (.tmp 156) = .slice (some ⟨bw, ow, none⟩) ng cw := by rw [ha]; exact eval_puts_in (i := 4) rfl (by simp [hpre]) (by simp) rfl
                    have e157 : a.eval (.tmp 157) = .int .i64 (k7 : Int) := by rw [ha]; exact eval_puts_in (i := 5) rfl (by simp [hpre]) (by simp) rfl
                    clear ha
                    have jw' := Lib.hid jw
                    have jg' := Lib.hid jg
                    have jb' := Lib.hid jb
                    clear jw jg jb
                    refine wp_intro fun K HK => ?_
                    unfold Oper.wp
                    simp only [execOp, e156, e157]
                    go_simp
                    exact HK.out _ _ ⟨(), _, rfl, rfl, jw'.out, jg'.out, jb'.out⟩
                  · intro _ L w' hL hpre hJ a ha
                    obtain ⟨jw, jg, jb⟩ := hJ
                    simp [Region.binds] at hpre
                    refine .inl ⟨wanted_none rfl, ?_⟩
                    exact wp_load_mid 44 (.tmp 158) rfl bw (ow + k7 * 7) (by rw [ha]; exact eval_puts_in (i := 6) rfl (by simp [hpre]) (by simp) rfl) (x.v) _ (jw) Tryz.underlying44 rfl fltInfo ⟨(), _, rfl, rfl, jw, jg, jb⟩
                  · intro _ L w' hL hpre hJ a ha
                    obtain ⟨jw, jg, jb⟩ := hJ
                    simp [Region.binds] at hpre
                    refine .inl ⟨wanted_none rfl, ?_⟩
                    have e155 : a.eval (.tmp 155) = .agg (x.v).toArray := by rw [ha]; exact eval_puts_in (i := 3) rfl (by simp [hpre]) (by simp) rfl
                    have e159 : a.eval (.tmp 159) = .agg (x.v).toArray := by rw [ha]; exact eval_puts_in (i := 7) rfl (by simp [hpre]) (by simp) rfl
                    clear ha
                    have hq := HNE.out
                    have jw' := Lib.hid jw
                    have jg' := Lib.hid jg
                    have jb' := Lib.hid jb
                    clear jw jg jb
                    refine wp_intro fun K HK => ?_
                    unfold Oper.wp
                    simp only [execOp, e155, e159]
                    go_simp
                    exact HK.out _ _ ⟨(), _, rfl, rfl, jw'.out, jg'.out, jb'.out⟩
                · intro _ L w' hL hJ
                  obtain ⟨jw, jg, jb⟩ := hJ
                  clear hL
                  simp only [List.foldl_cons, List.foldl_nil]
                  have HB9 := Lib.hid jb
                  clear jw jg jb
                  go_simp
                  go_wp2_with fail
                  go_roundw
                  case rel => exact ⟨k7 + 1, by omega, by go_num, HB8.out.trans (HB9.out.mono HB8.out.size)⟩
                  case measure => simp [intOf]; omega
              · obtain rfl : k7 = ng := by omega
                have HB8 := Lib.hid hb7
                clear hb7
                go_wp2_with fail
                go_roundw
                case rel => exact Out5.of (k + 1) (highL t Ls) (by omega) (by omega) (by go_num) (by rw [← HNR.out]; omega) (fun f hf => HLw.out f (List.mem_filter.1 hf).1) (HP7.out.below HB8.out) (by rw [← HNR.out]; exact HR7.out.below HB8.out) (Nat.le_trans HS7.out HB8.out.size) (HB7.out.trans (HB8.out.mono HB7.out.size))
                case measure => simp [intOf]; omega
        · have hcase : (∃ hk : k = n2, True) ∨ (∃ hk : k = 12, (12 : Int) < (n2 : Int)) := by
            by_cases h : k = n2
            · exact .inl ⟨h, trivial⟩
            · exact .inr ⟨by omega, by omega⟩
          have HBe := Lib.hid hb
          clear hp ho hb hlt
          rcases hcase with ⟨rfl, -⟩ | ⟨rfl, hn12⟩
          all_goals
            go_wp2_with fail
            go_ret
            exact ⟨rfl, HBe.out⟩
end Go.Proofs.YtnfigkoefmldiaaGreat.faultPlan
