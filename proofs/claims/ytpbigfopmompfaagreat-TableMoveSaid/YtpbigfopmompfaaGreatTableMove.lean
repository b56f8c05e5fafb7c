import Derived.Test.YtpbigfopmompfaaGreatBegun13
import Derived.Test.YtpbigfopmompfaaGreatSpotIn
import Derived.Deep.DeepCutAuto
import Derived.Deep.CutBlock
/- What is moved keeps its sequence, and stands at its new place. -/
namespace Go.Proofs.YtpbigfopmompfaaGreat.tableMove
open Go.RowKit
set_option linter.unusedVariables false
structure Std (k : Int) (T : tab.Tb) (i : Nat) : Prop where
  log : T.logical = 20
  start : i = 0 → T.f = [] ∧ T.next = 1
  on : 0 < i → (∃ a : tab.At6, a.q = 9 ∧ T.f = [(k, a)]) ∧ T.next = 10
theorem Std.old {k : Int} {T : tab.Tb} {i : Nat} (h : Std k T i) : (∃ a : tab.At6, a.q = 9 ∧ T.f = [(k, a)]) ∧ T.next = 10 ∨ T.f = [] ∧ T.next = 1 := by
  by_cases h0 : i = 0
  · exact .inr (h.start h0)
  · exact .inl (h.on (by omega))
theorem Std.putB {k : Int} {T : tab.Tb} {i : Nat} (h : Std k T i) (h0 : 0 ≤ k) (h1 : k < 20) : T.putB k 9 1 = true := by
  unfold tab.Tb.putB
  rw [h.log]
  rcases h.old with ⟨⟨a, ha, hf⟩, -⟩ | ⟨hf, -⟩
  · rw [hf]; simp [tab.getE, ha, tab.roleB, h0, h1]
  · rw [hf]; simp [tab.getE, tab.roleB, h0, h1]
theorem Std.put {k : Int} {T : tab.Tb} {i : Nat} (h : Std k T i) (h0 : 0 ≤ k) (h1 : k < 20) (b r s : Int) : T.putT k 9 1 b r s 7 = ⟨20, [(k, ⟨b, r, s, 7, 9, 1⟩)], 10⟩ := by
  unfold tab.Tb.putT
  rw [h.putB h0 h1, if_pos rfl, h.log]
  have e9 : wrap64 10 = 10 := wrap64_in' _ (by omega) (by omega)
  rcases h.old with ⟨⟨a, ha, hf⟩, hn⟩ | ⟨hf, hn⟩
  · rw [hf, hn]; simp [tab.putE, tab.delE, tab.nextS]
  · rw [hf, hn]; simp [tab.putE, tab.delE, tab.nextS, e9]
theorem elder (k : Int) (h0 : 0 ≤ k) (h1 : k < 20) (b r s : Int) : tab.Tb.putB ⟨20, [(k, ⟨b, r, s, 7, 9, 1⟩)], 10⟩ k 8 1 = false := by
  unfold tab.Tb.putB
  simp [tab.getE]
theorem built_e (k : Int) : Tryz.prog.built 29 [(0, .int .i64 k), (1, .int .i64 9), (2, .int .i64 1)] = some (enV k 9 1 zero16).toArray := by kernel_rfl
theorem neq_pl (w : World) {x y : Ad} (hx : x.wf) (hy : y.wf) : (binOp .neq 31 (.agg x.v.toArray) (.agg y.v.toArray)).run Tryz.prog w = .ok (.bool (!decide (x = y))) w := by
  rw [run_neq_flat w (show flat Tryz.prog 4 31 = some (List.replicate 3 (Kd.int .i64)) by kernel_rfl) (show eqOk Tryz.prog 4 31 = true by kernel_rfl) (by kernel_rfl) (by decide) (ad_kinds hx) (ad_kinds hy), ad_eqB hx hy]
set_option maxRecDepth 100000 in
set_option maxHeartbeats 8000000 in
theorem walk (a0 : Int) (A : Option Addr) (n c : Nat) (w : World) (w0 : (Lit.int .i64 a0).wf = true) (w1 : IsRows (List.replicate 3 (Kd.int .i64)) w A n c) : Calls Tryz.prog 5 #[.int .i64 a0, .slice A n c] w fun e w' => e = .returned (.bool true) ∧ Below w.heap.size w w' := by
  obtain ⟨l, hr, hwf, hnc, hcm⟩ := open_ads w1
  unfold maxLen at hcm
  obtain ⟨k0, hk⟩ : ∃ k : Nat, (k : Int) = a0 % 20 := ⟨(a0 % 20).toNat, by omega⟩
  have e1 := norm_wrap a0 20 (by decide) (by decide)
  rw [← hk] at e1
  have hk20 : k0 < 20 := by omega
  obtain ⟨k, hkk⟩ : ∃ k : Int, k = (k0 : Int) := ⟨_, rfl⟩
  rw [← hkk] at e1
  have hk0 : 0 ≤ k ∧ k < 20 := by omega
  obtain ⟨hk0, hk1⟩ := hk0
  have HRD := Lib.hid hr
  have HWF := Lib.hid hwf
  clear hk hkk hk20 w0 w1 hr hwf
  go_enter Tryz.func5, Tryz.ntmps5
  go_wp2_with fail
  refine (begun13.begun13_any w).mono ?_
  rintro e w1 ⟨rfl, hb1⟩
  have HB1 := Lib.hid hb1
  clear hb1
  go_wp2_with fail
  have hN : Calls Tryz.prog 15 #[.int .i64 20] w1 _ := tab.new_any w1 20 (by decide)
  refine hN.mono ?_
  rintro e w2 ⟨g, mb, cb, rfl, ht, hg1, hg2, hg3, hb2⟩
  have HB2 := Lib.hid (HB1.out.trans (hb2.mono HB1.out.size))
  have HLO := Lib.hid (show ∀ k, tab.TabF g mb cb k → w.heap.size ≤ k from fun k hk => by have := HB1.out.size; rcases hk with rfl | rfl | rfl <;> omega)
  have HLT := Lib.hid ht.lt
  have HT2 := Lib.hid ht
  clear hN ht hg1 hg2 hg3 hb2 HB1 e1
  go_wp2_with (first | (refine wpList_build_l rfl 29 _ rfl _ rfl _ (built_e _) ?_) | (refine wpList_put_row rfl 29 (.tmp 7) (.tmp 21) rfl w2.heap.size (enV k 9 1 zero16) rfl rfl 29 _ (heap_new' w2 _ _ rfl) (enInfo rfl _ _ _) rfl (one_enV _ _ _ _) ?_; intro w3 hU3; have he3 := hU3.at_; have hk3 := hU3.below (nand.alloc_low w2 _) (Nat.le_refl _); clear hU3))
  have HB3 := Lib.hid (HB2.out.trans (hk3.mono HB2.out.size))
  have HT3 := Lib.hid (HT2.out.below hk3)
  have HNE := Lib.hid (show ¬ tab.TabF g mb cb w2.heap.size from fun h => by have := HLT.out; rcases h with h | h | h <;> omega)
  have HE3 := Lib.hid he3
  have hEB := HB2.out.size
  generalize w2.heap.size = EB at *
  clear hk3 he3 HT2 HB2
  go_loopw [8, 9, 10, 11] (fun vi _ _ _ wr => ∃ i : Nat, i ≤ n ∧ i ≤ 20 ∧ vi = .int .i64 i ∧ (∃ T, tab.TabAt wr g mb cb (6 * i) T ∧ Std k T i) ∧ wr.heap[EB]? = some (.cells (enV k 9 1 zero16).toArray 29 (0, 0)) ∧ Below w.heap.size w wr) (fun vi _ _ _ _ => n - (intOf vi).toNat)
  case atStart => exact ⟨0, by omega, by omega, rfl, ⟨_, HT3.out, rfl, fun _ => ⟨rfl, rfl⟩, fun h => by omega⟩, HE3.out, HB3.out⟩
  case round =>
    obtain ⟨i, hi, hi20, rfl, ⟨T, hT, hS⟩, he, hb⟩ := hrel
    have HE := Lib.hid he
    have HB := Lib.hid hb
    have HT := Lib.hid hT
    have HS := Lib.hid hS
    clear he hb hT hS HE3 HB3 HT3
    by_cases hlt : i < n
    · by_cases hl20 : i < 20
      · have hxi : i < l.length := by have := HRD.out.1; simp [ads] at this; omega
        obtain ⟨x, hx⟩ : ∃ x, l[i]? = some x := ⟨_, List.getElem?_eq_getElem hxi⟩
        have hxw : x.wf := HWF.out x (List.mem_of_getElem? hx)
        obtain ⟨pb, po, hA, hpb, -⟩ := rds_range HRD.out hlt (r := x.v) (by simp [ads, hx])
        subst hA
        have HRG := Lib.hid (show ∀ w', Below w.heap.size w w' → w'.rangeAt pb (po + i * 3) x.v from fun w' hb => by
          obtain ⟨b, o, he, hb2, hr⟩ := rds_range (HRD.out.below hb (Nat.le_refl _)) hlt (r := x.v) (by simp [ads, hx])
          cases he
          exact hr)
        obtain ⟨T1, hT1⟩ : ∃ T1, T1 = T.putT k 9 1 x.d x.b x.p 7 := ⟨_, rfl⟩
        have HQ1 := Lib.hid (show T1 = ⟨20, [(k, ⟨x.d, x.b, x.p, 7, 9, 1⟩)], 10⟩ by rw [hT1]; exact HS.out.put hk0 hk1 _ _ _)
        have HP := Lib.hid (show ∀ w', tab.TabAt w' g mb cb (6 * i) T → Calls Tryz.prog 16 #[.pointer (some ⟨g, 0, none⟩), .agg (enV k 9 1 zero16).toArray, .agg x.v.toArray, .int .i64 7] w' (fun e w'' => e = .returned (.bool true) ∧ tab.TabAt w'' g mb cb (6 * i + 3) T1 ∧ Keep (tab.TabF g mb cb) w' w'') from fun w' h => by
          have := tab.put_any h k 9 1 x.d x.b x.p 7 zero16 rfl (begun13.wf0 ⟨by omega, by omega⟩) (begun13.wf0 (by decide)) hxw.1 (by omega)
          rw [HS.out.putB hk0 hk1, ← hT1] at this
          exact this)
        have HP2 := Lib.hid (show ∀ w', tab.TabAt w' g mb cb (6 * i + 3) T1 → Calls Tryz.prog 16 #[.pointer (some ⟨g, 0, none⟩), .agg (enV k 8 1 zero16).toArray, .agg #[.int .i64 3, .int .i64 0, .int .i64 0], .int .i64 7] w' (fun e w'' => e = .returned (.bool false) ∧ tab.TabAt w'' g mb cb (6 * i + 6) T1 ∧ Keep (tab.TabF g mb cb) w' w'') from fun w' h => by
          have := tab.put_any h k 8 1 3 0 0 7 zero16 rfl (begun13.wf0 ⟨by omega, by omega⟩) (begun13.wf0 (by decide)) (begun13.wf0 (by decide)) (by omega)
          have he := elder k hk0 hk1 x.d x.b x.p
          rw [← HQ1.out] at he
          unfold tab.Tb.putT at this
          rw [he] at this
          exact this)
        have HIA := Lib.hid (show True from trivial)
        clear hT1 hx
        go_upto_region 10 with fail
        refine wp_region_puts_g (by kernel_rfl) (by kernel_rfl) (X := Unit) (fun _ => [(some 32, .pointer (some ⟨g, 0, none⟩)), (some 33, .agg (enV k 9 1 zero16).toArray), (some 34, .slice (some ⟨pb, po, none⟩) n c), (some 35, .int .i64 (i : Int)), (some 36, .pointer (some ⟨pb, po + i * 3, none⟩)), (some 37, (.agg x.v.toArray)), (some 38, .bool true), (some 39, .bool false)])
          (fun _ L w' => w'.heap[EB]? = some (.cells (enV k 9 1 zero16).toArray 29 (0, 0)) ∧ (L 6 = false → tab.TabAt w' g mb cb (6 * i) T) ∧ (L 6 = true → tab.TabAt w' g mb cb (6 * i + 3) T1) ∧ Below w.heap.size w w') (fun _ => rfl) (by kernel_rfl) ⟨(), fun L hL => ⟨HE.out, (fun _ => HT.out.drew), (by rw [hL 6]; intro h; cases h), HB.out.drew⟩⟩ ?_ ?_
        · refine ⟨?_, ?_, ?_, ?_, ?_, ?_, ?_, ?_, trivial⟩
          · intro _ L w' hL hpre hJ a ha
            obtain ⟨je, j0, j1, jb⟩ := hJ
            simp [Region.binds] at hpre
            refine .inl ⟨wanted_none rfl, ?_⟩
            exact wp_move' (.tmp 6) (.inl rfl) (.pointer (some ⟨g, 0, none⟩)) (by rw [ha, eval_puts_out rfl]; rfl) ⟨(), _, rfl, rfl, je, j0, j1, jb⟩
          · intro _ L w' hL hpre hJ a ha
            obtain ⟨je, j0, j1, jb⟩ := hJ
            simp [Region.binds] at hpre
            refine .inl ⟨wanted_none rfl, ?_⟩
            exact wp_load_mid 29 (.tmp 7) rfl EB 0 (by rw [ha, eval_puts_out rfl]; rfl) (enV k 9 1 zero16) _ (range_blk je) Tryz.underlying29 rfl (enInfo rfl _ _ _) ⟨(), _, rfl, rfl, je, j0, j1, jb⟩
          · intro _ L w' hL hpre hJ a ha
            obtain ⟨je, j0, j1, jb⟩ := hJ
            simp [Region.binds] at hpre
            refine .inl ⟨wanted_none rfl, ?_⟩
            exact wp_move' (.tmp 1) (.inl rfl) (.slice (some ⟨pb, po, none⟩) n c) (by rw [ha, eval_puts_out rfl]; rfl) ⟨(), _, rfl, rfl, je, j0, j1, jb⟩
          · intro _ L w' hL hpre hJ a ha
            obtain ⟨je, j0, j1, jb⟩ := hJ
            simp [Region.binds] at hpre
            refine .inl ⟨wanted_none rfl, ?_⟩
            exact wp_move' (.tmp 8) (.inl rfl) (.int .i64 (i : Int)) (by rw [ha, eval_puts_out rfl]; rfl) ⟨(), _, rfl, rfl, je, j0, j1, jb⟩
          · intro _ L w' hL hpre hJ a ha
            obtain ⟨je, j0, j1, jb⟩ := hJ
            simp [Region.binds] at hpre
            refine .inl ⟨wanted_none rfl, ?_⟩
            have e34 : a.eval (.tmp 34) = .slice (some ⟨pb, po, none⟩) n c := by rw [ha]; exact eval_puts_in (i := 2) rfl (by simp [hpre]) (by simp) rfl
            have e35 : a.eval (.tmp 35) = .int .i64 (i : Int) := by rw [ha]; exact eval_puts_in (i := 3) rfl (by simp [hpre]) (by simp) rfl
            clear ha
            have je' := Lib.hid je
            have j0' := Lib.hid j0
            have j1' := Lib.hid j1
            have jb' := Lib.hid jb
            clear je j0 j1 jb
            refine wp_intro fun K HK => ?_
            unfold Oper.wp
            simp only [execOp, e34, e35]
            go_simp
            exact HK.out _ _ ⟨(), _, rfl, rfl, je'.out, j0'.out, j1'.out, jb'.out⟩
          · intro _ L w' hL hpre hJ a ha
            obtain ⟨je, j0, j1, jb⟩ := hJ
            simp [Region.binds] at hpre
            refine .inl ⟨wanted_none rfl, ?_⟩
            have e36 : a.eval (.tmp 36) = .pointer (some ⟨pb, po + i * 3, none⟩) := by rw [ha]; exact eval_puts_in (i := 4) rfl (by simp [hpre]) (by simp) rfl
            have hrg := HRG.out w' jb
            exact wp_load_mid 31 (.tmp 36) rfl pb (po + i * 3) e36 x.v _ hrg Tryz.underlying31 rfl (by kernel_rfl) ⟨(), _, rfl, rfl, je, j0, j1, jb⟩
          · intro _ L w' hL hpre hJ a ha
            obtain ⟨je, j0, j1, jb⟩ := hJ
            simp [Region.binds] at hpre
            refine .inl ⟨wanted_none rfl, ?_⟩
            have e32 : a.eval (.tmp 32) = .pointer (some ⟨g, 0, none⟩) := by rw [ha]; exact eval_puts_in (i := 0) rfl (by simp [hpre]) (by simp) rfl
            have e33 : a.eval (.tmp 33) = .agg (enV k 9 1 zero16).toArray := by rw [ha]; exact eval_puts_in (i := 1) rfl (by simp [hpre]) (by simp) rfl
            have e37 : a.eval (.tmp 37) = (.agg x.v.toArray) := by rw [ha]; exact eval_puts_in (i := 5) rfl (by simp [hpre]) (by simp) rfl
            have hc := Lib.hid (HP.out w' (j0 hL))
            have HJ := Lib.hid (And.intro je jb)
            clear ha je j0 j1 jb
            refine wp_intro fun K HK => ?_
            unfold Oper.wp
            simp only [execOp, resolve, List.map_toArray, List.map_cons, List.map_nil, e32, e33, e37]
            go_simp
            refine hc.out.mono ?_
            rintro e w'' ⟨rfl, hT', hk⟩
            exact HK.out _ _ ⟨(), _, rfl, rfl, blk_keep HJ.out.1 hk HNE.out, (fun h => by cases h), (fun _ => hT'), HJ.out.2.trans (hk.below HJ.out.2.size HLO.out)⟩
          · intro _ L w' hL hpre hJ a ha
            obtain ⟨je, j0, j1, jb⟩ := hJ
            simp [Region.binds] at hpre
            refine .inl ⟨wanted_none rfl, ?_⟩
            have e38 : a.eval (.tmp 38) = .bool true := by rw [ha]; exact eval_puts_in (i := 6) rfl (by simp [hpre]) (by simp) rfl
            clear ha
            have je' := Lib.hid je
            have j0' := Lib.hid j0
            have j1' := Lib.hid j1
            have jb' := Lib.hid jb
            clear je j0 j1 jb
            refine wp_intro fun K HK => ?_
            unfold Oper.wp
            simp only [execOp, e38]
            go_simp
            exact HK.out _ _ ⟨(), _, rfl, rfl, je'.out, j0'.out, j1'.out, jb'.out⟩
        · intro _ L w' hL hJ
          obtain ⟨je, j0, j1, jb⟩ := hJ
          simp only [List.foldl_cons, List.foldl_nil]
          have HT1 := Lib.hid (j1 (hL 6 (by decide)))
          have HE1 := Lib.hid je
          have HB1 := Lib.hid jb
          clear je j0 j1 jb hL
          go_simp
          have hrowE := range_blk HE1.out
          go_upto_region 13 with (first | (refine wpList_load_mid rfl 29 (.tmp 7) rfl EB 0 rfl (enV k 9 1 zero16) _ hrowE Tryz.underlying29 rfl (enInfo rfl _ _ _) ?_) | (refine wpList_put_row rfl 29 (.tmp 9) (.tmp 40) rfl w'.heap.size (enV k 9 1 zero16) rfl rfl 29 _ (heap_new' w' _ _ rfl) (enInfo rfl _ _ _) rfl (one_enV _ _ _ _) ?_; intro w5 hU5; have ho5 := hU5.at_; have hl5 := hU5.below (nand.alloc_low w' _) (Nat.le_refl _); clear hU5 hrowE))
          have hOB : w.heap.size ≤ w'.heap.size := HB1.out.size
          have HNO := Lib.hid (show ¬ tab.TabF g mb cb w'.heap.size from fun h => by have h2 := HT1.out.lt; rcases h with h | h | h <;> omega)
          have hEO : EB ≠ w'.heap.size := by have := lt_of_cells HE1.out; omega
          have HT5 := Lib.hid (HT1.out.below hl5)
          have HE5 := Lib.hid (blk_below HE1.out hl5)
          have HB5 := Lib.hid (HB1.out.trans (hl5.mono HB1.out.size))
          have HO5 := Lib.hid ho5
          clear HT1 HE1 HB1 hl5 ho5
          have co : w5.cell? ⟨w'.heap.size, 1, none⟩ = some (.int .i64 9) := by rw [blk_cell HO5.out]; rfl
          have fo : w5.frozen? ⟨w'.heap.size, 1, none⟩ = false := blk_frozen HO5.out 1
          generalize w'.heap.size = OB at *
          go_upto_region 14 with fail
          have ho6 := heap_set2 (i := 1) HO5.out (.int .i64 8)
          rw [show (enV k 9 1 zero16).toArray.setIfInBounds 1 (.int .i64 8) = (enV k 8 1 zero16).toArray from rfl] at ho6
          have he6 := blk_set (p := ⟨OB, 1, none⟩) HE5.out hEO (.int .i64 8)
          have hb6 := HB5.out.setCell (p := ⟨OB, 1, none⟩) hOB (.int .i64 8)
          have ht6 := HT5.out.same fun k hk => Below.heap_setCell w5 ⟨OB, 1, none⟩ (.int .i64 8) k (fun e => HNO.out (by have e' : k = OB := e; rw [← e']; exact hk))
          clear co fo HO5 HE5 HB5 HT5
          generalize w5.setCell ⟨OB, 1, none⟩ (.int .i64 8) = w6 at *
          have hg6 := tab.get_any ht6 k (begun13.wf0 ⟨by omega, by omega⟩)
          rw [HQ1.out, show tab.getE [(k, (⟨x.d, x.b, x.p, 7, 9, 1⟩ : tab.At6))] k = some ⟨x.d, x.b, x.p, 7, 9, 1⟩ by simp [tab.getE]] at hg6
          have HG6 := Lib.hid hg6
          have HT6 := Lib.hid ht6
          have HE6 := Lib.hid he6
          have HB6 := Lib.hid hb6
          have HO6 := Lib.hid ho6
          clear hg6 ht6 he6 hb6 ho6
          go_wp2_with fail
          refine HG6.out.mono ?_
          rintro e w7 ⟨rfl, hb7⟩
          go_upto_region 15 with (first | (refine wpList_put_row rfl 33 (.tmp 10) (.tmp 46) rfl w7.heap.size (tab.At6.v ⟨x.d, x.b, x.p, 7, 9, 1⟩) rfl rfl 33 _ (heap_new' w7 _ _ rfl) tab.atInfo rfl (tab.one_at _) ?_; intro w8 hU8; have hx8 := hU8.at_; have hl8 := hb7.trans ((hU8.below (nand.alloc_low w7 _) (Nat.le_refl _)).mono hb7.size); clear hU8))
          have HNX := Lib.hid (show ¬ tab.TabF g mb cb w7.heap.size from fun h => by have h2 := HT6.out.lt; have := hb7.size; rcases h with h | h | h <;> omega)
          have HT5 := Lib.hid (HT6.out.below hl8)
          have HE5 := Lib.hid (blk_below HE6.out hl8)
          have HB5 := Lib.hid (HB6.out.trans (hl8.mono HB6.out.size))
          have HO5 := Lib.hid (blk_below HO6.out hl8)
          have HX5 := Lib.hid hx8
          have HLN := Lib.hid (show ((T1.f.length : Nat) : Int) = 1 by rw [HQ1.out]; rfl)
          have HQ := Lib.hid (show ∀ w, (binOp .neq 31 (.agg x.v.toArray) (.agg x.v.toArray)).run Tryz.prog w = .ok (.bool false) w from fun w => by rw [neq_pl w hxw hxw]; simp)
          clear HT6 HE6 HB6 HO6 HG6 hl8 hb7 hx8
          generalize w7.heap.size = XB at *
          refine wp_region_puts_g (by kernel_rfl) (by kernel_rfl) (X := Unit) (fun _ => [(some 48, .pointer (some ⟨g, 0, none⟩)), (some 49, .agg (enV k 8 1 zero16).toArray), (some 50, (.agg #[.int .i64 3, .int .i64 0, .int .i64 0])), (some 51, .bool false), (some 52, .bool false), (some 53, .bool true), (some 54, .bool false), (some 55, .bool false), (some 56, .bool false), (some 57, .pointer (some ⟨XB, 0, none⟩)), (some 58, (.agg x.v.toArray)), (some 59, .slice (some ⟨pb, po, none⟩) n c), (some 60, .int .i64 (i : Int)), (some 61, .pointer (some ⟨pb, po + i * 3, none⟩)), (some 62, (.agg x.v.toArray)), (some 63, .bool false), (some 64, .bool false), (some 65, .bool false), (some 66, .pointer (some ⟨g, 0, none⟩)), (some 67, .int .i64 1), (some 68, .bool false), (some 69, .bool false)])
            (fun _ L w' => w'.heap[OB]? = some (.cells (enV k 8 1 zero16).toArray 29 (0, 0)) ∧ w'.heap[EB]? = some (.cells (enV k 9 1 zero16).toArray 29 (0, 0)) ∧ w'.heap[XB]? = some (.cells (tab.At6.v ⟨x.d, x.b, x.p, 7, 9, 1⟩).toArray 33 (0, 0)) ∧ (L 3 = false → tab.TabAt w' g mb cb (6 * i + 3) T1) ∧ (L 3 = true → tab.TabAt w' g mb cb (6 * i + 6) T1) ∧ Below w.heap.size w w') (fun _ => rfl) (by kernel_rfl) ⟨(), fun L hL => ⟨HO5.out, HE5.out, HX5.out, (fun _ => HT5.out.drew), (by rw [hL 3]; intro h; cases h), HB5.out.drew⟩⟩ ?_ ?_
          · refine ⟨?_, ?_, ?_, ?_, ?_, ?_, ?_, ?_, ?_, ?_, ?_, ?_, ?_, ?_, ?_, ?_, ?_, ?_, ?_, ?_, ?_, ?_, trivial⟩
            · intro _ L w' hL hpre hJ a ha
              obtain ⟨jo, je, jx, j0, j1, jb⟩ := hJ
              simp [Region.binds] at hpre
              refine .inl ⟨wanted_none rfl, ?_⟩
              exact wp_move' (.tmp 6) (.inl rfl) (.pointer (some ⟨g, 0, none⟩)) (by rw [ha, eval_puts_out rfl]; rfl) ⟨(), _, rfl, rfl, jo, je, jx, j0, j1, jb⟩
            · intro _ L w' hL hpre hJ a ha
              obtain ⟨jo, je, jx, j0, j1, jb⟩ := hJ
              simp [Region.binds] at hpre
              refine .inl ⟨wanted_none rfl, ?_⟩
              exact wp_load_mid 29 (.tmp 9) rfl OB 0 (by rw [ha, eval_puts_out rfl]; rfl) (enV k 8 1 zero16) _ (range_blk jo) Tryz.underlying29 rfl (enInfo rfl _ _ _) ⟨(), _, rfl, rfl, jo, je, jx, j0, j1, jb⟩
            · intro _ L w' hL hpre hJ a ha
              obtain ⟨jo, je, jx, j0, j1, jb⟩ := hJ
              simp [Region.binds] at hpre
              refine .inl ⟨wanted_none rfl, ?_⟩
              clear ha
              refine wp_intro fun K HK => ?_
              unfold Oper.wp
              simp only [execOp]
              go_simp
              exact HK.out _ _ ⟨(), _, rfl, rfl, jo, je, jx, j0, j1, jb⟩
            · intro _ L w' hL hpre hJ a ha
              obtain ⟨jo, je, jx, j0, j1, jb⟩ := hJ
              simp [Region.binds] at hpre
              refine .inl ⟨wanted_none rfl, ?_⟩
              have e48 : a.eval (.tmp 48) = .pointer (some ⟨g, 0, none⟩) := by rw [ha]; exact eval_puts_in (i := 0) rfl (by simp [hpre]) (by simp) rfl
              have e49 : a.eval (.tmp 49) = .agg (enV k 8 1 zero16).toArray := by rw [ha]; exact eval_puts_in (i := 1) rfl (by simp [hpre]) (by simp) rfl
              have e50 : a.eval (.tmp 50) = (.agg #[.int .i64 3, .int .i64 0, .int .i64 0]) := by rw [ha]; exact eval_puts_in (i := 2) rfl (by simp [hpre]) (by simp) rfl
              have hc := Lib.hid (HP2.out w' (j0 hL))
              have HJ := Lib.hid (And.intro jo (And.intro je (And.intro jx jb)))
              clear ha jo je jx j0 j1 jb
              refine wp_intro fun K HK => ?_
              unfold Oper.wp
              simp only [execOp, resolve, List.map_toArray, List.map_cons, List.map_nil, e48, e49, e50]
              go_simp
              refine hc.out.mono ?_
              rintro e w'' ⟨rfl, hT', hk⟩
              exact HK.out _ _ ⟨(), _, rfl, rfl, blk_keep HJ.out.1 hk HNO.out, blk_keep HJ.out.2.1 hk HNE.out, blk_keep HJ.out.2.2.1 hk HNX.out, (fun h => by cases h), (fun _ => hT'), HJ.out.2.2.2.trans (hk.below HJ.out.2.2.2.size HLO.out)⟩
            · intro _ L w' hL hpre hJ a ha
              obtain ⟨jo, je, jx, j0, j1, jb⟩ := hJ
              simp [Region.binds] at hpre
              refine .inl ⟨wanted_none rfl, ?_⟩
              exact wp_move' (.tmp 51) (.inl rfl) (.bool false) (by rw [ha]; exact eval_puts_in (i := 3) rfl (by simp [hpre]) (by simp) rfl) ⟨(), _, rfl, rfl, jo, je, jx, j0, j1, jb⟩
            · intro _ L w' hL hpre hJ a ha
              obtain ⟨jo, je, jx, j0, j1, jb⟩ := hJ
              simp [Region.binds] at hpre
              refine .inl ⟨wanted_yes (g := 4) (t := 52) (b := false) rfl rfl (by rw [ha]; exact eval_puts_in (i := 4) rfl (by simp [hpre]) (by simp) rfl), ?_⟩
              exact wp_move' (.tmp 11) (.inl rfl) (.bool true) (by rw [ha, eval_puts_out rfl]; rfl) ⟨(), _, rfl, rfl, jo, je, jx, j0, j1, jb⟩
            · intro _ L w' hL hpre hJ a ha
              obtain ⟨jo, je, jx, j0, j1, jb⟩ := hJ
              simp [Region.binds] at hpre
              refine .inl ⟨wanted_yes (g := 4) (t := 52) (b := false) rfl rfl (by rw [ha]; exact eval_puts_in (i := 4) rfl (by simp [hpre]) (by simp) rfl), ?_⟩
              have e53 : a.eval (.tmp 53) = .bool true := by rw [ha]; exact eval_puts_in (i := 5) rfl (by simp [hpre]) (by simp) rfl
              clear ha
              have jo' := Lib.hid jo
              have je' := Lib.hid je
              have jx' := Lib.hid jx
              have j0' := Lib.hid j0
              have j1' := Lib.hid j1
              have jb' := Lib.hid jb
              clear jo je jx j0 j1 jb
              refine wp_intro fun K HK => ?_
              unfold Oper.wp
              simp only [execOp, e53]
              go_simp
              exact HK.out _ _ ⟨(), _, rfl, rfl, jo'.out, je'.out, jx'.out, j0'.out, j1'.out, jb'.out⟩
            · intro _ L w' hL hpre hJ a ha
              obtain ⟨jo, je, jx, j0, j1, jb⟩ := hJ
              simp [Region.binds] at hpre
              refine .inl ⟨wanted_none rfl, ?_⟩
              have e52 : a.eval (.tmp 52) = .bool false := by rw [ha]; exact eval_puts_in (i := 4) rfl (by simp [hpre]) (by simp) rfl
              have e54 : a.eval (.tmp 54) = .bool false := by rw [ha]; exact eval_puts_in (i := 6) rfl (by simp [hpre]) (by simp) rfl
              clear ha
              have jo' := Lib.hid jo
              have je' := Lib.hid je
              have jx' := Lib.hid jx
              have j0' := Lib.hid j0
              have j1' := Lib.hid j1
              have jb' := Lib.hid jb
              clear jo je jx j0 j1 jb
              refine wp_intro fun K HK => ?_
              unfold Oper.wp
              simp only [execOp, e52, e54]
              go_simp
              exact HK.out _ _ ⟨(), _, rfl, rfl, jo'.out, je'.out, jx'.out, j0'.out, j1'.out, jb'.out⟩
            · intro _ L w' hL hpre hJ a ha
              obtain ⟨jo, je, jx, j0, j1, jb⟩ := hJ
              simp [Region.binds] at hpre
              refine .inl ⟨wanted_none rfl, ?_⟩
              exact wp_move' (.tmp 55) (.inl rfl) (.bool false) (by rw [ha]; exact eval_puts_in (i := 7) rfl (by simp [hpre]) (by simp) rfl) ⟨(), _, rfl, rfl, jo, je, jx, j0, j1, jb⟩
            · intro _ L w' hL hpre hJ a ha
              obtain ⟨jo, je, jx, j0, j1, jb⟩ := hJ
              simp [Region.binds] at hpre
              refine .inl ⟨wanted_yes (g := 8) (t := 56) (b := false) rfl rfl (by rw [ha]; exact eval_puts_in (i := 8) rfl (by simp [hpre]) (by simp) rfl), ?_⟩
              have e10 : a.eval (.tmp 10) = .pointer (some ⟨XB, 0, none⟩) := by rw [ha, eval_puts_out rfl]; rfl
              clear ha
              have jo' := Lib.hid jo
              have je' := Lib.hid je
              have jx' := Lib.hid jx
              have j0' := Lib.hid j0
              have j1' := Lib.hid j1
              have jb' := Lib.hid jb
              clear jo je jx j0 j1 jb
              refine wp_intro fun K HK => ?_
              unfold Oper.wp
              simp only [execOp, e10]
              go_simp
              exact HK.out _ _ ⟨(), _, rfl, rfl, jo'.out, je'.out, jx'.out, j0'.out, j1'.out, jb'.out⟩
            · intro _ L w' hL hpre hJ a ha
              obtain ⟨jo, je, jx, j0, j1, jb⟩ := hJ
              simp [Region.binds] at hpre
              refine .inl ⟨wanted_yes (g := 8) (t := 56) (b := false) rfl rfl (by rw [ha]; exact eval_puts_in (i := 8) rfl (by simp [hpre]) (by simp) rfl), ?_⟩
              have e57 : a.eval (.tmp 57) = .pointer (some ⟨XB, 0, none⟩) := by rw [ha]; exact eval_puts_in (i := 9) rfl (by simp [hpre]) (by simp) rfl
              exact wp_load_mid 31 (.tmp 57) rfl XB 0 e57 x.v _ (range_part jx [] x.v [.int .i64 7, .int .i64 9, .int .i64 1] rfl 0 rfl) Tryz.underlying31 rfl (by kernel_rfl) ⟨(), _, rfl, rfl, jo, je, jx, j0, j1, jb⟩
            · intro _ L w' hL hpre hJ a ha
              obtain ⟨jo, je, jx, j0, j1, jb⟩ := hJ
              simp [Region.binds] at hpre
              refine .inl ⟨wanted_yes (g := 8) (t := 56) (b := false) rfl rfl (by rw [ha]; exact eval_puts_in (i := 8) rfl (by simp [hpre]) (by simp) rfl), ?_⟩
              exact wp_move' (.tmp 1) (.inl rfl) (.slice (some ⟨pb, po, none⟩) n c) (by rw [ha, eval_puts_out rfl]; rfl) ⟨(), _, rfl, rfl, jo, je, jx, j0, j1, jb⟩
            · intro _ L w' hL hpre hJ a ha
              obtain ⟨jo, je, jx, j0, j1, jb⟩ := hJ
              simp [Region.binds] at hpre
              refine .inl ⟨wanted_yes (g := 8) (t := 56) (b := false) rfl rfl (by rw [ha]; exact eval_puts_in (i := 8) rfl (by simp [hpre]) (by simp) rfl), ?_⟩
              exact wp_move' (.tmp 8) (.inl rfl) (.int .i64 (i : Int)) (by rw [ha, eval_puts_out rfl]; rfl) ⟨(), _, rfl, rfl, jo, je, jx, j0, j1, jb⟩
            · intro _ L w' hL hpre hJ a ha
              obtain ⟨jo, je, jx, j0, j1, jb⟩ := hJ
              simp [Region.binds] at hpre
              refine .inl ⟨wanted_yes (g := 8) (t := 56) (b := false) rfl rfl (by rw [ha]; exact eval_puts_in (i := 8) rfl (by simp [hpre]) (by simp) rfl), ?_⟩
              have e59 : a.eval (.tmp 59) = .slice (some ⟨pb, po, none⟩) n c := by rw [ha]; exact eval_puts_in (i := 11) rfl (by simp [hpre]) (by simp) rfl
              have e60 : a.eval (.tmp 60) = .int .i64 (i : Int) := by rw [ha]; exact eval_puts_in (i := 12) rfl (by simp [hpre]) (by simp) rfl
              clear ha
              have jo' := Lib.hid jo
              have je' := Lib.hid je
              have jx' := Lib.hid jx
              have j0' := Lib.hid j0
              have j1' := Lib.hid j1
              have jb' := Lib.hid jb
              clear jo je jx j0 j1 jb
              refine wp_intro fun K HK => ?_
              unfold Oper.wp
              simp only [execOp, e59, e60]
              go_simp
              exact HK.out _ _ ⟨(), _, rfl, rfl, jo'.out, je'.out, jx'.out, j0'.out, j1'.out, jb'.out⟩
            · intro _ L w' hL hpre hJ a ha
              obtain ⟨jo, je, jx, j0, j1, jb⟩ := hJ
              simp [Region.binds] at hpre
              refine .inl ⟨wanted_yes (g := 8) (t := 56) (b := false) rfl rfl (by rw [ha]; exact eval_puts_in (i := 8) rfl (by simp [hpre]) (by simp) rfl), ?_⟩
              have e61 : a.eval (.tmp 61) = .pointer (some ⟨pb, po + i * 3, none⟩) := by rw [ha]; exact eval_puts_in (i := 13) rfl (by simp [hpre]) (by simp) rfl
              have hrg := HRG.out w' jb
              exact wp_load_mid 31 (.tmp 61) rfl pb (po + i * 3) e61 x.v _ hrg Tryz.underlying31 rfl (by kernel_rfl) ⟨(), _, rfl, rfl, jo, je, jx, j0, j1, jb⟩
            · intro _ L w' hL hpre hJ a ha
              obtain ⟨jo, je, jx, j0, j1, jb⟩ := hJ
              simp [Region.binds] at hpre
              refine .inl ⟨wanted_yes (g := 8) (t := 56) (b := false) rfl rfl (by rw [ha]; exact eval_puts_in (i := 8) rfl (by simp [hpre]) (by simp) rfl), ?_⟩
              have e58 : a.eval (.tmp 58) = (.agg x.v.toArray) := by rw [ha]; exact eval_puts_in (i := 10) rfl (by simp [hpre]) (by simp) rfl
              have e62 : a.eval (.tmp 62) = (.agg x.v.toArray) := by rw [ha]; exact eval_puts_in (i := 14) rfl (by simp [hpre]) (by simp) rfl
              have hq := HQ.out
              have HJ := Lib.hid (And.intro jo (And.intro je (And.intro jx (And.intro j0 (And.intro j1 jb)))))
              clear ha jo je jx j0 j1 jb
              refine wp_intro fun K HK => ?_
              unfold Oper.wp
              simp only [execOp, e58, e62]
              go_simp
              exact HK.out _ _ ⟨(), _, rfl, rfl, HJ.out⟩
            · intro _ L w' hL hpre hJ a ha
              obtain ⟨jo, je, jx, j0, j1, jb⟩ := hJ
              simp [Region.binds] at hpre
              refine .inl ⟨wanted_none rfl, ?_⟩
              have e56 : a.eval (.tmp 56) = .bool false := by rw [ha]; exact eval_puts_in (i := 8) rfl (by simp [hpre]) (by simp) rfl
              have e63 : a.eval (.tmp 63) = .bool false := by rw [ha]; exact eval_puts_in (i := 15) rfl (by simp [hpre]) (by simp) rfl
              clear ha
              have jo' := Lib.hid jo
              have je' := Lib.hid je
              have jx' := Lib.hid jx
              have j0' := Lib.hid j0
              have j1' := Lib.hid j1
              have jb' := Lib.hid jb
              clear jo je jx j0 j1 jb
              refine wp_intro fun K HK => ?_
              unfold Oper.wp
              simp only [execOp, e56, e63]
              go_simp
              exact HK.out _ _ ⟨(), _, rfl, rfl, jo'.out, je'.out, jx'.out, j0'.out, j1'.out, jb'.out⟩
            · intro _ L w' hL hpre hJ a ha
              obtain ⟨jo, je, jx, j0, j1, jb⟩ := hJ
              simp [Region.binds] at hpre
              refine .inl ⟨wanted_none rfl, ?_⟩
              exact wp_move' (.tmp 64) (.inl rfl) (.bool false) (by rw [ha]; exact eval_puts_in (i := 16) rfl (by simp [hpre]) (by simp) rfl) ⟨(), _, rfl, rfl, jo, je, jx, j0, j1, jb⟩
            · intro _ L w' hL hpre hJ a ha
              obtain ⟨jo, je, jx, j0, j1, jb⟩ := hJ
              simp [Region.binds] at hpre
              refine .inl ⟨wanted_yes (g := 17) (t := 65) (b := false) rfl rfl (by rw [ha]; exact eval_puts_in (i := 17) rfl (by simp [hpre]) (by simp) rfl), ?_⟩
              exact wp_move' (.tmp 6) (.inl rfl) (.pointer (some ⟨g, 0, none⟩)) (by rw [ha, eval_puts_out rfl]; rfl) ⟨(), _, rfl, rfl, jo, je, jx, j0, j1, jb⟩
            · intro _ L w' hL hpre hJ a ha
              obtain ⟨jo, je, jx, j0, j1, jb⟩ := hJ
              simp [Region.binds] at hpre
              refine .inl ⟨wanted_yes (g := 17) (t := 65) (b := false) rfl rfl (by rw [ha]; exact eval_puts_in (i := 17) rfl (by simp [hpre]) (by simp) rfl), ?_⟩
              have e66 : a.eval (.tmp 66) = .pointer (some ⟨g, 0, none⟩) := by rw [ha]; exact eval_puts_in (i := 18) rfl (by simp [hpre]) (by simp) rfl
              have hlen := Lib.hid (show Calls Tryz.prog 24 #[.pointer (some ⟨g, 0, none⟩)] w' (fun e w'' => e = .returned (.int .i64 1) ∧ w' = w'') from by
                cases h3 : L 3 with
                | false => have := tab.len_any (j0 h3); rw [HLN.out] at this; exact this
                | true => have := tab.len_any (j1 h3); rw [HLN.out] at this; exact this)
              have HJ := Lib.hid (And.intro jo (And.intro je (And.intro jx (And.intro j0 (And.intro j1 jb)))))
              clear ha jo je jx j0 j1 jb
              refine wp_intro fun K HK => ?_
              unfold Oper.wp
              simp only [execOp, resolve, List.map_toArray, List.map_cons, List.map_nil, e66]
              go_simp
              refine hlen.out.mono ?_
              rintro e w'' ⟨rfl, rfl⟩
              exact HK.out _ _ ⟨(), _, rfl, rfl, HJ.out⟩
            · intro _ L w' hL hpre hJ a ha
              obtain ⟨jo, je, jx, j0, j1, jb⟩ := hJ
              simp [Region.binds] at hpre
              refine .inl ⟨wanted_yes (g := 17) (t := 65) (b := false) rfl rfl (by rw [ha]; exact eval_puts_in (i := 17) rfl (by simp [hpre]) (by simp) rfl), ?_⟩
              have e67 : a.eval (.tmp 67) = .int .i64 1 := by rw [ha]; exact eval_puts_in (i := 19) rfl (by simp [hpre]) (by simp) rfl
              clear ha
              have jo' := Lib.hid jo
              have je' := Lib.hid je
              have jx' := Lib.hid jx
              have j0' := Lib.hid j0
              have j1' := Lib.hid j1
              have jb' := Lib.hid jb
              clear jo je jx j0 j1 jb
              refine wp_intro fun K HK => ?_
              unfold Oper.wp
              simp only [execOp, e67]
              go_simp
              exact HK.out _ _ ⟨(), _, rfl, rfl, jo'.out, je'.out, jx'.out, j0'.out, j1'.out, jb'.out⟩
            · intro _ L w' hL hpre hJ a ha
              obtain ⟨jo, je, jx, j0, j1, jb⟩ := hJ
              simp [Region.binds] at hpre
              refine .inl ⟨wanted_none rfl, ?_⟩
              have e65 : a.eval (.tmp 65) = .bool false := by rw [ha]; exact eval_puts_in (i := 17) rfl (by simp [hpre]) (by simp) rfl
              have e68 : a.eval (.tmp 68) = .bool false := by rw [ha]; exact eval_puts_in (i := 20) rfl (by simp [hpre]) (by simp) rfl
              clear ha
              have jo' := Lib.hid jo
              have je' := Lib.hid je
              have jx' := Lib.hid jx
              have j0' := Lib.hid j0
              have j1' := Lib.hid j1
              have jb' := Lib.hid jb
              clear jo je jx j0 j1 jb
              refine wp_intro fun K HK => ?_
              unfold Oper.wp
              simp only [execOp, e65, e68]
              go_simp
              exact HK.out _ _ ⟨(), _, rfl, rfl, jo'.out, je'.out, jx'.out, j0'.out, j1'.out, jb'.out⟩
          · intro _ L w' hL hJ
            obtain ⟨jo, je, jx, j0, j1, jb⟩ := hJ
            simp only [List.foldl_cons, List.foldl_nil]
            have HT6 := Lib.hid (j1 (hL 3 (by decide)))
            have HE6 := Lib.hid je
            have HB6 := Lib.hid jb
            clear jo je jx j0 j1 jb hL
            go_simp
            go_wp2_with fail
            go_roundw
            case rel => exact ⟨i + 1, by omega, by omega, by go_num, ⟨_, HT6.out, by rw [HQ1.out]; exact ⟨rfl, fun h => by omega, fun _ => ⟨⟨_, rfl, rfl⟩, rfl⟩⟩⟩, HE6.out, HB6.out⟩
            case measure => simp [intOf]; omega
      · obtain rfl : i = 20 := by omega
        have hnx := (HS.out.on (by omega)).2
        have hh := tab.next_any HT.out
        rw [hnx] at hh
        have HN := Lib.hid hh
        have hd : decide (20 < 20) = false := rfl
        clear hnx hh
        go_wp2_with fail
        refine HN.out.mono ?_
        rintro e w4 ⟨rfl, rfl⟩
        go_wp2_with fail
        go_ret
        exact ⟨rfl, HB.out⟩
    · obtain rfl : i = n := by omega
      have hh := tab.next_any HT.out
      by_cases h0 : i = 0
      · have hnx := (HS.out.start h0).2
        subst h0
        rw [hnx] at hh
        have HN := Lib.hid hh
        clear hnx hh
        go_wp2_with fail
        refine HN.out.mono ?_
        rintro e w4 ⟨rfl, rfl⟩
        go_wp2_with fail
        go_ret
        exact ⟨rfl, HB.out⟩
      · have hnx := (HS.out.on (by omega)).2
        rw [hnx] at hh
        have HN := Lib.hid hh
        clear hnx hh
        go_wp2_with fail
        refine HN.out.mono ?_
        rintro e w4 ⟨rfl, rfl⟩
        go_wp2_with fail
        go_ret
        exact ⟨rfl, HB.out⟩
end Go.Proofs.YtpbigfopmompfaaGreat.tableMove
