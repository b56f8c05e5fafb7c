import Derived.Test.YtakekjbbbjmdpaaAllSt
import Derived.Test.YtakekjbbbjmdpaaSpotBlock
import Derived.Deep.DeepCutAuto
import Derived.Deep.CutBlock
/- SpotAll: things by places, told in their order; no condition. -/
namespace Go.Proofs.Ytakekjbbbjmdpaa.spotAll
open Go.RowKit
open Go.Proofs.Ytakekjbbbjmdpaa.begun5 (cell1 lt_cell grown_cell)
set_option linter.unusedVariables false
set_option maxRecDepth 100000 in
set_option maxHeartbeats 8000000 in
theorem walk (A : Option Addr) (n c : Nat) (w : World) (h0 : IsRows (List.replicate 5 (Kd.int .i64)) w A n c) :
    Calls Try.prog 18 #[.slice A n c] w fun e w' => e = .returned (.bool true) ∧ Below w.heap.size w w' := by
  obtain ⟨l, hr, hwf, hnc, hcm⟩ := open_ops h0
  clear h0
  unfold maxLen at hcm
  have HR := Lib.hid hr
  have HL := Lib.hid (show l.length = n by have := hr.1; simpa [ops] using this)
  have HW := Lib.hid hwf
  clear hr hwf
  go_enter Try.func18, Try.ntmps18
  go_wp2_with fail
  refine (begun5.begun5_any _).mono ?_
  rintro e w1 ⟨rfl, hb1⟩
  go_wp2_with fail
  refine (spotInt.new _).mono ?_
  rintro e w2 ⟨rfl, hS2, hb⟩
  have hb2 := hb1.trans (hb.mono hb1.size)
  have hm := hb1.size
  have hl2 := hS2.lt
  have st0 : St w w2 (w1.heap.size + 1) w1.heap.size w2.heap.size 0 (.slice none 0 0) (.slice none 0 0) [] [] :=
    ⟨⟨hm, by omega, hl2.1, hl2.2, Nat.le_refl _⟩, hS2, List.Perm.refl _, List.Pairwise.nil, Nat.le_refl _, by simp, OwnRows.nil, World.ownsRow_nil _ _ _ _, hb2⟩
  clear hb hb1 hS2 hb2 hl2
  generalize w1.heap.size = m at *
  generalize w2.heap.size = B at *
  go_wp2_with fail
  go_loopw [5, 6, 7] (fun va vn i wr => ∃ (k : Nat) (R : Prs) (f : List (Ad × Value)), k ≤ n ∧ k ≤ 60 ∧ i = .int .i64 k ∧ St w wr (m + 1) m B k va vn R f) (fun _ _ i _ => n - (intOf i).toNat)
  case atStart => exact ⟨0, [], [], by omega, by omega, rfl, st0⟩
  case round =>
    clear st0
    obtain ⟨k, R, f, hk, hk60, rfl, hst⟩ := hrel
    have hRl := hst.len
    obtain ⟨A5, c5, rfl, hc5, hm5⟩ := hst.as_.slice
    obtain ⟨A6, c6, rfl, hc6, hm6⟩ := own_slice hst.ns_
    by_cases hlt : k < n ∧ k < 60
    · have hkl : k < l.length := by rw [HL.out]; exact hlt.1
      have hr' := HR.out.below hst.below (Nat.le_refl _)
      obtain ⟨bb, oo, rfl, hbb, hRr⟩ := rds_range hr' hlt.1 (getOps hkl)
      have HA := Lib.hid (HW.out l[k] (List.getElem_mem hkl))
      have hlt2 : (k : Int) < (n : Int) := by omega
      have hlt3 : (k : Int) < 60 := by omega
      clear hr'
      generalize l[k] = x at *
      have hU := Lib.hid (fun w5 (h : Upd wr.heap.size (.cells x.v.toArray 85) (wr.alloc (.cells #[.int .i64 0, .int .i64 0, .int .i64 0, .int .i64 0, .int .i64 0] 85)) w5) =>
        And.intro (hst.kept (h.below ((Below.refl _ wr).alloc (Nat.le_refl _) _) (Nat.le_refl _))) h.at_)
      have hsz := hst.below.size
      have HSt := Lib.hid hst
      clear hst
      go_upto_block 2 with (first | (refine wpList_load_mid rfl 85 (.tmp 31) rfl bb (oo + k * 5) rfl x.v _ hRr Try.underlying85 rfl (opInfo x) ?_) | (refine wpList_put_row rfl 85 (.tmp 8) (.tmp 32) rfl wr.heap.size x.v rfl rfl 85 _ (heap_new' wr _ _ rfl) (opInfo x) rfl (by simp [Opr.v, Value.oneCell']) ?_; intro w5 hU5; have h5 := hU.out w5 hU5; clear hU5))
      have WR0 := Lib.hid HSt.out.lo.2.2.2.2
      obtain ⟨hst, h5a⟩ := h5
      generalize hwr0 : wr = wr0 at *
      clear hwr0
      have H5 := Lib.hid (show w5.rangeAt wr0.heap.size 1 x.a.v ∧ w5.cell? ⟨wr0.heap.size, 0, none⟩ = some (.int .i64 x.k) ∧ w5.cell? ⟨wr0.heap.size, 4, none⟩ = some (.int .i64 x.n) from Opr.range h5a)
      have HSt := Lib.hid hst
      clear hst h5a hU hRr
      go_cut [9] (fun v wx => ∃ j : Nat, v = .int .i64 j ∧ AtK R x.a j ∧ Below w5.heap.size w5 wx)
      case first =>
        go_wp2_with fail
        go_loopw [9] (fun v wr => ∃ j : Nat, j ≤ R.length ∧ v = .int .i64 j ∧ (∀ y ∈ R.take j, lessA y.1 x.a = true) ∧ Below w5.heap.size w5 wr) (fun v _ => R.length - (intOf v).toNat)
        case atStart => exact ⟨0, by omega, rfl, by simp, Below.refl _ _⟩
        case round =>
          obtain ⟨j, hj, rfl, hlow, hb⟩ := hrel
          have HLow := Lib.hid hlow
          clear hlow
          by_cases hjl : j < R.length
          · have hy0 : R[j]? = some R[j] := List.getElem?_eq_getElem hjl
            obtain ⟨ga, ca, e5, -, -, -, -⟩ := own_form HSt.out.as_.1 (by omega)
            cases e5
            have hjI : (j : Int) < (R.length : Int) := by omega
            have hya : (ads (keys R))[j]? = some R[j].1.v := by rw [ads, keys, List.getElem?_map, List.getElem?_map, hy0]; rfl
            obtain ⟨ga', oa', e5, -, hy⟩ := rds_range ((HSt.out.as_.rds).below hb (Nat.le_refl _)) hjl hya
            cases e5
            rw [Nat.zero_add] at hy
            have ho : wr.rangeAt wr0.heap.size 1 x.a.v := range_keep H5.out.1 hb
            have HY := Lib.hid hy0
            clear hya hy0
            generalize hy1 : R[j] = y2 at *
            obtain ⟨y, ny⟩ := y2
            clear hy1
            simp only at hy
            cases hLess : lessA y x.a with
            | true =>
              go_upto_region 12 with fail
              refine wp_region_puts_g (by kernel_rfl) (by kernel_rfl) (X := Unit) (fun _ => [(some 33, .int .i64 (j : Int)), (some 34, .slice (some ⟨ga, 0, none⟩) R.length c5), (some 35, .int .i64 (R.length : Int)), (some 36, .bool true), (some 37, .bool true), (some 38, .slice (some ⟨ga, 0, none⟩) R.length c5), (some 39, .int .i64 (j : Int)), (some 40, .pointer (some ⟨ga, j * 3, none⟩)), (some 41, .agg (y.v).toArray), (some 42, .pointer (some ⟨wr0.heap.size, 1, none⟩)), (some 43, .agg (x.a.v).toArray), (some 44, .bool true), (some 45, .bool true)])
                (fun _ L w' => w'.rangeAt ga (j * 3) y.v ∧ w'.rangeAt wr0.heap.size 1 x.a.v ∧ Below w5.heap.size w5 w') (fun _ => rfl) (by kernel_rfl) ⟨(), fun _ _ => ⟨hy, ho, hb.drew⟩⟩ ?_ ?_
              · refine ⟨?_, ?_, ?_, ?_, ?_, ?_, ?_, ?_, ?_, ?_, ?_, ?_, ?_, trivial⟩
                · intro _ L w' hL hpre hJ a ha
                  obtain ⟨ja, jo, jb⟩ := hJ
                  simp [Region.binds] at hpre
                  refine .inl ⟨wanted_none rfl, ?_⟩
                  exact wp_move' (.tmp 9) (.inl rfl) (.int .i64 (j : Int)) (by rw [ha, eval_puts_out rfl]; rfl) ⟨(), _, rfl, rfl, ja, jo, jb⟩
                · intro _ L w' hL hpre hJ a ha
                  obtain ⟨ja, jo, jb⟩ := hJ
                  simp [Region.binds] at hpre
                  refine .inl ⟨wanted_none rfl, ?_⟩
                  exact wp_move' (.tmp 5) (.inl rfl) (.slice (some ⟨ga, 0, none⟩) R.length c5) (by rw [ha, eval_puts_out rfl]; rfl) ⟨(), _, rfl, rfl, ja, jo, jb⟩
                · intro _ L w' hL hpre hJ a ha
                  obtain ⟨ja, jo, jb⟩ := hJ
                  simp [Region.binds] at hpre
                  refine .inl ⟨wanted_none rfl, ?_⟩
                  have e34 : a.eval (.tmp 34) = .slice (some ⟨ga, 0, none⟩) R.length c5 := by rw [ha]; exact eval_puts_in (i := 1) rfl (by simp [hpre]) (by simp) rfl
                  clear ha
                  have ja' := Lib.hid ja
                  have jo' := Lib.hid jo
                  have jb' := Lib.hid jb
                  clear ja jo jb
                  refine wp_intro fun K HK => ?_
                  unfold Oper.wp
                  simp only [execOp, resolve, List.map_toArray, List.map_cons, List.map_nil, e34]
                  go_simp
                  exact HK.out _ _ ⟨(), _, rfl, rfl, ja'.out, jo'.out, jb'.out⟩
                · intro _ L w' hL hpre hJ a ha
                  obtain ⟨ja, jo, jb⟩ := hJ
                  simp [Region.binds] at hpre
                  refine .inl ⟨wanted_none rfl, ?_⟩
                  have e33 : a.eval (.tmp 33) = .int .i64 (j : Int) := by rw [ha]; exact eval_puts_in (i := 0) rfl (by simp [hpre]) (by simp) rfl
                  have e35 : a.eval (.tmp 35) = .int .i64 (R.length : Int) := by rw [ha]; exact eval_puts_in (i := 2) rfl (by simp [hpre]) (by simp) rfl
                  clear ha
                  have ja' := Lib.hid ja
                  have jo' := Lib.hid jo
                  have jb' := Lib.hid jb
                  clear ja jo jb
                  refine wp_intro fun K HK => ?_
                  unfold Oper.wp
                  simp only [execOp, e33, e35]
                  go_simp
                  exact HK.out _ _ ⟨(), _, rfl, rfl, ja'.out, jo'.out, jb'.out⟩
                · intro _ L w' hL hpre hJ a ha
                  obtain ⟨ja, jo, jb⟩ := hJ
                  simp [Region.binds] at hpre
                  refine .inl ⟨wanted_none rfl, ?_⟩
                  exact wp_move' (.tmp 36) (.inl rfl) (.bool true) (by rw [ha]; exact eval_puts_in (i := 3) rfl (by simp [hpre]) (by simp) rfl) ⟨(), _, rfl, rfl, ja, jo, jb⟩
                · intro _ L w' hL hpre hJ a ha
                  obtain ⟨ja, jo, jb⟩ := hJ
                  simp [Region.binds] at hpre
                  refine .inl ⟨wanted_yes (g := 4) (t := 37) (b := true) rfl rfl (by rw [ha]; exact eval_puts_in (i := 4) rfl (by simp [hpre]) (by simp) rfl), ?_⟩
                  exact wp_move' (.tmp 5) (.inl rfl) (.slice (some ⟨ga, 0, none⟩) R.length c5) (by rw [ha, eval_puts_out rfl]; rfl) ⟨(), _, rfl, rfl, ja, jo, jb⟩
                · intro _ L w' hL hpre hJ a ha
                  obtain ⟨ja, jo, jb⟩ := hJ
                  simp [Region.binds] at hpre
                  refine .inl ⟨wanted_yes (g := 4) (t := 37) (b := true) rfl rfl (by rw [ha]; exact eval_puts_in (i := 4) rfl (by simp [hpre]) (by simp) rfl), ?_⟩
                  exact wp_move' (.tmp 9) (.inl rfl) (.int .i64 (j : Int)) (by rw [ha, eval_puts_out rfl]; rfl) ⟨(), _, rfl, rfl, ja, jo, jb⟩
                · intro _ L w' hL hpre hJ a ha
                  obtain ⟨ja, jo, jb⟩ := hJ
                  simp [Region.binds] at hpre
                  refine .inl ⟨wanted_yes (g := 4) (t := 37) (b := true) rfl rfl (by rw [ha]; exact eval_puts_in (i := 4) rfl (by simp [hpre]) (by simp) rfl), ?_⟩
                  have e38 : a.eval (.tmp 38) = .slice (some ⟨ga, 0, none⟩) R.length c5 := by rw [ha]; exact eval_puts_in (i := 5) rfl (by simp [hpre]) (by simp) rfl
                  have e39 : a.eval (.tmp 39) = .int .i64 (j : Int) := by rw [ha]; exact eval_puts_in (i := 6) rfl (by simp [hpre]) (by simp) rfl
                  clear ha
                  have ja' := Lib.hid ja
                  have jo' := Lib.hid jo
                  have jb' := Lib.hid jb
                  clear ja jo jb
                  refine wp_intro fun K HK => ?_
                  unfold Oper.wp
                  simp only [execOp, e38, e39]
                  go_simp
                  exact HK.out _ _ ⟨(), _, rfl, rfl, ja'.out, jo'.out, jb'.out⟩
                · intro _ L w' hL hpre hJ a ha
                  obtain ⟨ja, jo, jb⟩ := hJ
                  simp [Region.binds] at hpre
                  refine .inl ⟨wanted_yes (g := 4) (t := 37) (b := true) rfl rfl (by rw [ha]; exact eval_puts_in (i := 4) rfl (by simp [hpre]) (by simp) rfl), ?_⟩
                  exact wp_load_mid 83 (.tmp 40) rfl ga (j * 3) (by rw [ha]; exact eval_puts_in (i := 7) rfl (by simp [hpre]) (by simp) rfl) (y.v) _ ja Try.underlying83 rfl aInfo ⟨(), _, rfl, rfl, ja, jo, jb⟩
                · intro _ L w' hL hpre hJ a ha
                  obtain ⟨ja, jo, jb⟩ := hJ
                  simp [Region.binds] at hpre
                  refine .inl ⟨wanted_yes (g := 4) (t := 37) (b := true) rfl rfl (by rw [ha]; exact eval_puts_in (i := 4) rfl (by simp [hpre]) (by simp) rfl), ?_⟩
                  have e8 : a.eval (.tmp 8) = .pointer (some ⟨wr0.heap.size, 0, none⟩) := by rw [ha, eval_puts_out rfl]; rfl
                  clear ha
                  have ja' := Lib.hid ja
                  have jo' := Lib.hid jo
                  have jb' := Lib.hid jb
                  clear ja jo jb
                  refine wp_intro fun K HK => ?_
                  unfold Oper.wp
                  simp only [execOp, e8]
                  go_simp
                  exact HK.out _ _ ⟨(), _, rfl, rfl, ja'.out, jo'.out, jb'.out⟩
                · intro _ L w' hL hpre hJ a ha
                  obtain ⟨ja, jo, jb⟩ := hJ
                  simp [Region.binds] at hpre
                  refine .inl ⟨wanted_yes (g := 4) (t := 37) (b := true) rfl rfl (by rw [ha]; exact eval_puts_in (i := 4) rfl (by simp [hpre]) (by simp) rfl), ?_⟩
                  exact wp_load_mid 83 (.tmp 42) rfl wr0.heap.size 1 (by rw [ha]; exact eval_puts_in (i := 9) rfl (by simp [hpre]) (by simp) rfl) (x.a.v) _ jo Try.underlying83 rfl aInfo ⟨(), _, rfl, rfl, ja, jo, jb⟩
                · intro _ L w' hL hpre hJ a ha
                  obtain ⟨ja, jo, jb⟩ := hJ
                  simp [Region.binds] at hpre
                  refine .inl ⟨wanted_yes (g := 4) (t := 37) (b := true) rfl rfl (by rw [ha]; exact eval_puts_in (i := 4) rfl (by simp [hpre]) (by simp) rfl), ?_⟩
                  have e41 : a.eval (.tmp 41) = .agg (y.v).toArray := by rw [ha]; exact eval_puts_in (i := 8) rfl (by simp [hpre]) (by simp) rfl
                  have e43 : a.eval (.tmp 43) = .agg (x.a.v).toArray := by rw [ha]; exact eval_puts_in (i := 10) rfl (by simp [hpre]) (by simp) rfl
                  clear ha
                  have ja' := Lib.hid ja
                  have jo' := Lib.hid jo
                  have jb' := Lib.hid jb
                  clear ja jo jb
                  refine wp_intro fun K HK => ?_
                  unfold Oper.wp
                  simp only [execOp, resolve, List.map_toArray, List.map_cons, List.map_nil, e41, e43]
                  go_simp
                  refine (less_any y x.a w').mono ?_
                  rw [hLess]
                  rintro e w'' ⟨rfl, hb⟩
                  exact HK.out _ _ ⟨(), _, rfl, rfl, range_keep ja'.out hb, range_keep jo'.out hb, jb'.out.trans (hb.mono jb'.out.size)⟩
                · intro _ L w' hL hpre hJ a ha
                  obtain ⟨ja, jo, jb⟩ := hJ
                  simp [Region.binds] at hpre
                  refine .inl ⟨wanted_none rfl, ?_⟩
                  have e37 : a.eval (.tmp 37) = .bool true := by rw [ha]; exact eval_puts_in (i := 4) rfl (by simp [hpre]) (by simp) rfl
                  have e44 : a.eval (.tmp 44) = .bool true := by rw [ha]; exact eval_puts_in (i := 11) rfl (by simp [hpre]) (by simp) rfl
                  clear ha
                  have ja' := Lib.hid ja
                  have jo' := Lib.hid jo
                  have jb' := Lib.hid jb
                  clear ja jo jb
                  refine wp_intro fun K HK => ?_
                  unfold Oper.wp
                  simp only [execOp, e37, e44]
                  go_simp
                  exact HK.out _ _ ⟨(), _, rfl, rfl, ja'.out, jo'.out, jb'.out⟩
              · intro _ L w' hL hJ
                obtain ⟨ja, jo, jb⟩ := hJ
                clear hL
                simp only [List.foldl_cons, List.foldl_nil]
                go_simp
                go_wp2_with fail
                go_roundw
                case rel => exact ⟨j + 1, by omega, by go_num, low_next HLow.out HY.out hLess, jb⟩
                case measure => simp [intOf]; omega
            | false =>
              go_upto_region 12 with fail
              refine wp_region_puts_g (by kernel_rfl) (by kernel_rfl) (X := Unit) (fun _ => [(some 33, .int .i64 (j : Int)), (some 34, .slice (some ⟨ga, 0, none⟩) R.length c5), (some 35, .int .i64 (R.length : Int)), (some 36, .bool true), (some 37, .bool true), (some 38, .slice (some ⟨ga, 0, none⟩) R.length c5), (some 39, .int .i64 (j : Int)), (some 40, .pointer (some ⟨ga, j * 3, none⟩)), (some 41, .agg (y.v).toArray), (some 42, .pointer (some ⟨wr0.heap.size, 1, none⟩)), (some 43, .agg (x.a.v).toArray), (some 44, .bool false), (some 45, .bool false)])
                (fun _ L w' => w'.rangeAt ga (j * 3) y.v ∧ w'.rangeAt wr0.heap.size 1 x.a.v ∧ Below w5.heap.size w5 w') (fun _ => rfl) (by kernel_rfl) ⟨(), fun _ _ => ⟨hy, ho, hb.drew⟩⟩ ?_ ?_
              · refine ⟨?_, ?_, ?_, ?_, ?_, ?_, ?_, ?_, ?_, ?_, ?_, ?_, ?_, trivial⟩
                · intro _ L w' hL hpre hJ a ha
                  obtain ⟨ja, jo, jb⟩ := hJ
                  simp [Region.binds] at hpre
                  refine .inl ⟨wanted_none rfl, ?_⟩
                  exact wp_move' (.tmp 9) (.inl rfl) (.int .i64 (j : Int)) (by rw [ha, eval_puts_out rfl]; rfl) ⟨(), _, rfl, rfl, ja, jo, jb⟩
                · intro _ L w' hL hpre hJ a ha
                  obtain ⟨ja, jo, jb⟩ := hJ
                  simp [Region.binds] at hpre
                  refine .inl ⟨wanted_none rfl, ?_⟩
                  exact wp_move' (.tmp 5) (.inl rfl) (.slice (some ⟨ga, 0, none⟩) R.length c5) (by rw [ha, eval_puts_out rfl]; rfl) ⟨(), _, rfl, rfl, ja, jo, jb⟩
                · intro _ L w' hL hpre hJ a ha
                  obtain ⟨ja, jo, jb⟩ := hJ
                  simp [Region.binds] at hpre
                  refine .inl ⟨wanted_none rfl, ?_⟩
                  have e34 : a.eval (.tmp 34) = .slice (some ⟨ga, 0, none⟩) R.length c5 := by rw [ha]; exact eval_puts_in (i := 1) rfl (by simp [hpre]) (by simp) rfl
                  clear ha
                  have ja' := Lib.hid ja
                  have jo' := Lib.hid jo
                  have jb' := Lib.hid jb
                  clear ja jo jb
                  refine wp_intro fun K HK => ?_
                  unfold Oper.wp
                  simp only [execOp, resolve, List.map_toArray, List.map_cons, List.map_nil, e34]
                  go_simp
                  exact HK.out _ _ ⟨(), _, rfl, rfl, ja'.out, jo'.out, jb'.out⟩
                · intro _ L w' hL hpre hJ a ha
                  obtain ⟨ja, jo, jb⟩ := hJ
                  simp [Region.binds] at hpre
                  refine .inl ⟨wanted_none rfl, ?_⟩
                  have e33 : a.eval (.tmp 33) = .int .i64 (j : Int) := by rw [ha]; exact eval_puts_in (i := 0) rfl (by simp [hpre]) (by simp) rfl
                  have e35 : a.eval (.tmp 35) = .int .i64 (R.length : Int) := by rw [ha]; exact eval_puts_in (i := 2) rfl (by simp [hpre]) (by simp) rfl
                  clear ha
                  have ja' := Lib.hid ja
                  have jo' := Lib.hid jo
                  have jb' := Lib.hid jb
                  clear ja jo jb
                  refine wp_intro fun K HK => ?_
                  unfold Oper.wp
                  simp only [execOp, e33, e35]
                  go_simp
                  exact HK.out _ _ ⟨(), _, rfl, rfl, ja'.out, jo'.out, jb'.out⟩
                · intro _ L w' hL hpre hJ a ha
                  obtain ⟨ja, jo, jb⟩ := hJ
                  simp [Region.binds] at hpre
                  refine .inl ⟨wanted_none rfl, ?_⟩
                  exact wp_move' (.tmp 36) (.inl rfl) (.bool true) (by rw [ha]; exact eval_puts_in (i := 3) rfl (by simp [hpre]) (by simp) rfl) ⟨(), _, rfl, rfl, ja, jo, jb⟩
                · intro _ L w' hL hpre hJ a ha
                  obtain ⟨ja, jo, jb⟩ := hJ
                  simp [Region.binds] at hpre
                  refine .inl ⟨wanted_yes (g := 4) (t := 37) (b := true) rfl rfl (by rw [ha]; exact eval_puts_in (i := 4) rfl (by simp [hpre]) (by simp) rfl), ?_⟩
                  exact wp_move' (.tmp 5) (.inl rfl) (.slice (some ⟨ga, 0, none⟩) R.length c5) (by rw [ha, eval_puts_out rfl]; rfl) ⟨(), _, rfl, rfl, ja, jo, jb⟩
                · intro _ L w' hL hpre hJ a ha
                  obtain ⟨ja, jo, jb⟩ := hJ
                  simp [Region.binds] at hpre
                  refine .inl ⟨wanted_yes (g := 4) (t := 37) (b := true) rfl rfl (by rw [ha]; exact eval_puts_in (i := 4) rfl (by simp [hpre]) (by simp) rfl), ?_⟩
                  exact wp_move' (.tmp 9) (.inl rfl) (.int .i64 (j : Int)) (by rw [ha, eval_puts_out rfl]; rfl) ⟨(), _, rfl, rfl, ja, jo, jb⟩
                · intro _ L w' hL hpre hJ a ha
                  obtain ⟨ja, jo, jb⟩ := hJ
                  simp [Region.binds] at hpre
                  refine .inl ⟨wanted_yes (g := 4) (t := 37) (b := true) rfl rfl (by rw [ha]; exact eval_puts_in (i := 4) rfl (by simp [hpre]) (by simp) rfl), ?_⟩
                  have e38 : a.eval (.tmp 38) = .slice (some ⟨ga, 0, none⟩) R.length c5 := by rw [ha]; exact eval_puts_in (i := 5) rfl (by simp [hpre]) (by simp) rfl
                  have e39 : a.eval (.tmp 39) = .int .i64 (j : Int) := by rw [ha]; exact eval_puts_in (i := 6) rfl (by simp [hpre]) (by simp) rfl
                  clear ha
                  have ja' := Lib.hid ja
                  have jo' := Lib.hid jo
                  have jb' := Lib.hid jb
                  clear ja jo jb
                  refine wp_intro fun K HK => ?_
                  unfold Oper.wp
                  simp only [execOp, e38, e39]
                  go_simp
                  exact HK.out _ _ ⟨(), _, rfl, rfl, ja'.out, jo'.out, jb'.out⟩
                · intro _ L w' hL hpre hJ a ha
                  obtain ⟨ja, jo, jb⟩ := hJ
                  simp [Region.binds] at hpre
                  refine .inl ⟨wanted_yes (g := 4) (t := 37) (b := true) rfl rfl (by rw [ha]; exact eval_puts_in (i := 4) rfl (by simp [hpre]) (by simp) rfl), ?_⟩
                  exact wp_load_mid 83 (.tmp 40) rfl ga (j * 3) (by rw [ha]; exact eval_puts_in (i := 7) rfl (by simp [hpre]) (by simp) rfl) (y.v) _ ja Try.underlying83 rfl aInfo ⟨(), _, rfl, rfl, ja, jo, jb⟩
                · intro _ L w' hL hpre hJ a ha
                  obtain ⟨ja, jo, jb⟩ := hJ
                  simp [Region.binds] at hpre
                  refine .inl ⟨wanted_yes (g := 4) (t := 37) (b := true) rfl rfl (by rw [ha]; exact eval_puts_in (i := 4) rfl (by simp [hpre]) (by simp) rfl), ?_⟩
                  have e8 : a.eval (.tmp 8) = .pointer (some ⟨wr0.heap.size, 0, none⟩) := by rw [ha, eval_puts_out rfl]; rfl
                  clear ha
                  have ja' := Lib.hid ja
                  have jo' := Lib.hid jo
                  have jb' := Lib.hid jb
                  clear ja jo jb
                  refine wp_intro fun K HK => ?_
                  unfold Oper.wp
                  simp only [execOp, e8]
                  go_simp
                  exact HK.out _ _ ⟨(), _, rfl, rfl, ja'.out, jo'.out, jb'.out⟩
                · intro _ L w' hL hpre hJ a ha
                  obtain ⟨ja, jo, jb⟩ := hJ
                  simp [Region.binds] at hpre
                  refine .inl ⟨wanted_yes (g := 4) (t := 37) (b := true) rfl rfl (by rw [ha]; exact eval_puts_in (i := 4) rfl (by simp [hpre]) (by simp) rfl), ?_⟩
                  exact wp_load_mid 83 (.tmp 42) rfl wr0.heap.size 1 (by rw [ha]; exact eval_puts_in (i := 9) rfl (by simp [hpre]) (by simp) rfl) (x.a.v) _ jo Try.underlying83 rfl aInfo ⟨(), _, rfl, rfl, ja, jo, jb⟩
                · intro _ L w' hL hpre hJ a ha
                  obtain ⟨ja, jo, jb⟩ := hJ
                  simp [Region.binds] at hpre
                  refine .inl ⟨wanted_yes (g := 4) (t := 37) (b := true) rfl rfl (by rw [ha]; exact eval_puts_in (i := 4) rfl (by simp [hpre]) (by simp) rfl), ?_⟩
                  have e41 : a.eval (.tmp 41) = .agg (y.v).toArray := by rw [ha]; exact eval_puts_in (i := 8) rfl (by simp [hpre]) (by simp) rfl
                  have e43 : a.eval (.tmp 43) = .agg (x.a.v).toArray := by rw [ha]; exact eval_puts_in (i := 10) rfl (by simp [hpre]) (by simp) rfl
                  clear ha
                  have ja' := Lib.hid ja
                  have jo' := Lib.hid jo
                  have jb' := Lib.hid jb
                  clear ja jo jb
                  refine wp_intro fun K HK => ?_
                  unfold Oper.wp
                  simp only [execOp, resolve, List.map_toArray, List.map_cons, List.map_nil, e41, e43]
                  go_simp
                  refine (less_any y x.a w').mono ?_
                  rw [hLess]
                  rintro e w'' ⟨rfl, hb⟩
                  exact HK.out _ _ ⟨(), _, rfl, rfl, range_keep ja'.out hb, range_keep jo'.out hb, jb'.out.trans (hb.mono jb'.out.size)⟩
                · intro _ L w' hL hpre hJ a ha
                  obtain ⟨ja, jo, jb⟩ := hJ
                  simp [Region.binds] at hpre
                  refine .inl ⟨wanted_none rfl, ?_⟩
                  have e37 : a.eval (.tmp 37) = .bool true := by rw [ha]; exact eval_puts_in (i := 4) rfl (by simp [hpre]) (by simp) rfl
                  have e44 : a.eval (.tmp 44) = .bool false := by rw [ha]; exact eval_puts_in (i := 11) rfl (by simp [hpre]) (by simp) rfl
                  clear ha
                  have ja' := Lib.hid ja
                  have jo' := Lib.hid jo
                  have jb' := Lib.hid jb
                  clear ja jo jb
                  refine wp_intro fun K HK => ?_
                  unfold Oper.wp
                  simp only [execOp, e37, e44]
                  go_simp
                  exact HK.out _ _ ⟨(), _, rfl, rfl, ja'.out, jo'.out, jb'.out⟩
              · intro _ L w' hL hJ
                obtain ⟨ja, jo, jb⟩ := hJ
                clear hL
                simp only [List.foldl_cons, List.foldl_nil]
                go_simp
                go_wp2_with fail
                go_meet
                case rel => exact ⟨j, rfl, ⟨by omega, HLow.out, fun z hz => by rw [HY.out] at hz; cases hz; exact hLess⟩, jb⟩
          · obtain rfl : j = R.length := by omega
            go_upto_region 12 with fail
            refine wp_region_puts_g (by kernel_rfl) (by kernel_rfl) (X := Unit) (fun _ => [(some 33, .int .i64 (R.length : Int)), (some 34, .slice A5 R.length c5), (some 35, .int .i64 (R.length : Int)), (some 36, .bool false), (some 37, .bool false), (some 38, undef), (some 39, undef), (some 40, undef), (some 41, undef), (some 42, undef), (some 43, undef), (some 44, undef), (some 45, .bool false)])
              (fun _ L w' => w' = wr.drew ∧ Below w5.heap.size w5 w') (fun _ => rfl) (by kernel_rfl) ⟨(), fun _ _ => ⟨rfl, hb.drew⟩⟩ ?_ ?_
            · refine ⟨?_, ?_, ?_, ?_, ?_, ?_, ?_, ?_, ?_, ?_, ?_, ?_, ?_, trivial⟩
              · intro _ L w' hL hpre hJ a ha
                obtain ⟨jw, jb⟩ := hJ
                simp [Region.binds] at hpre
                refine .inl ⟨wanted_none rfl, ?_⟩
                exact wp_move' (.tmp 9) (.inl rfl) (.int .i64 (R.length : Int)) (by rw [ha, eval_puts_out rfl]; rfl) ⟨(), _, rfl, rfl, jw, jb⟩
              · intro _ L w' hL hpre hJ a ha
                obtain ⟨jw, jb⟩ := hJ
                simp [Region.binds] at hpre
                refine .inl ⟨wanted_none rfl, ?_⟩
                exact wp_move' (.tmp 5) (.inl rfl) (.slice A5 R.length c5) (by rw [ha, eval_puts_out rfl]; rfl) ⟨(), _, rfl, rfl, jw, jb⟩
              · intro _ L w' hL hpre hJ a ha
                obtain ⟨jw, jb⟩ := hJ
                simp [Region.binds] at hpre
                refine .inl ⟨wanted_none rfl, ?_⟩
                have e34 : a.eval (.tmp 34) = .slice A5 R.length c5 := by rw [ha]; exact eval_puts_in (i := 1) rfl (by simp [hpre]) (by simp) rfl
                clear ha
                have jw' := Lib.hid jw
                have jb' := Lib.hid jb
                clear jw jb
                refine wp_intro fun K HK => ?_
                unfold Oper.wp
                simp only [execOp, resolve, List.map_toArray, List.map_cons, List.map_nil, e34]
                go_simp
                exact HK.out _ _ ⟨(), _, rfl, rfl, jw'.out, jb'.out⟩
              · intro _ L w' hL hpre hJ a ha
                obtain ⟨jw, jb⟩ := hJ
                simp [Region.binds] at hpre
                refine .inl ⟨wanted_none rfl, ?_⟩
                have e33 : a.eval (.tmp 33) = .int .i64 (R.length : Int) := by rw [ha]; exact eval_puts_in (i := 0) rfl (by simp [hpre]) (by simp) rfl
                have e35 : a.eval (.tmp 35) = .int .i64 (R.length : Int) := by rw [ha]; exact eval_puts_in (i := 2) rfl (by simp [hpre]) (by simp) rfl
                clear ha
                have jw' := Lib.hid jw
                have jb' := Lib.hid jb
                clear jw jb
                refine wp_intro fun K HK => ?_
                unfold Oper.wp
                simp only [execOp, e33, e35]
                go_simp
                exact HK.out _ _ ⟨(), _, rfl, rfl, jw'.out, jb'.out⟩
              · intro _ L w' hL hpre hJ a ha
                obtain ⟨jw, jb⟩ := hJ
                simp [Region.binds] at hpre
                refine .inl ⟨wanted_none rfl, ?_⟩
                exact wp_move' (.tmp 36) (.inl rfl) (.bool false) (by rw [ha]; exact eval_puts_in (i := 3) rfl (by simp [hpre]) (by simp) rfl) ⟨(), _, rfl, rfl, jw, jb⟩
              · intro _ L w' hL hpre hJ a ha
                obtain ⟨jw, jb⟩ := hJ
                simp [Region.binds] at hpre
                exact .inr ⟨wanted_no (g := 4) (t := 37) (b := true) rfl rfl (by rw [ha]; exact eval_puts_in (i := 4) rfl (by simp [hpre]) (by simp) rfl), (), rfl, jw, jb⟩
              · intro _ L w' hL hpre hJ a ha
                obtain ⟨jw, jb⟩ := hJ
                simp [Region.binds] at hpre
                exact .inr ⟨wanted_no (g := 4) (t := 37) (b := true) rfl rfl (by rw [ha]; exact eval_puts_in (i := 4) rfl (by simp [hpre]) (by simp) rfl), (), rfl, jw, jb⟩
              · intro _ L w' hL hpre hJ a ha
                obtain ⟨jw, jb⟩ := hJ
                simp [Region.binds] at hpre
                exact .inr ⟨wanted_no (g := 4) (t := 37) (b := true) rfl rfl (by rw [ha]; exact eval_puts_in (i := 4) rfl (by simp [hpre]) (by simp) rfl), (), rfl, jw, jb⟩
              · intro _ L w' hL hpre hJ a ha
                obtain ⟨jw, jb⟩ := hJ
                simp [Region.binds] at hpre
                exact .inr ⟨wanted_no (g := 4) (t := 37) (b := true) rfl rfl (by rw [ha]; exact eval_puts_in (i := 4) rfl (by simp [hpre]) (by simp) rfl), (), rfl, jw, jb⟩
              · intro _ L w' hL hpre hJ a ha
                obtain ⟨jw, jb⟩ := hJ
                simp [Region.binds] at hpre
                exact .inr ⟨wanted_no (g := 4) (t := 37) (b := true) rfl rfl (by rw [ha]; exact eval_puts_in (i := 4) rfl (by simp [hpre]) (by simp) rfl), (), rfl, jw, jb⟩
              · intro _ L w' hL hpre hJ a ha
                obtain ⟨jw, jb⟩ := hJ
                simp [Region.binds] at hpre
                exact .inr ⟨wanted_no (g := 4) (t := 37) (b := true) rfl rfl (by rw [ha]; exact eval_puts_in (i := 4) rfl (by simp [hpre]) (by simp) rfl), (), rfl, jw, jb⟩
              · intro _ L w' hL hpre hJ a ha
                obtain ⟨jw, jb⟩ := hJ
                simp [Region.binds] at hpre
                exact .inr ⟨wanted_no (g := 4) (t := 37) (b := true) rfl rfl (by rw [ha]; exact eval_puts_in (i := 4) rfl (by simp [hpre]) (by simp) rfl), (), rfl, jw, jb⟩
              · intro _ L w' hL hpre hJ a ha
                obtain ⟨jw, jb⟩ := hJ
                simp [Region.binds] at hpre
                refine .inl ⟨wanted_none rfl, ?_⟩
                have e37 : a.eval (.tmp 37) = .bool false := by rw [ha]; exact eval_puts_in (i := 4) rfl (by simp [hpre]) (by simp) rfl
                clear ha
                have jw' := Lib.hid jw
                have jb' := Lib.hid jb
                clear jw jb
                refine wp_intro fun K HK => ?_
                unfold Oper.wp
                simp only [execOp, e37]
                go_simp
                exact HK.out _ _ ⟨(), _, rfl, rfl, jw'.out, jb'.out⟩
            · intro _ L w' hL hJ
              obtain ⟨jw, jb⟩ := hJ
              clear hL
              simp only [List.foldl_cons, List.foldl_nil]
              go_simp
              go_wp2_with fail
              go_meet
              case rel => exact ⟨R.length, rfl, ⟨Nat.le_refl _, HLow.out, fun z hz => by simp at hz⟩, hb.drew⟩
      case rest =>
        obtain ⟨j, rfl, hA, hbx⟩ := hcut
        have HSc := Lib.hid (HSt.out.kept hbx)
        have hgx : wc.rangeAt wr0.heap.size 1 x.a.v := range_keep H5.out.1 hbx
        have hgk : wc.cell? ⟨wr0.heap.size, 0, none⟩ = some (.int .i64 x.k) := (hbx.cell (lt_cell H5.out.2.1)).trans H5.out.2.1
        have hgn : wc.cell? ⟨wr0.heap.size, 4, none⟩ = some (.int .i64 x.n) := (hbx.cell (lt_cell H5.out.2.2)).trans H5.out.2.2
        have hjle := hA.le
        have HAt := Lib.hid hA
        have HGX := Lib.hid hgx
        have HGK := Lib.hid hgk
        have HGN := Lib.hid hgn
        clear hbx hA hgx hgk hgn H5 HSt
        go_upto_region 14 with fail
        go_cut [10] (fun v wx => v = .bool (inB R x.a j) ∧ wx = wc.drew)
        case first =>
          by_cases hjl : j < R.length
          · have hy0 : R[j]? = some R[j] := List.getElem?_eq_getElem hjl
            obtain ⟨ga, ca, e5, -, -, -, -⟩ := own_form HSc.out.as_.1 (by omega)
            cases e5
            have hjI : (j : Int) < (R.length : Int) := by omega
            have hya : (ads (keys R))[j]? = some R[j].1.v := by rw [ads, keys, List.getElem?_map, List.getElem?_map, hy0]; rfl
            obtain ⟨ga', oa', e5, -, hy⟩ := rds_range HSc.out.as_.rds hjl hya
            cases e5
            rw [Nat.zero_add] at hy
            have hwy := HSc.out.wf R[j] (List.getElem_mem hjl)
            have hIn : inB R x.a j = decide (R[j].1 = x.a) := by unfold inB; rw [hy0]; rfl
            clear hya hy0
            generalize hy1 : R[j] = y2 at *
            obtain ⟨y, ny⟩ := y2
            clear hy1
            simp only at hy hwy hIn
            have HGY := Lib.hid hy
            have HWY := Lib.hid hwy
            clear hy hwy
            by_cases e : y = x.a
            · rw [decide_eq_true e] at hIn
              have HEQ := Lib.hid (show ∀ w, (binOp .eql 83 (.agg y.v.toArray) (.agg x.a.v.toArray)).run Try.prog w = .ok (.bool true) w from fun w => by rw [eql_ad w HWY.out HA.out, decide_eq_true e])
              clear e
              refine wp_region_puts_g (by kernel_rfl) (by kernel_rfl) (X := Unit) (fun _ => [(some 48, .int .i64 (j : Int)), (some 49, .slice (some ⟨ga, 0, none⟩) R.length c5), (some 50, .int .i64 (R.length : Int)), (some 51, .bool true), (some 52, .bool true), (some 53, .slice (some ⟨ga, 0, none⟩) R.length c5), (some 54, .int .i64 (j : Int)), (some 55, .pointer (some ⟨ga, j * 3, none⟩)), (some 56, .agg (y.v).toArray), (some 57, .pointer (some ⟨wr0.heap.size, 1, none⟩)), (some 58, .agg (x.a.v).toArray), (some 59, .bool true), (some 60, .bool true), (some 10, .bool true)])
                (fun _ L w' => w' = wc.drew ∧ Below wc.heap.size wc w') (fun _ => rfl) (by kernel_rfl) ⟨(), fun _ _ => ⟨rfl, (Below.refl _ wc).drew⟩⟩ ?_ ?_
              · refine ⟨?_, ?_, ?_, ?_, ?_, ?_, ?_, ?_, ?_, ?_, ?_, ?_, ?_, ?_, trivial⟩
                · intro _ L w' hL hpre hJ a ha
                  obtain ⟨jw, jb⟩ := hJ
                  simp [Region.binds] at hpre
                  refine .inl ⟨wanted_none rfl, ?_⟩
                  exact wp_move' (.tmp 9) (.inl rfl) (.int .i64 (j : Int)) (by rw [ha, eval_puts_out rfl]; rfl) ⟨(), _, rfl, rfl, jw, jb⟩
                · intro _ L w' hL hpre hJ a ha
                  obtain ⟨jw, jb⟩ := hJ
                  simp [Region.binds] at hpre
                  refine .inl ⟨wanted_none rfl, ?_⟩
                  exact wp_move' (.tmp 5) (.inl rfl) (.slice (some ⟨ga, 0, none⟩) R.length c5) (by rw [ha, eval_puts_out rfl]; rfl) ⟨(), _, rfl, rfl, jw, jb⟩
                · intro _ L w' hL hpre hJ a ha
                  obtain ⟨jw, jb⟩ := hJ
                  simp [Region.binds] at hpre
                  refine .inl ⟨wanted_none rfl, ?_⟩
                  have e49 : a.eval (.tmp 49) = .slice (some ⟨ga, 0, none⟩) R.length c5 := by rw [ha]; exact eval_puts_in (i := 1) rfl (by simp [hpre]) (by simp) rfl
                  clear ha
                  have jw' := Lib.hid jw
                  have jb' := Lib.hid jb
                  clear jw jb
                  refine wp_intro fun K HK => ?_
                  unfold Oper.wp
                  simp only [execOp, resolve, List.map_toArray, List.map_cons, List.map_nil, e49]
                  go_simp
                  exact HK.out _ _ ⟨(), _, rfl, rfl, jw'.out, jb'.out⟩
                · intro _ L w' hL hpre hJ a ha
                  obtain ⟨jw, jb⟩ := hJ
                  simp [Region.binds] at hpre
                  refine .inl ⟨wanted_none rfl, ?_⟩
                  have e48 : a.eval (.tmp 48) = .int .i64 (j : Int) := by rw [ha]; exact eval_puts_in (i := 0) rfl (by simp [hpre]) (by simp) rfl
                  have e50 : a.eval (.tmp 50) = .int .i64 (R.length : Int) := by rw [ha]; exact eval_puts_in (i := 2) rfl (by simp [hpre]) (by simp) rfl
                  clear ha
                  have jw' := Lib.hid jw
                  have jb' := Lib.hid jb
                  clear jw jb
                  refine wp_intro fun K HK => ?_
                  unfold Oper.wp
                  simp only [execOp, e48, e50]
                  go_simp
                  exact HK.out _ _ ⟨(), _, rfl, rfl, jw'.out, jb'.out⟩
                · intro _ L w' hL hpre hJ a ha
                  obtain ⟨jw, jb⟩ := hJ
                  simp [Region.binds] at hpre
                  refine .inl ⟨wanted_none rfl, ?_⟩
                  exact wp_move' (.tmp 51) (.inl rfl) (.bool true) (by rw [ha]; exact eval_puts_in (i := 3) rfl (by simp [hpre]) (by simp) rfl) ⟨(), _, rfl, rfl, jw, jb⟩
                · intro _ L w' hL hpre hJ a ha
                  obtain ⟨jw, jb⟩ := hJ
                  simp [Region.binds] at hpre
                  refine .inl ⟨wanted_yes (g := 4) (t := 52) (b := true) rfl rfl (by rw [ha]; exact eval_puts_in (i := 4) rfl (by simp [hpre]) (by simp) rfl), ?_⟩
                  exact wp_move' (.tmp 5) (.inl rfl) (.slice (some ⟨ga, 0, none⟩) R.length c5) (by rw [ha, eval_puts_out rfl]; rfl) ⟨(), _, rfl, rfl, jw, jb⟩
                · intro _ L w' hL hpre hJ a ha
                  obtain ⟨jw, jb⟩ := hJ
                  simp [Region.binds] at hpre
                  refine .inl ⟨wanted_yes (g := 4) (t := 52) (b := true) rfl rfl (by rw [ha]; exact eval_puts_in (i := 4) rfl (by simp [hpre]) (by simp) rfl), ?_⟩
                  exact wp_move' (.tmp 9) (.inl rfl) (.int .i64 (j : Int)) (by rw [ha, eval_puts_out rfl]; rfl) ⟨(), _, rfl, rfl, jw, jb⟩
                · intro _ L w' hL hpre hJ a ha
                  obtain ⟨jw, jb⟩ := hJ
                  simp [Region.binds] at hpre
                  refine .inl ⟨wanted_yes (g := 4) (t := 52) (b := true) rfl rfl (by rw [ha]; exact eval_puts_in (i := 4) rfl (by simp [hpre]) (by simp) rfl), ?_⟩
                  have e53 : a.eval (.tmp 53) = .slice (some ⟨ga, 0, none⟩) R.length c5 := by rw [ha]; exact eval_puts_in (i := 5) rfl (by simp [hpre]) (by simp) rfl
                  have e54 : a.eval (.tmp 54) = .int .i64 (j : Int) := by rw [ha]; exact eval_puts_in (i := 6) rfl (by simp [hpre]) (by simp) rfl
                  clear ha
                  have jw' := Lib.hid jw
                  have jb' := Lib.hid jb
                  clear jw jb
                  refine wp_intro fun K HK => ?_
                  unfold Oper.wp
                  simp only [execOp, e53, e54]
                  go_simp
                  exact HK.out _ _ ⟨(), _, rfl, rfl, jw'.out, jb'.out⟩
                · intro _ L w' hL hpre hJ a ha
                  obtain ⟨jw, jb⟩ := hJ
                  simp [Region.binds] at hpre
                  refine .inl ⟨wanted_yes (g := 4) (t := 52) (b := true) rfl rfl (by rw [ha]; exact eval_puts_in (i := 4) rfl (by simp [hpre]) (by simp) rfl), ?_⟩
                  exact wp_load_mid 83 (.tmp 55) rfl ga (j * 3) (by rw [ha]; exact eval_puts_in (i := 7) rfl (by simp [hpre]) (by simp) rfl) (y.v) _ (by rw [jw]; exact HGY.out) Try.underlying83 rfl aInfo ⟨(), _, rfl, rfl, jw, jb⟩
                · intro _ L w' hL hpre hJ a ha
                  obtain ⟨jw, jb⟩ := hJ
                  simp [Region.binds] at hpre
                  refine .inl ⟨wanted_yes (g := 4) (t := 52) (b := true) rfl rfl (by rw [ha]; exact eval_puts_in (i := 4) rfl (by simp [hpre]) (by simp) rfl), ?_⟩
                  have e8 : a.eval (.tmp 8) = .pointer (some ⟨wr0.heap.size, 0, none⟩) := by rw [ha, eval_puts_out rfl]; rfl
                  clear ha
                  have jw' := Lib.hid jw
                  have jb' := Lib.hid jb
                  clear jw jb
                  refine wp_intro fun K HK => ?_
                  unfold Oper.wp
                  simp only [execOp, e8]
                  go_simp
                  exact HK.out _ _ ⟨(), _, rfl, rfl, jw'.out, jb'.out⟩
                · intro _ L w' hL hpre hJ a ha
                  obtain ⟨jw, jb⟩ := hJ
                  simp [Region.binds] at hpre
                  refine .inl ⟨wanted_yes (g := 4) (t := 52) (b := true) rfl rfl (by rw [ha]; exact eval_puts_in (i := 4) rfl (by simp [hpre]) (by simp) rfl), ?_⟩
                  exact wp_load_mid 83 (.tmp 57) rfl wr0.heap.size 1 (by rw [ha]; exact eval_puts_in (i := 9) rfl (by simp [hpre]) (by simp) rfl) (x.a.v) _ (by rw [jw]; exact HGX.out) Try.underlying83 rfl aInfo ⟨(), _, rfl, rfl, jw, jb⟩
                · intro _ L w' hL hpre hJ a ha
                  obtain ⟨jw, jb⟩ := hJ
                  simp [Region.binds] at hpre
                  refine .inl ⟨wanted_yes (g := 4) (t := 52) (b := true) rfl rfl (by rw [ha]; exact eval_puts_in (i := 4) rfl (by simp [hpre]) (by simp) rfl), ?_⟩
                  have e56 : a.eval (.tmp 56) = .agg (y.v).toArray := by rw [ha]; exact eval_puts_in (i := 8) rfl (by simp [hpre]) (by simp) rfl
                  have e58 : a.eval (.tmp 58) = .agg (x.a.v).toArray := by rw [ha]; exact eval_puts_in (i := 10) rfl (by simp [hpre]) (by simp) rfl
                  clear ha
                  have he := HEQ.out
                  have jw' := Lib.hid jw
                  have jb' := Lib.hid jb
                  clear jw jb
                  refine wp_intro fun K HK => ?_
                  unfold Oper.wp
                  simp only [execOp, e56, e58]
                  go_simp
                  exact HK.out _ _ ⟨(), _, rfl, rfl, jw'.out, jb'.out⟩
                · intro _ L w' hL hpre hJ a ha
                  obtain ⟨jw, jb⟩ := hJ
                  simp [Region.binds] at hpre
                  refine .inl ⟨wanted_none rfl, ?_⟩
                  have e52 : a.eval (.tmp 52) = .bool true := by rw [ha]; exact eval_puts_in (i := 4) rfl (by simp [hpre]) (by simp) rfl
                  have e59 : a.eval (.tmp 59) = .bool true := by rw [ha]; exact eval_puts_in (i := 11) rfl (by simp [hpre]) (by simp) rfl
                  clear ha
                  have jw' := Lib.hid jw
                  have jb' := Lib.hid jb
                  clear jw jb
                  refine wp_intro fun K HK => ?_
                  unfold Oper.wp
                  simp only [execOp, e52, e59]
                  go_simp
                  exact HK.out _ _ ⟨(), _, rfl, rfl, jw'.out, jb'.out⟩
                · intro _ L w' hL hpre hJ a ha
                  obtain ⟨jw, jb⟩ := hJ
                  simp [Region.binds] at hpre
                  refine .inl ⟨wanted_none rfl, ?_⟩
                  exact wp_move' (.tmp 60) (.inr rfl) (.bool true) (by rw [ha]; exact eval_puts_in (i := 12) rfl (by simp [hpre]) (by simp) rfl) ⟨(), _, rfl, rfl, jw, jb⟩
              · intro _ L w' hL hJ
                obtain ⟨jw, jb⟩ := hJ
                clear hL
                simp only [List.foldl_cons, List.foldl_nil]
                subst jw
                clear jb
                go_simp
                go_wp2_with fail
                go_meet
                case rel => exact ⟨by rw [hIn], rfl⟩
            · rw [decide_eq_false e] at hIn
              have HEQ := Lib.hid (show ∀ w, (binOp .eql 83 (.agg y.v.toArray) (.agg x.a.v.toArray)).run Try.prog w = .ok (.bool false) w from fun w => by rw [eql_ad w HWY.out HA.out, decide_eq_false e])
              clear e
              refine wp_region_puts_g (by kernel_rfl) (by kernel_rfl) (X := Unit) (fun _ => [(some 48, .int .i64 (j : Int)), (some 49, .slice (some ⟨ga, 0, none⟩) R.length c5), (some 50, .int .i64 (R.length : Int)), (some 51, .bool true), (some 52, .bool true), (some 53, .slice (some ⟨ga, 0, none⟩) R.length c5), (some 54, .int .i64 (j : Int)), (some 55, .pointer (some ⟨ga, j * 3, none⟩)), (some 56, .agg (y.v).toArray), (some 57, .pointer (some ⟨wr0.heap.size, 1, none⟩)), (some 58, .agg (x.a.v).toArray), (some 59, .bool false), (some 60, .bool false), (some 10, .bool false)])
                (fun _ L w' => w' = wc.drew ∧ Below wc.heap.size wc w') (fun _ => rfl) (by kernel_rfl) ⟨(), fun _ _ => ⟨rfl, (Below.refl _ wc).drew⟩⟩ ?_ ?_
              · refine ⟨?_, ?_, ?_, ?_, ?_, ?_, ?_, ?_, ?_, ?_, ?_, ?_, ?_, ?_, trivial⟩
                · intro _ L w' hL hpre hJ a ha
                  obtain ⟨jw, jb⟩ := hJ
                  simp [Region.binds] at hpre
                  refine .inl ⟨wanted_none rfl, ?_⟩
                  exact wp_move' (.tmp 9) (.inl rfl) (.int .i64 (j : Int)) (by rw [ha, eval_puts_out rfl]; rfl) ⟨(), _, rfl, rfl, jw, jb⟩
                · intro _ L w' hL hpre hJ a ha
                  obtain ⟨jw, jb⟩ := hJ
                  simp [Region.binds] at hpre
                  refine .inl ⟨wanted_none rfl, ?_⟩
                  exact wp_move' (.tmp 5) (.inl rfl) (.slice (some ⟨ga, 0, none⟩) R.length c5) (by rw [ha, eval_puts_out rfl]; rfl) ⟨(), _, rfl, rfl, jw, jb⟩
                · intro _ L w' hL hpre hJ a ha
                  obtain ⟨jw, jb⟩ := hJ
                  simp [Region.binds] at hpre
                  refine .inl ⟨wanted_none rfl, ?_⟩
                  have e49 : a.eval (.tmp 49) = .slice (some ⟨ga, 0, none⟩) R.length c5 := by rw [ha]; exact eval_puts_in (i := 1) rfl (by simp [hpre]) (by simp) rfl
                  clear ha
                  have jw' := Lib.hid jw
                  have jb' := Lib.hid jb
                  clear jw jb
                  refine wp_intro fun K HK => ?_
                  unfold Oper.wp
                  simp only [execOp, resolve, List.map_toArray, List.map_cons, List.map_nil, e49]
                  go_simp
                  exact HK.out _ _ ⟨(), _, rfl, rfl, jw'.out, jb'.out⟩
                · intro _ L w' hL hpre hJ a ha
                  obtain ⟨jw, jb⟩ := hJ
                  simp [Region.binds] at hpre
                  refine .inl ⟨wanted_none rfl, ?_⟩
                  have e48 : a.eval (.tmp 48) = .int .i64 (j : Int) := by rw [ha]; exact eval_puts_in (i := 0) rfl (by simp [hpre]) (by simp) rfl
                  have e50 : a.eval (.tmp 50) = .int .i64 (R.length : Int) := by rw [ha]; exact eval_puts_in (i := 2) rfl (by simp [hpre]) (by simp) rfl
                  clear ha
                  have jw' := Lib.hid jw
                  have jb' := Lib.hid jb
                  clear jw jb
                  refine wp_intro fun K HK => ?_
                  unfold Oper.wp
                  simp only [execOp, e48, e50]
                  go_simp
                  exact HK.out _ _ ⟨(), _, rfl, rfl, jw'.out, jb'.out⟩
                · intro _ L w' hL hpre hJ a ha
                  obtain ⟨jw, jb⟩ := hJ
                  simp [Region.binds] at hpre
                  refine .inl ⟨wanted_none rfl, ?_⟩
                  exact wp_move' (.tmp 51) (.inl rfl) (.bool true) (by rw [ha]; exact eval_puts_in (i := 3) rfl (by simp [hpre]) (by simp) rfl) ⟨(), _, rfl, rfl, jw, jb⟩
                · intro _ L w' hL hpre hJ a ha
                  obtain ⟨jw, jb⟩ := hJ
                  simp [Region.binds] at hpre
                  refine .inl ⟨wanted_yes (g := 4) (t := 52) (b := true) rfl rfl (by rw [ha]; exact eval_puts_in (i := 4) rfl (by simp [hpre]) (by simp) rfl), ?_⟩
                  exact wp_move' (.tmp 5) (.inl rfl) (.slice (some ⟨ga, 0, none⟩) R.length c5) (by rw [ha, eval_puts_out rfl]; rfl) ⟨(), _, rfl, rfl, jw, jb⟩
                · intro _ L w' hL hpre hJ a ha
                  obtain ⟨jw, jb⟩ := hJ
                  simp [Region.binds] at hpre
                  refine .inl ⟨wanted_yes (g := 4) (t := 52) (b := true) rfl rfl (by rw [ha]; exact eval_puts_in (i := 4) rfl (by simp [hpre]) (by simp) rfl), ?_⟩
                  exact wp_move' (.tmp 9) (.inl rfl) (.int .i64 (j : Int)) (by rw [ha, eval_puts_out rfl]; rfl) ⟨(), _, rfl, rfl, jw, jb⟩
                · intro _ L w' hL hpre hJ a ha
                  obtain ⟨jw, jb⟩ := hJ
                  simp [Region.binds] at hpre
                  refine .inl ⟨wanted_yes (g := 4) (t := 52) (b := true) rfl rfl (by rw [ha]; exact eval_puts_in (i := 4) rfl (by simp [hpre]) (by simp) rfl), ?_⟩
                  have e53 : a.eval (.tmp 53) = .slice (some ⟨ga, 0, none⟩) R.length c5 := by rw [ha]; exact eval_puts_in (i := 5) rfl (by simp [hpre]) (by simp) rfl
                  have e54 : a.eval (.tmp 54) = .int .i64 (j : Int) := by rw [ha]; exact eval_puts_in (i := 6) rfl (by simp [hpre]) (by simp) rfl
                  clear ha
                  have jw' := Lib.hid jw
                  have jb' := Lib.hid jb
                  clear jw jb
                  refine wp_intro fun K HK => ?_
                  unfold Oper.wp
                  simp only [execOp, e53, e54]
                  go_simp
                  exact HK.out _ _ ⟨(), _, rfl, rfl, jw'.out, jb'.out⟩
                · intro _ L w' hL hpre hJ a ha
                  obtain ⟨jw, jb⟩ := hJ
                  simp [Region.binds] at hpre
                  refine .inl ⟨wanted_yes (g := 4) (t := 52) (b := true) rfl rfl (by rw [ha]; exact eval_puts_in (i := 4) rfl (by simp [hpre]) (by simp) rfl), ?_⟩
                  exact wp_load_mid 83 (.tmp 55) rfl ga (j * 3) (by rw [ha]; exact eval_puts_in (i := 7) rfl (by simp [hpre]) (by simp) rfl) (y.v) _ (by rw [jw]; exact HGY.out) Try.underlying83 rfl aInfo ⟨(), _, rfl, rfl, jw, jb⟩
                · intro _ L w' hL hpre hJ a ha
                  obtain ⟨jw, jb⟩ := hJ
                  simp [Region.binds] at hpre
                  refine .inl ⟨wanted_yes (g := 4) (t := 52) (b := true) rfl rfl (by rw [ha]; exact eval_puts_in (i := 4) rfl (by simp [hpre]) (by simp) rfl), ?_⟩
                  have e8 : a.eval (.tmp 8) = .pointer (some ⟨wr0.heap.size, 0, none⟩) := by rw [ha, eval_puts_out rfl]; rfl
                  clear ha
                  have jw' := Lib.hid jw
                  have jb' := Lib.hid jb
                  clear jw jb
                  refine wp_intro fun K HK => ?_
                  unfold Oper.wp
                  simp only [execOp, e8]
                  go_simp
                  exact HK.out _ _ ⟨(), _, rfl, rfl, jw'.out, jb'.out⟩
                · intro _ L w' hL hpre hJ a ha
                  obtain ⟨jw, jb⟩ := hJ
                  simp [Region.binds] at hpre
                  refine .inl ⟨wanted_yes (g := 4) (t := 52) (b := true) rfl rfl (by rw [ha]; exact eval_puts_in (i := 4) rfl (by simp [hpre]) (by simp) rfl), ?_⟩
                  exact wp_load_mid 83 (.tmp 57) rfl wr0.heap.size 1 (by rw [ha]; exact eval_puts_in (i := 9) rfl (by simp [hpre]) (by simp) rfl) (x.a.v) _ (by rw [jw]; exact HGX.out) Try.underlying83 rfl aInfo ⟨(), _, rfl, rfl, jw, jb⟩
                · intro _ L w' hL hpre hJ a ha
                  obtain ⟨jw, jb⟩ := hJ
                  simp [Region.binds] at hpre
                  refine .inl ⟨wanted_yes (g := 4) (t := 52) (b := true) rfl rfl (by rw [ha]; exact eval_puts_in (i := 4) rfl (by simp [hpre]) (by simp) rfl), ?_⟩
                  have e56 : a.eval (.tmp 56) = .agg (y.v).toArray := by rw [ha]; exact eval_puts_in (i := 8) rfl (by simp [hpre]) (by simp) rfl
                  have e58 : a.eval (.tmp 58) = .agg (x.a.v).toArray := by rw [ha]; exact eval_puts_in (i := 10) rfl (by simp [hpre]) (by simp) rfl
                  clear ha
                  have he := HEQ.out
                  have jw' := Lib.hid jw
                  have jb' := Lib.hid jb
                  clear jw jb
                  refine wp_intro fun K HK => ?_
                  unfold Oper.wp
                  simp only [execOp, e56, e58]
                  go_simp
                  exact HK.out _ _ ⟨(), _, rfl, rfl, jw'.out, jb'.out⟩
                · intro _ L w' hL hpre hJ a ha
                  obtain ⟨jw, jb⟩ := hJ
                  simp [Region.binds] at hpre
                  refine .inl ⟨wanted_none rfl, ?_⟩
                  have e52 : a.eval (.tmp 52) = .bool true := by rw [ha]; exact eval_puts_in (i := 4) rfl (by simp [hpre]) (by simp) rfl
                  have e59 : a.eval (.tmp 59) = .bool false := by rw [ha]; exact eval_puts_in (i := 11) rfl (by simp [hpre]) (by simp) rfl
                  clear ha
                  have jw' := Lib.hid jw
                  have jb' := Lib.hid jb
                  clear jw jb
                  refine wp_intro fun K HK => ?_
                  unfold Oper.wp
                  simp only [execOp, e52, e59]
                  go_simp
                  exact HK.out _ _ ⟨(), _, rfl, rfl, jw'.out, jb'.out⟩
                · intro _ L w' hL hpre hJ a ha
                  obtain ⟨jw, jb⟩ := hJ
                  simp [Region.binds] at hpre
                  refine .inl ⟨wanted_none rfl, ?_⟩
                  exact wp_move' (.tmp 60) (.inr rfl) (.bool false) (by rw [ha]; exact eval_puts_in (i := 12) rfl (by simp [hpre]) (by simp) rfl) ⟨(), _, rfl, rfl, jw, jb⟩
              · intro _ L w' hL hJ
                obtain ⟨jw, jb⟩ := hJ
                clear hL
                simp only [List.foldl_cons, List.foldl_nil]
                subst jw
                clear jb
                go_simp
                go_wp2_with fail
                go_meet
                case rel => exact ⟨by rw [hIn], rfl⟩
          · obtain rfl : j = R.length := by omega
            have hIn : inB R x.a R.length = false := by unfold inB; simp
            refine wp_region_puts_g (by kernel_rfl) (by kernel_rfl) (X := Unit) (fun _ => [(some 48, .int .i64 (R.length : Int)), (some 49, .slice A5 R.length c5), (some 50, .int .i64 (R.length : Int)), (some 51, .bool false), (some 52, .bool false), (some 53, undef), (some 54, undef), (some 55, undef), (some 56, undef), (some 57, undef), (some 58, undef), (some 59, undef), (some 60, .bool false), (some 10, .bool false)])
              (fun _ L w' => w' = wc.drew ∧ Below wc.heap.size wc w') (fun _ => rfl) (by kernel_rfl) ⟨(), fun _ _ => ⟨rfl, (Below.refl _ wc).drew⟩⟩ ?_ ?_
            · refine ⟨?_, ?_, ?_, ?_, ?_, ?_, ?_, ?_, ?_, ?_, ?_, ?_, ?_, ?_, trivial⟩
              · intro _ L w' hL hpre hJ a ha
                obtain ⟨jw, jb⟩ := hJ
                simp [Region.binds] at hpre
                refine .inl ⟨wanted_none rfl, ?_⟩
                exact wp_move' (.tmp 9) (.inl rfl) (.int .i64 (R.length : Int)) (by rw [ha, eval_puts_out rfl]; rfl) ⟨(), _, rfl, rfl, jw, jb⟩
              · intro _ L w' hL hpre hJ a ha
                obtain ⟨jw, jb⟩ := hJ
                simp [Region.binds] at hpre
                refine .inl ⟨wanted_none rfl, ?_⟩
                exact wp_move' (.tmp 5) (.inl rfl) (.slice A5 R.length c5) (by rw [ha, eval_puts_out rfl]; rfl) ⟨(), _, rfl, rfl, jw, jb⟩
              · intro _ L w' hL hpre hJ a ha
                obtain ⟨jw, jb⟩ := hJ
                simp [Region.binds] at hpre
                refine .inl ⟨wanted_none rfl, ?_⟩
                have e49 : a.eval (.tmp 49) = .slice A5 R.length c5 := by rw [ha]; exact eval_puts_in (i := 1) rfl (by simp [hpre]) (by simp) rfl
                clear ha
                have jw' := Lib.hid jw
                have jb' := Lib.hid jb
                clear jw jb
                refine wp_intro fun K HK => ?_
                unfold Oper.wp
                simp only [execOp, resolve, List.map_toArray, List.map_cons, List.map_nil, e49]
                go_simp
                exact HK.out _ _ ⟨(), _, rfl, rfl, jw'.out, jb'.out⟩
              · intro _ L w' hL hpre hJ a ha
                obtain ⟨jw, jb⟩ := hJ
                simp [Region.binds] at hpre
                refine .inl ⟨wanted_none rfl, ?_⟩
                have e48 : a.eval (.tmp 48) = .int .i64 (R.length : Int) := by rw [ha]; exact eval_puts_in (i := 0) rfl (by simp [hpre]) (by simp) rfl
                have e50 : a.eval (.tmp 50) = .int .i64 (R.length : Int) := by rw [ha]; exact eval_puts_in (i := 2) rfl (by simp [hpre]) (by simp) rfl
                clear ha
                have jw' := Lib.hid jw
                have jb' := Lib.hid jb
                clear jw jb
                refine wp_intro fun K HK => ?_
                unfold Oper.wp
                simp only [execOp, e48, e50]
                go_simp
                exact HK.out _ _ ⟨(), _, rfl, rfl, jw'.out, jb'.out⟩
              · intro _ L w' hL hpre hJ a ha
                obtain ⟨jw, jb⟩ := hJ
                simp [Region.binds] at hpre
                refine .inl ⟨wanted_none rfl, ?_⟩
                exact wp_move' (.tmp 51) (.inl rfl) (.bool false) (by rw [ha]; exact eval_puts_in (i := 3) rfl (by simp [hpre]) (by simp) rfl) ⟨(), _, rfl, rfl, jw, jb⟩
              · intro _ L w' hL hpre hJ a ha
                obtain ⟨jw, jb⟩ := hJ
                simp [Region.binds] at hpre
                exact .inr ⟨wanted_no (g := 4) (t := 52) (b := true) rfl rfl (by rw [ha]; exact eval_puts_in (i := 4) rfl (by simp [hpre]) (by simp) rfl), (), rfl, jw, jb⟩
              · intro _ L w' hL hpre hJ a ha
                obtain ⟨jw, jb⟩ := hJ
                simp [Region.binds] at hpre
                exact .inr ⟨wanted_no (g := 4) (t := 52) (b := true) rfl rfl (by rw [ha]; exact eval_puts_in (i := 4) rfl (by simp [hpre]) (by simp) rfl), (), rfl, jw, jb⟩
              · intro _ L w' hL hpre hJ a ha
                obtain ⟨jw, jb⟩ := hJ
                simp [Region.binds] at hpre
                exact .inr ⟨wanted_no (g := 4) (t := 52) (b := true) rfl rfl (by rw [ha]; exact eval_puts_in (i := 4) rfl (by simp [hpre]) (by simp) rfl), (), rfl, jw, jb⟩
              · intro _ L w' hL hpre hJ a ha
                obtain ⟨jw, jb⟩ := hJ
                simp [Region.binds] at hpre
                exact .inr ⟨wanted_no (g := 4) (t := 52) (b := true) rfl rfl (by rw [ha]; exact eval_puts_in (i := 4) rfl (by simp [hpre]) (by simp) rfl), (), rfl, jw, jb⟩
              · intro _ L w' hL hpre hJ a ha
                obtain ⟨jw, jb⟩ := hJ
                simp [Region.binds] at hpre
                exact .inr ⟨wanted_no (g := 4) (t := 52) (b := true) rfl rfl (by rw [ha]; exact eval_puts_in (i := 4) rfl (by simp [hpre]) (by simp) rfl), (), rfl, jw, jb⟩
              · intro _ L w' hL hpre hJ a ha
                obtain ⟨jw, jb⟩ := hJ
                simp [Region.binds] at hpre
                exact .inr ⟨wanted_no (g := 4) (t := 52) (b := true) rfl rfl (by rw [ha]; exact eval_puts_in (i := 4) rfl (by simp [hpre]) (by simp) rfl), (), rfl, jw, jb⟩
              · intro _ L w' hL hpre hJ a ha
                obtain ⟨jw, jb⟩ := hJ
                simp [Region.binds] at hpre
                exact .inr ⟨wanted_no (g := 4) (t := 52) (b := true) rfl rfl (by rw [ha]; exact eval_puts_in (i := 4) rfl (by simp [hpre]) (by simp) rfl), (), rfl, jw, jb⟩
              · intro _ L w' hL hpre hJ a ha
                obtain ⟨jw, jb⟩ := hJ
                simp [Region.binds] at hpre
                refine .inl ⟨wanted_none rfl, ?_⟩
                have e52 : a.eval (.tmp 52) = .bool false := by rw [ha]; exact eval_puts_in (i := 4) rfl (by simp [hpre]) (by simp) rfl
                clear ha
                have jw' := Lib.hid jw
                have jb' := Lib.hid jb
                clear jw jb
                refine wp_intro fun K HK => ?_
                unfold Oper.wp
                simp only [execOp, e52]
                go_simp
                exact HK.out _ _ ⟨(), _, rfl, rfl, jw'.out, jb'.out⟩
              · intro _ L w' hL hpre hJ a ha
                obtain ⟨jw, jb⟩ := hJ
                simp [Region.binds] at hpre
                refine .inl ⟨wanted_none rfl, ?_⟩
                exact wp_move' (.tmp 60) (.inr rfl) (.bool false) (by rw [ha]; exact eval_puts_in (i := 12) rfl (by simp [hpre]) (by simp) rfl) ⟨(), _, rfl, rfl, jw, jb⟩
            · intro _ L w' hL hJ
              obtain ⟨jw, jb⟩ := hJ
              clear hL
              simp only [List.foldl_cons, List.foldl_nil]
              subst jw
              clear jb
              go_simp
              go_wp2_with fail
              go_meet
              case rel => exact ⟨by rw [hIn], rfl⟩
        case rest =>
          obtain ⟨rfl, rfl⟩ := hcut
          have hst := HSc.out.kept ((Below.refl _ wc).drew)
          have hgx : wc.drew.rangeAt wr0.heap.size 1 x.a.v := HGX.out
          have hgk : wc.drew.cell? ⟨wr0.heap.size, 0, none⟩ = some (.int .i64 x.k) := HGK.out
          have hgn : wc.drew.cell? ⟨wr0.heap.size, 4, none⟩ = some (.int .i64 x.n) := HGN.out
          have hw0 : B ≤ wr0.heap.size := WR0.out
          clear HSc HGX HGK HGN WR0
          generalize wc.drew = wd at *
          have HSd := Lib.hid hst
          have HGX := Lib.hid hgx
          have HGN := Lib.hid hgn
          have hR60 : R.length ≤ 60 := by have := hst.len; omega
          clear hst hgn
          go_upto_block 4 with fail
          go_cut [5, 6, 10] (fun va vn vi wx => ∃ (R' : Prs) (f' : List (Ad × Value)), St w wx (m + 1) m B (k + 1) va vn R' f')
          case first =>
            by_cases k0 : x.k = 0
            · have f0 : (x.k == 0) = true := by simp [k0]
              have hgn := HGN.out
              clear k0
              have CS := Lib.hid (spotInt.set (m + 1) m k f x.a (.int .i64 x.n) wd HSd.out.spot HA.out (by omega) rfl)
              go_wp2_with (first | (refine wpList_load_mid rfl 83 (.tmp 95) rfl wr0.heap.size 1 rfl x.a.v _ hgx Try.underlying83 rfl aInfo ?_))
              refine CS.out.mono ?_
              rintro e w6 ⟨rfl, hS6, hg6⟩
              have hlo := HSd.out.lo
              have hgn6 : w6.cell? ⟨wr0.heap.size, 4, none⟩ = some (.int .i64 x.n) := (grown_cell hg6 (lt_cell hgn) (by simp; omega)).trans hgn
              have hgx6 : w6.rangeAt wr0.heap.size 1 x.a.v := range_far HGX.out hg6 (by omega)
              clear hgx hgk hgn CS hlo f0
              cases hIn : inB R x.a j with
              | true =>
                obtain ⟨hj, m0, hjm, -⟩ := inB_some hIn
                obtain ⟨ha6, hn6, hb6, hB6⟩ := HSd.out.map hS6 hg6
                obtain ⟨gn, cn, e6, -, -, -, -⟩ := own_form hn6 (by omega)
                cases e6
                have cc := cell1 hn6 (j := j) (v := .int .i64 m0) (by rw [nums, List.getElem?_map, List.getElem?_eq_getElem hj, hjm]; rfl)
                have ff := hn6.frozenAt j
                have hfin := Lib.hid (St.set_old HSd.out hS6 hg6 HAt.out hIn HA.out)
                have hjI : (j : Int) < (R.length : Int) := by omega
                clear hS6 hg6 ha6 hn6 hb6 hB6 hjm hIn hgx6
                go_wp2_with fail
                go_meet
                case rel => exact ⟨_, _, hfin.out⟩
              | false =>
                obtain ⟨ha6, hn6, hb6, hB6⟩ := HSd.out.map hS6 hg6
                obtain ⟨A1, hs1, hrp⟩ := cut_low Try.underlying81 aInfo ha6.rds hjle hc5
                obtain ⟨A2, hs2, hrq⟩ := cut_high (k := j) Try.underlying81 aInfo ha6.rds hjle hc5
                have HS1 := Lib.hid hs1
                have HS2 := Lib.hid hs2
                have HRp := Lib.hid hrp
                have HRq := Lib.hid hrq
                clear hs1 hs2 hrp hrq
                have HP1 : Hid (∀ r ∈ (ads (keys R)).take j, ∀ u ∈ r, u.oneCell' = true) := Lib.hid fun r hr u hu => one_ads _ (List.mem_of_mem_take hr) _ hu
                have HP2 : Hid (∀ r ∈ (ads (keys R)).drop j, ∀ u ∈ r, u.oneCell' = true) := Lib.hid fun r hr u hu => one_ads _ (List.mem_of_mem_drop hr) _ hu
                have HP0 : Hid (∀ u ∈ x.a.v, u.oneCell' = true) := Lib.hid (one_ad x.a)
                have HX6 := Lib.hid hgx6
                have HGN6 := Lib.hid hgn6
                clear hgx6 hgn6
                have HN6 := Lib.hid hn6
                have HIn := Lib.hid hIn
                have HS6 := Lib.hid hS6
                have HG6 := Lib.hid hg6
                clear hn6 hIn hS6 hg6 ha6 hb6 hB6
                go_upto_region 22 with fail
                refine wp_region_puts_g (by kernel_rfl) (by kernel_rfl) (X := (Value × Nat × Value × Value) × Value) (fun y => [(some 102, .slice A5 R.length c5), (some 103, .int .i64 (j : Int)), (some 104, .slice A1 j c5), (some 105, y.1.1), (some 106, .pointer (some ⟨wr0.heap.size, 1, none⟩)), (some 107, .agg (x.a.v).toArray), (some 108, .slice (some ⟨y.1.2.1, 0, none⟩) 1 1), (some 109, y.1.2.2.1), (some 110, .slice A5 R.length c5), (some 111, .int .i64 (j : Int)), (some 112, .slice A2 (R.length - j) (c5 - j)), (some 113, y.1.2.2.2), (some 5, y.2)])
                  (fun y L w' => InsJ w' w6.heap.size 83 3 j (R.length - j) ((ads (keys R)).take j) ((ads (keys R)).drop j) (x.a.v) y.1 (L 3) (L 6) (L 7) (L 11) ∧ (L 12 = true → (L 0 && L 8 && L 11) = true ∧ y.2 = y.1.2.2.2) ∧ Below w6.heap.size w6 w') (fun _ => rfl) (by kernel_rfl) ⟨((undef, 0, undef, undef), undef), fun L hL => ⟨(by rw [hL 3, hL 6, hL 7, hL 11]; exact InsJ.start), (by rw [hL 12]; intro h; cases h), (Below.refl _ w6).drew⟩⟩ ?_ ?_
                · refine ⟨?_, ?_, ?_, ?_, ?_, ?_, ?_, ?_, ?_, ?_, ?_, ?_, ?_, trivial⟩
                  · intro y L w' hL hpre hJ a ha
                    obtain ⟨jx, jl, jb⟩ := hJ
                    simp [Region.binds] at hpre
                    refine .inl ⟨wanted_none rfl, ?_⟩
                    have hN : L 12 = false := by
                      cases h : L 12 with
                      | false => rfl
                      | true => exact absurd (jl h).1 (by simp [hL])
                    exact wp_move' (.tmp 5) (.inl rfl) (.slice A5 R.length c5) (by rw [ha, eval_puts_off (i := 12) rfl (by rw [Nat.zero_add]; exact hN) rfl]; rfl) ⟨y, _, rfl, rfl, jx, fun h => absurd (jl h).1 (by simp [hL]), jb⟩
                  · intro y L w' hL hpre hJ a ha
                    obtain ⟨jx, jl, jb⟩ := hJ
                    simp [Region.binds] at hpre
                    refine .inl ⟨wanted_none rfl, ?_⟩
                    exact wp_move' (.tmp 9) (.inl rfl) (.int .i64 (j : Int)) (by rw [ha, eval_puts_out rfl]; rfl) ⟨y, _, rfl, rfl, jx, jl, jb⟩
                  · intro y L w' hL hpre hJ a ha
                    obtain ⟨jx, jl, jb⟩ := hJ
                    simp [Region.binds] at hpre
                    refine .inl ⟨wanted_none rfl, ?_⟩
                    have e102 : a.eval (.tmp 102) = .slice A5 R.length c5 := by rw [ha]; exact eval_puts_in (i := 0) rfl (by simp [hpre]) (by simp) rfl
                    have e103 : a.eval (.tmp 103) = .int .i64 (j : Int) := by rw [ha]; exact eval_puts_in (i := 1) rfl (by simp [hpre]) (by simp) rfl
                    exact wp_slice_h 81 (.tmp 102) (.tmp 103) rfl e102 e103 HS1.out ⟨y, _, rfl, rfl, jx, jl, jb⟩
                  · intro y L w' hL hpre hJ a ha
                    obtain ⟨jx, jl, jb⟩ := hJ
                    simp [Region.binds] at hpre
                    refine .inl ⟨wanted_none rfl, ?_⟩
                    have e104 : a.eval (.tmp 104) = .slice A1 j c5 := by rw [ha]; exact eval_puts_in (i := 2) rfl (by simp [hpre]) (by simp) rfl
                    refine wp_appendRows (.const (.slice none 0 0)) (.tmp 104) 81 rfl 83 _ 3 24 Try.underlying81 aInfo3 rfl (by decide) (base := w6.heap.size) (B := w6.heap.size) (rows := []) OwnRows.nil jb rfl e104 (HRp.out.below jb (Nat.le_refl _)) HP1.out (by unfold maxLen; omega) (by omega) jb.size (Nat.le_refl _) ?_
                    intro v' w'' hown hb' hgr hat
                    rw [Nat.zero_add] at hown
                    exact ⟨((v', y.1.2), y.2), _, rfl, rfl, jx.s3 hgr hown hat, jl, hb'⟩
                  · intro y L w' hL hpre hJ a ha
                    obtain ⟨jx, jl, jb⟩ := hJ
                    simp [Region.binds] at hpre
                    refine .inl ⟨wanted_none rfl, ?_⟩
                    have e8 : a.eval (.tmp 8) = .pointer (some ⟨wr0.heap.size, 0, none⟩) := by rw [ha, eval_puts_out rfl]; rfl
                    clear ha
                    have jx' := Lib.hid jx
                    have jl' := Lib.hid jl
                    have jb' := Lib.hid jb
                    clear jx jl jb
                    refine wp_intro fun K HK => ?_
                    unfold Oper.wp
                    simp only [execOp, e8]
                    go_simp
                    exact HK.out _ _ ⟨y, _, rfl, rfl, jx'.out, jl'.out, jb'.out⟩
                  · intro y L w' hL hpre hJ a ha
                    obtain ⟨jx, jl, jb⟩ := hJ
                    simp [Region.binds] at hpre
                    refine .inl ⟨wanted_none rfl, ?_⟩
                    exact wp_load_mid 83 (.tmp 106) rfl wr0.heap.size 1 (by rw [ha]; exact eval_puts_in (i := 4) rfl (by simp [hpre]) (by simp) rfl) (x.a.v) _ (range_keep HX6.out jb) Try.underlying83 rfl aInfo ⟨y, _, rfl, rfl, jx, jl, jb⟩
                  · intro y L w' hL hpre hJ a ha
                    obtain ⟨jx, jl, jb⟩ := hJ
                    simp [Region.binds] at hpre
                    refine .inl ⟨wanted_none rfl, ?_⟩
                    have e107 : a.eval (.tmp 107) = .agg (x.a.v).toArray := by rw [ha]; exact eval_puts_in (i := 5) rfl (by simp [hpre]) (by simp) rfl
                    refine wp_buildOne 81 (.tmp 107) rfl 83 (x.a.v) _ 3 24 e107 Try.underlying81 aInfo3 rfl (by decide) (by decide) ?_
                    exact ⟨((y.1.1, w'.heap.size, y.1.2.2), y.2), _, rfl, rfl, jx.s6, jl, jb.alloc jb.size _⟩
                  · intro y L w' hL hpre hJ a ha
                    obtain ⟨jx, jl, jb⟩ := hJ
                    simp [Region.binds] at hpre
                    refine .inl ⟨wanted_none rfl, ?_⟩
                    have e105 : a.eval (.tmp 105) = y.1.1 := by rw [ha]; exact eval_puts_in (i := 3) rfl (by simp [hpre]) (by simp) rfl
                    have e108 : a.eval (.tmp 108) = .slice (some ⟨y.1.2.1, 0, none⟩) 1 1 := by rw [ha]; exact eval_puts_in (i := 6) rfl (by simp [hpre]) (by simp) rfl
                    have h3 : L 3 = true := by simp [hpre]
                    have h6 : L 6 = true := by simp [hpre]
                    have q2 := jx.b hL h6
                    refine wp_appendRows (.tmp 105) (.tmp 108) 81 rfl 83 _ 3 24 Try.underlying81 aInfo3 rfl (by decide) (base := w6.heap.size) (B := w6.heap.size) (jx.a hL h3) jb e105 e108 (rds_one (row := x.a.v) q2.1) (fun r hr => by rw [List.mem_singleton.1 hr]; exact HP0.out) (by unfold maxLen; omega) (by omega) jb.size (Nat.le_refl _) ?_
                    intro v' w'' hown hb' hgr hat
                    exact ⟨((y.1.1, y.1.2.1, v', y.1.2.2.2), y.2), _, rfl, rfl, jx.s7 hL hown, jl, hb'⟩
                  · intro y L w' hL hpre hJ a ha
                    obtain ⟨jx, jl, jb⟩ := hJ
                    simp [Region.binds] at hpre
                    refine .inl ⟨wanted_none rfl, ?_⟩
                    have hN : L 12 = false := by
                      cases h : L 12 with
                      | false => rfl
                      | true => exact absurd (jl h).1 (by simp [hL])
                    exact wp_move' (.tmp 5) (.inl rfl) (.slice A5 R.length c5) (by rw [ha, eval_puts_off (i := 12) rfl (by rw [Nat.zero_add]; exact hN) rfl]; rfl) ⟨y, _, rfl, rfl, jx, fun h => absurd (jl h).1 (by simp [hL]), jb⟩
                  · intro y L w' hL hpre hJ a ha
                    obtain ⟨jx, jl, jb⟩ := hJ
                    simp [Region.binds] at hpre
                    refine .inl ⟨wanted_none rfl, ?_⟩
                    exact wp_move' (.tmp 9) (.inl rfl) (.int .i64 (j : Int)) (by rw [ha, eval_puts_out rfl]; rfl) ⟨y, _, rfl, rfl, jx, jl, jb⟩
                  · intro y L w' hL hpre hJ a ha
                    obtain ⟨jx, jl, jb⟩ := hJ
                    simp [Region.binds] at hpre
                    refine .inl ⟨wanted_none rfl, ?_⟩
                    have e110 : a.eval (.tmp 110) = .slice A5 R.length c5 := by rw [ha]; exact eval_puts_in (i := 8) rfl (by simp [hpre]) (by simp) rfl
                    have e111 : a.eval (.tmp 111) = .int .i64 (j : Int) := by rw [ha]; exact eval_puts_in (i := 9) rfl (by simp [hpre]) (by simp) rfl
                    exact wp_slice_l 81 (.tmp 110) (.tmp 111) rfl e110 e111 HS2.out ⟨y, _, rfl, rfl, jx, jl, jb⟩
                  · intro y L w' hL hpre hJ a ha
                    obtain ⟨jx, jl, jb⟩ := hJ
                    simp [Region.binds] at hpre
                    refine .inl ⟨wanted_none rfl, ?_⟩
                    have e109 : a.eval (.tmp 109) = y.1.2.2.1 := by rw [ha]; exact eval_puts_in (i := 7) rfl (by simp [hpre]) (by simp) rfl
                    have e112 : a.eval (.tmp 112) = .slice A2 (R.length - j) (c5 - j) := by rw [ha]; exact eval_puts_in (i := 10) rfl (by simp [hpre]) (by simp) rfl
                    have h7 : L 7 = true := by simp [hpre]
                    refine wp_appendRows (.tmp 109) (.tmp 112) 81 rfl 83 _ 3 24 Try.underlying81 aInfo3 rfl (by decide) (base := w6.heap.size) (B := w6.heap.size) (jx.c h7 hL) jb e109 e112 (HRq.out.below jb (Nat.le_refl _)) HP2.out (by unfold maxLen; omega) (by omega) jb.size (Nat.le_refl _) ?_
                    intro v' w'' hown hb' hgr hat
                    exact ⟨((y.1.1, y.1.2.1, y.1.2.2.1, v'), y.2), _, rfl, rfl, jx.s11 h7 hown, fun h => absurd (jl h).1 (by simp [hL]), hb'⟩
                  · intro y L w' hL hpre hJ a ha
                    obtain ⟨jx, jl, jb⟩ := hJ
                    simp [Region.binds] at hpre
                    refine .inl ⟨wanted_none rfl, ?_⟩
                    have e113 : a.eval (.tmp 113) = y.1.2.2.2 := by rw [ha]; exact eval_puts_in (i := 11) rfl (by simp [hpre]) (by simp) rfl
                    exact wp_move' (.tmp 113) (.inr rfl) (y.1.2.2.2) (by rw [ha]; exact eval_puts_in (i := 11) rfl (by simp [hpre]) (by simp) rfl) ⟨(y.1, y.1.2.2.2), _, rfl, rfl, jx, fun _ => ⟨by simp [also, hpre], rfl⟩, jb⟩
                · intro y L w' hL hJ
                  obtain ⟨jx, jl, jb⟩ := hJ
                  have h7 := jx.d (hL 11 (by decide))
                  have hy := (jl (hL 12 (by decide))).2
                  clear hL jx jl
                  simp only [List.foldl_cons, List.foldl_nil]
                  obtain ⟨⟨y1, y2, y3, v7⟩, v0⟩ := y
                  obtain rfl : v7 = v0 := hy.symm
                  have h7 : OwnRows w' w6.heap.size 83 3 v7 (j + 1 + (R.length - j)) _ := h7
                  go_simp
                  have HB7 := Lib.hid jb
                  have H7 := Lib.hid h7
                  have hn7 := own_ones.2 ⟨own_below HN6.out jb, nums_len R⟩
                  clear h7 jb HP1 HP2 HS1 HS2 HRp HRq
                  clear HP0
                  generalize w' = w7 at *
                  obtain ⟨A1, hs1, hrp⟩ := cut_low Try.underlying27 intInfo hn7.rds hjle hc6
                  obtain ⟨A2, hs2, hrq⟩ := cut_high (k := j) Try.underlying27 intInfo hn7.rds hjle hc6
                  have HS1 := Lib.hid hs1
                  have HS2 := Lib.hid hs2
                  have HRp := Lib.hid hrp
                  have HRq := Lib.hid hrq
                  clear hs1 hs2 hrp hrq
                  have HP1 : Hid (∀ r ∈ (ones (nums R)).take j, ∀ u ∈ r, u.oneCell' = true) := Lib.hid fun r hr u hu => one_nums _ (List.mem_of_mem_take hr) _ hu
                  have HP2 : Hid (∀ r ∈ (ones (nums R)).drop j, ∀ u ∈ r, u.oneCell' = true) := Lib.hid fun r hr u hu => one_nums _ (List.mem_of_mem_drop hr) _ hu
                  have HP0 : Hid (∀ u ∈ [Value.int .i64 0], u.oneCell' = true) := Lib.hid (by simp [Value.oneCell'])
                  clear hn7
                  go_upto_region 23 with fail
                  refine wp_region_puts_g (by kernel_rfl) (by kernel_rfl) (X := (Value × Nat × Value × Value) × Value) (fun y => [(some 114, .slice A6 R.length c6), (some 115, .int .i64 (j : Int)), (some 116, .slice A1 j c6), (some 117, y.1.1), (some 118, .slice (some ⟨y.1.2.1, 0, none⟩) 1 1), (some 119, y.1.2.2.1), (some 120, .slice A6 R.length c6), (some 121, .int .i64 (j : Int)), (some 122, .slice A2 (R.length - j) (c6 - j)), (some 123, y.1.2.2.2), (some 6, y.2)])
                    (fun y L w' => InsJ w' w7.heap.size 3 1 j (R.length - j) ((ones (nums R)).take j) ((ones (nums R)).drop j) ([.int .i64 0]) y.1 (L 3) (L 4) (L 5) (L 9) ∧ (L 10 = true → (L 0 && L 6 && L 9) = true ∧ y.2 = y.1.2.2.2) ∧ Below w7.heap.size w7 w') (fun _ => rfl) (by kernel_rfl) ⟨((undef, 0, undef, undef), undef), fun L hL => ⟨(by rw [hL 3, hL 4, hL 5, hL 9]; exact InsJ.start), (by rw [hL 10]; intro h; cases h), (Below.refl _ w7).drew⟩⟩ ?_ ?_
                  · refine ⟨?_, ?_, ?_, ?_, ?_, ?_, ?_, ?_, ?_, ?_, ?_, trivial⟩
                    · intro y L w' hL hpre hJ a ha
                      obtain ⟨jx, jl, jb⟩ := hJ
                      simp [Region.binds] at hpre
                      refine .inl ⟨wanted_none rfl, ?_⟩
                      have hN : L 10 = false := by
                        cases h : L 10 with
                        | false => rfl
                        | true => exact absurd (jl h).1 (by simp [hL])
                      exact wp_move' (.tmp 6) (.inl rfl) (.slice A6 R.length c6) (by rw [ha, eval_puts_off (i := 10) rfl (by rw [Nat.zero_add]; exact hN) rfl]; rfl) ⟨y, _, rfl, rfl, jx, fun h => absurd (jl h).1 (by simp [hL]), jb⟩
                    · intro y L w' hL hpre hJ a ha
                      obtain ⟨jx, jl, jb⟩ := hJ
                      simp [Region.binds] at hpre
                      refine .inl ⟨wanted_none rfl, ?_⟩
                      exact wp_move' (.tmp 9) (.inl rfl) (.int .i64 (j : Int)) (by rw [ha, eval_puts_out rfl]; rfl) ⟨y, _, rfl, rfl, jx, jl, jb⟩
                    · intro y L w' hL hpre hJ a ha
                      obtain ⟨jx, jl, jb⟩ := hJ
                      simp [Region.binds] at hpre
                      refine .inl ⟨wanted_none rfl, ?_⟩
                      have e114 : a.eval (.tmp 114) = .slice A6 R.length c6 := by rw [ha]; exact eval_puts_in (i := 0) rfl (by simp [hpre]) (by simp) rfl
                      have e115 : a.eval (.tmp 115) = .int .i64 (j : Int) := by rw [ha]; exact eval_puts_in (i := 1) rfl (by simp [hpre]) (by simp) rfl
                      exact wp_slice_h 27 (.tmp 114) (.tmp 115) rfl e114 e115 HS1.out ⟨y, _, rfl, rfl, jx, jl, jb⟩
                    · intro y L w' hL hpre hJ a ha
                      obtain ⟨jx, jl, jb⟩ := hJ
                      simp [Region.binds] at hpre
                      refine .inl ⟨wanted_none rfl, ?_⟩
                      have e116 : a.eval (.tmp 116) = .slice A1 j c6 := by rw [ha]; exact eval_puts_in (i := 2) rfl (by simp [hpre]) (by simp) rfl
                      refine wp_appendRows (.const (.slice none 0 0)) (.tmp 116) 27 rfl 3 _ 1 8 Try.underlying27 pg.iInfo1 rfl (by decide) (base := w7.heap.size) (B := w7.heap.size) (rows := []) OwnRows.nil jb rfl e116 (HRp.out.below jb (Nat.le_refl _)) HP1.out (by unfold maxLen; omega) (by omega) jb.size (Nat.le_refl _) ?_
                      intro v' w'' hown hb' hgr hat
                      rw [Nat.zero_add] at hown
                      exact ⟨((v', y.1.2), y.2), _, rfl, rfl, jx.s3 hgr hown hat, jl, hb'⟩
                    · intro y L w' hL hpre hJ a ha
                      obtain ⟨jx, jl, jb⟩ := hJ
                      simp [Region.binds] at hpre
                      refine .inl ⟨wanted_none rfl, ?_⟩
                      have jx' := Lib.hid jx
                      have jb' := Lib.hid jb
                      have jl' := Lib.hid jl
                      clear jx jb jl ha
                      refine wp_intro fun K HK => ?_
                      unfold Oper.wp
                      simp only [execOp]
                      go_simp
                      exact HK.out _ _ ⟨((y.1.1, w'.heap.size, y.1.2.2), y.2), _, rfl, rfl, jx'.out.s6, jl'.out, jb'.out.alloc jb'.out.size _⟩
                    · intro y L w' hL hpre hJ a ha
                      obtain ⟨jx, jl, jb⟩ := hJ
                      simp [Region.binds] at hpre
                      refine .inl ⟨wanted_none rfl, ?_⟩
                      have e117 : a.eval (.tmp 117) = y.1.1 := by rw [ha]; exact eval_puts_in (i := 3) rfl (by simp [hpre]) (by simp) rfl
                      have e118 : a.eval (.tmp 118) = .slice (some ⟨y.1.2.1, 0, none⟩) 1 1 := by rw [ha]; exact eval_puts_in (i := 4) rfl (by simp [hpre]) (by simp) rfl
                      have h3 : L 3 = true := by simp [hpre]
                      have h6 : L 4 = true := by simp [hpre]
                      have q2 := jx.b hL h6
                      refine wp_appendRows (.tmp 117) (.tmp 118) 27 rfl 3 _ 1 8 Try.underlying27 pg.iInfo1 rfl (by decide) (base := w7.heap.size) (B := w7.heap.size) (jx.a hL h3) jb e117 e118 (rds_one (row := [.int .i64 0]) q2.1) (fun r hr => by rw [List.mem_singleton.1 hr]; exact HP0.out) (by unfold maxLen; omega) (by omega) jb.size (Nat.le_refl _) ?_
                      intro v' w'' hown hb' hgr hat
                      exact ⟨((y.1.1, y.1.2.1, v', y.1.2.2.2), y.2), _, rfl, rfl, jx.s7 hL hown, jl, hb'⟩
                    · intro y L w' hL hpre hJ a ha
                      obtain ⟨jx, jl, jb⟩ := hJ
                      simp [Region.binds] at hpre
                      refine .inl ⟨wanted_none rfl, ?_⟩
                      have hN : L 10 = false := by
                        cases h : L 10 with
                        | false => rfl
                        | true => exact absurd (jl h).1 (by simp [hL])
                      exact wp_move' (.tmp 6) (.inl rfl) (.slice A6 R.length c6) (by rw [ha, eval_puts_off (i := 10) rfl (by rw [Nat.zero_add]; exact hN) rfl]; rfl) ⟨y, _, rfl, rfl, jx, fun h => absurd (jl h).1 (by simp [hL]), jb⟩
                    · intro y L w' hL hpre hJ a ha
                      obtain ⟨jx, jl, jb⟩ := hJ
                      simp [Region.binds] at hpre
                      refine .inl ⟨wanted_none rfl, ?_⟩
                      exact wp_move' (.tmp 9) (.inl rfl) (.int .i64 (j : Int)) (by rw [ha, eval_puts_out rfl]; rfl) ⟨y, _, rfl, rfl, jx, jl, jb⟩
                    · intro y L w' hL hpre hJ a ha
                      obtain ⟨jx, jl, jb⟩ := hJ
                      simp [Region.binds] at hpre
                      refine .inl ⟨wanted_none rfl, ?_⟩
                      have e120 : a.eval (.tmp 120) = .slice A6 R.length c6 := by rw [ha]; exact eval_puts_in (i := 6) rfl (by simp [hpre]) (by simp) rfl
                      have e121 : a.eval (.tmp 121) = .int .i64 (j : Int) := by rw [ha]; exact eval_puts_in (i := 7) rfl (by simp [hpre]) (by simp) rfl
                      exact wp_slice_l 27 (.tmp 120) (.tmp 121) rfl e120 e121 HS2.out ⟨y, _, rfl, rfl, jx, jl, jb⟩
                    · intro y L w' hL hpre hJ a ha
                      obtain ⟨jx, jl, jb⟩ := hJ
                      simp [Region.binds] at hpre
                      refine .inl ⟨wanted_none rfl, ?_⟩
                      have e119 : a.eval (.tmp 119) = y.1.2.2.1 := by rw [ha]; exact eval_puts_in (i := 5) rfl (by simp [hpre]) (by simp) rfl
                      have e122 : a.eval (.tmp 122) = .slice A2 (R.length - j) (c6 - j) := by rw [ha]; exact eval_puts_in (i := 8) rfl (by simp [hpre]) (by simp) rfl
                      have h7 : L 5 = true := by simp [hpre]
                      refine wp_appendRows (.tmp 119) (.tmp 122) 27 rfl 3 _ 1 8 Try.underlying27 pg.iInfo1 rfl (by decide) (base := w7.heap.size) (B := w7.heap.size) (jx.c h7 hL) jb e119 e122 (HRq.out.below jb (Nat.le_refl _)) HP2.out (by unfold maxLen; omega) (by omega) jb.size (Nat.le_refl _) ?_
                      intro v' w'' hown hb' hgr hat
                      exact ⟨((y.1.1, y.1.2.1, y.1.2.2.1, v'), y.2), _, rfl, rfl, jx.s11 h7 hown, fun h => absurd (jl h).1 (by simp [hL]), hb'⟩
                    · intro y L w' hL hpre hJ a ha
                      obtain ⟨jx, jl, jb⟩ := hJ
                      simp [Region.binds] at hpre
                      refine .inl ⟨wanted_none rfl, ?_⟩
                      have e123 : a.eval (.tmp 123) = y.1.2.2.2 := by rw [ha]; exact eval_puts_in (i := 9) rfl (by simp [hpre]) (by simp) rfl
                      exact wp_move' (.tmp 123) (.inr rfl) (y.1.2.2.2) (by rw [ha]; exact eval_puts_in (i := 9) rfl (by simp [hpre]) (by simp) rfl) ⟨(y.1, y.1.2.2.2), _, rfl, rfl, jx, fun _ => ⟨by simp [also, hpre], rfl⟩, jb⟩
                  · intro y L w' hL hJ
                    obtain ⟨jx, jl, jb⟩ := hJ
                    have h7 := jx.d (hL 9 (by decide))
                    have hy := (jl (hL 10 (by decide))).2
                    clear hL jx jl
                    simp only [List.foldl_cons, List.foldl_nil]
                    obtain ⟨⟨z1, z2, z3, v8⟩, v0⟩ := y
                    obtain rfl : v8 = v0 := hy.symm
                    have h8 : OwnRows w' w7.heap.size 3 1 v8 (j + 1 + (R.length - j)) _ := h7
                    go_simp
                    obtain ⟨gn, cn, rfl, -, -, -, -⟩ := own_form h8.1 (by omega)
                    have hfin := Lib.hid (St.ins HSd.out HS6.out HG6.out HAt.out HIn.out HA.out H7.out HB7.out h8 jb)
                    have cc := h8.1.cellAt j (by omega)
                    have hq : ∃ u, ((ones (nums R)).take j ++ [[Value.int .i64 0]] ++ (ones (nums R)).drop j).flatten[j]? = some u := ⟨_, List.getElem?_eq_getElem (by have := h8.2.1; have := flat_len h8.2.2; omega)⟩
                    obtain ⟨u, hu⟩ := hq
                    rw [hu] at cc
                    have ff := h8.1.frozenAt j
                    have hgn8 : w'.cell? ⟨wr0.heap.size, 4, none⟩ = some (.int .i64 x.n) := by
                      have e1 := (HB7.out.cell (lt_cell HGN6.out)).trans HGN6.out
                      exact (jb.cell (lt_cell e1)).trans e1
                    clear HP0 HP1 HP2 HS1 HS2 HRp HRq h7 h8 hu jb H7 HB7 HN6
                    have hjM : j < j + 1 + (R.length - j) := by omega
                    generalize j + 1 + (R.length - j) = M at *
                    have hjI : (j : Int) < (M : Int) := by omega
                    go_wp2_with fail
                    go_meet
                    case rel => exact ⟨_, _, hfin.out⟩
            · by_cases k1 : x.k = 1
              · have f0 : (x.k == 0) = false := by simp [k0]
                have f1 : (x.k == 1) = true := by simp [k1]
                clear k0 k1
                have CD0 := spotInt.drop (m + 1) m k f x.a wd HSd.out.spot HA.out
                rw [has_of HSd.out.rep HSd.out.tidy HAt.out] at CD0
                have CD := Lib.hid CD0
                clear CD0
                cases hIn : inB R x.a j with
                | true =>
                  rw [hIn] at CD
                  obtain ⟨hj, m0, hjm, -⟩ := inB_some hIn
                  have hj1 : j + 1 ≤ R.length := by omega
                  clear hjm
                  have HIn0 := Lib.hid hIn
                  clear hIn
                  go_wp2_with (first | (refine wpList_load_mid rfl 83 (.tmp 132) rfl wr0.heap.size 1 rfl x.a.v _ hgx Try.underlying83 rfl aInfo ?_))
                  refine CD.out.mono ?_
                  rintro e w6 ⟨rfl, hS6, hg6⟩
                  clear hgx hgk CD f0 f1
                  have hIn := HIn0.out
                  clear HIn0
                  obtain ⟨ha6, hn6, hb6, hB6⟩ := HSd.out.map hS6 hg6
                  obtain ⟨A1, hs1, hrp⟩ := cut_low Try.underlying81 aInfo ha6.rds hjle hc5
                  obtain ⟨A2, hs2, hrq⟩ := cut_high (k := (j + 1)) Try.underlying81 aInfo ha6.rds hj1 hc5
                  have HS1 := Lib.hid hs1
                  have HS2 := Lib.hid hs2
                  have HRp := Lib.hid hrp
                  have HRq := Lib.hid hrq
                  clear hs1 hs2 hrp hrq
                  have HP1 : Hid (∀ r ∈ (ads (keys R)).take j, ∀ u ∈ r, u.oneCell' = true) := Lib.hid fun r hr u hu => one_ads _ (List.mem_of_mem_take hr) _ hu
                  have HP2 : Hid (∀ r ∈ (ads (keys R)).drop (j + 1), ∀ u ∈ r, u.oneCell' = true) := Lib.hid fun r hr u hu => one_ads _ (List.mem_of_mem_drop hr) _ hu
                  have HN6 := Lib.hid hn6
                  have HIn := Lib.hid hIn
                  have HS6 := Lib.hid hS6
                  have HG6 := Lib.hid hg6
                  clear hn6 hIn hS6 hg6 ha6 hb6 hB6
                  go_upto_region 29 with fail
                  refine wp_region_puts_g (by kernel_rfl) (by kernel_rfl) (X := (Value × Value) × Value) (fun y => [(some 138, .slice A5 R.length c5), (some 139, .int .i64 (j : Int)), (some 140, .slice A1 j c5), (some 141, y.1.1), (some 142, .slice A5 R.length c5), (some 143, .int .i64 (j : Int)), (some 144, .int .i64 ((j + 1 : Nat) : Int)), (some 145, .slice A2 (R.length - (j + 1)) (c5 - (j + 1))), (some 146, y.1.2), (some 5, y.2)])
                    (fun y L w' => DelJ w' w6.heap.size 83 3 j (R.length - (j + 1)) ((ads (keys R)).take j) ((ads (keys R)).drop (j + 1)) y.1 (L 3) (L 8) ∧ (L 9 = true → (L 0 && L 4 && L 8) = true ∧ y.2 = y.1.2) ∧ Below w6.heap.size w6 w') (fun _ => rfl) (by kernel_rfl) ⟨((undef, undef), undef), fun L hL => ⟨(by rw [hL 3, hL 8]; exact DelJ.start), (by rw [hL 9]; intro h; cases h), (Below.refl _ w6).drew⟩⟩ ?_ ?_
                  · refine ⟨?_, ?_, ?_, ?_, ?_, ?_, ?_, ?_, ?_, ?_, trivial⟩
                    · intro y L w' hL hpre hJ a ha
                      obtain ⟨jx, jl, jb⟩ := hJ
                      simp [Region.binds] at hpre
                      refine .inl ⟨wanted_none rfl, ?_⟩
                      have hN : L 9 = false := by
                        cases h : L 9 with
                        | false => rfl
                        | true => exact absurd (jl h).1 (by simp [hL])
                      exact wp_move' (.tmp 5) (.inl rfl) (.slice A5 R.length c5) (by rw [ha, eval_puts_off (i := 9) rfl (by rw [Nat.zero_add]; exact hN) rfl]; rfl) ⟨y, _, rfl, rfl, jx, fun h => absurd (jl h).1 (by simp [hL]), jb⟩
                    · intro y L w' hL hpre hJ a ha
                      obtain ⟨jx, jl, jb⟩ := hJ
                      simp [Region.binds] at hpre
                      refine .inl ⟨wanted_none rfl, ?_⟩
                      exact wp_move' (.tmp 9) (.inl rfl) (.int .i64 (j : Int)) (by rw [ha, eval_puts_out rfl]; rfl) ⟨y, _, rfl, rfl, jx, jl, jb⟩
                    · intro y L w' hL hpre hJ a ha
                      obtain ⟨jx, jl, jb⟩ := hJ
                      simp [Region.binds] at hpre
                      refine .inl ⟨wanted_none rfl, ?_⟩
                      have e138 : a.eval (.tmp 138) = .slice A5 R.length c5 := by rw [ha]; exact eval_puts_in (i := 0) rfl (by simp [hpre]) (by simp) rfl
                      have e139 : a.eval (.tmp 139) = .int .i64 (j : Int) := by rw [ha]; exact eval_puts_in (i := 1) rfl (by simp [hpre]) (by simp) rfl
                      exact wp_slice_h 81 (.tmp 138) (.tmp 139) rfl e138 e139 HS1.out ⟨y, _, rfl, rfl, jx, jl, jb⟩
                    · intro y L w' hL hpre hJ a ha
                      obtain ⟨jx, jl, jb⟩ := hJ
                      simp [Region.binds] at hpre
                      refine .inl ⟨wanted_none rfl, ?_⟩
                      have e140 : a.eval (.tmp 140) = .slice A1 j c5 := by rw [ha]; exact eval_puts_in (i := 2) rfl (by simp [hpre]) (by simp) rfl
                      refine wp_appendRows (.const (.slice none 0 0)) (.tmp 140) 81 rfl 83 _ 3 24 Try.underlying81 aInfo3 rfl (by decide) (base := w6.heap.size) (B := w6.heap.size) (rows := []) OwnRows.nil jb rfl e140 (HRp.out.below jb (Nat.le_refl _)) HP1.out (by unfold maxLen; omega) (by omega) jb.size (Nat.le_refl _) ?_
                      intro v' w'' hown hb' hgr hat
                      rw [Nat.zero_add] at hown
                      exact ⟨((v', y.1.2), y.2), _, rfl, rfl, jx.s3 hgr hown, jl, hb'⟩
                    · intro y L w' hL hpre hJ a ha
                      obtain ⟨jx, jl, jb⟩ := hJ
                      simp [Region.binds] at hpre
                      refine .inl ⟨wanted_none rfl, ?_⟩
                      have hN : L 9 = false := by
                        cases h : L 9 with
                        | false => rfl
                        | true => exact absurd (jl h).1 (by simp [hL])
                      exact wp_move' (.tmp 5) (.inl rfl) (.slice A5 R.length c5) (by rw [ha, eval_puts_off (i := 9) rfl (by rw [Nat.zero_add]; exact hN) rfl]; rfl) ⟨y, _, rfl, rfl, jx, fun h => absurd (jl h).1 (by simp [hL]), jb⟩
                    · intro y L w' hL hpre hJ a ha
                      obtain ⟨jx, jl, jb⟩ := hJ
                      simp [Region.binds] at hpre
                      refine .inl ⟨wanted_none rfl, ?_⟩
                      exact wp_move' (.tmp 9) (.inl rfl) (.int .i64 (j : Int)) (by rw [ha, eval_puts_out rfl]; rfl) ⟨y, _, rfl, rfl, jx, jl, jb⟩
                    · intro y L w' hL hpre hJ a ha
                      obtain ⟨jx, jl, jb⟩ := hJ
                      simp [Region.binds] at hpre
                      refine .inl ⟨wanted_none rfl, ?_⟩
                      have e143 : a.eval (.tmp 143) = .int .i64 (j : Int) := by rw [ha]; exact eval_puts_in (i := 5) rfl (by simp [hpre]) (by simp) rfl
                      have jx' := Lib.hid jx
                      have jb' := Lib.hid jb
                      have jl' := Lib.hid jl
                      clear jx jb jl ha
                      refine wp_intro fun K HK => ?_
                      unfold Oper.wp
                      simp only [execOp, e143]
                      go_simp
                      rw [show IntKind.i64.wrap ((j : Int) + 1) = ((j + 1 : Nat) : Int) from by go_arith]
                      exact HK.out _ _ ⟨y, _, rfl, rfl, jx'.out, jl'.out, jb'.out⟩
                    · intro y L w' hL hpre hJ a ha
                      obtain ⟨jx, jl, jb⟩ := hJ
                      simp [Region.binds] at hpre
                      refine .inl ⟨wanted_none rfl, ?_⟩
                      have e142 : a.eval (.tmp 142) = .slice A5 R.length c5 := by rw [ha]; exact eval_puts_in (i := 4) rfl (by simp [hpre]) (by simp) rfl
                      have e144 : a.eval (.tmp 144) = .int .i64 ((j + 1 : Nat) : Int) := by rw [ha]; exact eval_puts_in (i := 6) rfl (by simp [hpre]) (by simp) rfl
                      exact wp_slice_l 81 (.tmp 142) (.tmp 144) rfl e142 e144 HS2.out ⟨y, _, rfl, rfl, jx, jl, jb⟩
                    · intro y L w' hL hpre hJ a ha
                      obtain ⟨jx, jl, jb⟩ := hJ
                      simp [Region.binds] at hpre
                      refine .inl ⟨wanted_none rfl, ?_⟩
                      have e141 : a.eval (.tmp 141) = y.1.1 := by rw [ha]; exact eval_puts_in (i := 3) rfl (by simp [hpre]) (by simp) rfl
                      have e145 : a.eval (.tmp 145) = .slice A2 (R.length - (j + 1)) (c5 - (j + 1)) := by rw [ha]; exact eval_puts_in (i := 7) rfl (by simp [hpre]) (by simp) rfl
                      have h3 : L 3 = true := by simp [hpre]
                      refine wp_appendRows (.tmp 141) (.tmp 145) 81 rfl 83 _ 3 24 Try.underlying81 aInfo3 rfl (by decide) (base := w6.heap.size) (B := w6.heap.size) (jx.a hL h3) jb e141 e145 (HRq.out.below jb (Nat.le_refl _)) HP2.out (by unfold maxLen; omega) (by omega) jb.size (Nat.le_refl _) ?_
                      intro v' w'' hown hb' hgr hat
                      exact ⟨((y.1.1, v'), y.2), _, rfl, rfl, DelJ.s8 hown, fun h => absurd (jl h).1 (by simp [hL]), hb'⟩
                    · intro y L w' hL hpre hJ a ha
                      obtain ⟨jx, jl, jb⟩ := hJ
                      simp [Region.binds] at hpre
                      refine .inl ⟨wanted_none rfl, ?_⟩
                      have e146 : a.eval (.tmp 146) = y.1.2 := by rw [ha]; exact eval_puts_in (i := 8) rfl (by simp [hpre]) (by simp) rfl
                      exact wp_move' (.tmp 146) (.inr rfl) (y.1.2) (by rw [ha]; exact eval_puts_in (i := 8) rfl (by simp [hpre]) (by simp) rfl) ⟨(y.1, y.1.2), _, rfl, rfl, jx, fun _ => ⟨by simp [also, hpre], rfl⟩, jb⟩
                  · intro y L w' hL hJ
                    obtain ⟨jx, jl, jb⟩ := hJ
                    have h7 := jx.d (hL 8 (by decide))
                    have hy := (jl (hL 9 (by decide))).2
                    clear hL jx jl
                    simp only [List.foldl_cons, List.foldl_nil]
                    obtain ⟨⟨y1, v7⟩, v0⟩ := y
                    obtain rfl : v7 = v0 := hy.symm
                    have h7 : OwnRows w' w6.heap.size 83 3 v7 (j + (R.length - (j + 1))) _ := h7
                    go_simp
                    have HB7 := Lib.hid jb
                    have H7 := Lib.hid h7
                    have hn7 := own_ones.2 ⟨own_below HN6.out jb, nums_len R⟩
                    clear h7 jb HP1 HP2 HS1 HS2 HRp HRq
                    generalize w' = w7 at *
                    obtain ⟨A1, hs1, hrp⟩ := cut_low Try.underlying27 intInfo hn7.rds hjle hc6
                    obtain ⟨A2, hs2, hrq⟩ := cut_high (k := (j + 1)) Try.underlying27 intInfo hn7.rds hj1 hc6
                    have HS1 := Lib.hid hs1
                    have HS2 := Lib.hid hs2
                    have HRp := Lib.hid hrp
                    have HRq := Lib.hid hrq
                    clear hs1 hs2 hrp hrq
                    have HP1 : Hid (∀ r ∈ (ones (nums R)).take j, ∀ u ∈ r, u.oneCell' = true) := Lib.hid fun r hr u hu => one_nums _ (List.mem_of_mem_take hr) _ hu
                    have HP2 : Hid (∀ r ∈ (ones (nums R)).drop (j + 1), ∀ u ∈ r, u.oneCell' = true) := Lib.hid fun r hr u hu => one_nums _ (List.mem_of_mem_drop hr) _ hu
                    clear hn7
                    go_upto_region 30 with fail
                    refine wp_region_puts_g (by kernel_rfl) (by kernel_rfl) (X := (Value × Value) × Value) (fun y => [(some 147, .slice A6 R.length c6), (some 148, .int .i64 (j : Int)), (some 149, .slice A1 j c6), (some 150, y.1.1), (some 151, .slice A6 R.length c6), (some 152, .int .i64 (j : Int)), (some 153, .int .i64 ((j + 1 : Nat) : Int)), (some 154, .slice A2 (R.length - (j + 1)) (c6 - (j + 1))), (some 155, y.1.2), (some 6, y.2)])
                      (fun y L w' => DelJ w' w7.heap.size 3 1 j (R.length - (j + 1)) ((ones (nums R)).take j) ((ones (nums R)).drop (j + 1)) y.1 (L 3) (L 8) ∧ (L 9 = true → (L 0 && L 4 && L 8) = true ∧ y.2 = y.1.2) ∧ Below w7.heap.size w7 w') (fun _ => rfl) (by kernel_rfl) ⟨((undef, undef), undef), fun L hL => ⟨(by rw [hL 3, hL 8]; exact DelJ.start), (by rw [hL 9]; intro h; cases h), (Below.refl _ w7).drew⟩⟩ ?_ ?_
                    · refine ⟨?_, ?_, ?_, ?_, ?_, ?_, ?_, ?_, ?_, ?_, trivial⟩
                      · intro y L w' hL hpre hJ a ha
                        obtain ⟨jx, jl, jb⟩ := hJ
                        simp [Region.binds] at hpre
                        refine .inl ⟨wanted_none rfl, ?_⟩
                        have hN : L 9 = false := by
                          cases h : L 9 with
                          | false => rfl
                          | true => exact absurd (jl h).1 (by simp [hL])
                        exact wp_move' (.tmp 6) (.inl rfl) (.slice A6 R.length c6) (by rw [ha, eval_puts_off (i := 9) rfl (by rw [Nat.zero_add]; exact hN) rfl]; rfl) ⟨y, _, rfl, rfl, jx, fun h => absurd (jl h).1 (by simp [hL]), jb⟩
                      · intro y L w' hL hpre hJ a ha
                        obtain ⟨jx, jl, jb⟩ := hJ
                        simp [Region.binds] at hpre
                        refine .inl ⟨wanted_none rfl, ?_⟩
                        exact wp_move' (.tmp 9) (.inl rfl) (.int .i64 (j : Int)) (by rw [ha, eval_puts_out rfl]; rfl) ⟨y, _, rfl, rfl, jx, jl, jb⟩
                      · intro y L w' hL hpre hJ a ha
                        obtain ⟨jx, jl, jb⟩ := hJ
                        simp [Region.binds] at hpre
                        refine .inl ⟨wanted_none rfl, ?_⟩
                        have e147 : a.eval (.tmp 147) = .slice A6 R.length c6 := by rw [ha]; exact eval_puts_in (i := 0) rfl (by simp [hpre]) (by simp) rfl
                        have e148 : a.eval (.tmp 148) = .int .i64 (j : Int) := by rw [ha]; exact eval_puts_in (i := 1) rfl (by simp [hpre]) (by simp) rfl
                        exact wp_slice_h 27 (.tmp 147) (.tmp 148) rfl e147 e148 HS1.out ⟨y, _, rfl, rfl, jx, jl, jb⟩
                      · intro y L w' hL hpre hJ a ha
                        obtain ⟨jx, jl, jb⟩ := hJ
                        simp [Region.binds] at hpre
                        refine .inl ⟨wanted_none rfl, ?_⟩
                        have e149 : a.eval (.tmp 149) = .slice A1 j c6 := by rw [ha]; exact eval_puts_in (i := 2) rfl (by simp [hpre]) (by simp) rfl
                        refine wp_appendRows (.const (.slice none 0 0)) (.tmp 149) 27 rfl 3 _ 1 8 Try.underlying27 pg.iInfo1 rfl (by decide) (base := w7.heap.size) (B := w7.heap.size) (rows := []) OwnRows.nil jb rfl e149 (HRp.out.below jb (Nat.le_refl _)) HP1.out (by unfold maxLen; omega) (by omega) jb.size (Nat.le_refl _) ?_
                        intro v' w'' hown hb' hgr hat
                        rw [Nat.zero_add] at hown
                        exact ⟨((v', y.1.2), y.2), _, rfl, rfl, jx.s3 hgr hown, jl, hb'⟩
                      · intro y L w' hL hpre hJ a ha
                        obtain ⟨jx, jl, jb⟩ := hJ
                        simp [Region.binds] at hpre
                        refine .inl ⟨wanted_none rfl, ?_⟩
                        have hN : L 9 = false := by
                          cases h : L 9 with
                          | false => rfl
                          | true => exact absurd (jl h).1 (by simp [hL])
                        exact wp_move' (.tmp 6) (.inl rfl) (.slice A6 R.length c6) (by rw [ha, eval_puts_off (i := 9) rfl (by rw [Nat.zero_add]; exact hN) rfl]; rfl) ⟨y, _, rfl, rfl, jx, fun h => absurd (jl h).1 (by simp [hL]), jb⟩
                      · intro y L w' hL hpre hJ a ha
                        obtain ⟨jx, jl, jb⟩ := hJ
                        simp [Region.binds] at hpre
                        refine .inl ⟨wanted_none rfl, ?_⟩
                        exact wp_move' (.tmp 9) (.inl rfl) (.int .i64 (j : Int)) (by rw [ha, eval_puts_out rfl]; rfl) ⟨y, _, rfl, rfl, jx, jl, jb⟩
                      · intro y L w' hL hpre hJ a ha
                        obtain ⟨jx, jl, jb⟩ := hJ
                        simp [Region.binds] at hpre
                        refine .inl ⟨wanted_none rfl, ?_⟩
                        have e152 : a.eval (.tmp 152) = .int .i64 (j : Int) := by rw [ha]; exact eval_puts_in (i := 5) rfl (by simp [hpre]) (by simp) rfl
                        have jx' := Lib.hid jx
                        have jb' := Lib.hid jb
                        have jl' := Lib.hid jl
                        clear jx jb jl ha
                        refine wp_intro fun K HK => ?_
                        unfold Oper.wp
                        simp only [execOp, e152]
                        go_simp
                        rw [show IntKind.i64.wrap ((j : Int) + 1) = ((j + 1 : Nat) : Int) from by go_arith]
                        exact HK.out _ _ ⟨y, _, rfl, rfl, jx'.out, jl'.out, jb'.out⟩
                      · intro y L w' hL hpre hJ a ha
                        obtain ⟨jx, jl, jb⟩ := hJ
                        simp [Region.binds] at hpre
                        refine .inl ⟨wanted_none rfl, ?_⟩
                        have e151 : a.eval (.tmp 151) = .slice A6 R.length c6 := by rw [ha]; exact eval_puts_in (i := 4) rfl (by simp [hpre]) (by simp) rfl
                        have e153 : a.eval (.tmp 153) = .int .i64 ((j + 1 : Nat) : Int) := by rw [ha]; exact eval_puts_in (i := 6) rfl (by simp [hpre]) (by simp) rfl
                        exact wp_slice_l 27 (.tmp 151) (.tmp 153) rfl e151 e153 HS2.out ⟨y, _, rfl, rfl, jx, jl, jb⟩
                      · intro y L w' hL hpre hJ a ha
                        obtain ⟨jx, jl, jb⟩ := hJ
                        simp [Region.binds] at hpre
                        refine .inl ⟨wanted_none rfl, ?_⟩
                        have e150 : a.eval (.tmp 150) = y.1.1 := by rw [ha]; exact eval_puts_in (i := 3) rfl (by simp [hpre]) (by simp) rfl
                        have e154 : a.eval (.tmp 154) = .slice A2 (R.length - (j + 1)) (c6 - (j + 1)) := by rw [ha]; exact eval_puts_in (i := 7) rfl (by simp [hpre]) (by simp) rfl
                        have h3 : L 3 = true := by simp [hpre]
                        refine wp_appendRows (.tmp 150) (.tmp 154) 27 rfl 3 _ 1 8 Try.underlying27 pg.iInfo1 rfl (by decide) (base := w7.heap.size) (B := w7.heap.size) (jx.a hL h3) jb e150 e154 (HRq.out.below jb (Nat.le_refl _)) HP2.out (by unfold maxLen; omega) (by omega) jb.size (Nat.le_refl _) ?_
                        intro v' w'' hown hb' hgr hat
                        exact ⟨((y.1.1, v'), y.2), _, rfl, rfl, DelJ.s8 hown, fun h => absurd (jl h).1 (by simp [hL]), hb'⟩
                      · intro y L w' hL hpre hJ a ha
                        obtain ⟨jx, jl, jb⟩ := hJ
                        simp [Region.binds] at hpre
                        refine .inl ⟨wanted_none rfl, ?_⟩
                        have e155 : a.eval (.tmp 155) = y.1.2 := by rw [ha]; exact eval_puts_in (i := 8) rfl (by simp [hpre]) (by simp) rfl
                        exact wp_move' (.tmp 155) (.inr rfl) (y.1.2) (by rw [ha]; exact eval_puts_in (i := 8) rfl (by simp [hpre]) (by simp) rfl) ⟨(y.1, y.1.2), _, rfl, rfl, jx, fun _ => ⟨by simp [also, hpre], rfl⟩, jb⟩
                    · intro y L w' hL hJ
                      obtain ⟨jx, jl, jb⟩ := hJ
                      have h7 := jx.d (hL 8 (by decide))
                      have hy := (jl (hL 9 (by decide))).2
                      clear hL jx jl
                      simp only [List.foldl_cons, List.foldl_nil]
                      obtain ⟨⟨z1, v8⟩, v0⟩ := y
                      obtain rfl : v8 = v0 := hy.symm
                      have h8 : OwnRows w' w7.heap.size 3 1 v8 (j + (R.length - (j + 1))) _ := h7
                      go_simp
                      have hfin := Lib.hid (St.del HSd.out HS6.out HG6.out HAt.out HIn.out H7.out HB7.out h8 jb)
                      clear HP1 HP2 HS1 HS2 HRp HRq h7 h8 jb H7 HB7 HN6
                      go_wp2_with fail
                      go_meet
                      case rel => exact ⟨_, _, hfin.out⟩
                | false =>
                  rw [hIn] at CD
                  have HIn := Lib.hid hIn
                  clear hIn
                  go_wp2_with (first | (refine wpList_load_mid rfl 83 (.tmp 132) rfl wr0.heap.size 1 rfl x.a.v _ hgx Try.underlying83 rfl aInfo ?_))
                  refine CD.out.mono ?_
                  rintro e w6 ⟨rfl, hS6, hg6⟩
                  have hfin := Lib.hid (St.none HSd.out hS6 hg6 HAt.out HIn.out)
                  clear hS6 hg6 CD
                  go_wp2_with fail
                  go_meet
                  case rel => exact ⟨_, _, hfin.out⟩
              · have f0 : (x.k == 0) = false := by simp [k0]
                have f1 : (x.k == 1) = false := by simp [k1]
                clear k0 k1
                have CG0 := spotInt.get (m + 1) m k f x.a wd HSd.out.spot HA.out
                rw [has_of HSd.out.rep HSd.out.tidy HAt.out] at CG0
                cases hIn : inB R x.a j with
                | true =>
                  obtain ⟨hj, m0, hjm, -⟩ := inB_some hIn
                  have hjq : R[j]? = some (x.a, m0) := by rw [List.getElem?_eq_getElem hj, hjm]
                  rw [hIn, look_in HSd.out.rep HSd.out.tidy hIn hjq] at CG0
                  obtain ⟨gn, cn, e6, -, -, -, -⟩ := own_form HSd.out.ns_ (by omega)
                  cases e6
                  have cc := cell1 HSd.out.ns_ (j := j) (v := .int .i64 m0) (by rw [nums, List.getElem?_map, hjq]; rfl)
                  have CG := Lib.hid CG0
                  have HCc := Lib.hid cc
                  have hjI : (j : Int) < (R.length : Int) := by omega
                  clear CG0 hIn hjq hjm cc
                  go_wp2_with (first | (refine wpList_load_mid rfl 83 (.tmp 65) rfl wr0.heap.size 1 rfl x.a.v _ hgx Try.underlying83 rfl aInfo ?_))
                  refine CG.out.mono ?_
                  rintro e w6 ⟨rfl, hb6⟩
                  have c6 := (hb6.cell (lt_cell HCc.out)).trans HCc.out
                  have hfin := Lib.hid ((HSd.out.kept hb6).more (Nat.le_succ k))
                  clear hb6 CG
                  go_wp2_with fail
                  go_meet
                  case rel => exact ⟨_, _, hfin.out⟩
                | false =>
                  rw [hIn, look_out HSd.out.rep HSd.out.tidy HAt.out hIn] at CG0
                  have CG := Lib.hid CG0
                  clear CG0 hIn
                  go_wp2_with (first | (refine wpList_load_mid rfl 83 (.tmp 65) rfl wr0.heap.size 1 rfl x.a.v _ hgx Try.underlying83 rfl aInfo ?_))
                  refine CG.out.mono ?_
                  rintro e w6 ⟨rfl, hb6⟩
                  have hfin := Lib.hid ((HSd.out.kept hb6).more (Nat.le_succ k))
                  clear hb6 CG
                  go_wp2_with fail
                  go_meet
                  case rel => exact ⟨_, _, hfin.out⟩
          case rest =>
            obtain ⟨R', f', hst⟩ := hcut
            obtain ⟨A7, c7, rfl, -, -⟩ := hst.as_.slice
            have CL0 := spotInt.len (m + 1) m (k + 1) f' wc hst.spot
            rw [hst.rep.len] at CL0
            have CL := Lib.hid CL0
            have HSt2 := Lib.hid hst
            clear hst CL0 hgx hgk
            go_wp2_with fail
            refine CL.out.mono ?_
            rintro e w9 ⟨rfl, rfl⟩
            clear CL
            go_wp2_with fail
            go_roundw
            case rel => exact ⟨k + 1, R', f', by omega, by omega, by go_num, HSt2.out⟩
            case measure => simp [intOf]; omega
    · have hcase : (∃ hk : k = n, True) ∨ (∃ hk : k = 60, (60 : Int) < (n : Int)) := by
        by_cases h : k = n
        · exact .inl ⟨h, trivial⟩
        · exact .inr ⟨by omega, by omega⟩
      have CA0 := spotInt.all (m + 1) m k f wr hst.spot (by have := hst.rep.len; omega)
      rw [sorted_keys hst.tidy hst.rep, hst.rep.len] at CA0
      have CA := Lib.hid CA0
      have HWR : Hid (∀ x ∈ keys R, x.wf) := Lib.hid (fun x hx => by
        obtain ⟨y, hy, rfl⟩ := List.mem_map.1 hx
        exact hst.wf y hy)
      have HSt := Lib.hid hst
      clear hst CA0 hlt
      rcases hcase with ⟨rfl, -⟩ | ⟨rfl, hn60⟩
      all_goals
        go_wp2_with fail
        refine CA.out.mono ?_
        rintro e w3 ⟨v3, rfl, hown, hbb, hs3⟩
        have HR5 := Lib.hid (HSt.out.as_.below hbb).rds
        have HB3 := Lib.hid (HSt.out.below.trans (hbb.mono HSt.out.below.size))
        obtain ⟨A3, c3, rfl, -, -⟩ := hown.slice
        have HR3 := Lib.hid (show Rds w3 w3.heap.size A3 3 R.length (ads (keys R)) from hown.rds)
        have hkl := keys_len R
        have HKL := Lib.hid hkl
        clear CA hown hbb hs3 HSt hkl
        go_wp2_with fail
        go_loopw [14] (fun i wr => ∃ k3 : Nat, k3 ≤ R.length ∧ i = .int .i64 k3 ∧ Below w3.heap.size w3 wr) (fun i _ => R.length - (intOf i).toNat)
        case atStart => exact ⟨0, by omega, rfl, Below.refl _ _⟩
        case round =>
          obtain ⟨k3, hk3, rfl, hb8⟩ := hrel
          by_cases hlt : k3 < R.length
          · have hlk : k3 < (keys R).length := by rw [HKL.out]; exact hlt
            obtain ⟨b4, o4, e4, -, hR4⟩ := rds_range (HR3.out.below hb8 (Nat.le_refl _)) hlt (spotBlock.getAds hlk)
            obtain ⟨b5, o5, e5, -, hR5⟩ := rds_range (HR5.out.below hb8 (Nat.le_refl _)) hlt (spotBlock.getAds hlk)
            cases e4
            cases e5
            have hx := HWR.out (keys R)[k3] (List.getElem_mem hlk)
            have hlt2 : (k3 : Int) < (R.length : Int) := by omega
            have hne := fun w => neq_ad w hx hx
            simp only [decide_true, Bool.not_true] at hne
            clear hx
            generalize (keys R)[k3] = x at *
            change ∀ w, (binOp .neq 83 (.agg #[.int .i64 x.d, .int .i64 x.b, .int .i64 x.p]) (.agg #[.int .i64 x.d, .int .i64 x.b, .int .i64 x.p])).run Try.prog w = .ok (.bool false) w at hne
            have p0 : wr.cell? ⟨b5, o5 + k3 * 3, none⟩ = some (.int .i64 x.d) := hR5 0 _ rfl
            have p1 : wr.cell? ⟨b5, o5 + k3 * 3 + 1, none⟩ = some (.int .i64 x.b) := hR5 1 _ rfl
            have p2 : wr.cell? ⟨b5, o5 + k3 * 3 + 2, none⟩ = some (.int .i64 x.p) := hR5 2 _ rfl
            have q0 : wr.cell? ⟨b4, o4 + k3 * 3, none⟩ = some (.int .i64 x.d) := hR4 0 _ rfl
            have q1 : wr.cell? ⟨b4, o4 + k3 * 3 + 1, none⟩ = some (.int .i64 x.b) := hR4 1 _ rfl
            have q2 : wr.cell? ⟨b4, o4 + k3 * 3 + 2, none⟩ = some (.int .i64 x.p) := hR4 2 _ rfl
            clear hR4 hR5
            go_upto_region 37 with fail
            go_region
            go_wp2_with fail
            go_roundw
            case rel => exact ⟨k3 + 1, by omega, by go_num, hb8.drew⟩
            case measure => simp [intOf]; omega
          · obtain rfl : k3 = R.length := by omega
            go_wp2_with fail
            go_ret
            exact ⟨rfl, HB3.out.trans (hb8.mono HB3.out.size)⟩
end Go.Proofs.Ytakekjbbbjmdpaa.spotAll
