import Derived.Test.YtakekjbbbjmdpaaFoldLaw
import Derived.Test.YtakekjbbbjmdpaaBunD
import Derived.Test.YtakekjbbbjmdpaaBunE
import Derived.Test.YtakekjbbbjmdpaaBunC
/- The document's entry that is missing in a row. -/
namespace Go.Proofs.Ytakekjbbbjmdpaa
open Go.RowKit
set_option linter.unusedVariables false
theorem back_off {p : Sh} {l : List Sh} (h : backC p l = false) : Ending.returned (.tuple #[.agg (backV p l).toArray, .bool (backB p l)]) = .returned (.tuple #[.agg zeroE.toArray, .bool false]) := by
  have E1 : backB p l = false := by unfold backB; rw [h]; rfl
  have E2 : backV p l = zeroE := by unfold backV; rw [E1]; rfl
  rw [E1, E2]
theorem alien_in {p x : Sh} {l : List Sh} (hx : x ∈ l) (h : alienB p x = true) : backC p l = false := by
  have : anyAlien p l = true := by unfold anyAlien; exact List.any_eq_true.2 ⟨x, hx, h⟩
  unfold backC; rw [this]; simp
theorem built_en {d : List Nat} (h : d.length = 16) (l s r : Int) : Try.prog.built 68 [(0, .int .i64 l), (1, .int .i64 s), (2, .int .i64 r), (3, .agg (nats .u8 d).toArray)] = some (enV l s r d).toArray := by
  obtain ⟨d0, d1, d2, d3, d4, d5, d6, d7, d8, d9, d10, d11, d12, d13, d14, d15, rfl⟩ := split16 h
  kernel_rfl
theorem over_fold {p x : Sh} {l : List Sh} (hok : ∀ y ∈ p :: l, y.ok) (hin : ∀ y ∈ p :: l, inR y) (hx : x.ok) (hxr : inR x) (w : World) :
    Calls Try.prog 95 #[.agg (foldV p l).toArray, .agg x.v.toArray] w fun e w' => e = .returned (.agg (foldV p (l ++ [x])).toArray) ∧ Below w.heap.size w w' := by
  obtain ⟨r0, r1, l0, l1, s0, s1⟩ := hxr
  obtain ⟨f1, f2, f3⟩ := fold_bd hin
  have ex : x.v = shV x.d (x.r.toNat : Int) (x.l.toNat : Int) (x.s.toNat : Int) x.k x.b x.o x.m := by
    rw [Int.toNat_of_nonneg r0, Int.toNat_of_nonneg l0, Int.toNat_of_nonneg s0]; rfl
  rw [ex, foldV_snoc]
  exact refover_any (overD (p :: l)) x.d (foldR p l) (foldL p l) (foldQ p l) x.r.toNat x.l.toNat x.s.toNat p.k p.b p.o p.m x.k x.b x.o x.m w
    (overD_length fun y hy => (hok y hy).1) (overD_lt (fun y hy => (hok y hy).1) fun y hy => (hok y hy).2) hx.1 hx.2 (by omega) (by omega) (by omega) (by omega) (by omega) (by omega)
theorem fold_len {p : Sh} {l : List Sh} (hok : ∀ y ∈ p :: l, y.ok) : (foldV p l).length = 23 := shV_length (overD_length fun y hy => (hok y hy).1) _ _ _ _ _ _ _
theorem foldInfo {p : Sh} {l : List Sh} (hok : ∀ y ∈ p :: l, y.ok) : (Try.prog.info? 40).map (·.size) = some (foldV p l).length := shInfo _ (overD_length fun y hy => (hok y hy).1) _ _ _ _ _ _ _
theorem alien_may {p x : Sh} (h : alienB p x = false) : x.may = true := by
  unfold alienB at h
  cases hx : x.may with
  | true => rfl
  | false => rw [hx] at h; simp at h
set_option maxRecDepth 100000 in
set_option maxHeartbeats 8000000 in
theorem refback_any (p : Sh) (l : List Sh) (A : Option Addr) (n c B : Nat) (w : World) (hp : p.ok) (hr : Rds w B A 23 n (shs l)) (hB : B ≤ w.heap.size) (hok : ∀ x ∈ l, x.ok) (hn : n ≤ 1000) :
    Calls Try.prog 51 #[.agg p.v.toArray, .slice A n c] w fun e w' => e = .returned (.tuple #[.agg (backV p l).toArray, .bool (backB p l)]) ∧ Below w.heap.size w w' := by
  have hl : l.length = n := by have := hr.1; rwa [shs, List.length_map] at this
  have hs7 : 0 ≤ slotsI p.m ∧ slotsI p.m ≤ 7 := by have := countI_le p.m; unfold slotsI; split <;> omega
  obtain ⟨hs0, hs7⟩ := hs7
  have HL := Lib.hid hl
  have HP := Lib.hid hp
  have HOk := Lib.hid hok
  have HR := Lib.hid hr
  have HB := Lib.hid hB
  have iP := shInfo p.d hp.1 p.r p.l p.s p.k p.b p.o p.m
  have iPl := Lib.hid (shV_length hp.1 p.r p.l p.s p.k p.b p.o p.m)
  have CP : ∀ w, Calls Try.prog 39 #[.agg p.v.toArray] w fun e w' => e = .returned (.bool p.may) ∧ Below w.heap.size w w' := fun w => refmay_any p.d p.r p.l p.s p.k p.b p.o p.m w hp.1 hp.2
  have HCP := Lib.hid CP
  have h0 := heap_at1 w (.cells p.v.toArray 40) (.cells zeroE.toArray 68)
  have h1 := heap_new' (w.alloc (.cells p.v.toArray 40)) (.cells zeroE.toArray 68) (w.heap.size + 1) (by simp)
  have hbel := below2 w (.cells p.v.toArray 40) (.cells zeroE.toArray 68)
  clear hl hok hr CP hB hp
  go_enter Try.func51, Try.ntmps51
  go_upto_region 1 with fail
  change Code.wp _ _ _ _ ((w.alloc (.cells p.v.toArray 40)).alloc (.cells zeroE.toArray 68))
  generalize (w.alloc (.cells p.v.toArray 40)).alloc (.cells zeroE.toArray 68) = w1 at *
  go_wp2_with (first | (refine wpList_load_mid rfl 40 (.tmp 2) rfl w.heap.size 0 rfl _ _ (range_blk h0) Try.underlying40 rfl iP ?_))
  refine (HCP.out _).mono ?_
  rintro e w2 ⟨rfl, hb2⟩
  have h02 := blk_below h0 hb2
  have h12 := blk_below h1 hb2
  have hbel2 := hbel.trans (hb2.mono hbel.size)
  obtain ⟨c16, c17, c18, c19, c20, c21, c22⟩ := sh_cells HP.out.1 h02
  have H02 := Lib.hid h02
  clear h0 h1 hbel hb2 h02
  cases hM : p.may with
  | false =>
    have E1 : backC p l = false := by unfold backC; rw [hM]; simp
    have HE := Lib.hid (back_off E1)
    clear E1
    go_wp2_with (first | (refine wpList_build_l rfl 68 _ rfl _ rfl _ built_zeroE ?_) | (refine wpList_put_row rfl 68 (.tmp 4) (.tmp 29) rfl (w.heap.size + 1) zeroE rfl rfl 68 _ h12 (enInfo rfl _ _ _) rfl (one_enV _ _ _ _) ?_; intro w9 hU9))
    refine bodyPost_ret (v := .tuple #[.agg zeroE.toArray, .bool false]) ?_ rfl ⟨by rw [HE.out], hU9.below hbel2 (by omega)⟩
    rw [results_row2 rfl _ _ _ _ _ _ _ rfl hU9.at_ Try.underlying68 rfl (enInfo rfl _ _ _)]; rfl
  | true =>
    have HM := Lib.hid hM
    clear hM
    by_cases hk : p.k = 2
    · have t1 : (p.k != 2) = false := by simpa using hk
      have HK := Lib.hid hk
      clear hk
      go_wp2_with fail
      refine (refslots_any _ _).mono ?_
      rintro e w3 ⟨rfl, hb3⟩
      have h03 := blk_below H02.out hb3
      have h13 := blk_below h12 hb3
      have hbel3 := hbel2.trans (hb3.mono hbel2.size)
      clear c16 c17 c18 c19 c20 c21 c22 hb3 h12 hbel2 H02 t1
      by_cases hsz : (n : Int) = slotsI p.m - 1
      · have t4 : ((n : Int) != slotsI p.m - 1) = false := by simpa using hsz
        have HS := Lib.hid hsz
        have NE0 := lt_of_cells h03
        have NE1 := lt_of_cells h13
        clear hsz
        go_wp2_with (first | (refine wpList_load_mid rfl 40 (.tmp 2) rfl w.heap.size 0 rfl _ _ (range_blk h03) Try.underlying40 rfl iP ?_) | (refine wpList_put_row rfl 40 (.tmp 6) (.tmp 30) rfl w3.heap.size p.v rfl rfl 40 _ (heap_new' w3 _ _ rfl) iP (by rw [Sh.v, iPl.out]; rfl) (one_shV _ _ _ _ _ _ _ _) ?_; intro w4 hU4; have h64 := hU4.at_; have h04 := hU4.old (blk_alloc h03 _) (by omega); have h14 := hU4.old (blk_alloc h13 _) (by omega); have hbel4 := hU4.below (hbel3.alloc hbel3.size _) hbel3.size; have NE6 := lt_of_cells h64; clear hU4 h03 h13 hbel3))
        have hpf := foldV_nil HP.out (may_inR HM.out)
        rw [← hpf] at h64
        go_loopw [7] (fun i wr => ∃ j : Nat, j ≤ n ∧ i = .int .i64 j ∧ wr.heap[w3.heap.size]? = some (.cells (foldV p (l.take j)).toArray 40 (0, 0)) ∧ wr.heap[w.heap.size]? = some (.cells p.v.toArray 40 (0, 0)) ∧ wr.heap[w.heap.size + 1]? = some (.cells zeroE.toArray 68 (0, 0)) ∧ (∀ x ∈ l.take j, alienB p x = false) ∧ Below w.heap.size w wr) (fun i _ => n - (intOf i).toNat)
        case atStart => exact ⟨0, by omega, rfl, by simpa using h64, h04, h14, by simp, hbel4⟩
        case round =>
          clear h64 h04 h14 hbel4 hpf
          obtain ⟨j, hj, rfl, h6, h2, h4, hall, hb⟩ := hrel
          have HAll := Lib.hid hall
          clear hall
          have hin : ∀ y ∈ p :: l.take j, inR y := fun y hy => (List.mem_cons.1 hy).elim (fun e => by rw [e]; exact may_inR HM.out) (fun h => may_inR (alien_may (HAll.out y h)))
          have hok : ∀ y ∈ p :: l.take j, y.ok := fun y hy => (List.mem_cons.1 hy).elim (fun e => by rw [e]; exact HP.out) (fun h => HOk.out y (List.mem_of_mem_take h))
          have HIn := Lib.hid hin
          have HOj := Lib.hid hok
          have iF := foldInfo hok
          have iFl := Lib.hid (fold_len hok)
          clear hin hok
          by_cases hlt : j < n
          · obtain ⟨x, hx⟩ : ∃ x, l[j]? = some x := ⟨_, List.getElem?_eq_getElem (by rw [HL.out]; exact hlt)⟩
            have hxm := List.mem_of_getElem? hx
            have HX := Lib.hid (HOk.out x hxm)
            have HXm := Lib.hid hxm
            have HT := Lib.hid (show l.take (j + 1) = l.take j ++ [x] by rw [List.take_add_one, hx]; rfl)
            have hr' := HR.out.below hb HB.out
            obtain ⟨bb, oo, rfl, hbb, hR⟩ := rds_range hr' hlt (r := x.v) (by rw [shs, List.getElem?_map, hx]; rfl)
            have iX := shInfo x.d HX.out.1 x.r x.l x.s x.k x.b x.o x.m
            have iXl := Lib.hid (shV_length HX.out.1 x.r x.l x.s x.k x.b x.o x.m)
            have CX : ∀ w, Calls Try.prog 39 #[.agg x.v.toArray] w fun e w' => e = .returned (.bool x.may) ∧ Below w.heap.size w w' := fun w => refmay_any x.d x.r x.l x.s x.k x.b x.o x.m w HX.out.1 HX.out.2
            have HCX := Lib.hid CX
            have hltI : (j : Int) < (n : Int) := by omega
            have NA := lt_of_cells h6
            clear hx hxm hr' CX
            go_wp2_with (first | (refine wpList_load_mid rfl 40 (.tmp 39) rfl bb (oo + j * 23) rfl _ _ hR Try.underlying40 rfl iX ?_) | (refine wpList_put_row rfl 40 (.tmp 8) (.tmp 40) rfl wr.heap.size x.v rfl rfl 40 _ (heap_new' wr _ _ rfl) iX (by rw [Sh.v, iXl.out]; rfl) (one_shV _ _ _ _ _ _ _ _) ?_; intro w5 hU5; have h85 := hU5.at_; have h65 := hU5.old (blk_alloc h6 _) (by omega); have h25 := hU5.old (blk_alloc h2 _) (by omega); have h45 := hU5.old (blk_alloc h4 _) (by omega); have hb5 := hU5.below (hb.alloc hb.size _) hb.size; clear hU5 h6 h2 h4 hb hR) | (refine wpList_load_mid rfl 40 (.tmp 8) rfl wr.heap.size 0 rfl _ _ (range_blk h85) Try.underlying40 rfl iX ?_))
            refine (HCX.out _).mono ?_
            rintro e w6 ⟨rfl, hbb6⟩
            have h66 := blk_below h65 hbb6
            have h26 := blk_below h25 hbb6
            have h46 := blk_below h45 hbb6
            have h86 := blk_below h85 hbb6
            have hb6 := hb5.trans (hbb6.mono hb5.size)
            clear hbb6 h65 h25 h45 h85 hb5
            cases hxm : x.may with
            | false =>
              have E1 : backC p l = false := by exact alien_in HXm.out (by unfold alienB; simp [hxm])
              have HE := Lib.hid (back_off E1)
              clear E1
              go_wp2_with (first | (refine wpList_build_l rfl 68 _ rfl _ rfl _ built_zeroE ?_) | (refine wpList_put_row rfl 68 (.tmp 4) (.tmp 70) rfl (w.heap.size + 1) zeroE rfl rfl 68 _ h46 (enInfo rfl _ _ _) rfl (one_enV _ _ _ _) ?_; intro w9 hU9))
              refine bodyPost_ret (v := .tuple #[.agg zeroE.toArray, .bool false]) ?_ rfl ⟨by rw [HE.out], hU9.below hb6 (by omega)⟩
              rw [results_row2 rfl _ _ _ _ _ _ _ rfl hU9.at_ Try.underlying68 rfl (enInfo rfl _ _ _)]; rfl
            | true =>
              have HXa := Lib.hid hxm
              clear hxm
              obtain ⟨x16, x17, x18, x19, x20, x21, x22⟩ := sh_cells HX.out.1 h86
              obtain ⟨c16, c17, c18, c19, c20, c21, c22⟩ := sh_cells HP.out.1 h26
              have H86 := Lib.hid h86
              have H66 := Lib.hid h66
              have H26 := Lib.hid h26
              clear h86 h66 h26
              by_cases k1 : x.k = 1
              · have t5 : (x.k != 1) = false := by simpa using k1
                have K1 := Lib.hid k1
                clear k1
                by_cases b1 : x.b = p.b
                · have t6 : (x.b != p.b) = false := by simpa using b1
                  have B1 := Lib.hid b1
                  clear b1
                  by_cases o1 : x.o = p.o
                  · have t7 : (x.o != p.o) = false := by simpa using o1
                    have O1 := Lib.hid o1
                    clear o1
                    by_cases m1 : x.m = p.m
                    · have t8 : (x.m != p.m) = false := by simpa using m1
                      have HAl := Lib.hid (show alienB p x = false by unfold alienB; rw [HXa.out, K1.out, B1.out, O1.out, m1]; simp)
                      clear m1
                      have CO := fun w => over_fold HOj.out HIn.out HX.out (may_inR HXa.out) w
                      rw [← HT.out] at CO
                      have HCO := Lib.hid CO
                      have hok1 : ∀ y ∈ p :: l.take (j + 1), y.ok := fun y hy => (List.mem_cons.1 hy).elim (fun e => by rw [e]; exact HP.out) (fun h => HOk.out y (List.mem_of_mem_take h))
                      have iG := foldInfo hok1
                      have iGl := Lib.hid (fold_len hok1)
                      clear CO hok1
                      go_wp2_with (first | (refine wpList_load_mid rfl 40 (.tmp 6) rfl w3.heap.size 0 rfl _ _ (range_blk H66.out) Try.underlying40 rfl iF ?_) | (refine wpList_load_mid rfl 40 (.tmp 8) rfl wr.heap.size 0 rfl _ _ (range_blk H86.out) Try.underlying40 rfl iX ?_))
                      refine (HCO.out _).mono ?_
                      rintro e w7 ⟨rfl, hbb7⟩
                      have h67 := blk_below H66.out hbb7
                      have h27 := blk_below H26.out hbb7
                      have h47 := blk_below h46 hbb7
                      have hb7 := hb6.trans (hbb7.mono hb6.size)
                      clear hbb7 H66 H26 h46 hb6 x16 x17 x18 x19 x20 x21 x22 c16 c17 c18 c19 c20 c21 c22
                      go_wp2_with (first | (refine wpList_put_row rfl 40 (.tmp 6) (.tmp 73) rfl w3.heap.size (foldV p (l.take (j + 1))) rfl rfl 40 _ h67 iG (by rw [iGl.out]; exact iFl.out) (one_shV _ _ _ _ _ _ _ _) ?_; intro w8 hU8; have h68 := hU8.at_; have h28 := hU8.old h27 (by omega); have h48 := hU8.old h47 (by omega); have hb8 := hU8.below hb7 (by omega); clear hU8))
                      go_roundw
                      case rel => exact ⟨j + 1, by omega, by go_num, h68, h28, h48, by rw [HT.out]; exact fun y hy => (List.mem_append.1 hy).elim (HAll.out y) (fun h => by rw [List.mem_singleton.1 h]; exact HAl.out), hb8⟩
                      case measure => simp [intOf]; omega
                    · have t8 : (x.m != p.m) = true := by simpa using m1
                      have E1 : backC p l = false := by exact alien_in HXm.out (by unfold alienB; simp [t8])
                      have HE := Lib.hid (back_off E1)
                      clear E1
                      go_wp2_with (first | (refine wpList_build_l rfl 68 _ rfl _ rfl _ built_zeroE ?_) | (refine wpList_put_row rfl 68 (.tmp 4) (.tmp 70) rfl (w.heap.size + 1) zeroE rfl rfl 68 _ h46 (enInfo rfl _ _ _) rfl (one_enV _ _ _ _) ?_; intro w9 hU9))
                      refine bodyPost_ret (v := .tuple #[.agg zeroE.toArray, .bool false]) ?_ rfl ⟨by rw [HE.out], hU9.below hb6 (by omega)⟩
                      rw [results_row2 rfl _ _ _ _ _ _ _ rfl hU9.at_ Try.underlying68 rfl (enInfo rfl _ _ _)]; rfl
                  · have t7 : (x.o != p.o) = true := by simpa using o1
                    have E1 : backC p l = false := by exact alien_in HXm.out (by unfold alienB; simp [t7])
                    have HE := Lib.hid (back_off E1)
                    clear E1
                    go_wp2_with (first | (refine wpList_build_l rfl 68 _ rfl _ rfl _ built_zeroE ?_) | (refine wpList_put_row rfl 68 (.tmp 4) (.tmp 70) rfl (w.heap.size + 1) zeroE rfl rfl 68 _ h46 (enInfo rfl _ _ _) rfl (one_enV _ _ _ _) ?_; intro w9 hU9))
                    refine bodyPost_ret (v := .tuple #[.agg zeroE.toArray, .bool false]) ?_ rfl ⟨by rw [HE.out], hU9.below hb6 (by omega)⟩
                    rw [results_row2 rfl _ _ _ _ _ _ _ rfl hU9.at_ Try.underlying68 rfl (enInfo rfl _ _ _)]; rfl
                · have t6 : (x.b != p.b) = true := by simpa using b1
                  have E1 : backC p l = false := by exact alien_in HXm.out (by unfold alienB; simp [t6])
                  have HE := Lib.hid (back_off E1)
                  clear E1
                  go_wp2_with (first | (refine wpList_build_l rfl 68 _ rfl _ rfl _ built_zeroE ?_) | (refine wpList_put_row rfl 68 (.tmp 4) (.tmp 70) rfl (w.heap.size + 1) zeroE rfl rfl 68 _ h46 (enInfo rfl _ _ _) rfl (one_enV _ _ _ _) ?_; intro w9 hU9))
                  refine bodyPost_ret (v := .tuple #[.agg zeroE.toArray, .bool false]) ?_ rfl ⟨by rw [HE.out], hU9.below hb6 (by omega)⟩
                  rw [results_row2 rfl _ _ _ _ _ _ _ rfl hU9.at_ Try.underlying68 rfl (enInfo rfl _ _ _)]; rfl
              · have t5 : (x.k != 1) = true := by simpa using k1
                have E1 : backC p l = false := by exact alien_in HXm.out (by unfold alienB; simp [t5])
                have HE := Lib.hid (back_off E1)
                clear E1
                go_wp2_with (first | (refine wpList_build_l rfl 68 _ rfl _ rfl _ built_zeroE ?_) | (refine wpList_put_row rfl 68 (.tmp 4) (.tmp 70) rfl (w.heap.size + 1) zeroE rfl rfl 68 _ h46 (enInfo rfl _ _ _) rfl (one_enV _ _ _ _) ?_; intro w9 hU9))
                refine bodyPost_ret (v := .tuple #[.agg zeroE.toArray, .bool false]) ?_ rfl ⟨by rw [HE.out], hU9.below hb6 (by omega)⟩
                rw [results_row2 rfl _ _ _ _ _ _ _ rfl hU9.at_ Try.underlying68 rfl (enInfo rfl _ _ _)]; rfl
          · obtain rfl : j = n := by omega
            have hT : l.take j = l := List.take_of_length_le (by rw [HL.out]; exact Nat.le_refl _)
            rw [hT] at h6 iF iFl HAll HIn HOj
            have hC : backC p l = true := by
              unfold backC
              rw [HM.out, show anyAlien p l = false from List.any_eq_false.2 fun x hx => by rw [HAll.out x hx]; simp, HL.out, HK.out, HS.out]; simp
            obtain ⟨e1, e2⟩ := fold_back hC HOj.out
            have hD16 := overD_length fun y hy => (HOj.out y hy).1
            have hDb := overD_lt (fun y hy => (HOj.out y hy).1) fun y hy => (HOj.out y hy).2
            have E := Lib.hid (And.intro e1 e2)
            have iE := enInfo hD16 (foldL p l) (foldQ p l) (foldR p l)
            have iEl := Lib.hid (enV_length hD16 (foldL p l) (foldQ p l) (foldR p l))
            have hBu := built_en hD16 (foldL p l) (foldQ p l) (foldR p l)
            have iDd : (Try.prog.info? 38).map (·.size) = some (nats .u8 (overD (p :: l))).length := by rw [nats_length, hD16]; kernel_rfl
            have CO := fun w => own_ref p.b p.o p.m (foldL p l) (foldQ p l) (foldR p l) (overD (p :: l)) w hD16 hDb
            have HD := Lib.hid hD16
            have HCO := Lib.hid CO
            have h6' : wr.heap[w3.heap.size]? = some (.cells (shV (overD (p :: l)) (foldR p l) (foldL p l) (foldQ p l) p.k p.b p.o p.m).toArray 40 (0, 0)) := h6
            obtain ⟨x16, x17, x18, -⟩ := sh_cells hD16 h6'
            obtain ⟨c16, c17, c18, c19, c20, c21, c22⟩ := sh_cells HP.out.1 h2
            have hrd := range_data h6'
            clear hT hC e1 e2 CO hDb hD16 h6 iF iFl HAll HIn HOj
            have NA := lt_of_cells h6'
            generalize foldR p l = fR at *
            generalize foldL p l = fL at *
            generalize foldQ p l = fQ at *
            generalize overD (p :: l) = D at *
            go_wp2_with (first | (refine wpList_load_mid rfl 38 (.tmp 80) rfl w3.heap.size 0 rfl _ _ hrd Try.underlying38 rfl iDd ?_) | (refine wpList_build_l rfl 68 _ rfl _ rfl _ hBu ?_) | (refine wpList_put_row rfl 68 (.tmp 9) (.tmp 82) rfl wr.heap.size (enV fL fQ fR D) rfl rfl 68 _ (heap_new' wr _ _ rfl) iE (by rw [iEl.out]; rfl) (one_enV _ _ _ _) ?_; intro w5 hU5; have h95 := hU5.at_; have h25 := hU5.old (blk_alloc h2 _) (by omega); have h45 := hU5.old (blk_alloc h4 _) (by omega); have hb5 := hU5.below (hb.alloc hb.size _) hb.size; clear hU5 h2 h4 hb hrd x16 x17 x18 c16 c17 c18 c19 c20 c21 c22; obtain ⟨c16, c17, c18, c19, c20, c21, c22⟩ := sh_cells HP.out.1 h25) | (refine wpList_load_mid rfl 68 (.tmp 9) rfl wr.heap.size 0 rfl _ _ (range_blk h95) Try.underlying68 rfl iE ?_))
            refine (HCO.out _).mono ?_
            rintro e w6 ⟨rfl, hbb6⟩
            have h96 := blk_below h95 hbb6
            have h46 := blk_below h45 hbb6
            have hb6 := hb5.trans (hbb6.mono hb5.size)
            have N9 := lt_of_cells h96
            have N4 := lt_of_cells h46
            clear hbb6 h95 h45 hb5 h25 c16 c17 c18 c19 c20 c21 c22
            cases hM2 : maySh D fR fL fQ 1 p.b p.o p.m with
            | false =>
              have HO := Lib.hid (show ownV D fR fL fQ p.b p.o p.m = zeroV by unfold ownV; rw [hM2]; rfl)
              have HE := Lib.hid (show Ending.returned (.tuple #[.agg (backV p l).toArray, .bool (backB p l)]) = .returned (.tuple #[.agg zeroE.toArray, .bool false]) by rw [E.out.1, E.out.2, hM2]; rfl)
              rw [HO.out]
              clear hM2
              go_wp2_with (first | (refine wpList_put_row rfl 40 (.tmp 10) (.tmp 92) rfl w6.heap.size zeroV rfl rfl 40 _ (heap_new' w6 _ _ rfl) (shInfo _ rfl _ _ _ _ _ _ _) rfl (one_shV _ _ _ _ _ _ _ _) ?_; intro w7 hU7; have h47 := hU7.old (blk_alloc h46 _) (by omega); have hb7 := hU7.below (hb6.alloc hb6.size _) hb6.size; clear hU7) | (refine wpList_build_l rfl 68 _ rfl _ rfl _ built_zeroE ?_) | (refine wpList_put_row rfl 68 (.tmp 4) (.tmp 96) rfl (w.heap.size + 1) zeroE rfl rfl 68 _ h47 (enInfo rfl _ _ _) rfl (one_enV _ _ _ _) ?_; intro w9 hU9))
              refine bodyPost_ret (v := .tuple #[.agg zeroE.toArray, .bool false]) ?_ rfl ⟨by rw [HE.out], hU9.below hb7 (by omega)⟩
              rw [results_row2 rfl _ _ _ _ _ _ _ rfl hU9.at_ Try.underlying68 rfl (enInfo rfl _ _ _)]; rfl
            | true =>
              have HO := Lib.hid (show ownV D fR fL fQ p.b p.o p.m = shV D fR fL fQ 1 p.b p.o p.m by unfold ownV; rw [hM2]; rfl)
              have HE := Lib.hid (show Ending.returned (.tuple #[.agg (backV p l).toArray, .bool (backB p l)]) = .returned (.tuple #[.agg (enV fL fQ fR D).toArray, .bool true]) by rw [E.out.1, E.out.2, hM2]; rfl)
              rw [HO.out]
              clear hM2
              have iO := shInfo D HD.out fR fL fQ 1 p.b p.o p.m
              have iOl := Lib.hid (shV_length HD.out fR fL fQ 1 p.b p.o p.m)
              go_wp2_with (first | (refine wpList_put_row rfl 40 (.tmp 10) (.tmp 92) rfl w6.heap.size (shV D fR fL fQ 1 p.b p.o p.m) rfl rfl 40 _ (heap_new' w6 _ _ rfl) iO (by rw [iOl.out]; rfl) (one_shV _ _ _ _ _ _ _ _) ?_; intro w7 hU7; have h47 := hU7.old (blk_alloc h46 _) (by omega); have h97 := hU7.old (blk_alloc h96 _) (by omega); have hb7 := hU7.below (hb6.alloc hb6.size _) hb6.size; clear hU7) | (refine wpList_load_mid rfl 68 (.tmp 9) rfl wr.heap.size 0 rfl _ _ (range_blk h97) Try.underlying68 rfl iE ?_) | (refine wpList_put_row rfl 68 (.tmp 4) (.tmp 97) rfl (w.heap.size + 1) (enV fL fQ fR D) rfl rfl 68 _ h47 iE (by rw [iEl.out]; rfl) (one_enV _ _ _ _) ?_; intro w9 hU9))
              refine bodyPost_ret (v := .tuple #[.agg (enV fL fQ fR D).toArray, .bool true]) ?_ rfl ⟨by rw [HE.out], hU9.below hb7 (by omega)⟩
              rw [results_row2 rfl _ _ _ _ _ _ _ rfl hU9.at_ Try.underlying68 rfl iE]; rfl
      · have t4 : ((n : Int) != slotsI p.m - 1) = true := by simpa using hsz
        have E1 : backC p l = false := by unfold backC; rw [HL.out, show ((n : Int) == slotsI p.m - 1) = false from beq_eq_false_iff_ne.2 hsz]; simp
        have HE := Lib.hid (back_off E1)
        clear E1
        go_wp2_with (first | (refine wpList_build_l rfl 68 _ rfl _ rfl _ built_zeroE ?_) | (refine wpList_put_row rfl 68 (.tmp 4) (.tmp 29) rfl (w.heap.size + 1) zeroE rfl rfl 68 _ h13 (enInfo rfl _ _ _) rfl (one_enV _ _ _ _) ?_; intro w9 hU9))
        refine bodyPost_ret (v := .tuple #[.agg zeroE.toArray, .bool false]) ?_ rfl ⟨by rw [HE.out], hU9.below hbel3 (by omega)⟩
        rw [results_row2 rfl _ _ _ _ _ _ _ rfl hU9.at_ Try.underlying68 rfl (enInfo rfl _ _ _)]; rfl
    · have t1 : (p.k != 2) = true := by simpa using hk
      have E1 : backC p l = false := by unfold backC; rw [show (p.k == 2) = false from beq_eq_false_iff_ne.2 hk]; simp
      have HE := Lib.hid (back_off E1)
      clear E1
      go_wp2_with (first | (refine wpList_build_l rfl 68 _ rfl _ rfl _ built_zeroE ?_) | (refine wpList_put_row rfl 68 (.tmp 4) (.tmp 29) rfl (w.heap.size + 1) zeroE rfl rfl 68 _ h12 (enInfo rfl _ _ _) rfl (one_enV _ _ _ _) ?_; intro w9 hU9))
      refine bodyPost_ret (v := .tuple #[.agg zeroE.toArray, .bool false]) ?_ rfl ⟨by rw [HE.out], hU9.below hbel2 (by omega)⟩
      rw [results_row2 rfl _ _ _ _ _ _ _ rfl hU9.at_ Try.underlying68 rfl (enInfo rfl _ _ _)]; rfl
end Go.Proofs.Ytakekjbbbjmdpaa
