import Derived.Test.YtakekjbbbjmdpaaTurnLaw
import Derived.Test.YtakekjbbbjmdpaaRefMeta
import Derived.Test.YtakekjbbbjmdpaaBackLaw
import Derived.Test.YtakekjbbbjmdpaaRegion3
import Derived.Deep.CutBlock
/- SherdTurn: the walk. -/
namespace Go.Proofs.Ytakekjbbbjmdpaa.sherdTurn
open Go.RowKit
set_option linter.unusedVariables false
theorem eight (n : Int) : ∃ K : Nat, K < 8 ∧ (n.tmod 8 + 8).tmod 8 = (K : Int) ∧ -8 < n.tmod 8 ∧ n.tmod 8 < 8 := by
  have h1 := Int.tmod_lt_of_pos n (show (0 : Int) < 8 by omega)
  have h2 : -(8 : Int) < n.tmod 8 := by
    rw [Int.tmod_eq_emod]
    have h2 := Int.emod_nonneg n (show (8 : Int) ≠ 0 by omega)
    have h3 := Int.emod_lt_of_pos n (show (0 : Int) < 8 by omega)
    split
    · omega
    · simp; omega
  generalize n.tmod 8 = y at *
  rw [Int.tmod_eq_emod_of_nonneg (by omega)]
  exact ⟨((y + 8) % 8).toNat, by omega, by omega, h2, h1⟩
set_option maxRecDepth 100000 in
set_option maxHeartbeats 8000000 in
theorem walk (cs : List Value) (n v : Int) (w : World) (w0 : okAll (List.replicate 16 (Kd.int .u8) ++ List.replicate 7 (Kd.int .i64)) cs = true) (w1 : (Lit.int .i64 n).wf = true) (w2 : (Lit.int .i64 v).wf = true) :
    Calls Try.prog 10 #[.agg cs.toArray, .int .i64 n, .int .i64 v] w fun e w' => e = .returned (.bool true) ∧ Below w.heap.size w w' := by
  obtain ⟨x, rfl, hx, hwx⟩ := open_sh w0
  obtain ⟨K, hK, hKe, hn1, hn2⟩ := eight n
  have hy := chg_ok hx v K
  have hwy := chg_wf hwx w2 K
  have HX := Lib.hid hx
  have HY := Lib.hid hy
  have HWX := Lib.hid hwx
  have HWY := Lib.hid hwy
  have iX : Hid _ := Lib.hid (shInfo x.d hx.1 x.r x.l x.s x.k x.b x.o x.m)
  have h0 := heap_alloc_new w (.cells x.v.toArray 40)
  have hbel := (Below.refl _ w).alloc (Nat.le_refl _) (.cells x.v.toArray 40)
  clear w0 w1 w2 hx hwx hy hwy
  go_enter Try.func10, Try.ntmps10
  go_upto_region 1 with fail
  generalize w.alloc (.cells x.v.toArray 40) = w0 at *
  go_wp2_with fail
  refine (begun9_any _).mono ?_
  rintro e w1 ⟨rfl, hb⟩
  have h1 := blk_below h0 hb
  have hb_w1 := hbel.trans (hb.mono hbel.size)
  clear hb hbel h0
  have iXx := iX.out
  have hne : w.heap.size < w1.heap.size := lt_of_cells h1
  have HNE := Lib.hid hne
  clear hne
  have iXl := Lib.hid (shV_length HX.out.1 x.r x.l x.s x.k x.b x.o x.m)
  go_upto_region 5 with (first | (refine wpList_load_mid rfl 40 (.tmp 3) rfl w.heap.size 0 rfl _ _ (range_blk h1) Try.underlying40 rfl iXx ?_) | (refine wpList_put_row rfl 40 (.tmp 8) (.tmp 16) rfl w1.heap.size x.v rfl rfl 40 _ (heap_new' w1 _ _ rfl) iXx (by rw [Sh.v, iXl.out]; rfl) (one_shV _ _ _ _ _ _ _ _) ?_; intro w2 hU; have h8 := hU.at_; have h2 := hU.old (blk_alloc h1 _) (show w.heap.size ≠ w1.heap.size by have := lt_of_cells h1; omega); have hb_w2 := hU.below (hb_w1.alloc hb_w1.size _) hb_w1.size; clear hU hb_w1 h1))
  go_simp
  go_upto_block 0 with fail
  go_cut [21] (fun u wx => wx.heap[w1.heap.size]? = some (.cells (chg x v K).v.toArray 40 (0, 0)) ∧ wx.heap[w.heap.size]? = some (.cells x.v.toArray 40 (0, 0)) ∧ Below w.heap.size w wx)
  case first =>
    have H8 := Lib.hid h8
    have H2 := Lib.hid h2
    have f16 := blk_frozen h8 16
    have f17 := blk_frozen h8 17
    have f18 := blk_frozen h8 18
    have f19 := blk_frozen h8 19
    have f20 := blk_frozen h8 20
    have f21 := blk_frozen h8 21
    have f22 := blk_frozen h8 22
    have f0 := blk_frozen h8 0
    obtain ⟨c16, c17, c18, c19, c20, c21, c22⟩ := sh_cells HX.out.1 h8
    clear h8 h2
    match K, hK, hKe with
    | 0, _, hKe =>
      have e : (n.tmod 8 + 8).tmod 8 = 0 := hKe
      clear hKe
      go_wp2_with fail
      go_meet
      have U := upd_setCell (i := 16) H8.out (.int .i64 v)
      have k := U.at_
      have hn := HNE.out
      rw [Sh.v, (sh_sets HX.out.1 _ _ _ _ _ _ _ _).1] at k
      exact ⟨k, U.old H2.out (Nat.ne_of_lt hn), U.below hb_w2 (Nat.le_of_lt hn)⟩
    | 1, _, hKe =>
      have e : (n.tmod 8 + 8).tmod 8 = 1 := hKe
      clear hKe
      go_wp2_with fail
      go_meet
      have U := upd_setCell (i := 17) H8.out (.int .i64 v)
      have k := U.at_
      have hn := HNE.out
      rw [Sh.v, (sh_sets HX.out.1 _ _ _ _ _ _ _ _).2.1] at k
      exact ⟨k, U.old H2.out (Nat.ne_of_lt hn), U.below hb_w2 (Nat.le_of_lt hn)⟩
    | 2, _, hKe =>
      have e : (n.tmod 8 + 8).tmod 8 = 2 := hKe
      clear hKe
      go_wp2_with fail
      go_meet
      have U := upd_setCell (i := 18) H8.out (.int .i64 v)
      have k := U.at_
      have hn := HNE.out
      rw [Sh.v, (sh_sets HX.out.1 _ _ _ _ _ _ _ _).2.2.1] at k
      exact ⟨k, U.old H2.out (Nat.ne_of_lt hn), U.below hb_w2 (Nat.le_of_lt hn)⟩
    | 3, _, hKe =>
      have e : (n.tmod 8 + 8).tmod 8 = 3 := hKe
      clear hKe
      go_wp2_with fail
      go_meet
      have U := upd_setCell (i := 19) H8.out (.int .i64 v)
      have k := U.at_
      have hn := HNE.out
      rw [Sh.v, (sh_sets HX.out.1 _ _ _ _ _ _ _ _).2.2.2.1] at k
      exact ⟨k, U.old H2.out (Nat.ne_of_lt hn), U.below hb_w2 (Nat.le_of_lt hn)⟩
    | 4, _, hKe =>
      have e : (n.tmod 8 + 8).tmod 8 = 4 := hKe
      clear hKe
      go_wp2_with fail
      go_meet
      have U := upd_setCell (i := 20) H8.out (.int .i64 v)
      have k := U.at_
      have hn := HNE.out
      rw [Sh.v, (sh_sets HX.out.1 _ _ _ _ _ _ _ _).2.2.2.2.1] at k
      exact ⟨k, U.old H2.out (Nat.ne_of_lt hn), U.below hb_w2 (Nat.le_of_lt hn)⟩
    | 5, _, hKe =>
      have e : (n.tmod 8 + 8).tmod 8 = 5 := hKe
      clear hKe
      go_wp2_with fail
      go_meet
      have U := upd_setCell (i := 21) H8.out (.int .i64 v)
      have k := U.at_
      have hn := HNE.out
      rw [Sh.v, (sh_sets HX.out.1 _ _ _ _ _ _ _ _).2.2.2.2.2.1] at k
      exact ⟨k, U.old H2.out (Nat.ne_of_lt hn), U.below hb_w2 (Nat.le_of_lt hn)⟩
    | 6, _, hKe =>
      have e : (n.tmod 8 + 8).tmod 8 = 6 := hKe
      clear hKe
      go_wp2_with fail
      go_meet
      have U := upd_setCell (i := 22) H8.out (.int .i64 v)
      have k := U.at_
      have hn := HNE.out
      rw [Sh.v, (sh_sets HX.out.1 _ _ _ _ _ _ _ _).2.2.2.2.2.2] at k
      exact ⟨k, U.old H2.out (Nat.ne_of_lt hn), U.below hb_w2 (Nat.le_of_lt hn)⟩
    | 7, _, hKe =>
      have e : (n.tmod 8 + 8).tmod 8 = 7 := hKe
      have hd0 := HX.out.1
      have e0 : x.v[0]? = some (.int .u8 ((x.d.getD 0 0 : Nat) : Int)) := sh_first HX.out.1
      have c0 : w2.cell? ⟨w1.heap.size, 0, none⟩ = some (.int .u8 ((x.d.getD 0 0 : Nat) : Int)) := by rw [blk_cell H8.out, List.getElem?_toArray]; exact e0
      have m1 : bits .and .i64 v 255 = v % 256 := i64_maskN v 8 (by decide)
      have HV := Lib.hid (set_first HX.out.1 v)
      clear hKe hd0 e0
      go_wp2_with fail
      go_meet
      have hb0 : x.d.getD 0 0 < 256 := getD_lt' x.d HX.out.2 0
      have hx : bits .xor .u8 ((x.d[0]?.getD 0 : Nat) : Int) (v % 256) = ((x.d.getD 0 0 ^^^ (v % 256).toNat : Nat) : Int) := by
        rw [← u8_xor _ _ hb0 (by omega), Int.toNat_of_nonneg (by omega), List.getD_eq_getElem?_getD]
      have U := upd_setCell (i := 0) H8.out (.int .u8 (bits .xor .u8 ((x.d[0]?.getD 0 : Nat) : Int) (v % 256)))
      have k := U.at_
      have hn := HNE.out
      rw [show x.v.set 0 (.int .u8 (bits .xor .u8 ((x.d[0]?.getD 0 : Nat) : Int) (v % 256))) = (chg x v 7).v from by rw [hx, HV.out]] at k
      exact ⟨k, U.old H2.out (Nat.ne_of_lt hn), U.below hb_w2 (Nat.le_of_lt hn)⟩
    | K + 8, h, hKe => omega
  case rest =>
    obtain ⟨h8, h3, hb_wc⟩ := hcut
    have HNE := HNE
    obtain ⟨q, Eq1, Eq2⟩ := eql_sh_all HX.out HWX.out HY.out HWY.out
    clear hKe hK
    generalize chg x v K = y at *
    have iY := shInfo y.d HY.out.1 y.r y.l y.s y.k y.b y.o y.m
    have PX : ∀ w, Calls Try.prog 36 #[.agg x.v.toArray] w fun e w' => e = .returned (.tuple #[.agg (nats .u8 (putP x.d x.r x.l x.s x.k x.b x.o x.m)).toArray, .bool x.may]) ∧ Below w.heap.size w w' := fun w => put_sherd x.d x.r x.l x.s x.k x.b x.o x.m w HX.out.1 HX.out.2
    have PY : ∀ w, Calls Try.prog 36 #[.agg y.v.toArray] w fun e w' => e = .returned (.tuple #[.agg (nats .u8 (putP y.d y.r y.l y.s y.k y.b y.o y.m)).toArray, .bool y.may]) ∧ Below w.heap.size w w' := fun w => put_sherd y.d y.r y.l y.s y.k y.b y.o y.m w HY.out.1 HY.out.2
    have MY : ∀ w, Calls Try.prog 38 #[.agg y.v.toArray] w fun e w' => e = .returned (.bool y.may) ∧ Below w.heap.size w w' := fun w => smay_any y.d y.r y.l y.s y.k y.b y.o y.m w HY.out.1 HY.out.2
    have RY : ∀ w, Calls Try.prog 39 #[.agg y.v.toArray] w fun e w' => e = .returned (.bool y.may) ∧ Below w.heap.size w w' := fun w => refmay_any y.d y.r y.l y.s y.k y.b y.o y.m w HY.out.1 HY.out.2
    have QQ := fun (mx : x.may = true) (my : y.may = true) => put_eq HX.out HY.out Eq2 mx my
    obtain ⟨LX, BX⟩ := putP_ok HX.out
    obtain ⟨LY, BY⟩ := putP_ok HY.out
    clear Eq2
    generalize putP x.d x.r x.l x.s x.k x.b x.o x.m = px at *
    generalize putP y.d y.r y.l y.s y.k y.b y.o y.m = py at *
    have QP := fun w => eql_page w px py BX BY LX LY
    have iPX := pgInfo LX
    have iPY := pgInfo LY
    have HLX := Lib.hid LX
    have HLY := Lib.hid LY
    clear BX BY LX LY
    generalize x.may = mx at *
    generalize y.may = my at *
    have HPX := Lib.hid PX
    have HPY := Lib.hid PY
    have HMY := Lib.hid MY
    have HRY := Lib.hid RY
    have HQP := Lib.hid QP
    have HEq := Lib.hid Eq1
    have HQQ := Lib.hid QQ
    clear PX PY MY RY QP Eq1 QQ
    go_wp2_with (first | (refine wpList_load_mid rfl 40 (.tmp 3) rfl w.heap.size 0 rfl _ _ (range_blk h3) Try.underlying40 rfl iXx ?_))
    refine (HPX.out _).mono ?_
    rintro e w5 ⟨rfl, hb⟩
    have h3_w5 := blk_below h3 hb
    have h8_w5 := blk_below h8 hb
    have hb_w5 := hb_wc.trans (hb.mono hb_wc.size)
    clear hb hb_wc h3 h8
    go_wp2_with (first | (refine wpList_put_row rfl 42 (.tmp 9) (.tmp 61) rfl w5.heap.size (nats .u8 px) rfl rfl 42 _ (heap_new' w5 _ _ rfl) iPX (by rw [nats_length, HLX.out]; rfl) (one_nats _ _) ?_; intro w6 hUw6; have h9_w6 := hUw6.at_; have h3_w6 := hUw6.old (blk_alloc h3_w5 _) (show w.heap.size ≠ w5.heap.size by have := lt_of_cells h3_w5; omega); have h8_w6 := hUw6.old (blk_alloc h8_w5 _) (show w1.heap.size ≠ w5.heap.size by have := lt_of_cells h8_w5; omega); have hb_w6 := hUw6.below (hb_w5.alloc hb_w5.size _) hb_w5.size; clear hb_w5 h3_w5 h8_w5 hUw6) | (refine wpList_load_mid rfl 40 (.tmp 8) rfl w1.heap.size 0 rfl _ _ (range_blk h8_w6) Try.underlying40 rfl iY ?_))
    refine (HPY.out _).mono ?_
    rintro e w7 ⟨rfl, hb⟩
    have h3_w7 := blk_below h3_w6 hb
    have h8_w7 := blk_below h8_w6 hb
    have h9_w7 := blk_below h9_w6 hb
    have hb_w7 := hb_w6.trans (hb.mono hb_w6.size)
    clear hb hb_w6 h3_w6 h8_w6 h9_w6
    go_upto_region 23 with (first | (refine wpList_put_row rfl 42 (.tmp 11) (.tmp 66) rfl w7.heap.size (nats .u8 py) rfl rfl 42 _ (heap_new' w7 _ _ rfl) iPY (by rw [nats_length, HLY.out]; rfl) (one_nats _ _) ?_; intro w8 hUw8; have h11_w8 := hUw8.at_; have h3_w8 := hUw8.old (blk_alloc h3_w7 _) (show w.heap.size ≠ w7.heap.size by have := lt_of_cells h3_w7; omega); have h8_w8 := hUw8.old (blk_alloc h8_w7 _) (show w1.heap.size ≠ w7.heap.size by have := lt_of_cells h8_w7; omega); have h9_w8 := hUw8.old (blk_alloc h9_w7 _) (show w5.heap.size ≠ w7.heap.size by have := lt_of_cells h9_w7; omega); have hb_w8 := hUw8.below (hb_w7.alloc hb_w7.size _) hb_w7.size; clear hb_w7 h3_w7 h8_w7 h9_w7 hUw8))
    cases mx with
    | false =>
      cases my with
      | false =>
        refine wp_region_puts_g (by kernel_rfl) (by kernel_rfl) (X := Unit) (fun _ => [(some 68, .agg (y.v).toArray), (some 69, .bool false), (some 70, .agg (y.v).toArray), (some 71, .bool false), (some 72, .bool true), (some 73, .bool true), (some 74, .bool false), (some 75, .agg (y.v).toArray), (some 76, .bool false), (some 77, .bool true), (some 78, .bool true), (some 79, .bool true), (some 80, .bool false), (some 81, .bool true), (some 82, .bool true), (some 83, undef), (some 84, undef), (some 85, .bool true), (some 86, .bool true), (some 87, undef), (some 88, undef), (some 89, undef), (some 90, undef), (some 91, undef), (some 92, undef), (some 93, undef), (some 94, .bool true), (some 95, .bool true), (some 6, .bool true)])
          (fun _ L w' => w'.heap[w.heap.size]? = some (.cells (x.v).toArray 40 (0, 0)) ∧ w'.heap[w1.heap.size]? = some (.cells (y.v).toArray 40 (0, 0)) ∧ w'.heap[w5.heap.size]? = some (.cells (nats .u8 px).toArray 42 (0, 0)) ∧ w'.heap[w7.heap.size]? = some (.cells (nats .u8 py).toArray 42 (0, 0)) ∧ Below w.heap.size w w') (fun _ => rfl) (by kernel_rfl) ⟨(), fun _ _ => ⟨h3_w8, h8_w8, h9_w8, h11_w8, hb_w8.drew⟩⟩ ?_ ?_
        · refine ⟨?_, ?_, ?_, ?_, ?_, ?_, ?_, ?_, ?_, ?_, ?_, ?_, ?_, ?_, ?_, ?_, ?_, ?_, ?_, ?_, ?_, ?_, ?_, ?_, ?_, ?_, ?_, ?_, ?_, trivial⟩
          · intro _ L w' hL hpre hJ a ha
            obtain ⟨j3, j8, j9, j11, jb⟩ := hJ
            simp [Region.binds] at hpre
            refine .inl ⟨wanted_none rfl, ?_⟩
            exact wp_load_mid 40 (.tmp 8) rfl w1.heap.size 0 (by rw [ha, eval_puts_out rfl]; rfl) (y.v) _ (range_blk j8) Try.underlying40 rfl iY ⟨(), _, rfl, rfl, j3, j8, j9, j11, jb⟩
          · intro _ L w' hL hpre hJ a ha
            obtain ⟨j3, j8, j9, j11, jb⟩ := hJ
            simp [Region.binds] at hpre
            refine .inl ⟨wanted_none rfl, ?_⟩
            have e68 : a.eval (.tmp 68) = .agg (y.v).toArray := by rw [ha]; exact eval_puts_in (i := 0) rfl (by simp [hpre]) (by simp) rfl
            clear ha
            have j3' := Lib.hid j3
            have j8' := Lib.hid j8
            have j9' := Lib.hid j9
            have j11' := Lib.hid j11
            have jb' := Lib.hid jb
            clear j3 j8 j9 j11 jb
            refine wp_intro fun K HK => ?_
            unfold Oper.wp
            simp only [execOp, resolve, List.map_toArray, List.map_cons, List.map_nil, e68]
            go_simp
            refine (HMY.out w').mono ?_
            rintro e w'' ⟨rfl, hb⟩
            exact HK.out _ _ ⟨(), _, rfl, rfl, blk_below j3'.out hb, blk_below j8'.out hb, blk_below j9'.out hb, blk_below j11'.out hb, jb'.out.trans (hb.mono jb'.out.size)⟩
          · intro _ L w' hL hpre hJ a ha
            obtain ⟨j3, j8, j9, j11, jb⟩ := hJ
            simp [Region.binds] at hpre
            refine .inl ⟨wanted_none rfl, ?_⟩
            exact wp_load_mid 40 (.tmp 8) rfl w1.heap.size 0 (by rw [ha, eval_puts_out rfl]; rfl) (y.v) _ (range_blk j8) Try.underlying40 rfl iY ⟨(), _, rfl, rfl, j3, j8, j9, j11, jb⟩
          · intro _ L w' hL hpre hJ a ha
            obtain ⟨j3, j8, j9, j11, jb⟩ := hJ
            simp [Region.binds] at hpre
            refine .inl ⟨wanted_none rfl, ?_⟩
            have e70 : a.eval (.tmp 70) = .agg (y.v).toArray := by rw [ha]; exact eval_puts_in (i := 2) rfl (by simp [hpre]) (by simp) rfl
            clear ha
            have j3' := Lib.hid j3
            have j8' := Lib.hid j8
            have j9' := Lib.hid j9
            have j11' := Lib.hid j11
            have jb' := Lib.hid jb
            clear j3 j8 j9 j11 jb
            refine wp_intro fun K HK => ?_
            unfold Oper.wp
            simp only [execOp, resolve, List.map_toArray, List.map_cons, List.map_nil, e70]
            go_simp
            refine (HRY.out w').mono ?_
            rintro e w'' ⟨rfl, hb⟩
            exact HK.out _ _ ⟨(), _, rfl, rfl, blk_below j3'.out hb, blk_below j8'.out hb, blk_below j9'.out hb, blk_below j11'.out hb, jb'.out.trans (hb.mono jb'.out.size)⟩
          · intro _ L w' hL hpre hJ a ha
            obtain ⟨j3, j8, j9, j11, jb⟩ := hJ
            simp [Region.binds] at hpre
            refine .inl ⟨wanted_none rfl, ?_⟩
            have e69 : a.eval (.tmp 69) = .bool false := by rw [ha]; exact eval_puts_in (i := 1) rfl (by simp [hpre]) (by simp) rfl
            have e71 : a.eval (.tmp 71) = .bool false := by rw [ha]; exact eval_puts_in (i := 3) rfl (by simp [hpre]) (by simp) rfl
            clear ha
            have j3' := Lib.hid j3
            have j8' := Lib.hid j8
            have j9' := Lib.hid j9
            have j11' := Lib.hid j11
            have jb' := Lib.hid jb
            clear j3 j8 j9 j11 jb
            refine wp_intro fun K HK => ?_
            unfold Oper.wp
            simp only [execOp, e69, e71]
            go_simp
            exact HK.out _ _ ⟨(), _, rfl, rfl, j3'.out, j8'.out, j9'.out, j11'.out, jb'.out⟩
          · intro _ L w' hL hpre hJ a ha
            obtain ⟨j3, j8, j9, j11, jb⟩ := hJ
            simp [Region.binds] at hpre
            refine .inl ⟨wanted_none rfl, ?_⟩
            exact wp_move' (.tmp 72) (.inl rfl) (.bool true) (by rw [ha]; exact eval_puts_in (i := 4) rfl (by simp [hpre]) (by simp) rfl) ⟨(), _, rfl, rfl, j3, j8, j9, j11, jb⟩
          · intro _ L w' hL hpre hJ a ha
            obtain ⟨j3, j8, j9, j11, jb⟩ := hJ
            simp [Region.binds] at hpre
            refine .inl ⟨wanted_yes (g := 5) (t := 73) (b := true) rfl rfl (by rw [ha]; exact eval_puts_in (i := 5) rfl (by simp [hpre]) (by simp) rfl), ?_⟩
            exact wp_move' (.tmp 12) (.inl rfl) (.bool false) (by rw [ha, eval_puts_out rfl]; rfl) ⟨(), _, rfl, rfl, j3, j8, j9, j11, jb⟩
          · intro _ L w' hL hpre hJ a ha
            obtain ⟨j3, j8, j9, j11, jb⟩ := hJ
            simp [Region.binds] at hpre
            refine .inl ⟨wanted_yes (g := 5) (t := 73) (b := true) rfl rfl (by rw [ha]; exact eval_puts_in (i := 5) rfl (by simp [hpre]) (by simp) rfl), ?_⟩
            exact wp_load_mid 40 (.tmp 8) rfl w1.heap.size 0 (by rw [ha, eval_puts_out rfl]; rfl) (y.v) _ (range_blk j8) Try.underlying40 rfl iY ⟨(), _, rfl, rfl, j3, j8, j9, j11, jb⟩
          · intro _ L w' hL hpre hJ a ha
            obtain ⟨j3, j8, j9, j11, jb⟩ := hJ
            simp [Region.binds] at hpre
            refine .inl ⟨wanted_yes (g := 5) (t := 73) (b := true) rfl rfl (by rw [ha]; exact eval_puts_in (i := 5) rfl (by simp [hpre]) (by simp) rfl), ?_⟩
            have e75 : a.eval (.tmp 75) = .agg (y.v).toArray := by rw [ha]; exact eval_puts_in (i := 7) rfl (by simp [hpre]) (by simp) rfl
            clear ha
            have j3' := Lib.hid j3
            have j8' := Lib.hid j8
            have j9' := Lib.hid j9
            have j11' := Lib.hid j11
            have jb' := Lib.hid jb
            clear j3 j8 j9 j11 jb
            refine wp_intro fun K HK => ?_
            unfold Oper.wp
            simp only [execOp, resolve, List.map_toArray, List.map_cons, List.map_nil, e75]
            go_simp
            refine (HRY.out w').mono ?_
            rintro e w'' ⟨rfl, hb⟩
            exact HK.out _ _ ⟨(), _, rfl, rfl, blk_below j3'.out hb, blk_below j8'.out hb, blk_below j9'.out hb, blk_below j11'.out hb, jb'.out.trans (hb.mono jb'.out.size)⟩
          · intro _ L w' hL hpre hJ a ha
            obtain ⟨j3, j8, j9, j11, jb⟩ := hJ
            simp [Region.binds] at hpre
            refine .inl ⟨wanted_yes (g := 5) (t := 73) (b := true) rfl rfl (by rw [ha]; exact eval_puts_in (i := 5) rfl (by simp [hpre]) (by simp) rfl), ?_⟩
            have e74 : a.eval (.tmp 74) = .bool false := by rw [ha]; exact eval_puts_in (i := 6) rfl (by simp [hpre]) (by simp) rfl
            have e76 : a.eval (.tmp 76) = .bool false := by rw [ha]; exact eval_puts_in (i := 8) rfl (by simp [hpre]) (by simp) rfl
            clear ha
            have j3' := Lib.hid j3
            have j8' := Lib.hid j8
            have j9' := Lib.hid j9
            have j11' := Lib.hid j11
            have jb' := Lib.hid jb
            clear j3 j8 j9 j11 jb
            refine wp_intro fun K HK => ?_
            unfold Oper.wp
            simp only [execOp, e74, e76]
            go_simp
            exact HK.out _ _ ⟨(), _, rfl, rfl, j3'.out, j8'.out, j9'.out, j11'.out, jb'.out⟩
          · intro _ L w' hL hpre hJ a ha
            obtain ⟨j3, j8, j9, j11, jb⟩ := hJ
            simp [Region.binds] at hpre
            refine .inl ⟨wanted_none rfl, ?_⟩
            have e73 : a.eval (.tmp 73) = .bool true := by rw [ha]; exact eval_puts_in (i := 5) rfl (by simp [hpre]) (by simp) rfl
            have e77 : a.eval (.tmp 77) = .bool true := by rw [ha]; exact eval_puts_in (i := 9) rfl (by simp [hpre]) (by simp) rfl
            clear ha
            have j3' := Lib.hid j3
            have j8' := Lib.hid j8
            have j9' := Lib.hid j9
            have j11' := Lib.hid j11
            have jb' := Lib.hid jb
            clear j3 j8 j9 j11 jb
            refine wp_intro fun K HK => ?_
            unfold Oper.wp
            simp only [execOp, e73, e77]
            go_simp
            exact HK.out _ _ ⟨(), _, rfl, rfl, j3'.out, j8'.out, j9'.out, j11'.out, jb'.out⟩
          · intro _ L w' hL hpre hJ a ha
            obtain ⟨j3, j8, j9, j11, jb⟩ := hJ
            simp [Region.binds] at hpre
            refine .inl ⟨wanted_none rfl, ?_⟩
            exact wp_move' (.tmp 78) (.inl rfl) (.bool true) (by rw [ha]; exact eval_puts_in (i := 10) rfl (by simp [hpre]) (by simp) rfl) ⟨(), _, rfl, rfl, j3, j8, j9, j11, jb⟩
          · intro _ L w' hL hpre hJ a ha
            obtain ⟨j3, j8, j9, j11, jb⟩ := hJ
            simp [Region.binds] at hpre
            refine .inl ⟨wanted_yes (g := 11) (t := 79) (b := true) rfl rfl (by rw [ha]; exact eval_puts_in (i := 11) rfl (by simp [hpre]) (by simp) rfl), ?_⟩
            exact wp_move' (.tmp 10) (.inl rfl) (.bool false) (by rw [ha, eval_puts_out rfl]; rfl) ⟨(), _, rfl, rfl, j3, j8, j9, j11, jb⟩
          · intro _ L w' hL hpre hJ a ha
            obtain ⟨j3, j8, j9, j11, jb⟩ := hJ
            simp [Region.binds] at hpre
            refine .inl ⟨wanted_yes (g := 11) (t := 79) (b := true) rfl rfl (by rw [ha]; exact eval_puts_in (i := 11) rfl (by simp [hpre]) (by simp) rfl), ?_⟩
            have e80 : a.eval (.tmp 80) = .bool false := by rw [ha]; exact eval_puts_in (i := 12) rfl (by simp [hpre]) (by simp) rfl
            clear ha
            have j3' := Lib.hid j3
            have j8' := Lib.hid j8
            have j9' := Lib.hid j9
            have j11' := Lib.hid j11
            have jb' := Lib.hid jb
            clear j3 j8 j9 j11 jb
            refine wp_intro fun K HK => ?_
            unfold Oper.wp
            simp only [execOp, e80]
            go_simp
            exact HK.out _ _ ⟨(), _, rfl, rfl, j3'.out, j8'.out, j9'.out, j11'.out, jb'.out⟩
          · intro _ L w' hL hpre hJ a ha
            obtain ⟨j3, j8, j9, j11, jb⟩ := hJ
            simp [Region.binds] at hpre
            refine .inl ⟨wanted_yes (g := 11) (t := 79) (b := true) rfl rfl (by rw [ha]; exact eval_puts_in (i := 11) rfl (by simp [hpre]) (by simp) rfl), ?_⟩
            exact wp_move' (.tmp 81) (.inl rfl) (.bool true) (by rw [ha]; exact eval_puts_in (i := 13) rfl (by simp [hpre]) (by simp) rfl) ⟨(), _, rfl, rfl, j3, j8, j9, j11, jb⟩
          · intro _ L w' hL hpre hJ a ha
            obtain ⟨j3, j8, j9, j11, jb⟩ := hJ
            simp [Region.binds] at hpre
            exact .inr ⟨wanted_no (g := 14) (t := 82) (b := false) rfl rfl (by rw [ha]; exact eval_puts_in (i := 14) rfl (by simp [hpre]) (by simp) rfl), (), rfl, j3, j8, j9, j11, jb⟩
          · intro _ L w' hL hpre hJ a ha
            obtain ⟨j3, j8, j9, j11, jb⟩ := hJ
            simp [Region.binds] at hpre
            exact .inr ⟨wanted_no (g := 14) (t := 82) (b := false) rfl rfl (by rw [ha]; exact eval_puts_in (i := 14) rfl (by simp [hpre]) (by simp) rfl), (), rfl, j3, j8, j9, j11, jb⟩
          · intro _ L w' hL hpre hJ a ha
            obtain ⟨j3, j8, j9, j11, jb⟩ := hJ
            simp [Region.binds] at hpre
            refine .inl ⟨wanted_yes (g := 11) (t := 79) (b := true) rfl rfl (by rw [ha]; exact eval_puts_in (i := 11) rfl (by simp [hpre]) (by simp) rfl), ?_⟩
            have e82 : a.eval (.tmp 82) = .bool true := by rw [ha]; exact eval_puts_in (i := 14) rfl (by simp [hpre]) (by simp) rfl
            clear ha
            have j3' := Lib.hid j3
            have j8' := Lib.hid j8
            have j9' := Lib.hid j9
            have j11' := Lib.hid j11
            have jb' := Lib.hid jb
            clear j3 j8 j9 j11 jb
            refine wp_intro fun K HK => ?_
            unfold Oper.wp
            simp only [execOp, e82]
            go_simp
            exact HK.out _ _ ⟨(), _, rfl, rfl, j3'.out, j8'.out, j9'.out, j11'.out, jb'.out⟩
          · intro _ L w' hL hpre hJ a ha
            obtain ⟨j3, j8, j9, j11, jb⟩ := hJ
            simp [Region.binds] at hpre
            refine .inl ⟨wanted_yes (g := 11) (t := 79) (b := true) rfl rfl (by rw [ha]; exact eval_puts_in (i := 11) rfl (by simp [hpre]) (by simp) rfl), ?_⟩
            exact wp_move' (.tmp 85) (.inl rfl) (.bool true) (by rw [ha]; exact eval_puts_in (i := 17) rfl (by simp [hpre]) (by simp) rfl) ⟨(), _, rfl, rfl, j3, j8, j9, j11, jb⟩
          · intro _ L w' hL hpre hJ a ha
            obtain ⟨j3, j8, j9, j11, jb⟩ := hJ
            simp [Region.binds] at hpre
            exact .inr ⟨wanted_no (g := 18) (t := 86) (b := false) rfl rfl (by rw [ha]; exact eval_puts_in (i := 18) rfl (by simp [hpre]) (by simp) rfl), (), rfl, j3, j8, j9, j11, jb⟩
          · intro _ L w' hL hpre hJ a ha
            obtain ⟨j3, j8, j9, j11, jb⟩ := hJ
            simp [Region.binds] at hpre
            exact .inr ⟨wanted_no (g := 18) (t := 86) (b := false) rfl rfl (by rw [ha]; exact eval_puts_in (i := 18) rfl (by simp [hpre]) (by simp) rfl), (), rfl, j3, j8, j9, j11, jb⟩
          · intro _ L w' hL hpre hJ a ha
            obtain ⟨j3, j8, j9, j11, jb⟩ := hJ
            simp [Region.binds] at hpre
            exact .inr ⟨wanted_no (g := 18) (t := 86) (b := false) rfl rfl (by rw [ha]; exact eval_puts_in (i := 18) rfl (by simp [hpre]) (by simp) rfl), (), rfl, j3, j8, j9, j11, jb⟩
          · intro _ L w' hL hpre hJ a ha
            obtain ⟨j3, j8, j9, j11, jb⟩ := hJ
            simp [Region.binds] at hpre
            exact .inr ⟨wanted_no (g := 18) (t := 86) (b := false) rfl rfl (by rw [ha]; exact eval_puts_in (i := 18) rfl (by simp [hpre]) (by simp) rfl), (), rfl, j3, j8, j9, j11, jb⟩
          · intro _ L w' hL hpre hJ a ha
            obtain ⟨j3, j8, j9, j11, jb⟩ := hJ
            simp [Region.binds] at hpre
            exact .inr ⟨wanted_no (g := 18) (t := 86) (b := false) rfl rfl (by rw [ha]; exact eval_puts_in (i := 18) rfl (by simp [hpre]) (by simp) rfl), (), rfl, j3, j8, j9, j11, jb⟩
          · intro _ L w' hL hpre hJ a ha
            obtain ⟨j3, j8, j9, j11, jb⟩ := hJ
            simp [Region.binds] at hpre
            exact .inr ⟨wanted_no (g := 18) (t := 86) (b := false) rfl rfl (by rw [ha]; exact eval_puts_in (i := 18) rfl (by simp [hpre]) (by simp) rfl), (), rfl, j3, j8, j9, j11, jb⟩
          · intro _ L w' hL hpre hJ a ha
            obtain ⟨j3, j8, j9, j11, jb⟩ := hJ
            simp [Region.binds] at hpre
            exact .inr ⟨wanted_no (g := 18) (t := 86) (b := false) rfl rfl (by rw [ha]; exact eval_puts_in (i := 18) rfl (by simp [hpre]) (by simp) rfl), (), rfl, j3, j8, j9, j11, jb⟩
          · intro _ L w' hL hpre hJ a ha
            obtain ⟨j3, j8, j9, j11, jb⟩ := hJ
            simp [Region.binds] at hpre
            refine .inl ⟨wanted_yes (g := 11) (t := 79) (b := true) rfl rfl (by rw [ha]; exact eval_puts_in (i := 11) rfl (by simp [hpre]) (by simp) rfl), ?_⟩
            have e86 : a.eval (.tmp 86) = .bool true := by rw [ha]; exact eval_puts_in (i := 18) rfl (by simp [hpre]) (by simp) rfl
            clear ha
            have j3' := Lib.hid j3
            have j8' := Lib.hid j8
            have j9' := Lib.hid j9
            have j11' := Lib.hid j11
            have jb' := Lib.hid jb
            clear j3 j8 j9 j11 jb
            refine wp_intro fun K HK => ?_
            unfold Oper.wp
            simp only [execOp, e86]
            go_simp
            exact HK.out _ _ ⟨(), _, rfl, rfl, j3'.out, j8'.out, j9'.out, j11'.out, jb'.out⟩
          · intro _ L w' hL hpre hJ a ha
            obtain ⟨j3, j8, j9, j11, jb⟩ := hJ
            simp [Region.binds] at hpre
            refine .inl ⟨wanted_none rfl, ?_⟩
            have e79 : a.eval (.tmp 79) = .bool true := by rw [ha]; exact eval_puts_in (i := 11) rfl (by simp [hpre]) (by simp) rfl
            have e94 : a.eval (.tmp 94) = .bool true := by rw [ha]; exact eval_puts_in (i := 26) rfl (by simp [hpre]) (by simp) rfl
            clear ha
            have j3' := Lib.hid j3
            have j8' := Lib.hid j8
            have j9' := Lib.hid j9
            have j11' := Lib.hid j11
            have jb' := Lib.hid jb
            clear j3 j8 j9 j11 jb
            refine wp_intro fun K HK => ?_
            unfold Oper.wp
            simp only [execOp, e79, e94]
            go_simp
            exact HK.out _ _ ⟨(), _, rfl, rfl, j3'.out, j8'.out, j9'.out, j11'.out, jb'.out⟩
          · intro _ L w' hL hpre hJ a ha
            obtain ⟨j3, j8, j9, j11, jb⟩ := hJ
            simp [Region.binds] at hpre
            refine .inl ⟨wanted_none rfl, ?_⟩
            exact wp_move' (.tmp 95) (.inr rfl) (.bool true) (by rw [ha]; exact eval_puts_in (i := 27) rfl (by simp [hpre]) (by simp) rfl) ⟨(), _, rfl, rfl, j3, j8, j9, j11, jb⟩
        · intro _ L w' hL hJ
          obtain ⟨j3, j8, j9, j11, jb⟩ := hJ
          clear hL
          simp only [List.foldl_cons, List.foldl_nil]
          go_simp
          go_wp2_with fail
          go_ret
          exact ⟨rfl, jb⟩
      | true =>
        refine wp_region_puts_g (by kernel_rfl) (by kernel_rfl) (X := Unit) (fun _ => [(some 68, .agg (y.v).toArray), (some 69, .bool true), (some 70, .agg (y.v).toArray), (some 71, .bool true), (some 72, .bool true), (some 73, .bool true), (some 74, .bool true), (some 75, .agg (y.v).toArray), (some 76, .bool true), (some 77, .bool true), (some 78, .bool true), (some 79, .bool true), (some 80, .bool false), (some 81, .bool true), (some 82, .bool true), (some 83, undef), (some 84, undef), (some 85, .bool true), (some 86, .bool true), (some 87, undef), (some 88, undef), (some 89, undef), (some 90, undef), (some 91, undef), (some 92, undef), (some 93, undef), (some 94, .bool true), (some 95, .bool true), (some 6, .bool true)])
          (fun _ L w' => w'.heap[w.heap.size]? = some (.cells (x.v).toArray 40 (0, 0)) ∧ w'.heap[w1.heap.size]? = some (.cells (y.v).toArray 40 (0, 0)) ∧ w'.heap[w5.heap.size]? = some (.cells (nats .u8 px).toArray 42 (0, 0)) ∧ w'.heap[w7.heap.size]? = some (.cells (nats .u8 py).toArray 42 (0, 0)) ∧ Below w.heap.size w w') (fun _ => rfl) (by kernel_rfl) ⟨(), fun _ _ => ⟨h3_w8, h8_w8, h9_w8, h11_w8, hb_w8.drew⟩⟩ ?_ ?_
        · refine ⟨?_, ?_, ?_, ?_, ?_, ?_, ?_, ?_, ?_, ?_, ?_, ?_, ?_, ?_, ?_, ?_, ?_, ?_, ?_, ?_, ?_, ?_, ?_, ?_, ?_, ?_, ?_, ?_, ?_, trivial⟩
          · intro _ L w' hL hpre hJ a ha
            obtain ⟨j3, j8, j9, j11, jb⟩ := hJ
            simp [Region.binds] at hpre
            refine .inl ⟨wanted_none rfl, ?_⟩
            exact wp_load_mid 40 (.tmp 8) rfl w1.heap.size 0 (by rw [ha, eval_puts_out rfl]; rfl) (y.v) _ (range_blk j8) Try.underlying40 rfl iY ⟨(), _, rfl, rfl, j3, j8, j9, j11, jb⟩
          · intro _ L w' hL hpre hJ a ha
            obtain ⟨j3, j8, j9, j11, jb⟩ := hJ
            simp [Region.binds] at hpre
            refine .inl ⟨wanted_none rfl, ?_⟩
            have e68 : a.eval (.tmp 68) = .agg (y.v).toArray := by rw [ha]; exact eval_puts_in (i := 0) rfl (by simp [hpre]) (by simp) rfl
            clear ha
            have j3' := Lib.hid j3
            have j8' := Lib.hid j8
            have j9' := Lib.hid j9
            have j11' := Lib.hid j11
            have jb' := Lib.hid jb
            clear j3 j8 j9 j11 jb
            refine wp_intro fun K HK => ?_
            unfold Oper.wp
            simp only [execOp, resolve, List.map_toArray, List.map_cons, List.map_nil, e68]
            go_simp
            refine (HMY.out w').mono ?_
            rintro e w'' ⟨rfl, hb⟩
            exact HK.out _ _ ⟨(), _, rfl, rfl, blk_below j3'.out hb, blk_below j8'.out hb, blk_below j9'.out hb, blk_below j11'.out hb, jb'.out.trans (hb.mono jb'.out.size)⟩
          · intro _ L w' hL hpre hJ a ha
            obtain ⟨j3, j8, j9, j11, jb⟩ := hJ
            simp [Region.binds] at hpre
            refine .inl ⟨wanted_none rfl, ?_⟩
            exact wp_load_mid 40 (.tmp 8) rfl w1.heap.size 0 (by rw [ha, eval_puts_out rfl]; rfl) (y.v) _ (range_blk j8) Try.underlying40 rfl iY ⟨(), _, rfl, rfl, j3, j8, j9, j11, jb⟩
          · intro _ L w' hL hpre hJ a ha
            obtain ⟨j3, j8, j9, j11, jb⟩ := hJ
            simp [Region.binds] at hpre
            refine .inl ⟨wanted_none rfl, ?_⟩
            have e70 : a.eval (.tmp 70) = .agg (y.v).toArray := by rw [ha]; exact eval_puts_in (i := 2) rfl (by simp [hpre]) (by simp) rfl
            clear ha
            have j3' := Lib.hid j3
            have j8' := Lib.hid j8
            have j9' := Lib.hid j9
            have j11' := Lib.hid j11
            have jb' := Lib.hid jb
            clear j3 j8 j9 j11 jb
            refine wp_intro fun K HK => ?_
            unfold Oper.wp
            simp only [execOp, resolve, List.map_toArray, List.map_cons, List.map_nil, e70]
            go_simp
            refine (HRY.out w').mono ?_
            rintro e w'' ⟨rfl, hb⟩
            exact HK.out _ _ ⟨(), _, rfl, rfl, blk_below j3'.out hb, blk_below j8'.out hb, blk_below j9'.out hb, blk_below j11'.out hb, jb'.out.trans (hb.mono jb'.out.size)⟩
          · intro _ L w' hL hpre hJ a ha
            obtain ⟨j3, j8, j9, j11, jb⟩ := hJ
            simp [Region.binds] at hpre
            refine .inl ⟨wanted_none rfl, ?_⟩
            have e69 : a.eval (.tmp 69) = .bool true := by rw [ha]; exact eval_puts_in (i := 1) rfl (by simp [hpre]) (by simp) rfl
            have e71 : a.eval (.tmp 71) = .bool true := by rw [ha]; exact eval_puts_in (i := 3) rfl (by simp [hpre]) (by simp) rfl
            clear ha
            have j3' := Lib.hid j3
            have j8' := Lib.hid j8
            have j9' := Lib.hid j9
            have j11' := Lib.hid j11
            have jb' := Lib.hid jb
            clear j3 j8 j9 j11 jb
            refine wp_intro fun K HK => ?_
            unfold Oper.wp
            simp only [execOp, e69, e71]
            go_simp
            exact HK.out _ _ ⟨(), _, rfl, rfl, j3'.out, j8'.out, j9'.out, j11'.out, jb'.out⟩
          · intro _ L w' hL hpre hJ a ha
            obtain ⟨j3, j8, j9, j11, jb⟩ := hJ
            simp [Region.binds] at hpre
            refine .inl ⟨wanted_none rfl, ?_⟩
            exact wp_move' (.tmp 72) (.inl rfl) (.bool true) (by rw [ha]; exact eval_puts_in (i := 4) rfl (by simp [hpre]) (by simp) rfl) ⟨(), _, rfl, rfl, j3, j8, j9, j11, jb⟩
          · intro _ L w' hL hpre hJ a ha
            obtain ⟨j3, j8, j9, j11, jb⟩ := hJ
            simp [Region.binds] at hpre
            refine .inl ⟨wanted_yes (g := 5) (t := 73) (b := true) rfl rfl (by rw [ha]; exact eval_puts_in (i := 5) rfl (by simp [hpre]) (by simp) rfl), ?_⟩
            exact wp_move' (.tmp 12) (.inl rfl) (.bool true) (by rw [ha, eval_puts_out rfl]; rfl) ⟨(), _, rfl, rfl, j3, j8, j9, j11, jb⟩
          · intro _ L w' hL hpre hJ a ha
            obtain ⟨j3, j8, j9, j11, jb⟩ := hJ
            simp [Region.binds] at hpre
            refine .inl ⟨wanted_yes (g := 5) (t := 73) (b := true) rfl rfl (by rw [ha]; exact eval_puts_in (i := 5) rfl (by simp [hpre]) (by simp) rfl), ?_⟩
            exact wp_load_mid 40 (.tmp 8) rfl w1.heap.size 0 (by rw [ha, eval_puts_out rfl]; rfl) (y.v) _ (range_blk j8) Try.underlying40 rfl iY ⟨(), _, rfl, rfl, j3, j8, j9, j11, jb⟩
          · intro _ L w' hL hpre hJ a ha
            obtain ⟨j3, j8, j9, j11, jb⟩ := hJ
            simp [Region.binds] at hpre
            refine .inl ⟨wanted_yes (g := 5) (t := 73) (b := true) rfl rfl (by rw [ha]; exact eval_puts_in (i := 5) rfl (by simp [hpre]) (by simp) rfl), ?_⟩
            have e75 : a.eval (.tmp 75) = .agg (y.v).toArray := by rw [ha]; exact eval_puts_in (i := 7) rfl (by simp [hpre]) (by simp) rfl
            clear ha
            have j3' := Lib.hid j3
            have j8' := Lib.hid j8
            have j9' := Lib.hid j9
            have j11' := Lib.hid j11
            have jb' := Lib.hid jb
            clear j3 j8 j9 j11 jb
            refine wp_intro fun K HK => ?_
            unfold Oper.wp
            simp only [execOp, resolve, List.map_toArray, List.map_cons, List.map_nil, e75]
            go_simp
            refine (HRY.out w').mono ?_
            rintro e w'' ⟨rfl, hb⟩
            exact HK.out _ _ ⟨(), _, rfl, rfl, blk_below j3'.out hb, blk_below j8'.out hb, blk_below j9'.out hb, blk_below j11'.out hb, jb'.out.trans (hb.mono jb'.out.size)⟩
          · intro _ L w' hL hpre hJ a ha
            obtain ⟨j3, j8, j9, j11, jb⟩ := hJ
            simp [Region.binds] at hpre
            refine .inl ⟨wanted_yes (g := 5) (t := 73) (b := true) rfl rfl (by rw [ha]; exact eval_puts_in (i := 5) rfl (by simp [hpre]) (by simp) rfl), ?_⟩
            have e74 : a.eval (.tmp 74) = .bool true := by rw [ha]; exact eval_puts_in (i := 6) rfl (by simp [hpre]) (by simp) rfl
            have e76 : a.eval (.tmp 76) = .bool true := by rw [ha]; exact eval_puts_in (i := 8) rfl (by simp [hpre]) (by simp) rfl
            clear ha
            have j3' := Lib.hid j3
            have j8' := Lib.hid j8
            have j9' := Lib.hid j9
            have j11' := Lib.hid j11
            have jb' := Lib.hid jb
            clear j3 j8 j9 j11 jb
            refine wp_intro fun K HK => ?_
            unfold Oper.wp
            simp only [execOp, e74, e76]
            go_simp
            exact HK.out _ _ ⟨(), _, rfl, rfl, j3'.out, j8'.out, j9'.out, j11'.out, jb'.out⟩
          · intro _ L w' hL hpre hJ a ha
            obtain ⟨j3, j8, j9, j11, jb⟩ := hJ
            simp [Region.binds] at hpre
            refine .inl ⟨wanted_none rfl, ?_⟩
            have e73 : a.eval (.tmp 73) = .bool true := by rw [ha]; exact eval_puts_in (i := 5) rfl (by simp [hpre]) (by simp) rfl
            have e77 : a.eval (.tmp 77) = .bool true := by rw [ha]; exact eval_puts_in (i := 9) rfl (by simp [hpre]) (by simp) rfl
            clear ha
            have j3' := Lib.hid j3
            have j8' := Lib.hid j8
            have j9' := Lib.hid j9
            have j11' := Lib.hid j11
            have jb' := Lib.hid jb
            clear j3 j8 j9 j11 jb
            refine wp_intro fun K HK => ?_
            unfold Oper.wp
            simp only [execOp, e73, e77]
            go_simp
            exact HK.out _ _ ⟨(), _, rfl, rfl, j3'.out, j8'.out, j9'.out, j11'.out, jb'.out⟩
          · intro _ L w' hL hpre hJ a ha
            obtain ⟨j3, j8, j9, j11, jb⟩ := hJ
            simp [Region.binds] at hpre
            refine .inl ⟨wanted_none rfl, ?_⟩
            exact wp_move' (.tmp 78) (.inl rfl) (.bool true) (by rw [ha]; exact eval_puts_in (i := 10) rfl (by simp [hpre]) (by simp) rfl) ⟨(), _, rfl, rfl, j3, j8, j9, j11, jb⟩
          · intro _ L w' hL hpre hJ a ha
            obtain ⟨j3, j8, j9, j11, jb⟩ := hJ
            simp [Region.binds] at hpre
            refine .inl ⟨wanted_yes (g := 11) (t := 79) (b := true) rfl rfl (by rw [ha]; exact eval_puts_in (i := 11) rfl (by simp [hpre]) (by simp) rfl), ?_⟩
            exact wp_move' (.tmp 10) (.inl rfl) (.bool false) (by rw [ha, eval_puts_out rfl]; rfl) ⟨(), _, rfl, rfl, j3, j8, j9, j11, jb⟩
          · intro _ L w' hL hpre hJ a ha
            obtain ⟨j3, j8, j9, j11, jb⟩ := hJ
            simp [Region.binds] at hpre
            refine .inl ⟨wanted_yes (g := 11) (t := 79) (b := true) rfl rfl (by rw [ha]; exact eval_puts_in (i := 11) rfl (by simp [hpre]) (by simp) rfl), ?_⟩
            have e80 : a.eval (.tmp 80) = .bool false := by rw [ha]; exact eval_puts_in (i := 12) rfl (by simp [hpre]) (by simp) rfl
            clear ha
            have j3' := Lib.hid j3
            have j8' := Lib.hid j8
            have j9' := Lib.hid j9
            have j11' := Lib.hid j11
            have jb' := Lib.hid jb
            clear j3 j8 j9 j11 jb
            refine wp_intro fun K HK => ?_
            unfold Oper.wp
            simp only [execOp, e80]
            go_simp
            exact HK.out _ _ ⟨(), _, rfl, rfl, j3'.out, j8'.out, j9'.out, j11'.out, jb'.out⟩
          · intro _ L w' hL hpre hJ a ha
            obtain ⟨j3, j8, j9, j11, jb⟩ := hJ
            simp [Region.binds] at hpre
            refine .inl ⟨wanted_yes (g := 11) (t := 79) (b := true) rfl rfl (by rw [ha]; exact eval_puts_in (i := 11) rfl (by simp [hpre]) (by simp) rfl), ?_⟩
            exact wp_move' (.tmp 81) (.inl rfl) (.bool true) (by rw [ha]; exact eval_puts_in (i := 13) rfl (by simp [hpre]) (by simp) rfl) ⟨(), _, rfl, rfl, j3, j8, j9, j11, jb⟩
          · intro _ L w' hL hpre hJ a ha
            obtain ⟨j3, j8, j9, j11, jb⟩ := hJ
            simp [Region.binds] at hpre
            exact .inr ⟨wanted_no (g := 14) (t := 82) (b := false) rfl rfl (by rw [ha]; exact eval_puts_in (i := 14) rfl (by simp [hpre]) (by simp) rfl), (), rfl, j3, j8, j9, j11, jb⟩
          · intro _ L w' hL hpre hJ a ha
            obtain ⟨j3, j8, j9, j11, jb⟩ := hJ
            simp [Region.binds] at hpre
            exact .inr ⟨wanted_no (g := 14) (t := 82) (b := false) rfl rfl (by rw [ha]; exact eval_puts_in (i := 14) rfl (by simp [hpre]) (by simp) rfl), (), rfl, j3, j8, j9, j11, jb⟩
          · intro _ L w' hL hpre hJ a ha
            obtain ⟨j3, j8, j9, j11, jb⟩ := hJ
            simp [Region.binds] at hpre
            refine .inl ⟨wanted_yes (g := 11) (t := 79) (b := true) rfl rfl (by rw [ha]; exact eval_puts_in (i := 11) rfl (by simp [hpre]) (by simp) rfl), ?_⟩
            have e82 : a.eval (.tmp 82) = .bool true := by rw [ha]; exact eval_puts_in (i := 14) rfl (by simp [hpre]) (by simp) rfl
            clear ha
            have j3' := Lib.hid j3
            have j8' := Lib.hid j8
            have j9' := Lib.hid j9
            have j11' := Lib.hid j11
            have jb' := Lib.hid jb
            clear j3 j8 j9 j11 jb
            refine wp_intro fun K HK => ?_
            unfold Oper.wp
            simp only [execOp, e82]
            go_simp
            exact HK.out _ _ ⟨(), _, rfl, rfl, j3'.out, j8'.out, j9'.out, j11'.out, jb'.out⟩
          · intro _ L w' hL hpre hJ a ha
            obtain ⟨j3, j8, j9, j11, jb⟩ := hJ
            simp [Region.binds] at hpre
            refine .inl ⟨wanted_yes (g := 11) (t := 79) (b := true) rfl rfl (by rw [ha]; exact eval_puts_in (i := 11) rfl (by simp [hpre]) (by simp) rfl), ?_⟩
            exact wp_move' (.tmp 85) (.inl rfl) (.bool true) (by rw [ha]; exact eval_puts_in (i := 17) rfl (by simp [hpre]) (by simp) rfl) ⟨(), _, rfl, rfl, j3, j8, j9, j11, jb⟩
          · intro _ L w' hL hpre hJ a ha
            obtain ⟨j3, j8, j9, j11, jb⟩ := hJ
            simp [Region.binds] at hpre
            exact .inr ⟨wanted_no (g := 18) (t := 86) (b := false) rfl rfl (by rw [ha]; exact eval_puts_in (i := 18) rfl (by simp [hpre]) (by simp) rfl), (), rfl, j3, j8, j9, j11, jb⟩
          · intro _ L w' hL hpre hJ a ha
            obtain ⟨j3, j8, j9, j11, jb⟩ := hJ
            simp [Region.binds] at hpre
            exact .inr ⟨wanted_no (g := 18) (t := 86) (b := false) rfl rfl (by rw [ha]; exact eval_puts_in (i := 18) rfl (by simp [hpre]) (by simp) rfl), (), rfl, j3, j8, j9, j11, jb⟩
          · intro _ L w' hL hpre hJ a ha
            obtain ⟨j3, j8, j9, j11, jb⟩ := hJ
            simp [Region.binds] at hpre
            exact .inr ⟨wanted_no (g := 18) (t := 86) (b := false) rfl rfl (by rw [ha]; exact eval_puts_in (i := 18) rfl (by simp [hpre]) (by simp) rfl), (), rfl, j3, j8, j9, j11, jb⟩
          · intro _ L w' hL hpre hJ a ha
            obtain ⟨j3, j8, j9, j11, jb⟩ := hJ
            simp [Region.binds] at hpre
            exact .inr ⟨wanted_no (g := 18) (t := 86) (b := false) rfl rfl (by rw [ha]; exact eval_puts_in (i := 18) rfl (by simp [hpre]) (by simp) rfl), (), rfl, j3, j8, j9, j11, jb⟩
          · intro _ L w' hL hpre hJ a ha
            obtain ⟨j3, j8, j9, j11, jb⟩ := hJ
            simp [Region.binds] at hpre
            exact .inr ⟨wanted_no (g := 18) (t := 86) (b := false) rfl rfl (by rw [ha]; exact eval_puts_in (i := 18) rfl (by simp [hpre]) (by simp) rfl), (), rfl, j3, j8, j9, j11, jb⟩
          · intro _ L w' hL hpre hJ a ha
            obtain ⟨j3, j8, j9, j11, jb⟩ := hJ
            simp [Region.binds] at hpre
            exact .inr ⟨wanted_no (g := 18) (t := 86) (b := false) rfl rfl (by rw [ha]; exact eval_puts_in (i := 18) rfl (by simp [hpre]) (by simp) rfl), (), rfl, j3, j8, j9, j11, jb⟩
          · intro _ L w' hL hpre hJ a ha
            obtain ⟨j3, j8, j9, j11, jb⟩ := hJ
            simp [Region.binds] at hpre
            exact .inr ⟨wanted_no (g := 18) (t := 86) (b := false) rfl rfl (by rw [ha]; exact eval_puts_in (i := 18) rfl (by simp [hpre]) (by simp) rfl), (), rfl, j3, j8, j9, j11, jb⟩
          · intro _ L w' hL hpre hJ a ha
            obtain ⟨j3, j8, j9, j11, jb⟩ := hJ
            simp [Region.binds] at hpre
            refine .inl ⟨wanted_yes (g := 11) (t := 79) (b := true) rfl rfl (by rw [ha]; exact eval_puts_in (i := 11) rfl (by simp [hpre]) (by simp) rfl), ?_⟩
            have e86 : a.eval (.tmp 86) = .bool true := by rw [ha]; exact eval_puts_in (i := 18) rfl (by simp [hpre]) (by simp) rfl
            clear ha
            have j3' := Lib.hid j3
            have j8' := Lib.hid j8
            have j9' := Lib.hid j9
            have j11' := Lib.hid j11
            have jb' := Lib.hid jb
            clear j3 j8 j9 j11 jb
            refine wp_intro fun K HK => ?_
            unfold Oper.wp
            simp only [execOp, e86]
            go_simp
            exact HK.out _ _ ⟨(), _, rfl, rfl, j3'.out, j8'.out, j9'.out, j11'.out, jb'.out⟩
          · intro _ L w' hL hpre hJ a ha
            obtain ⟨j3, j8, j9, j11, jb⟩ := hJ
            simp [Region.binds] at hpre
            refine .inl ⟨wanted_none rfl, ?_⟩
            have e79 : a.eval (.tmp 79) = .bool true := by rw [ha]; exact eval_puts_in (i := 11) rfl (by simp [hpre]) (by simp) rfl
            have e94 : a.eval (.tmp 94) = .bool true := by rw [ha]; exact eval_puts_in (i := 26) rfl (by simp [hpre]) (by simp) rfl
            clear ha
            have j3' := Lib.hid j3
            have j8' := Lib.hid j8
            have j9' := Lib.hid j9
            have j11' := Lib.hid j11
            have jb' := Lib.hid jb
            clear j3 j8 j9 j11 jb
            refine wp_intro fun K HK => ?_
            unfold Oper.wp
            simp only [execOp, e79, e94]
            go_simp
            exact HK.out _ _ ⟨(), _, rfl, rfl, j3'.out, j8'.out, j9'.out, j11'.out, jb'.out⟩
          · intro _ L w' hL hpre hJ a ha
            obtain ⟨j3, j8, j9, j11, jb⟩ := hJ
            simp [Region.binds] at hpre
            refine .inl ⟨wanted_none rfl, ?_⟩
            exact wp_move' (.tmp 95) (.inr rfl) (.bool true) (by rw [ha]; exact eval_puts_in (i := 27) rfl (by simp [hpre]) (by simp) rfl) ⟨(), _, rfl, rfl, j3, j8, j9, j11, jb⟩
        · intro _ L w' hL hJ
          obtain ⟨j3, j8, j9, j11, jb⟩ := hJ
          clear hL
          simp only [List.foldl_cons, List.foldl_nil]
          go_simp
          go_wp2_with fail
          go_ret
          exact ⟨rfl, jb⟩
    | true =>
      cases my with
      | false =>
        refine wp_region_puts_g (by kernel_rfl) (by kernel_rfl) (X := Unit) (fun _ => [(some 68, .agg (y.v).toArray), (some 69, .bool false), (some 70, .agg (y.v).toArray), (some 71, .bool false), (some 72, .bool true), (some 73, .bool true), (some 74, .bool false), (some 75, .agg (y.v).toArray), (some 76, .bool false), (some 77, .bool true), (some 78, .bool true), (some 79, .bool true), (some 80, .bool true), (some 81, .bool false), (some 82, .bool false), (some 83, .bool false), (some 84, .bool true), (some 85, .bool true), (some 86, .bool true), (some 87, undef), (some 88, undef), (some 89, undef), (some 90, undef), (some 91, undef), (some 92, undef), (some 93, undef), (some 94, .bool true), (some 95, .bool true), (some 6, .bool true)])
          (fun _ L w' => w'.heap[w.heap.size]? = some (.cells (x.v).toArray 40 (0, 0)) ∧ w'.heap[w1.heap.size]? = some (.cells (y.v).toArray 40 (0, 0)) ∧ w'.heap[w5.heap.size]? = some (.cells (nats .u8 px).toArray 42 (0, 0)) ∧ w'.heap[w7.heap.size]? = some (.cells (nats .u8 py).toArray 42 (0, 0)) ∧ Below w.heap.size w w') (fun _ => rfl) (by kernel_rfl) ⟨(), fun _ _ => ⟨h3_w8, h8_w8, h9_w8, h11_w8, hb_w8.drew⟩⟩ ?_ ?_
        · refine ⟨?_, ?_, ?_, ?_, ?_, ?_, ?_, ?_, ?_, ?_, ?_, ?_, ?_, ?_, ?_, ?_, ?_, ?_, ?_, ?_, ?_, ?_, ?_, ?_, ?_, ?_, ?_, ?_, ?_, trivial⟩
          · intro _ L w' hL hpre hJ a ha
            obtain ⟨j3, j8, j9, j11, jb⟩ := hJ
            simp [Region.binds] at hpre
            refine .inl ⟨wanted_none rfl, ?_⟩
            exact wp_load_mid 40 (.tmp 8) rfl w1.heap.size 0 (by rw [ha, eval_puts_out rfl]; rfl) (y.v) _ (range_blk j8) Try.underlying40 rfl iY ⟨(), _, rfl, rfl, j3, j8, j9, j11, jb⟩
          · intro _ L w' hL hpre hJ a ha
            obtain ⟨j3, j8, j9, j11, jb⟩ := hJ
            simp [Region.binds] at hpre
            refine .inl ⟨wanted_none rfl, ?_⟩
            have e68 : a.eval (.tmp 68) = .agg (y.v).toArray := by rw [ha]; exact eval_puts_in (i := 0) rfl (by simp [hpre]) (by simp) rfl
            clear ha
            have j3' := Lib.hid j3
            have j8' := Lib.hid j8
            have j9' := Lib.hid j9
            have j11' := Lib.hid j11
            have jb' := Lib.hid jb
            clear j3 j8 j9 j11 jb
            refine wp_intro fun K HK => ?_
            unfold Oper.wp
            simp only [execOp, resolve, List.map_toArray, List.map_cons, List.map_nil, e68]
            go_simp
            refine (HMY.out w').mono ?_
            rintro e w'' ⟨rfl, hb⟩
            exact HK.out _ _ ⟨(), _, rfl, rfl, blk_below j3'.out hb, blk_below j8'.out hb, blk_below j9'.out hb, blk_below j11'.out hb, jb'.out.trans (hb.mono jb'.out.size)⟩
          · intro _ L w' hL hpre hJ a ha
            obtain ⟨j3, j8, j9, j11, jb⟩ := hJ
            simp [Region.binds] at hpre
            refine .inl ⟨wanted_none rfl, ?_⟩
            exact wp_load_mid 40 (.tmp 8) rfl w1.heap.size 0 (by rw [ha, eval_puts_out rfl]; rfl) (y.v) _ (range_blk j8) Try.underlying40 rfl iY ⟨(), _, rfl, rfl, j3, j8, j9, j11, jb⟩
          · intro _ L w' hL hpre hJ a ha
            obtain ⟨j3, j8, j9, j11, jb⟩ := hJ
            simp [Region.binds] at hpre
            refine .inl ⟨wanted_none rfl, ?_⟩
            have e70 : a.eval (.tmp 70) = .agg (y.v).toArray := by rw [ha]; exact eval_puts_in (i := 2) rfl (by simp [hpre]) (by simp) rfl
            clear ha
            have j3' := Lib.hid j3
            have j8' := Lib.hid j8
            have j9' := Lib.hid j9
            have j11' := Lib.hid j11
            have jb' := Lib.hid jb
            clear j3 j8 j9 j11 jb
            refine wp_intro fun K HK => ?_
            unfold Oper.wp
            simp only [execOp, resolve, List.map_toArray, List.map_cons, List.map_nil, e70]
            go_simp
            refine (HRY.out w').mono ?_
            rintro e w'' ⟨rfl, hb⟩
            exact HK.out _ _ ⟨(), _, rfl, rfl, blk_below j3'.out hb, blk_below j8'.out hb, blk_below j9'.out hb, blk_below j11'.out hb, jb'.out.trans (hb.mono jb'.out.size)⟩
          · intro _ L w' hL hpre hJ a ha
            obtain ⟨j3, j8, j9, j11, jb⟩ := hJ
            simp [Region.binds] at hpre
            refine .inl ⟨wanted_none rfl, ?_⟩
            have e69 : a.eval (.tmp 69) = .bool false := by rw [ha]; exact eval_puts_in (i := 1) rfl (by simp [hpre]) (by simp) rfl
            have e71 : a.eval (.tmp 71) = .bool false := by rw [ha]; exact eval_puts_in (i := 3) rfl (by simp [hpre]) (by simp) rfl
            clear ha
            have j3' := Lib.hid j3
            have j8' := Lib.hid j8
            have j9' := Lib.hid j9
            have j11' := Lib.hid j11
            have jb' := Lib.hid jb
            clear j3 j8 j9 j11 jb
            refine wp_intro fun K HK => ?_
            unfold Oper.wp
            simp only [execOp, e69, e71]
            go_simp
            exact HK.out _ _ ⟨(), _, rfl, rfl, j3'.out, j8'.out, j9'.out, j11'.out, jb'.out⟩
          · intro _ L w' hL hpre hJ a ha
            obtain ⟨j3, j8, j9, j11, jb⟩ := hJ
            simp [Region.binds] at hpre
            refine .inl ⟨wanted_none rfl, ?_⟩
            exact wp_move' (.tmp 72) (.inl rfl) (.bool true) (by rw [ha]; exact eval_puts_in (i := 4) rfl (by simp [hpre]) (by simp) rfl) ⟨(), _, rfl, rfl, j3, j8, j9, j11, jb⟩
          · intro _ L w' hL hpre hJ a ha
            obtain ⟨j3, j8, j9, j11, jb⟩ := hJ
            simp [Region.binds] at hpre
            refine .inl ⟨wanted_yes (g := 5) (t := 73) (b := true) rfl rfl (by rw [ha]; exact eval_puts_in (i := 5) rfl (by simp [hpre]) (by simp) rfl), ?_⟩
            exact wp_move' (.tmp 12) (.inl rfl) (.bool false) (by rw [ha, eval_puts_out rfl]; rfl) ⟨(), _, rfl, rfl, j3, j8, j9, j11, jb⟩
          · intro _ L w' hL hpre hJ a ha
            obtain ⟨j3, j8, j9, j11, jb⟩ := hJ
            simp [Region.binds] at hpre
            refine .inl ⟨wanted_yes (g := 5) (t := 73) (b := true) rfl rfl (by rw [ha]; exact eval_puts_in (i := 5) rfl (by simp [hpre]) (by simp) rfl), ?_⟩
            exact wp_load_mid 40 (.tmp 8) rfl w1.heap.size 0 (by rw [ha, eval_puts_out rfl]; rfl) (y.v) _ (range_blk j8) Try.underlying40 rfl iY ⟨(), _, rfl, rfl, j3, j8, j9, j11, jb⟩
          · intro _ L w' hL hpre hJ a ha
            obtain ⟨j3, j8, j9, j11, jb⟩ := hJ
            simp [Region.binds] at hpre
            refine .inl ⟨wanted_yes (g := 5) (t := 73) (b := true) rfl rfl (by rw [ha]; exact eval_puts_in (i := 5) rfl (by simp [hpre]) (by simp) rfl), ?_⟩
            have e75 : a.eval (.tmp 75) = .agg (y.v).toArray := by rw [ha]; exact eval_puts_in (i := 7) rfl (by simp [hpre]) (by simp) rfl
            clear ha
            have j3' := Lib.hid j3
            have j8' := Lib.hid j8
            have j9' := Lib.hid j9
            have j11' := Lib.hid j11
            have jb' := Lib.hid jb
            clear j3 j8 j9 j11 jb
            refine wp_intro fun K HK => ?_
            unfold Oper.wp
            simp only [execOp, resolve, List.map_toArray, List.map_cons, List.map_nil, e75]
            go_simp
            refine (HRY.out w').mono ?_
            rintro e w'' ⟨rfl, hb⟩
            exact HK.out _ _ ⟨(), _, rfl, rfl, blk_below j3'.out hb, blk_below j8'.out hb, blk_below j9'.out hb, blk_below j11'.out hb, jb'.out.trans (hb.mono jb'.out.size)⟩
          · intro _ L w' hL hpre hJ a ha
            obtain ⟨j3, j8, j9, j11, jb⟩ := hJ
            simp [Region.binds] at hpre
            refine .inl ⟨wanted_yes (g := 5) (t := 73) (b := true) rfl rfl (by rw [ha]; exact eval_puts_in (i := 5) rfl (by simp [hpre]) (by simp) rfl), ?_⟩
            have e74 : a.eval (.tmp 74) = .bool false := by rw [ha]; exact eval_puts_in (i := 6) rfl (by simp [hpre]) (by simp) rfl
            have e76 : a.eval (.tmp 76) = .bool false := by rw [ha]; exact eval_puts_in (i := 8) rfl (by simp [hpre]) (by simp) rfl
            clear ha
            have j3' := Lib.hid j3
            have j8' := Lib.hid j8
            have j9' := Lib.hid j9
            have j11' := Lib.hid j11
            have jb' := Lib.hid jb
            clear j3 j8 j9 j11 jb
            refine wp_intro fun K HK => ?_
            unfold Oper.wp
            simp only [execOp, e74, e76]
            go_simp
            exact HK.out _ _ ⟨(), _, rfl, rfl, j3'.out, j8'.out, j9'.out, j11'.out, jb'.out⟩
          · intro _ L w' hL hpre hJ a ha
            obtain ⟨j3, j8, j9, j11, jb⟩ := hJ
            simp [Region.binds] at hpre
            refine .inl ⟨wanted_none rfl, ?_⟩
            have e73 : a.eval (.tmp 73) = .bool true := by rw [ha]; exact eval_puts_in (i := 5) rfl (by simp [hpre]) (by simp) rfl
            have e77 : a.eval (.tmp 77) = .bool true := by rw [ha]; exact eval_puts_in (i := 9) rfl (by simp [hpre]) (by simp) rfl
            clear ha
            have j3' := Lib.hid j3
            have j8' := Lib.hid j8
            have j9' := Lib.hid j9
            have j11' := Lib.hid j11
            have jb' := Lib.hid jb
            clear j3 j8 j9 j11 jb
            refine wp_intro fun K HK => ?_
            unfold Oper.wp
            simp only [execOp, e73, e77]
            go_simp
            exact HK.out _ _ ⟨(), _, rfl, rfl, j3'.out, j8'.out, j9'.out, j11'.out, jb'.out⟩
          · intro _ L w' hL hpre hJ a ha
            obtain ⟨j3, j8, j9, j11, jb⟩ := hJ
            simp [Region.binds] at hpre
            refine .inl ⟨wanted_none rfl, ?_⟩
            exact wp_move' (.tmp 78) (.inl rfl) (.bool true) (by rw [ha]; exact eval_puts_in (i := 10) rfl (by simp [hpre]) (by simp) rfl) ⟨(), _, rfl, rfl, j3, j8, j9, j11, jb⟩
          · intro _ L w' hL hpre hJ a ha
            obtain ⟨j3, j8, j9, j11, jb⟩ := hJ
            simp [Region.binds] at hpre
            refine .inl ⟨wanted_yes (g := 11) (t := 79) (b := true) rfl rfl (by rw [ha]; exact eval_puts_in (i := 11) rfl (by simp [hpre]) (by simp) rfl), ?_⟩
            exact wp_move' (.tmp 10) (.inl rfl) (.bool true) (by rw [ha, eval_puts_out rfl]; rfl) ⟨(), _, rfl, rfl, j3, j8, j9, j11, jb⟩
          · intro _ L w' hL hpre hJ a ha
            obtain ⟨j3, j8, j9, j11, jb⟩ := hJ
            simp [Region.binds] at hpre
            refine .inl ⟨wanted_yes (g := 11) (t := 79) (b := true) rfl rfl (by rw [ha]; exact eval_puts_in (i := 11) rfl (by simp [hpre]) (by simp) rfl), ?_⟩
            have e80 : a.eval (.tmp 80) = .bool true := by rw [ha]; exact eval_puts_in (i := 12) rfl (by simp [hpre]) (by simp) rfl
            clear ha
            have j3' := Lib.hid j3
            have j8' := Lib.hid j8
            have j9' := Lib.hid j9
            have j11' := Lib.hid j11
            have jb' := Lib.hid jb
            clear j3 j8 j9 j11 jb
            refine wp_intro fun K HK => ?_
            unfold Oper.wp
            simp only [execOp, e80]
            go_simp
            exact HK.out _ _ ⟨(), _, rfl, rfl, j3'.out, j8'.out, j9'.out, j11'.out, jb'.out⟩
          · intro _ L w' hL hpre hJ a ha
            obtain ⟨j3, j8, j9, j11, jb⟩ := hJ
            simp [Region.binds] at hpre
            refine .inl ⟨wanted_yes (g := 11) (t := 79) (b := true) rfl rfl (by rw [ha]; exact eval_puts_in (i := 11) rfl (by simp [hpre]) (by simp) rfl), ?_⟩
            exact wp_move' (.tmp 81) (.inl rfl) (.bool false) (by rw [ha]; exact eval_puts_in (i := 13) rfl (by simp [hpre]) (by simp) rfl) ⟨(), _, rfl, rfl, j3, j8, j9, j11, jb⟩
          · intro _ L w' hL hpre hJ a ha
            obtain ⟨j3, j8, j9, j11, jb⟩ := hJ
            simp [Region.binds] at hpre
            refine .inl ⟨wanted_yes (g := 14) (t := 82) (b := false) rfl rfl (by rw [ha]; exact eval_puts_in (i := 14) rfl (by simp [hpre]) (by simp) rfl), ?_⟩
            exact wp_move' (.tmp 12) (.inl rfl) (.bool false) (by rw [ha, eval_puts_out rfl]; rfl) ⟨(), _, rfl, rfl, j3, j8, j9, j11, jb⟩
          · intro _ L w' hL hpre hJ a ha
            obtain ⟨j3, j8, j9, j11, jb⟩ := hJ
            simp [Region.binds] at hpre
            refine .inl ⟨wanted_yes (g := 14) (t := 82) (b := false) rfl rfl (by rw [ha]; exact eval_puts_in (i := 14) rfl (by simp [hpre]) (by simp) rfl), ?_⟩
            have e83 : a.eval (.tmp 83) = .bool false := by rw [ha]; exact eval_puts_in (i := 15) rfl (by simp [hpre]) (by simp) rfl
            clear ha
            have j3' := Lib.hid j3
            have j8' := Lib.hid j8
            have j9' := Lib.hid j9
            have j11' := Lib.hid j11
            have jb' := Lib.hid jb
            clear j3 j8 j9 j11 jb
            refine wp_intro fun K HK => ?_
            unfold Oper.wp
            simp only [execOp, e83]
            go_simp
            exact HK.out _ _ ⟨(), _, rfl, rfl, j3'.out, j8'.out, j9'.out, j11'.out, jb'.out⟩
          · intro _ L w' hL hpre hJ a ha
            obtain ⟨j3, j8, j9, j11, jb⟩ := hJ
            simp [Region.binds] at hpre
            refine .inl ⟨wanted_yes (g := 11) (t := 79) (b := true) rfl rfl (by rw [ha]; exact eval_puts_in (i := 11) rfl (by simp [hpre]) (by simp) rfl), ?_⟩
            have e82 : a.eval (.tmp 82) = .bool false := by rw [ha]; exact eval_puts_in (i := 14) rfl (by simp [hpre]) (by simp) rfl
            have e84 : a.eval (.tmp 84) = .bool true := by rw [ha]; exact eval_puts_in (i := 16) rfl (by simp [hpre]) (by simp) rfl
            clear ha
            have j3' := Lib.hid j3
            have j8' := Lib.hid j8
            have j9' := Lib.hid j9
            have j11' := Lib.hid j11
            have jb' := Lib.hid jb
            clear j3 j8 j9 j11 jb
            refine wp_intro fun K HK => ?_
            unfold Oper.wp
            simp only [execOp, e82, e84]
            go_simp
            exact HK.out _ _ ⟨(), _, rfl, rfl, j3'.out, j8'.out, j9'.out, j11'.out, jb'.out⟩
          · intro _ L w' hL hpre hJ a ha
            obtain ⟨j3, j8, j9, j11, jb⟩ := hJ
            simp [Region.binds] at hpre
            refine .inl ⟨wanted_yes (g := 11) (t := 79) (b := true) rfl rfl (by rw [ha]; exact eval_puts_in (i := 11) rfl (by simp [hpre]) (by simp) rfl), ?_⟩
            exact wp_move' (.tmp 85) (.inl rfl) (.bool true) (by rw [ha]; exact eval_puts_in (i := 17) rfl (by simp [hpre]) (by simp) rfl) ⟨(), _, rfl, rfl, j3, j8, j9, j11, jb⟩
          · intro _ L w' hL hpre hJ a ha
            obtain ⟨j3, j8, j9, j11, jb⟩ := hJ
            simp [Region.binds] at hpre
            exact .inr ⟨wanted_no (g := 18) (t := 86) (b := false) rfl rfl (by rw [ha]; exact eval_puts_in (i := 18) rfl (by simp [hpre]) (by simp) rfl), (), rfl, j3, j8, j9, j11, jb⟩
          · intro _ L w' hL hpre hJ a ha
            obtain ⟨j3, j8, j9, j11, jb⟩ := hJ
            simp [Region.binds] at hpre
            exact .inr ⟨wanted_no (g := 18) (t := 86) (b := false) rfl rfl (by rw [ha]; exact eval_puts_in (i := 18) rfl (by simp [hpre]) (by simp) rfl), (), rfl, j3, j8, j9, j11, jb⟩
          · intro _ L w' hL hpre hJ a ha
            obtain ⟨j3, j8, j9, j11, jb⟩ := hJ
            simp [Region.binds] at hpre
            exact .inr ⟨wanted_no (g := 18) (t := 86) (b := false) rfl rfl (by rw [ha]; exact eval_puts_in (i := 18) rfl (by simp [hpre]) (by simp) rfl), (), rfl, j3, j8, j9, j11, jb⟩
          · intro _ L w' hL hpre hJ a ha
            obtain ⟨j3, j8, j9, j11, jb⟩ := hJ
            simp [Region.binds] at hpre
            exact .inr ⟨wanted_no (g := 18) (t := 86) (b := false) rfl rfl (by rw [ha]; exact eval_puts_in (i := 18) rfl (by simp [hpre]) (by simp) rfl), (), rfl, j3, j8, j9, j11, jb⟩
          · intro _ L w' hL hpre hJ a ha
            obtain ⟨j3, j8, j9, j11, jb⟩ := hJ
            simp [Region.binds] at hpre
            exact .inr ⟨wanted_no (g := 18) (t := 86) (b := false) rfl rfl (by rw [ha]; exact eval_puts_in (i := 18) rfl (by simp [hpre]) (by simp) rfl), (), rfl, j3, j8, j9, j11, jb⟩
          · intro _ L w' hL hpre hJ a ha
            obtain ⟨j3, j8, j9, j11, jb⟩ := hJ
            simp [Region.binds] at hpre
            exact .inr ⟨wanted_no (g := 18) (t := 86) (b := false) rfl rfl (by rw [ha]; exact eval_puts_in (i := 18) rfl (by simp [hpre]) (by simp) rfl), (), rfl, j3, j8, j9, j11, jb⟩
          · intro _ L w' hL hpre hJ a ha
            obtain ⟨j3, j8, j9, j11, jb⟩ := hJ
            simp [Region.binds] at hpre
            exact .inr ⟨wanted_no (g := 18) (t := 86) (b := false) rfl rfl (by rw [ha]; exact eval_puts_in (i := 18) rfl (by simp [hpre]) (by simp) rfl), (), rfl, j3, j8, j9, j11, jb⟩
          · intro _ L w' hL hpre hJ a ha
            obtain ⟨j3, j8, j9, j11, jb⟩ := hJ
            simp [Region.binds] at hpre
            refine .inl ⟨wanted_yes (g := 11) (t := 79) (b := true) rfl rfl (by rw [ha]; exact eval_puts_in (i := 11) rfl (by simp [hpre]) (by simp) rfl), ?_⟩
            have e86 : a.eval (.tmp 86) = .bool true := by rw [ha]; exact eval_puts_in (i := 18) rfl (by simp [hpre]) (by simp) rfl
            clear ha
            have j3' := Lib.hid j3
            have j8' := Lib.hid j8
            have j9' := Lib.hid j9
            have j11' := Lib.hid j11
            have jb' := Lib.hid jb
            clear j3 j8 j9 j11 jb
            refine wp_intro fun K HK => ?_
            unfold Oper.wp
            simp only [execOp, e86]
            go_simp
            exact HK.out _ _ ⟨(), _, rfl, rfl, j3'.out, j8'.out, j9'.out, j11'.out, jb'.out⟩
          · intro _ L w' hL hpre hJ a ha
            obtain ⟨j3, j8, j9, j11, jb⟩ := hJ
            simp [Region.binds] at hpre
            refine .inl ⟨wanted_none rfl, ?_⟩
            have e79 : a.eval (.tmp 79) = .bool true := by rw [ha]; exact eval_puts_in (i := 11) rfl (by simp [hpre]) (by simp) rfl
            have e94 : a.eval (.tmp 94) = .bool true := by rw [ha]; exact eval_puts_in (i := 26) rfl (by simp [hpre]) (by simp) rfl
            clear ha
            have j3' := Lib.hid j3
            have j8' := Lib.hid j8
            have j9' := Lib.hid j9
            have j11' := Lib.hid j11
            have jb' := Lib.hid jb
            clear j3 j8 j9 j11 jb
            refine wp_intro fun K HK => ?_
            unfold Oper.wp
            simp only [execOp, e79, e94]
            go_simp
            exact HK.out _ _ ⟨(), _, rfl, rfl, j3'.out, j8'.out, j9'.out, j11'.out, jb'.out⟩
          · intro _ L w' hL hpre hJ a ha
            obtain ⟨j3, j8, j9, j11, jb⟩ := hJ
            simp [Region.binds] at hpre
            refine .inl ⟨wanted_none rfl, ?_⟩
            exact wp_move' (.tmp 95) (.inr rfl) (.bool true) (by rw [ha]; exact eval_puts_in (i := 27) rfl (by simp [hpre]) (by simp) rfl) ⟨(), _, rfl, rfl, j3, j8, j9, j11, jb⟩
        · intro _ L w' hL hJ
          obtain ⟨j3, j8, j9, j11, jb⟩ := hJ
          clear hL
          simp only [List.foldl_cons, List.foldl_nil]
          go_simp
          go_wp2_with fail
          go_ret
          exact ⟨rfl, jb⟩
      | true =>
        rw [HQQ.out rfl rfl] at HQP
        cases q with
        | false =>
          refine wp_region_puts_g (by kernel_rfl) (by kernel_rfl) (X := Unit) (fun _ => [(some 68, .agg (y.v).toArray), (some 69, .bool true), (some 70, .agg (y.v).toArray), (some 71, .bool true), (some 72, .bool true), (some 73, .bool true), (some 74, .bool true), (some 75, .agg (y.v).toArray), (some 76, .bool true), (some 77, .bool true), (some 78, .bool true), (some 79, .bool true), (some 80, .bool true), (some 81, .bool false), (some 82, .bool false), (some 83, .bool true), (some 84, .bool false), (some 85, .bool false), (some 86, .bool false), (some 87, .agg (nats .u8 px).toArray), (some 88, .agg (nats .u8 py).toArray), (some 89, .bool false), (some 90, .agg (x.v).toArray), (some 91, .agg (y.v).toArray), (some 92, .bool false), (some 93, .bool true), (some 94, .bool true), (some 95, .bool true), (some 6, .bool true)])
            (fun _ L w' => w'.heap[w.heap.size]? = some (.cells (x.v).toArray 40 (0, 0)) ∧ w'.heap[w1.heap.size]? = some (.cells (y.v).toArray 40 (0, 0)) ∧ w'.heap[w5.heap.size]? = some (.cells (nats .u8 px).toArray 42 (0, 0)) ∧ w'.heap[w7.heap.size]? = some (.cells (nats .u8 py).toArray 42 (0, 0)) ∧ Below w.heap.size w w') (fun _ => rfl) (by kernel_rfl) ⟨(), fun _ _ => ⟨h3_w8, h8_w8, h9_w8, h11_w8, hb_w8.drew⟩⟩ ?_ ?_
          · refine ⟨?_, ?_, ?_, ?_, ?_, ?_, ?_, ?_, ?_, ?_, ?_, ?_, ?_, ?_, ?_, ?_, ?_, ?_, ?_, ?_, ?_, ?_, ?_, ?_, ?_, ?_, ?_, ?_, ?_, trivial⟩
            · intro _ L w' hL hpre hJ a ha
              obtain ⟨j3, j8, j9, j11, jb⟩ := hJ
              simp [Region.binds] at hpre
              refine .inl ⟨wanted_none rfl, ?_⟩
              exact wp_load_mid 40 (.tmp 8) rfl w1.heap.size 0 (by rw [ha, eval_puts_out rfl]; rfl) (y.v) _ (range_blk j8) Try.underlying40 rfl iY ⟨(), _, rfl, rfl, j3, j8, j9, j11, jb⟩
            · intro _ L w' hL hpre hJ a ha
              obtain ⟨j3, j8, j9, j11, jb⟩ := hJ
              simp [Region.binds] at hpre
              refine .inl ⟨wanted_none rfl, ?_⟩
              have e68 : a.eval (.tmp 68) = .agg (y.v).toArray := by rw [ha]; exact eval_puts_in (i := 0) rfl (by simp [hpre]) (by simp) rfl
              clear ha
              have j3' := Lib.hid j3
              have j8' := Lib.hid j8
              have j9' := Lib.hid j9
              have j11' := Lib.hid j11
              have jb' := Lib.hid jb
              clear j3 j8 j9 j11 jb
              refine wp_intro fun K HK => ?_
              unfold Oper.wp
              simp only [execOp, resolve, List.map_toArray, List.map_cons, List.map_nil, e68]
              go_simp
              refine (HMY.out w').mono ?_
              rintro e w'' ⟨rfl, hb⟩
              exact HK.out _ _ ⟨(), _, rfl, rfl, blk_below j3'.out hb, blk_below j8'.out hb, blk_below j9'.out hb, blk_below j11'.out hb, jb'.out.trans (hb.mono jb'.out.size)⟩
            · intro _ L w' hL hpre hJ a ha
              obtain ⟨j3, j8, j9, j11, jb⟩ := hJ
              simp [Region.binds] at hpre
              refine .inl ⟨wanted_none rfl, ?_⟩
              exact wp_load_mid 40 (.tmp 8) rfl w1.heap.size 0 (by rw [ha, eval_puts_out rfl]; rfl) (y.v) _ (range_blk j8) Try.underlying40 rfl iY ⟨(), _, rfl, rfl, j3, j8, j9, j11, jb⟩
            · intro _ L w' hL hpre hJ a ha
              obtain ⟨j3, j8, j9, j11, jb⟩ := hJ
              simp [Region.binds] at hpre
              refine .inl ⟨wanted_none rfl, ?_⟩
              have e70 : a.eval (.tmp 70) = .agg (y.v).toArray := by rw [ha]; exact eval_puts_in (i := 2) rfl (by simp [hpre]) (by simp) rfl
              clear ha
              have j3' := Lib.hid j3
              have j8' := Lib.hid j8
              have j9' := Lib.hid j9
              have j11' := Lib.hid j11
              have jb' := Lib.hid jb
              clear j3 j8 j9 j11 jb
              refine wp_intro fun K HK => ?_
              unfold Oper.wp
              simp only [execOp, resolve, List.map_toArray, List.map_cons, List.map_nil, e70]
              go_simp
              refine (HRY.out w').mono ?_
              rintro e w'' ⟨rfl, hb⟩
              exact HK.out _ _ ⟨(), _, rfl, rfl, blk_below j3'.out hb, blk_below j8'.out hb, blk_below j9'.out hb, blk_below j11'.out hb, jb'.out.trans (hb.mono jb'.out.size)⟩
            · intro _ L w' hL hpre hJ a ha
              obtain ⟨j3, j8, j9, j11, jb⟩ := hJ
              simp [Region.binds] at hpre
              refine .inl ⟨wanted_none rfl, ?_⟩
              have e69 : a.eval (.tmp 69) = .bool true := by rw [ha]; exact eval_puts_in (i := 1) rfl (by simp [hpre]) (by simp) rfl
              have e71 : a.eval (.tmp 71) = .bool true := by rw [ha]; exact eval_puts_in (i := 3) rfl (by simp [hpre]) (by simp) rfl
              clear ha
              have j3' := Lib.hid j3
              have j8' := Lib.hid j8
              have j9' := Lib.hid j9
              have j11' := Lib.hid j11
              have jb' := Lib.hid jb
              clear j3 j8 j9 j11 jb
              refine wp_intro fun K HK => ?_
              unfold Oper.wp
              simp only [execOp, e69, e71]
              go_simp
              exact HK.out _ _ ⟨(), _, rfl, rfl, j3'.out, j8'.out, j9'.out, j11'.out, jb'.out⟩
            · intro _ L w' hL hpre hJ a ha
              obtain ⟨j3, j8, j9, j11, jb⟩ := hJ
              simp [Region.binds] at hpre
              refine .inl ⟨wanted_none rfl, ?_⟩
              exact wp_move' (.tmp 72) (.inl rfl) (.bool true) (by rw [ha]; exact eval_puts_in (i := 4) rfl (by simp [hpre]) (by simp) rfl) ⟨(), _, rfl, rfl, j3, j8, j9, j11, jb⟩
            · intro _ L w' hL hpre hJ a ha
              obtain ⟨j3, j8, j9, j11, jb⟩ := hJ
              simp [Region.binds] at hpre
              refine .inl ⟨wanted_yes (g := 5) (t := 73) (b := true) rfl rfl (by rw [ha]; exact eval_puts_in (i := 5) rfl (by simp [hpre]) (by simp) rfl), ?_⟩
              exact wp_move' (.tmp 12) (.inl rfl) (.bool true) (by rw [ha, eval_puts_out rfl]; rfl) ⟨(), _, rfl, rfl, j3, j8, j9, j11, jb⟩
            · intro _ L w' hL hpre hJ a ha
              obtain ⟨j3, j8, j9, j11, jb⟩ := hJ
              simp [Region.binds] at hpre
              refine .inl ⟨wanted_yes (g := 5) (t := 73) (b := true) rfl rfl (by rw [ha]; exact eval_puts_in (i := 5) rfl (by simp [hpre]) (by simp) rfl), ?_⟩
              exact wp_load_mid 40 (.tmp 8) rfl w1.heap.size 0 (by rw [ha, eval_puts_out rfl]; rfl) (y.v) _ (range_blk j8) Try.underlying40 rfl iY ⟨(), _, rfl, rfl, j3, j8, j9, j11, jb⟩
            · intro _ L w' hL hpre hJ a ha
              obtain ⟨j3, j8, j9, j11, jb⟩ := hJ
              simp [Region.binds] at hpre
              refine .inl ⟨wanted_yes (g := 5) (t := 73) (b := true) rfl rfl (by rw [ha]; exact eval_puts_in (i := 5) rfl (by simp [hpre]) (by simp) rfl), ?_⟩
              have e75 : a.eval (.tmp 75) = .agg (y.v).toArray := by rw [ha]; exact eval_puts_in (i := 7) rfl (by simp [hpre]) (by simp) rfl
              clear ha
              have j3' := Lib.hid j3
              have j8' := Lib.hid j8
              have j9' := Lib.hid j9
              have j11' := Lib.hid j11
              have jb' := Lib.hid jb
              clear j3 j8 j9 j11 jb
              refine wp_intro fun K HK => ?_
              unfold Oper.wp
              simp only [execOp, resolve, List.map_toArray, List.map_cons, List.map_nil, e75]
              go_simp
              refine (HRY.out w').mono ?_
              rintro e w'' ⟨rfl, hb⟩
              exact HK.out _ _ ⟨(), _, rfl, rfl, blk_below j3'.out hb, blk_below j8'.out hb, blk_below j9'.out hb, blk_below j11'.out hb, jb'.out.trans (hb.mono jb'.out.size)⟩
            · intro _ L w' hL hpre hJ a ha
              obtain ⟨j3, j8, j9, j11, jb⟩ := hJ
              simp [Region.binds] at hpre
              refine .inl ⟨wanted_yes (g := 5) (t := 73) (b := true) rfl rfl (by rw [ha]; exact eval_puts_in (i := 5) rfl (by simp [hpre]) (by simp) rfl), ?_⟩
              have e74 : a.eval (.tmp 74) = .bool true := by rw [ha]; exact eval_puts_in (i := 6) rfl (by simp [hpre]) (by simp) rfl
              have e76 : a.eval (.tmp 76) = .bool true := by rw [ha]; exact eval_puts_in (i := 8) rfl (by simp [hpre]) (by simp) rfl
              clear ha
              have j3' := Lib.hid j3
              have j8' := Lib.hid j8
              have j9' := Lib.hid j9
              have j11' := Lib.hid j11
              have jb' := Lib.hid jb
              clear j3 j8 j9 j11 jb
              refine wp_intro fun K HK => ?_
              unfold Oper.wp
              simp only [execOp, e74, e76]
              go_simp
              exact HK.out _ _ ⟨(), _, rfl, rfl, j3'.out, j8'.out, j9'.out, j11'.out, jb'.out⟩
            · intro _ L w' hL hpre hJ a ha
              obtain ⟨j3, j8, j9, j11, jb⟩ := hJ
              simp [Region.binds] at hpre
              refine .inl ⟨wanted_none rfl, ?_⟩
              have e73 : a.eval (.tmp 73) = .bool true := by rw [ha]; exact eval_puts_in (i := 5) rfl (by simp [hpre]) (by simp) rfl
              have e77 : a.eval (.tmp 77) = .bool true := by rw [ha]; exact eval_puts_in (i := 9) rfl (by simp [hpre]) (by simp) rfl
              clear ha
              have j3' := Lib.hid j3
              have j8' := Lib.hid j8
              have j9' := Lib.hid j9
              have j11' := Lib.hid j11
              have jb' := Lib.hid jb
              clear j3 j8 j9 j11 jb
              refine wp_intro fun K HK => ?_
              unfold Oper.wp
              simp only [execOp, e73, e77]
              go_simp
              exact HK.out _ _ ⟨(), _, rfl, rfl, j3'.out, j8'.out, j9'.out, j11'.out, jb'.out⟩
            · intro _ L w' hL hpre hJ a ha
              obtain ⟨j3, j8, j9, j11, jb⟩ := hJ
              simp [Region.binds] at hpre
              refine .inl ⟨wanted_none rfl, ?_⟩
              exact wp_move' (.tmp 78) (.inl rfl) (.bool true) (by rw [ha]; exact eval_puts_in (i := 10) rfl (by simp [hpre]) (by simp) rfl) ⟨(), _, rfl, rfl, j3, j8, j9, j11, jb⟩
            · intro _ L w' hL hpre hJ a ha
              obtain ⟨j3, j8, j9, j11, jb⟩ := hJ
              simp [Region.binds] at hpre
              refine .inl ⟨wanted_yes (g := 11) (t := 79) (b := true) rfl rfl (by rw [ha]; exact eval_puts_in (i := 11) rfl (by simp [hpre]) (by simp) rfl), ?_⟩
              exact wp_move' (.tmp 10) (.inl rfl) (.bool true) (by rw [ha, eval_puts_out rfl]; rfl) ⟨(), _, rfl, rfl, j3, j8, j9, j11, jb⟩
            · intro _ L w' hL hpre hJ a ha
              obtain ⟨j3, j8, j9, j11, jb⟩ := hJ
              simp [Region.binds] at hpre
              refine .inl ⟨wanted_yes (g := 11) (t := 79) (b := true) rfl rfl (by rw [ha]; exact eval_puts_in (i := 11) rfl (by simp [hpre]) (by simp) rfl), ?_⟩
              have e80 : a.eval (.tmp 80) = .bool true := by rw [ha]; exact eval_puts_in (i := 12) rfl (by simp [hpre]) (by simp) rfl
              clear ha
              have j3' := Lib.hid j3
              have j8' := Lib.hid j8
              have j9' := Lib.hid j9
              have j11' := Lib.hid j11
              have jb' := Lib.hid jb
              clear j3 j8 j9 j11 jb
              refine wp_intro fun K HK => ?_
              unfold Oper.wp
              simp only [execOp, e80]
              go_simp
              exact HK.out _ _ ⟨(), _, rfl, rfl, j3'.out, j8'.out, j9'.out, j11'.out, jb'.out⟩
            · intro _ L w' hL hpre hJ a ha
              obtain ⟨j3, j8, j9, j11, jb⟩ := hJ
              simp [Region.binds] at hpre
              refine .inl ⟨wanted_yes (g := 11) (t := 79) (b := true) rfl rfl (by rw [ha]; exact eval_puts_in (i := 11) rfl (by simp [hpre]) (by simp) rfl), ?_⟩
              exact wp_move' (.tmp 81) (.inl rfl) (.bool false) (by rw [ha]; exact eval_puts_in (i := 13) rfl (by simp [hpre]) (by simp) rfl) ⟨(), _, rfl, rfl, j3, j8, j9, j11, jb⟩
            · intro _ L w' hL hpre hJ a ha
              obtain ⟨j3, j8, j9, j11, jb⟩ := hJ
              simp [Region.binds] at hpre
              refine .inl ⟨wanted_yes (g := 14) (t := 82) (b := false) rfl rfl (by rw [ha]; exact eval_puts_in (i := 14) rfl (by simp [hpre]) (by simp) rfl), ?_⟩
              exact wp_move' (.tmp 12) (.inl rfl) (.bool true) (by rw [ha, eval_puts_out rfl]; rfl) ⟨(), _, rfl, rfl, j3, j8, j9, j11, jb⟩
            · intro _ L w' hL hpre hJ a ha
              obtain ⟨j3, j8, j9, j11, jb⟩ := hJ
              simp [Region.binds] at hpre
              refine .inl ⟨wanted_yes (g := 14) (t := 82) (b := false) rfl rfl (by rw [ha]; exact eval_puts_in (i := 14) rfl (by simp [hpre]) (by simp) rfl), ?_⟩
              have e83 : a.eval (.tmp 83) = .bool true := by rw [ha]; exact eval_puts_in (i := 15) rfl (by simp [hpre]) (by simp) rfl
              clear ha
              have j3' := Lib.hid j3
              have j8' := Lib.hid j8
              have j9' := Lib.hid j9
              have j11' := Lib.hid j11
              have jb' := Lib.hid jb
              clear j3 j8 j9 j11 jb
              refine wp_intro fun K HK => ?_
              unfold Oper.wp
              simp only [execOp, e83]
              go_simp
              exact HK.out _ _ ⟨(), _, rfl, rfl, j3'.out, j8'.out, j9'.out, j11'.out, jb'.out⟩
            · intro _ L w' hL hpre hJ a ha
              obtain ⟨j3, j8, j9, j11, jb⟩ := hJ
              simp [Region.binds] at hpre
              refine .inl ⟨wanted_yes (g := 11) (t := 79) (b := true) rfl rfl (by rw [ha]; exact eval_puts_in (i := 11) rfl (by simp [hpre]) (by simp) rfl), ?_⟩
              have e82 : a.eval (.tmp 82) = .bool false := by rw [ha]; exact eval_puts_in (i := 14) rfl (by simp [hpre]) (by simp) rfl
              have e84 : a.eval (.tmp 84) = .bool false := by rw [ha]; exact eval_puts_in (i := 16) rfl (by simp [hpre]) (by simp) rfl
              clear ha
              have j3' := Lib.hid j3
              have j8' := Lib.hid j8
              have j9' := Lib.hid j9
              have j11' := Lib.hid j11
              have jb' := Lib.hid jb
              clear j3 j8 j9 j11 jb
              refine wp_intro fun K HK => ?_
              unfold Oper.wp
              simp only [execOp, e82, e84]
              go_simp
              exact HK.out _ _ ⟨(), _, rfl, rfl, j3'.out, j8'.out, j9'.out, j11'.out, jb'.out⟩
            · intro _ L w' hL hpre hJ a ha
              obtain ⟨j3, j8, j9, j11, jb⟩ := hJ
              simp [Region.binds] at hpre
              refine .inl ⟨wanted_yes (g := 11) (t := 79) (b := true) rfl rfl (by rw [ha]; exact eval_puts_in (i := 11) rfl (by simp [hpre]) (by simp) rfl), ?_⟩
              exact wp_move' (.tmp 85) (.inl rfl) (.bool false) (by rw [ha]; exact eval_puts_in (i := 17) rfl (by simp [hpre]) (by simp) rfl) ⟨(), _, rfl, rfl, j3, j8, j9, j11, jb⟩
            · intro _ L w' hL hpre hJ a ha
              obtain ⟨j3, j8, j9, j11, jb⟩ := hJ
              simp [Region.binds] at hpre
              refine .inl ⟨wanted_yes (g := 18) (t := 86) (b := false) rfl rfl (by rw [ha]; exact eval_puts_in (i := 18) rfl (by simp [hpre]) (by simp) rfl), ?_⟩
              exact wp_load_mid 42 (.tmp 9) rfl w5.heap.size 0 (by rw [ha, eval_puts_out rfl]; rfl) (nats .u8 px) _ (range_blk j9) Try.underlying42 rfl iPX ⟨(), _, rfl, rfl, j3, j8, j9, j11, jb⟩
            · intro _ L w' hL hpre hJ a ha
              obtain ⟨j3, j8, j9, j11, jb⟩ := hJ
              simp [Region.binds] at hpre
              refine .inl ⟨wanted_yes (g := 18) (t := 86) (b := false) rfl rfl (by rw [ha]; exact eval_puts_in (i := 18) rfl (by simp [hpre]) (by simp) rfl), ?_⟩
              exact wp_load_mid 42 (.tmp 11) rfl w7.heap.size 0 (by rw [ha, eval_puts_out rfl]; rfl) (nats .u8 py) _ (range_blk j11) Try.underlying42 rfl iPY ⟨(), _, rfl, rfl, j3, j8, j9, j11, jb⟩
            · intro _ L w' hL hpre hJ a ha
              obtain ⟨j3, j8, j9, j11, jb⟩ := hJ
              simp [Region.binds] at hpre
              refine .inl ⟨wanted_yes (g := 18) (t := 86) (b := false) rfl rfl (by rw [ha]; exact eval_puts_in (i := 18) rfl (by simp [hpre]) (by simp) rfl), ?_⟩
              have e87 : a.eval (.tmp 87) = .agg (nats .u8 px).toArray := by rw [ha]; exact eval_puts_in (i := 19) rfl (by simp [hpre]) (by simp) rfl
              have e88 : a.eval (.tmp 88) = .agg (nats .u8 py).toArray := by rw [ha]; exact eval_puts_in (i := 20) rfl (by simp [hpre]) (by simp) rfl
              clear ha
              have qp := HQP.out
              have j3' := Lib.hid j3
              have j8' := Lib.hid j8
              have j9' := Lib.hid j9
              have j11' := Lib.hid j11
              have jb' := Lib.hid jb
              clear j3 j8 j9 j11 jb
              refine wp_intro fun K HK => ?_
              unfold Oper.wp
              simp only [execOp, e87, e88]
              go_simp
              exact HK.out _ _ ⟨(), _, rfl, rfl, j3'.out, j8'.out, j9'.out, j11'.out, jb'.out⟩
            · intro _ L w' hL hpre hJ a ha
              obtain ⟨j3, j8, j9, j11, jb⟩ := hJ
              simp [Region.binds] at hpre
              refine .inl ⟨wanted_yes (g := 18) (t := 86) (b := false) rfl rfl (by rw [ha]; exact eval_puts_in (i := 18) rfl (by simp [hpre]) (by simp) rfl), ?_⟩
              exact wp_load_mid 40 (.tmp 3) rfl w.heap.size 0 (by rw [ha, eval_puts_out rfl]; rfl) (x.v) _ (range_blk j3) Try.underlying40 rfl iXx ⟨(), _, rfl, rfl, j3, j8, j9, j11, jb⟩
            · intro _ L w' hL hpre hJ a ha
              obtain ⟨j3, j8, j9, j11, jb⟩ := hJ
              simp [Region.binds] at hpre
              refine .inl ⟨wanted_yes (g := 18) (t := 86) (b := false) rfl rfl (by rw [ha]; exact eval_puts_in (i := 18) rfl (by simp [hpre]) (by simp) rfl), ?_⟩
              exact wp_load_mid 40 (.tmp 8) rfl w1.heap.size 0 (by rw [ha, eval_puts_out rfl]; rfl) (y.v) _ (range_blk j8) Try.underlying40 rfl iY ⟨(), _, rfl, rfl, j3, j8, j9, j11, jb⟩
            · intro _ L w' hL hpre hJ a ha
              obtain ⟨j3, j8, j9, j11, jb⟩ := hJ
              simp [Region.binds] at hpre
              refine .inl ⟨wanted_yes (g := 18) (t := 86) (b := false) rfl rfl (by rw [ha]; exact eval_puts_in (i := 18) rfl (by simp [hpre]) (by simp) rfl), ?_⟩
              have e90 : a.eval (.tmp 90) = .agg (x.v).toArray := by rw [ha]; exact eval_puts_in (i := 22) rfl (by simp [hpre]) (by simp) rfl
              have e91 : a.eval (.tmp 91) = .agg (y.v).toArray := by rw [ha]; exact eval_puts_in (i := 23) rfl (by simp [hpre]) (by simp) rfl
              clear ha
              have qe := HEq.out
              have j3' := Lib.hid j3
              have j8' := Lib.hid j8
              have j9' := Lib.hid j9
              have j11' := Lib.hid j11
              have jb' := Lib.hid jb
              clear j3 j8 j9 j11 jb
              refine wp_intro fun K HK => ?_
              unfold Oper.wp
              simp only [execOp, e90, e91]
              go_simp
              exact HK.out _ _ ⟨(), _, rfl, rfl, j3'.out, j8'.out, j9'.out, j11'.out, jb'.out⟩
            · intro _ L w' hL hpre hJ a ha
              obtain ⟨j3, j8, j9, j11, jb⟩ := hJ
              simp [Region.binds] at hpre
              refine .inl ⟨wanted_yes (g := 18) (t := 86) (b := false) rfl rfl (by rw [ha]; exact eval_puts_in (i := 18) rfl (by simp [hpre]) (by simp) rfl), ?_⟩
              have e89 : a.eval (.tmp 89) = .bool false := by rw [ha]; exact eval_puts_in (i := 21) rfl (by simp [hpre]) (by simp) rfl
              have e92 : a.eval (.tmp 92) = .bool false := by rw [ha]; exact eval_puts_in (i := 24) rfl (by simp [hpre]) (by simp) rfl
              clear ha
              have j3' := Lib.hid j3
              have j8' := Lib.hid j8
              have j9' := Lib.hid j9
              have j11' := Lib.hid j11
              have jb' := Lib.hid jb
              clear j3 j8 j9 j11 jb
              refine wp_intro fun K HK => ?_
              unfold Oper.wp
              simp only [execOp, e89, e92]
              go_simp
              exact HK.out _ _ ⟨(), _, rfl, rfl, j3'.out, j8'.out, j9'.out, j11'.out, jb'.out⟩
            · intro _ L w' hL hpre hJ a ha
              obtain ⟨j3, j8, j9, j11, jb⟩ := hJ
              simp [Region.binds] at hpre
              refine .inl ⟨wanted_yes (g := 11) (t := 79) (b := true) rfl rfl (by rw [ha]; exact eval_puts_in (i := 11) rfl (by simp [hpre]) (by simp) rfl), ?_⟩
              have e86 : a.eval (.tmp 86) = .bool false := by rw [ha]; exact eval_puts_in (i := 18) rfl (by simp [hpre]) (by simp) rfl
              have e93 : a.eval (.tmp 93) = .bool true := by rw [ha]; exact eval_puts_in (i := 25) rfl (by simp [hpre]) (by simp) rfl
              clear ha
              have j3' := Lib.hid j3
              have j8' := Lib.hid j8
              have j9' := Lib.hid j9
              have j11' := Lib.hid j11
              have jb' := Lib.hid jb
              clear j3 j8 j9 j11 jb
              refine wp_intro fun K HK => ?_
              unfold Oper.wp
              simp only [execOp, e86, e93]
              go_simp
              exact HK.out _ _ ⟨(), _, rfl, rfl, j3'.out, j8'.out, j9'.out, j11'.out, jb'.out⟩
            · intro _ L w' hL hpre hJ a ha
              obtain ⟨j3, j8, j9, j11, jb⟩ := hJ
              simp [Region.binds] at hpre
              refine .inl ⟨wanted_none rfl, ?_⟩
              have e79 : a.eval (.tmp 79) = .bool true := by rw [ha]; exact eval_puts_in (i := 11) rfl (by simp [hpre]) (by simp) rfl
              have e94 : a.eval (.tmp 94) = .bool true := by rw [ha]; exact eval_puts_in (i := 26) rfl (by simp [hpre]) (by simp) rfl
              clear ha
              have j3' := Lib.hid j3
              have j8' := Lib.hid j8
              have j9' := Lib.hid j9
              have j11' := Lib.hid j11
              have jb' := Lib.hid jb
              clear j3 j8 j9 j11 jb
              refine wp_intro fun K HK => ?_
              unfold Oper.wp
              simp only [execOp, e79, e94]
              go_simp
              exact HK.out _ _ ⟨(), _, rfl, rfl, j3'.out, j8'.out, j9'.out, j11'.out, jb'.out⟩
            · intro _ L w' hL hpre hJ a ha
              obtain ⟨j3, j8, j9, j11, jb⟩ := hJ
              simp [Region.binds] at hpre
              refine .inl ⟨wanted_none rfl, ?_⟩
              exact wp_move' (.tmp 95) (.inr rfl) (.bool true) (by rw [ha]; exact eval_puts_in (i := 27) rfl (by simp [hpre]) (by simp) rfl) ⟨(), _, rfl, rfl, j3, j8, j9, j11, jb⟩
          · intro _ L w' hL hJ
            obtain ⟨j3, j8, j9, j11, jb⟩ := hJ
            clear hL
            simp only [List.foldl_cons, List.foldl_nil]
            go_simp
            go_wp2_with fail
            go_ret
            exact ⟨rfl, jb⟩
        | true =>
          refine wp_region_puts_g (by kernel_rfl) (by kernel_rfl) (X := Unit) (fun _ => [(some 68, .agg (y.v).toArray), (some 69, .bool true), (some 70, .agg (y.v).toArray), (some 71, .bool true), (some 72, .bool true), (some 73, .bool true), (some 74, .bool true), (some 75, .agg (y.v).toArray), (some 76, .bool true), (some 77, .bool true), (some 78, .bool true), (some 79, .bool true), (some 80, .bool true), (some 81, .bool false), (some 82, .bool false), (some 83, .bool true), (some 84, .bool false), (some 85, .bool false), (some 86, .bool false), (some 87, .agg (nats .u8 px).toArray), (some 88, .agg (nats .u8 py).toArray), (some 89, .bool true), (some 90, .agg (x.v).toArray), (some 91, .agg (y.v).toArray), (some 92, .bool true), (some 93, .bool true), (some 94, .bool true), (some 95, .bool true), (some 6, .bool true)])
            (fun _ L w' => w'.heap[w.heap.size]? = some (.cells (x.v).toArray 40 (0, 0)) ∧ w'.heap[w1.heap.size]? = some (.cells (y.v).toArray 40 (0, 0)) ∧ w'.heap[w5.heap.size]? = some (.cells (nats .u8 px).toArray 42 (0, 0)) ∧ w'.heap[w7.heap.size]? = some (.cells (nats .u8 py).toArray 42 (0, 0)) ∧ Below w.heap.size w w') (fun _ => rfl) (by kernel_rfl) ⟨(), fun _ _ => ⟨h3_w8, h8_w8, h9_w8, h11_w8, hb_w8.drew⟩⟩ ?_ ?_
          · refine ⟨?_, ?_, ?_, ?_, ?_, ?_, ?_, ?_, ?_, ?_, ?_, ?_, ?_, ?_, ?_, ?_, ?_, ?_, ?_, ?_, ?_, ?_, ?_, ?_, ?_, ?_, ?_, ?_, ?_, trivial⟩
            · intro _ L w' hL hpre hJ a ha
              obtain ⟨j3, j8, j9, j11, jb⟩ := hJ
              simp [Region.binds] at hpre
              refine .inl ⟨wanted_none rfl, ?_⟩
              exact wp_load_mid 40 (.tmp 8) rfl w1.heap.size 0 (by rw [ha, eval_puts_out rfl]; rfl) (y.v) _ (range_blk j8) Try.underlying40 rfl iY ⟨(), _, rfl, rfl, j3, j8, j9, j11, jb⟩
            · intro _ L w' hL hpre hJ a ha
              obtain ⟨j3, j8, j9, j11, jb⟩ := hJ
              simp [Region.binds] at hpre
              refine .inl ⟨wanted_none rfl, ?_⟩
              have e68 : a.eval (.tmp 68) = .agg (y.v).toArray := by rw [ha]; exact eval_puts_in (i := 0) rfl (by simp [hpre]) (by simp) rfl
              clear ha
              have j3' := Lib.hid j3
              have j8' := Lib.hid j8
              have j9' := Lib.hid j9
              have j11' := Lib.hid j11
              have jb' := Lib.hid jb
              clear j3 j8 j9 j11 jb
              refine wp_intro fun K HK => ?_
              unfold Oper.wp
              simp only [execOp, resolve, List.map_toArray, List.map_cons, List.map_nil, e68]
              go_simp
              refine (HMY.out w').mono ?_
              rintro e w'' ⟨rfl, hb⟩
              exact HK.out _ _ ⟨(), _, rfl, rfl, blk_below j3'.out hb, blk_below j8'.out hb, blk_below j9'.out hb, blk_below j11'.out hb, jb'.out.trans (hb.mono jb'.out.size)⟩
            · intro _ L w' hL hpre hJ a ha
              obtain ⟨j3, j8, j9, j11, jb⟩ := hJ
              simp [Region.binds] at hpre
              refine .inl ⟨wanted_none rfl, ?_⟩
              exact wp_load_mid 40 (.tmp 8) rfl w1.heap.size 0 (by rw [ha, eval_puts_out rfl]; rfl) (y.v) _ (range_blk j8) Try.underlying40 rfl iY ⟨(), _, rfl, rfl, j3, j8, j9, j11, jb⟩
            · intro _ L w' hL hpre hJ a ha
              obtain ⟨j3, j8, j9, j11, jb⟩ := hJ
              simp [Region.binds] at hpre
              refine .inl ⟨wanted_none rfl, ?_⟩
              have e70 : a.eval (.tmp 70) = .agg (y.v).toArray := by rw [ha]; exact eval_puts_in (i := 2) rfl (by simp [hpre]) (by simp) rfl
              clear ha
              have j3' := Lib.hid j3
              have j8' := Lib.hid j8
              have j9' := Lib.hid j9
              have j11' := Lib.hid j11
              have jb' := Lib.hid jb
              clear j3 j8 j9 j11 jb
              refine wp_intro fun K HK => ?_
              unfold Oper.wp
              simp only [execOp, resolve, List.map_toArray, List.map_cons, List.map_nil, e70]
              go_simp
              refine (HRY.out w').mono ?_
              rintro e w'' ⟨rfl, hb⟩
              exact HK.out _ _ ⟨(), _, rfl, rfl, blk_below j3'.out hb, blk_below j8'.out hb, blk_below j9'.out hb, blk_below j11'.out hb, jb'.out.trans (hb.mono jb'.out.size)⟩
            · intro _ L w' hL hpre hJ a ha
              obtain ⟨j3, j8, j9, j11, jb⟩ := hJ
              simp [Region.binds] at hpre
              refine .inl ⟨wanted_none rfl, ?_⟩
              have e69 : a.eval (.tmp 69) = .bool true := by rw [ha]; exact eval_puts_in (i := 1) rfl (by simp [hpre]) (by simp) rfl
              have e71 : a.eval (.tmp 71) = .bool true := by rw [ha]; exact eval_puts_in (i := 3) rfl (by simp [hpre]) (by simp) rfl
              clear ha
              have j3' := Lib.hid j3
              have j8' := Lib.hid j8
              have j9' := Lib.hid j9
              have j11' := Lib.hid j11
              have jb' := Lib.hid jb
              clear j3 j8 j9 j11 jb
              refine wp_intro fun K HK => ?_
              unfold Oper.wp
              simp only [execOp, e69, e71]
              go_simp
              exact HK.out _ _ ⟨(), _, rfl, rfl, j3'.out, j8'.out, j9'.out, j11'.out, jb'.out⟩
            · intro _ L w' hL hpre hJ a ha
              obtain ⟨j3, j8, j9, j11, jb⟩ := hJ
              simp [Region.binds] at hpre
              refine .inl ⟨wanted_none rfl, ?_⟩
              exact wp_move' (.tmp 72) (.inl rfl) (.bool true) (by rw [ha]; exact eval_puts_in (i := 4) rfl (by simp [hpre]) (by simp) rfl) ⟨(), _, rfl, rfl, j3, j8, j9, j11, jb⟩
            · intro _ L w' hL hpre hJ a ha
              obtain ⟨j3, j8, j9, j11, jb⟩ := hJ
              simp [Region.binds] at hpre
              refine .inl ⟨wanted_yes (g := 5) (t := 73) (b := true) rfl rfl (by rw [ha]; exact eval_puts_in (i := 5) rfl (by simp [hpre]) (by simp) rfl), ?_⟩
              exact wp_move' (.tmp 12) (.inl rfl) (.bool true) (by rw [ha, eval_puts_out rfl]; rfl) ⟨(), _, rfl, rfl, j3, j8, j9, j11, jb⟩
            · intro _ L w' hL hpre hJ a ha
              obtain ⟨j3, j8, j9, j11, jb⟩ := hJ
              simp [Region.binds] at hpre
              refine .inl ⟨wanted_yes (g := 5) (t := 73) (b := true) rfl rfl (by rw [ha]; exact eval_puts_in (i := 5) rfl (by simp [hpre]) (by simp) rfl), ?_⟩
              exact wp_load_mid 40 (.tmp 8) rfl w1.heap.size 0 (by rw [ha, eval_puts_out rfl]; rfl) (y.v) _ (range_blk j8) Try.underlying40 rfl iY ⟨(), _, rfl, rfl, j3, j8, j9, j11, jb⟩
            · intro _ L w' hL hpre hJ a ha
              obtain ⟨j3, j8, j9, j11, jb⟩ := hJ
              simp [Region.binds] at hpre
              refine .inl ⟨wanted_yes (g := 5) (t := 73) (b := true) rfl rfl (by rw [ha]; exact eval_puts_in (i := 5) rfl (by simp [hpre]) (by simp) rfl), ?_⟩
              have e75 : a.eval (.tmp 75) = .agg (y.v).toArray := by rw [ha]; exact eval_puts_in (i := 7) rfl (by simp [hpre]) (by simp) rfl
              clear ha
              have j3' := Lib.hid j3
              have j8' := Lib.hid j8
              have j9' := Lib.hid j9
              have j11' := Lib.hid j11
              have jb' := Lib.hid jb
              clear j3 j8 j9 j11 jb
              refine wp_intro fun K HK => ?_
              unfold Oper.wp
              simp only [execOp, resolve, List.map_toArray, List.map_cons, List.map_nil, e75]
              go_simp
              refine (HRY.out w').mono ?_
              rintro e w'' ⟨rfl, hb⟩
              exact HK.out _ _ ⟨(), _, rfl, rfl, blk_below j3'.out hb, blk_below j8'.out hb, blk_below j9'.out hb, blk_below j11'.out hb, jb'.out.trans (hb.mono jb'.out.size)⟩
            · intro _ L w' hL hpre hJ a ha
              obtain ⟨j3, j8, j9, j11, jb⟩ := hJ
              simp [Region.binds] at hpre
              refine .inl ⟨wanted_yes (g := 5) (t := 73) (b := true) rfl rfl (by rw [ha]; exact eval_puts_in (i := 5) rfl (by simp [hpre]) (by simp) rfl), ?_⟩
              have e74 : a.eval (.tmp 74) = .bool true := by rw [ha]; exact eval_puts_in (i := 6) rfl (by simp [hpre]) (by simp) rfl
              have e76 : a.eval (.tmp 76) = .bool true := by rw [ha]; exact eval_puts_in (i := 8) rfl (by simp [hpre]) (by simp) rfl
              clear ha
              have j3' := Lib.hid j3
              have j8' := Lib.hid j8
              have j9' := Lib.hid j9
              have j11' := Lib.hid j11
              have jb' := Lib.hid jb
              clear j3 j8 j9 j11 jb
              refine wp_intro fun K HK => ?_
              unfold Oper.wp
              simp only [execOp, e74, e76]
              go_simp
              exact HK.out _ _ ⟨(), _, rfl, rfl, j3'.out, j8'.out, j9'.out, j11'.out, jb'.out⟩
            · intro _ L w' hL hpre hJ a ha
              obtain ⟨j3, j8, j9, j11, jb⟩ := hJ
              simp [Region.binds] at hpre
              refine .inl ⟨wanted_none rfl, ?_⟩
              have e73 : a.eval (.tmp 73) = .bool true := by rw [ha]; exact eval_puts_in (i := 5) rfl (by simp [hpre]) (by simp) rfl
              have e77 : a.eval (.tmp 77) = .bool true := by rw [ha]; exact eval_puts_in (i := 9) rfl (by simp [hpre]) (by simp) rfl
              clear ha
              have j3' := Lib.hid j3
              have j8' := Lib.hid j8
              have j9' := Lib.hid j9
              have j11' := Lib.hid j11
              have jb' := Lib.hid jb
              clear j3 j8 j9 j11 jb
              refine wp_intro fun K HK => ?_
              unfold Oper.wp
              simp only [execOp, e73, e77]
              go_simp
              exact HK.out _ _ ⟨(), _, rfl, rfl, j3'.out, j8'.out, j9'.out, j11'.out, jb'.out⟩
            · intro _ L w' hL hpre hJ a ha
              obtain ⟨j3, j8, j9, j11, jb⟩ := hJ
              simp [Region.binds] at hpre
              refine .inl ⟨wanted_none rfl, ?_⟩
              exact wp_move' (.tmp 78) (.inl rfl) (.bool true) (by rw [ha]; exact eval_puts_in (i := 10) rfl (by simp [hpre]) (by simp) rfl) ⟨(), _, rfl, rfl, j3, j8, j9, j11, jb⟩
            · intro _ L w' hL hpre hJ a ha
              obtain ⟨j3, j8, j9, j11, jb⟩ := hJ
              simp [Region.binds] at hpre
              refine .inl ⟨wanted_yes (g := 11) (t := 79) (b := true) rfl rfl (by rw [ha]; exact eval_puts_in (i := 11) rfl (by simp [hpre]) (by simp) rfl), ?_⟩
              exact wp_move' (.tmp 10) (.inl rfl) (.bool true) (by rw [ha, eval_puts_out rfl]; rfl) ⟨(), _, rfl, rfl, j3, j8, j9, j11, jb⟩
            · intro _ L w' hL hpre hJ a ha
              obtain ⟨j3, j8, j9, j11, jb⟩ := hJ
              simp [Region.binds] at hpre
              refine .inl ⟨wanted_yes (g := 11) (t := 79) (b := true) rfl rfl (by rw [ha]; exact eval_puts_in (i := 11) rfl (by simp [hpre]) (by simp) rfl), ?_⟩
              have e80 : a.eval (.tmp 80) = .bool true := by rw [ha]; exact eval_puts_in (i := 12) rfl (by simp [hpre]) (by simp) rfl
              clear ha
              have j3' := Lib.hid j3
              have j8' := Lib.hid j8
              have j9' := Lib.hid j9
              have j11' := Lib.hid j11
              have jb' := Lib.hid jb
              clear j3 j8 j9 j11 jb
              refine wp_intro fun K HK => ?_
              unfold Oper.wp
              simp only [execOp, e80]
              go_simp
              exact HK.out _ _ ⟨(), _, rfl, rfl, j3'.out, j8'.out, j9'.out, j11'.out, jb'.out⟩
            · intro _ L w' hL hpre hJ a ha
              obtain ⟨j3, j8, j9, j11, jb⟩ := hJ
              simp [Region.binds] at hpre
              refine .inl ⟨wanted_yes (g := 11) (t := 79) (b := true) rfl rfl (by rw [ha]; exact eval_puts_in (i := 11) rfl (by simp [hpre]) (by simp) rfl), ?_⟩
              exact wp_move' (.tmp 81) (.inl rfl) (.bool false) (by rw [ha]; exact eval_puts_in (i := 13) rfl (by simp [hpre]) (by simp) rfl) ⟨(), _, rfl, rfl, j3, j8, j9, j11, jb⟩
            · intro _ L w' hL hpre hJ a ha
              obtain ⟨j3, j8, j9, j11, jb⟩ := hJ
              simp [Region.binds] at hpre
              refine .inl ⟨wanted_yes (g := 14) (t := 82) (b := false) rfl rfl (by rw [ha]; exact eval_puts_in (i := 14) rfl (by simp [hpre]) (by simp) rfl), ?_⟩
              exact wp_move' (.tmp 12) (.inl rfl) (.bool true) (by rw [ha, eval_puts_out rfl]; rfl) ⟨(), _, rfl, rfl, j3, j8, j9, j11, jb⟩
            · intro _ L w' hL hpre hJ a ha
              obtain ⟨j3, j8, j9, j11, jb⟩ := hJ
              simp [Region.binds] at hpre
              refine .inl ⟨wanted_yes (g := 14) (t := 82) (b := false) rfl rfl (by rw [ha]; exact eval_puts_in (i := 14) rfl (by simp [hpre]) (by simp) rfl), ?_⟩
              have e83 : a.eval (.tmp 83) = .bool true := by rw [ha]; exact eval_puts_in (i := 15) rfl (by simp [hpre]) (by simp) rfl
              clear ha
              have j3' := Lib.hid j3
              have j8' := Lib.hid j8
              have j9' := Lib.hid j9
              have j11' := Lib.hid j11
              have jb' := Lib.hid jb
              clear j3 j8 j9 j11 jb
              refine wp_intro fun K HK => ?_
              unfold Oper.wp
              simp only [execOp, e83]
              go_simp
              exact HK.out _ _ ⟨(), _, rfl, rfl, j3'.out, j8'.out, j9'.out, j11'.out, jb'.out⟩
            · intro _ L w' hL hpre hJ a ha
              obtain ⟨j3, j8, j9, j11, jb⟩ := hJ
              simp [Region.binds] at hpre
              refine .inl ⟨wanted_yes (g := 11) (t := 79) (b := true) rfl rfl (by rw [ha]; exact eval_puts_in (i := 11) rfl (by simp [hpre]) (by simp) rfl), ?_⟩
              have e82 : a.eval (.tmp 82) = .bool false := by rw [ha]; exact eval_puts_in (i := 14) rfl (by simp [hpre]) (by simp) rfl
              have e84 : a.eval (.tmp 84) = .bool false := by rw [ha]; exact eval_puts_in (i := 16) rfl (by simp [hpre]) (by simp) rfl
              clear ha
              have j3' := Lib.hid j3
              have j8' := Lib.hid j8
              have j9' := Lib.hid j9
              have j11' := Lib.hid j11
              have jb' := Lib.hid jb
              clear j3 j8 j9 j11 jb
              refine wp_intro fun K HK => ?_
              unfold Oper.wp
              simp only [execOp, e82, e84]
              go_simp
              exact HK.out _ _ ⟨(), _, rfl, rfl, j3'.out, j8'.out, j9'.out, j11'.out, jb'.out⟩
            · intro _ L w' hL hpre hJ a ha
              obtain ⟨j3, j8, j9, j11, jb⟩ := hJ
              simp [Region.binds] at hpre
              refine .inl ⟨wanted_yes (g := 11) (t := 79) (b := true) rfl rfl (by rw [ha]; exact eval_puts_in (i := 11) rfl (by simp [hpre]) (by simp) rfl), ?_⟩
              exact wp_move' (.tmp 85) (.inl rfl) (.bool false) (by rw [ha]; exact eval_puts_in (i := 17) rfl (by simp [hpre]) (by simp) rfl) ⟨(), _, rfl, rfl, j3, j8, j9, j11, jb⟩
            · intro _ L w' hL hpre hJ a ha
              obtain ⟨j3, j8, j9, j11, jb⟩ := hJ
              simp [Region.binds] at hpre
              refine .inl ⟨wanted_yes (g := 18) (t := 86) (b := false) rfl rfl (by rw [ha]; exact eval_puts_in (i := 18) rfl (by simp [hpre]) (by simp) rfl), ?_⟩
              exact wp_load_mid 42 (.tmp 9) rfl w5.heap.size 0 (by rw [ha, eval_puts_out rfl]; rfl) (nats .u8 px) _ (range_blk j9) Try.underlying42 rfl iPX ⟨(), _, rfl, rfl, j3, j8, j9, j11, jb⟩
            · intro _ L w' hL hpre hJ a ha
              obtain ⟨j3, j8, j9, j11, jb⟩ := hJ
              simp [Region.binds] at hpre
              refine .inl ⟨wanted_yes (g := 18) (t := 86) (b := false) rfl rfl (by rw [ha]; exact eval_puts_in (i := 18) rfl (by simp [hpre]) (by simp) rfl), ?_⟩
              exact wp_load_mid 42 (.tmp 11) rfl w7.heap.size 0 (by rw [ha, eval_puts_out rfl]; rfl) (nats .u8 py) _ (range_blk j11) Try.underlying42 rfl iPY ⟨(), _, rfl, rfl, j3, j8, j9, j11, jb⟩
            · intro _ L w' hL hpre hJ a ha
              obtain ⟨j3, j8, j9, j11, jb⟩ := hJ
              simp [Region.binds] at hpre
              refine .inl ⟨wanted_yes (g := 18) (t := 86) (b := false) rfl rfl (by rw [ha]; exact eval_puts_in (i := 18) rfl (by simp [hpre]) (by simp) rfl), ?_⟩
              have e87 : a.eval (.tmp 87) = .agg (nats .u8 px).toArray := by rw [ha]; exact eval_puts_in (i := 19) rfl (by simp [hpre]) (by simp) rfl
              have e88 : a.eval (.tmp 88) = .agg (nats .u8 py).toArray := by rw [ha]; exact eval_puts_in (i := 20) rfl (by simp [hpre]) (by simp) rfl
              clear ha
              have qp := HQP.out
              have j3' := Lib.hid j3
              have j8' := Lib.hid j8
              have j9' := Lib.hid j9
              have j11' := Lib.hid j11
              have jb' := Lib.hid jb
              clear j3 j8 j9 j11 jb
              refine wp_intro fun K HK => ?_
              unfold Oper.wp
              simp only [execOp, e87, e88]
              go_simp
              exact HK.out _ _ ⟨(), _, rfl, rfl, j3'.out, j8'.out, j9'.out, j11'.out, jb'.out⟩
            · intro _ L w' hL hpre hJ a ha
              obtain ⟨j3, j8, j9, j11, jb⟩ := hJ
              simp [Region.binds] at hpre
              refine .inl ⟨wanted_yes (g := 18) (t := 86) (b := false) rfl rfl (by rw [ha]; exact eval_puts_in (i := 18) rfl (by simp [hpre]) (by simp) rfl), ?_⟩
              exact wp_load_mid 40 (.tmp 3) rfl w.heap.size 0 (by rw [ha, eval_puts_out rfl]; rfl) (x.v) _ (range_blk j3) Try.underlying40 rfl iXx ⟨(), _, rfl, rfl, j3, j8, j9, j11, jb⟩
            · intro _ L w' hL hpre hJ a ha
              obtain ⟨j3, j8, j9, j11, jb⟩ := hJ
              simp [Region.binds] at hpre
              refine .inl ⟨wanted_yes (g := 18) (t := 86) (b := false) rfl rfl (by rw [ha]; exact eval_puts_in (i := 18) rfl (by simp [hpre]) (by simp) rfl), ?_⟩
              exact wp_load_mid 40 (.tmp 8) rfl w1.heap.size 0 (by rw [ha, eval_puts_out rfl]; rfl) (y.v) _ (range_blk j8) Try.underlying40 rfl iY ⟨(), _, rfl, rfl, j3, j8, j9, j11, jb⟩
            · intro _ L w' hL hpre hJ a ha
              obtain ⟨j3, j8, j9, j11, jb⟩ := hJ
              simp [Region.binds] at hpre
              refine .inl ⟨wanted_yes (g := 18) (t := 86) (b := false) rfl rfl (by rw [ha]; exact eval_puts_in (i := 18) rfl (by simp [hpre]) (by simp) rfl), ?_⟩
              have e90 : a.eval (.tmp 90) = .agg (x.v).toArray := by rw [ha]; exact eval_puts_in (i := 22) rfl (by simp [hpre]) (by simp) rfl
              have e91 : a.eval (.tmp 91) = .agg (y.v).toArray := by rw [ha]; exact eval_puts_in (i := 23) rfl (by simp [hpre]) (by simp) rfl
              clear ha
              have qe := HEq.out
              have j3' := Lib.hid j3
              have j8' := Lib.hid j8
              have j9' := Lib.hid j9
              have j11' := Lib.hid j11
              have jb' := Lib.hid jb
              clear j3 j8 j9 j11 jb
              refine wp_intro fun K HK => ?_
              unfold Oper.wp
              simp only [execOp, e90, e91]
              go_simp
              exact HK.out _ _ ⟨(), _, rfl, rfl, j3'.out, j8'.out, j9'.out, j11'.out, jb'.out⟩
            · intro _ L w' hL hpre hJ a ha
              obtain ⟨j3, j8, j9, j11, jb⟩ := hJ
              simp [Region.binds] at hpre
              refine .inl ⟨wanted_yes (g := 18) (t := 86) (b := false) rfl rfl (by rw [ha]; exact eval_puts_in (i := 18) rfl (by simp [hpre]) (by simp) rfl), ?_⟩
              have e89 : a.eval (.tmp 89) = .bool true := by rw [ha]; exact eval_puts_in (i := 21) rfl (by simp [hpre]) (by simp) rfl
              have e92 : a.eval (.tmp 92) = .bool true := by rw [ha]; exact eval_puts_in (i := 24) rfl (by simp [hpre]) (by simp) rfl
              clear ha
              have j3' := Lib.hid j3
              have j8' := Lib.hid j8
              have j9' := Lib.hid j9
              have j11' := Lib.hid j11
              have jb' := Lib.hid jb
              clear j3 j8 j9 j11 jb
              refine wp_intro fun K HK => ?_
              unfold Oper.wp
              simp only [execOp, e89, e92]
              go_simp
              exact HK.out _ _ ⟨(), _, rfl, rfl, j3'.out, j8'.out, j9'.out, j11'.out, jb'.out⟩
            · intro _ L w' hL hpre hJ a ha
              obtain ⟨j3, j8, j9, j11, jb⟩ := hJ
              simp [Region.binds] at hpre
              refine .inl ⟨wanted_yes (g := 11) (t := 79) (b := true) rfl rfl (by rw [ha]; exact eval_puts_in (i := 11) rfl (by simp [hpre]) (by simp) rfl), ?_⟩
              have e86 : a.eval (.tmp 86) = .bool false := by rw [ha]; exact eval_puts_in (i := 18) rfl (by simp [hpre]) (by simp) rfl
              have e93 : a.eval (.tmp 93) = .bool true := by rw [ha]; exact eval_puts_in (i := 25) rfl (by simp [hpre]) (by simp) rfl
              clear ha
              have j3' := Lib.hid j3
              have j8' := Lib.hid j8
              have j9' := Lib.hid j9
              have j11' := Lib.hid j11
              have jb' := Lib.hid jb
              clear j3 j8 j9 j11 jb
              refine wp_intro fun K HK => ?_
              unfold Oper.wp
              simp only [execOp, e86, e93]
              go_simp
              exact HK.out _ _ ⟨(), _, rfl, rfl, j3'.out, j8'.out, j9'.out, j11'.out, jb'.out⟩
            · intro _ L w' hL hpre hJ a ha
              obtain ⟨j3, j8, j9, j11, jb⟩ := hJ
              simp [Region.binds] at hpre
              refine .inl ⟨wanted_none rfl, ?_⟩
              have e79 : a.eval (.tmp 79) = .bool true := by rw [ha]; exact eval_puts_in (i := 11) rfl (by simp [hpre]) (by simp) rfl
              have e94 : a.eval (.tmp 94) = .bool true := by rw [ha]; exact eval_puts_in (i := 26) rfl (by simp [hpre]) (by simp) rfl
              clear ha
              have j3' := Lib.hid j3
              have j8' := Lib.hid j8
              have j9' := Lib.hid j9
              have j11' := Lib.hid j11
              have jb' := Lib.hid jb
              clear j3 j8 j9 j11 jb
              refine wp_intro fun K HK => ?_
              unfold Oper.wp
              simp only [execOp, e79, e94]
              go_simp
              exact HK.out _ _ ⟨(), _, rfl, rfl, j3'.out, j8'.out, j9'.out, j11'.out, jb'.out⟩
            · intro _ L w' hL hpre hJ a ha
              obtain ⟨j3, j8, j9, j11, jb⟩ := hJ
              simp [Region.binds] at hpre
              refine .inl ⟨wanted_none rfl, ?_⟩
              exact wp_move' (.tmp 95) (.inr rfl) (.bool true) (by rw [ha]; exact eval_puts_in (i := 27) rfl (by simp [hpre]) (by simp) rfl) ⟨(), _, rfl, rfl, j3, j8, j9, j11, jb⟩
          · intro _ L w' hL hJ
            obtain ⟨j3, j8, j9, j11, jb⟩ := hJ
            clear hL
            simp only [List.foldl_cons, List.foldl_nil]
            go_simp
            go_wp2_with fail
            go_ret
            exact ⟨rfl, jb⟩

end Go.Proofs.Ytakekjbbbjmdpaa.sherdTurn
