import Derived.Test.YtakekjbbbjmdpaaTornLaw
import Derived.Test.YtakekjbbbjmdpaaTells
/- SherdAny: the walk. -/
namespace Go.Proofs.Ytakekjbbbjmdpaa.sherdAny
open Go.RowKit
set_option linter.unusedVariables false
set_option maxRecDepth 100000 in
set_option maxHeartbeats 8000000 in
theorem walk (ps : List Value) (cs : List Value) (at_ v : Int) (w : World) (w0 : okAll (List.replicate 32 (Kd.int .u8)) ps = true) (w1 : okAll (List.replicate 16 (Kd.int .u8) ++ List.replicate 7 (Kd.int .i64)) cs = true) (w2 : (Lit.int .i64 at_).wf = true) (w3 : (Lit.int .u8 v).wf = true) :
    Calls Try.prog 8 #[.agg ps.toArray, .agg cs.toArray, .int .i64 at_, .int .u8 v] w fun e w' => e = .returned (.bool true) ∧ Below w.heap.size w w' := by
  obtain ⟨p, rfl, lp, bp⟩ := open_bytes w0
  obtain ⟨x, rfl, hx, hwx⟩ := open_sh w1
  obtain ⟨v0, v1⟩ := wf_u8 w3
  obtain ⟨V, rfl⟩ := Int.eq_ofNat_of_zero_le v0
  have hV : V < 256 := by omega
  obtain ⟨t0, t1⟩ := wf_i64 w2
  have iX := shInfo x.d hx.1 x.r x.l x.s x.k x.b x.o x.m
  have iP := pgInfo lp
  have PX : ∀ w, Calls Try.prog 36 #[.agg x.v.toArray] w fun e w' => e = .returned (.tuple #[.agg (nats .u8 (putP x.d x.r x.l x.s x.k x.b x.o x.m)).toArray, .bool x.may]) ∧ Below w.heap.size w w' := fun w => put_sherd x.d x.r x.l x.s x.k x.b x.o x.m w hx.1 hx.2
  have TP : ∀ w, Calls Try.prog 41 #[.agg (nats .u8 p).toArray] w fun e w' => e = .returned (.bool true) ∧ Below w.heap.size w w' := fun w => tells_any p w lp bp
  have TB := fun (mx : x.may = true) (j : Nat) (hj : j < 32) => getB_turned hx mx j V hj hV
  obtain ⟨LX, BX⟩ := putP_ok hx
  have h0 := heap_at1 w (.cells (nats .u8 p).toArray 42) (.cells x.v.toArray 40)
  have h1 := heap_new' (w.alloc (.cells (nats .u8 p).toArray 42)) (.cells x.v.toArray 40) (w.heap.size + 1) (by simp)
  have hbel := below2 w (.cells (nats .u8 p).toArray 42) (.cells x.v.toArray 40)
  clear w0 w1 w2 w3 hx hwx lp bp v0 v1
  generalize putP x.d x.r x.l x.s x.k x.b x.o x.m = px at *
  have iPX := pgInfo LX
  have HLX := Lib.hid LX
  have HBX := Lib.hid BX
  generalize x.may = mx at *
  have HPX := Lib.hid PX
  have HTP := Lib.hid TP
  have HTB := Lib.hid TB
  clear PX TP TB BX LX
  go_enter Try.func8, Try.ntmps8
  go_upto_region 1 with fail
  generalize (w.alloc (.cells (nats .u8 p).toArray 42)).alloc (.cells x.v.toArray 40) = wa at *
  go_wp2_with fail
  refine (begun9_any _).mono ?_
  rintro e w1 ⟨rfl, hb⟩
  have hP := blk_below h0 hb
  have hA := blk_below h1 hb
  have hb_w1 := hbel.trans (hb.mono hbel.size)
  clear hb hbel h0 h1
  go_wp2_with (first | (refine wpList_load_mid rfl 40 (.tmp 5) rfl (w.heap.size + 1) 0 rfl _ _ (range_blk hA) Try.underlying40 rfl iX ?_))
  refine (HPX.out _).mono ?_
  rintro e w5 ⟨rfl, hb⟩
  have hP_w5 := blk_below hP hb
  have hA_w5 := blk_below hA hb
  have hb_w5 := hb_w1.trans (hb.mono hb_w1.size)
  clear hb hb_w1 hP hA
  have NEP := lt_of_cells hP_w5
  go_wp2_with (first | (refine wpList_put_row rfl 42 (.tmp 10) (.tmp 20) rfl w5.heap.size (nats .u8 px) rfl rfl 42 _ (heap_new' w5 _ _ rfl) iPX (by rw [nats_length, HLX.out]; rfl) (one_nats _ _) ?_; intro w6 hUw6; have hq_w6 := hUw6.at_; have hP_w6 := hUw6.old (blk_alloc hP_w5 _) (show w.heap.size ≠ w5.heap.size by have := lt_of_cells hP_w5; omega); have hA_w6 := hUw6.old (blk_alloc hA_w5 _) (show (w.heap.size + 1) ≠ w5.heap.size by have := lt_of_cells hA_w5; omega); have hb_w6 := hUw6.below (hb_w5.alloc hb_w5.size _) hb_w5.size; clear hb_w5 hP_w5 hA_w5 hUw6) | (refine wpList_load_mid rfl 42 (.tmp 4) rfl w.heap.size 0 rfl _ _ (range_blk hP_w6) Try.underlying42 rfl iP ?_))
  refine (HTP.out _).mono ?_
  rintro e w7 ⟨rfl, hb⟩
  have hP_w7 := blk_below hP_w6 hb
  have hA_w7 := blk_below hA_w6 hb
  have hq_w7 := blk_below hq_w6 hb
  have hb_w7 := hb_w6.trans (hb.mono hb_w6.size)
  clear hb hb_w6 hP_w6 hA_w6 hq_w6
  cases mx with
  | false =>
    go_wp2_with (first | (refine wpList_load_mid rfl 42 (.tmp 4) rfl w.heap.size 0 rfl _ _ (range_blk hP_w7) Try.underlying42 rfl iP ?_))
    refine (HTP.out _).mono ?_
    rintro e w8 ⟨rfl, hb⟩
    have hP_w8 := blk_below hP_w7 hb
    have hA_w8 := blk_below hA_w7 hb
    have hq_w8 := blk_below hq_w7 hb
    have hb_w8 := hb_w7.trans (hb.mono hb_w7.size)
    clear hb hb_w7 hP_w7 hA_w7 hq_w7
    go_wp2_with fail
    go_ret
    exact ⟨rfl, hb_w8⟩
  | true =>
    by_cases ha : at_ < 0
    · go_wp2_with (first | (refine wpList_load_mid rfl 42 (.tmp 4) rfl w.heap.size 0 rfl _ _ (range_blk hP_w7) Try.underlying42 rfl iP ?_))
      refine (HTP.out _).mono ?_
      rintro e w8 ⟨rfl, hb⟩
      have hP_w8 := blk_below hP_w7 hb
      have hA_w8 := blk_below hA_w7 hb
      have hq_w8 := blk_below hq_w7 hb
      have hb_w8 := hb_w7.trans (hb.mono hb_w7.size)
      clear hb hb_w7 hP_w7 hA_w7 hq_w7
      go_wp2_with fail
      go_ret
      exact ⟨rfl, hb_w8⟩
    · obtain ⟨N, rfl⟩ := Int.eq_ofNat_of_zero_le (show 0 ≤ at_ by omega)
      have em : (N : Int).tmod 32 = ((N % 32 : Nat) : Int) := by rw [Int.tmod_eq_emod_of_nonneg (by omega)]; omega
      have hJ : N % 32 < 32 := Nat.mod_lt _ (by decide)
      have hGB := HTB.out rfl (N % 32) hJ
      generalize N % 32 = J at *
      have gpx : px.getD J 0 < 256 := getD_lt' px HBX.out J
      have hc : w7.cell? ⟨w5.heap.size, J, none⟩ = some (.int .u8 ((px.getD J 0 : Nat) : Int)) := by rw [blk_cell hq_w7, List.getElem?_toArray, nats_at .u8 px J (by rw [HLX.out]; exact hJ), List.getD_eq_getElem?_getD, List.getElem?_eq_getElem (by rw [HLX.out]; exact hJ)]; rfl
      have ff := blk_frozen hq_w7 J
      generalize px.getD J 0 = z at *
      have hxor : bits .xor .u8 (z : Int) (V : Int) = ((z ^^^ V : Nat) : Int) := u8_xor _ _ gpx hV
      have hy : z ^^^ V < 256 := Nat.xor_lt_two_pow (n := 8) gpx hV
      generalize z ^^^ V = Y at *
      have U := upd_setCell (i := J) hq_w7 (.int .u8 (Y : Int))
      have hset : (nats .u8 px).set J (.int .u8 (Y : Int)) = nats .u8 (px.set J Y) := by simp only [nats, List.map_set]
      have lq : (px.set J Y).length = 32 := by rw [List.length_set]; exact HLX.out
      have bq : ∀ z ∈ px.set J Y, z < 256 := fun z hz => (List.mem_or_eq_of_mem_set hz).elim (HBX.out z) (fun h => by rw [h]; exact hy)
      have kq := U.at_
      rw [hset] at kq
      have kb := U.below hb_w7 (Nat.le_of_lt NEP)
      have HU := Lib.hid (And.intro kq kb)
      obtain ⟨x2, ex, hx2, hwx2⟩ := getV_sh lq bq
      have GQ := fun w => get_sherd (px.set J Y) w lq bq
      have TQ := fun w => tells_any (px.set J Y) w lq bq
      have iQ := pgInfo lq
      have iX2 := shInfo x2.d hx2.1 x2.r x2.l x2.s x2.k x2.b x2.o x2.m
      have iX2l := Lib.hid (shV_length hx2.1 x2.r x2.l x2.s x2.k x2.b x2.o x2.m)
      have e1 : getE (px.set J Y) = if V == 0 then 0 else 1 := by unfold getE; rw [hGB]
      simp only [ex] at GQ
      generalize getE (px.set J Y) = ge at *
      generalize px.set J Y = qq at *
      have HGQ := Lib.hid GQ
      have HTQ := Lib.hid TQ
      have HE := Lib.hid e1
      clear GQ TQ e1 ex hx2 hwx2 lq bq hset U kq kb hGB hy gpx
      have hJ2 : (J : Int) < 32 := by omega
      go_upto_region 8 with fail
      generalize w7.setCell ⟨w5.heap.size, J, none⟩ (.int .u8 (Y : Int)) = w9 at *
      obtain ⟨hq_w9, hb_w9⟩ := HU.out
      clear HU hc ff hxor hb_w7 hP_w7 hA_w7 hq_w7
      go_wp2_with (first | (refine wpList_load_mid rfl 42 (.tmp 10) rfl w5.heap.size 0 rfl _ _ (range_blk hq_w9) Try.underlying42 rfl iQ ?_))
      refine (HGQ.out _).mono ?_
      rintro e w21 ⟨rfl, hb⟩
      have hq_w21 := blk_below hq_w9 hb
      have hb_w21 := hb_w9.trans (hb.mono hb_w9.size)
      clear hb hb_w9 hq_w9
      by_cases hv : V = 0
      · subst hv
        obtain rfl : ge = 0 := HE.out
        go_wp2_with (first | (refine wpList_put_row rfl 40 (.tmp 12) (.tmp 45) rfl w21.heap.size x2.v rfl rfl 40 _ (heap_new' w21 _ _ rfl) iX2 (by rw [Sh.v, iX2l.out]; rfl) (one_shV _ _ _ _ _ _ _ _) ?_; intro w22 hUw22; have hs_w22 := hUw22.at_; have hq_w22 := hUw22.old (blk_alloc hq_w21 _) (show w5.heap.size ≠ w21.heap.size by have := lt_of_cells hq_w21; omega); have hb_w22 := hUw22.below (hb_w21.alloc hb_w21.size _) hb_w21.size; clear hb_w21 hq_w21 hUw22) | (refine wpList_want_any 42 (.tmp 10) rfl w5.heap.size 0 rfl rfl _ _ (range_blk hq_w22) Try.underlying42 rfl iQ ?_))
        refine (HTQ.out _).mono ?_
        rintro e w23 ⟨rfl, hb⟩
        have hq_w23 := blk_below hq_w22 hb
        have hs_w23 := blk_below hs_w22 hb
        have hb_w23 := hb_w22.trans (hb.mono hb_w22.size)
        clear hb hb_w22 hq_w22 hs_w22
        go_wp2_with fail
        go_ret
        exact ⟨rfl, hb_w23⟩
      · obtain rfl : ge = 1 := by have := HE.out; rwa [show (V == 0) = false from beq_eq_false_iff_ne.2 hv] at this
        have hv2 : ((V : Int) == 0) = false := by simp; omega
        go_wp2_with (first | (refine wpList_put_row rfl 40 (.tmp 12) (.tmp 45) rfl w21.heap.size x2.v rfl rfl 40 _ (heap_new' w21 _ _ rfl) iX2 (by rw [Sh.v, iX2l.out]; rfl) (one_shV _ _ _ _ _ _ _ _) ?_; intro w22 hUw22; have hs_w22 := hUw22.at_; have hq_w22 := hUw22.old (blk_alloc hq_w21 _) (show w5.heap.size ≠ w21.heap.size by have := lt_of_cells hq_w21; omega); have hb_w22 := hUw22.below (hb_w21.alloc hb_w21.size _) hb_w21.size; clear hb_w21 hq_w21 hUw22) | (refine wpList_want_any 42 (.tmp 10) rfl w5.heap.size 0 rfl rfl _ _ (range_blk hq_w22) Try.underlying42 rfl iQ ?_))
        refine (HTQ.out _).mono ?_
        rintro e w23 ⟨rfl, hb⟩
        have hq_w23 := blk_below hq_w22 hb
        have hs_w23 := blk_below hs_w22 hb
        have hb_w23 := hb_w22.trans (hb.mono hb_w22.size)
        clear hb hb_w22 hq_w22 hs_w22
        go_wp2_with fail
        go_ret
        exact ⟨rfl, hb_w23⟩
end Go.Proofs.Ytakekjbbbjmdpaa.sherdAny
