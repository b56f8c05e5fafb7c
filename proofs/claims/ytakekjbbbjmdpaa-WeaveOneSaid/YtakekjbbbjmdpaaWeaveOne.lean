import Derived.Test.YtakekjbbbjmdpaaBackLaw
/- WeaveOne: a parity of one entry is that entry's: over two dies each has all; no condition. -/
namespace Go.Proofs.Ytakekjbbbjmdpaa.weaveOne
open Go.RowKit
set_option linter.unusedVariables false
theorem tmod_any (b : Int) (n : Nat) (hn : 0 < n) : (b.tmod n + n) % n = b % n ∧ -(n : Int) < b.tmod n ∧ b.tmod n < n := by
  have h1 := Int.tmod_lt_of_pos b (show (0 : Int) < n by omega)
  rw [Int.tmod_eq_emod]
  have h2 := Int.emod_nonneg b (show (n : Int) ≠ 0 by omega)
  have h3 := Int.emod_lt_of_pos b (show (0 : Int) < n by omega)
  split
  · refine ⟨by simp, by omega, by omega⟩
  · refine ⟨?_, by simp; omega, by simp; omega⟩
    simp
theorem one_par {x : En} {b o : Int} (hx : x.ok) (hm : x.may b o 3 = true) : parSh [x] b o 3 = ⟨x.d, x.r, x.l, x.s, 2, b, o, 3⟩ := by
  obtain ⟨r0, r1, l0, l1, s0, s1, -⟩ := may_bd hm
  have hmeta := of_meta x.r x.l x.s
  have e1 : overM (owns [x] b o 3) = metaN x.r x.l x.s := by simp [overM, owns, xorN, En.sh]
  have e2 : overD (owns [x] b o 3) = x.d := by
    have hx16 := hx.1
    refine eqD (overD_length (l := owns [x] b o 3) fun y hy => (owns_ok (l := [x]) (fun z hz => by rw [List.mem_singleton] at hz; rw [hz]; exact hx) b o 3 y hy).1) hx.1 fun i hi => ?_
    rw [overD_get (l := owns [x] b o 3) (fun y hy => (owns_ok (l := [x]) (fun z hz => by rw [List.mem_singleton] at hz; rw [hz]; exact hx) b o 3 y hy).1) i hi]
    simp [owns, xorN, En.sh, hx16, hi]
  unfold parSh
  rw [e1, e2, hmeta.1, hmeta.2.1, hmeta.2.2]
  congr 1 <;> omega
theorem one_parB (x : En) (b o : Int) : parB [x] b o 3 = x.may b o 3 := by
  have : slotsI 3 = 1 := by decide +kernel
  unfold parB
  rw [this]
  simp
theorem iDat {d : List Nat} (h : d.length = 16) : (Try.prog.info? 38).map (·.size) = some (nats .u8 d).length := by rw [nats_length, h]; kernel_rfl
theorem eInfo3 : (Try.prog.info? 68).map (fun i => (i.zero, i.size, i.bytes)) = some (some (.agg zeroE.toArray), 19, 40) := by kernel_rfl
theorem rds_en {w : World} {g : Nat} {x : En} {t : TypeId} {fr : Nat × Nat} (hx : x.ok) (h : w.heap[g]? = some (.cells x.v.toArray t fr)) : Rds w w.heap.size (some ⟨g, 0, none⟩) 19 1 (ens [x]) := by
  have := rds_one h
  rwa [show x.v.length = 19 from enV_length hx.1 _ _ _] at this
set_option maxRecDepth 100000 in
set_option maxHeartbeats 8000000 in
theorem walk (cs : List Value) (b o : Int) (w : World) (w0 : okAll (List.replicate 3 (Kd.int .i64) ++ List.replicate 16 (Kd.int .u8)) cs = true) (w1 : (Lit.int .i64 b).wf = true) (w2 : (Lit.int .i64 o).wf = true) :
    Calls Try.prog 17 #[.agg cs.toArray, .int .i64 b, .int .i64 o] w fun e w' => e = .returned (.bool true) ∧ Below w.heap.size w w' := by
  obtain ⟨x, rfl, hx, -⟩ := open_en w0
  have qE : ∀ w, (binOp .eql 68 (.agg x.v.toArray) (.agg x.v.toArray)).run Try.prog w = .ok (.bool true) w := fun w => by
    rw [run_eql_flat w flatEn eqEn (by kernel_rfl) (by decide) w0 w0, lEq_self w0]
  have qD : ∀ w, (binOp .eql 38 (.agg (nats .u8 x.d).toArray) (.agg (nats .u8 x.d).toArray)).run Try.prog w = .ok (.bool true) w := fun w => by
    rw [eql_data w x.d x.d hx.2 hx.2 hx.1 hx.1]; simp
  have m1 : (b.tmod 16 + 16) % 16 = b % 16 := (tmod_any b 16 (by decide)).1
  have m2 : -16 < b.tmod 16 ∧ b.tmod 16 < 16 := (tmod_any b 16 (by decide)).2
  have m3 : (o.tmod 8 + 8) % 8 = o % 8 := (tmod_any o 8 (by decide)).1
  have m4 : -8 < o.tmod 8 ∧ o.tmod 8 < 8 := (tmod_any o 8 (by decide)).2
  obtain ⟨m5, m6⟩ := m2
  obtain ⟨m7, m8⟩ := m4
  generalize b % 16 = X at *
  generalize o % 8 = Y at *
  have iE := enInfo hx.1 x.l x.s x.r
  have iEl := Lib.hid (enV_length hx.1 x.l x.s x.r)
  have iS := shInfo x.d hx.1 x.r x.l x.s 1 X Y 3
  have iSl := Lib.hid (shV_length hx.1 x.r x.l x.s 1 X Y 3)
  have iP := shInfo x.d hx.1 x.r x.l x.s 2 X Y 3
  have iPl := Lib.hid (shV_length hx.1 x.r x.l x.s 2 X Y 3)
  have iD := iDat hx.1
  have HX := Lib.hid hx
  have hone : ∀ y ∈ [x], y.ok := fun y hy => by rw [List.mem_singleton] at hy; rw [hy]; exact hx
  have HOne := Lib.hid hone
  have h0 := heap_alloc_new w (.cells x.v.toArray 68)
  have hbel := (Below.refl _ w).alloc (Nat.le_refl _) (.cells x.v.toArray 68)
  clear w0 w1 w2 hx hone
  go_enter Try.func17, Try.ntmps17
  go_upto_region 1 with fail
  generalize w.alloc (.cells x.v.toArray 68) = w0 at *
  have hb_w0 := hbel
  clear hbel
  go_wp2_with fail
  refine (begun9_any _).mono ?_
  rintro e w1 ⟨rfl, hb⟩
  have hE_w1 := blk_below h0 hb
  have hb_w1 := hb_w0.trans (hb.mono hb_w0.size)
  clear hb hb_w0 h0
  go_wp2_with (first | (refine wpList_load_mid rfl 68 (.tmp 3) rfl w.heap.size 0 rfl _ _ (range_blk hE_w1) Try.underlying68 rfl iE ?_))
  cases hM : x.may X Y 3 with
  | false =>
    have HM := Lib.hid (show maySh x.d x.r x.l x.s 1 X Y 3 = false from hM)
    have HB := Lib.hid (show parB [x] X Y 3 = false by rw [one_parB]; exact hM)
    have HO := Lib.hid (show ownV x.d x.r x.l x.s X Y 3 = zeroV by unfold ownV; rw [HM.out]; rfl)
    have HV := Lib.hid (show parV [x] X Y 3 = zeroV by unfold parV; rw [HB.out]; rfl)
    clear hM
    refine (own_sherd X Y 3 x.l x.s x.r x.d _ HX.out.1 HX.out.2).mono ?_
    rw [HO.out, HM.out]
    rintro e w2 ⟨rfl, hb⟩
    have hE_w2 := blk_below hE_w1 hb
    have hb_w2 := hb_w1.trans (hb.mono hb_w1.size)
    clear hb hb_w1 hE_w1
    go_wp2_with (first | (refine wpList_put_row rfl 40 (.tmp 8) (.tmp 30) rfl w2.heap.size zeroV rfl rfl 40 _ (heap_new' w2 _ _ rfl) (shInfo _ rfl _ _ _ _ _ _ _) rfl (one_shV _ _ _ _ _ _ _ _) ?_; intro w3 hUw3; have hS_w3 := hUw3.at_; have hE_w3 := hUw3.old (blk_alloc hE_w2 _) (show w.heap.size ≠ w2.heap.size by have := lt_of_cells hE_w2; omega); have hb_w3 := hUw3.below (hb_w2.alloc hb_w2.size _) hb_w2.size; clear hb_w2 hE_w2 hUw3) | (refine wpList_load_mid rfl 68 (.tmp 3) rfl w.heap.size 0 rfl _ _ (range_blk hE_w3) Try.underlying68 rfl iE ?_) | (refine wpList_buildOne rfl 62 (.tmp 35) rfl 68 x.v _ 19 40 rfl Try.underlying62 eInfo3 iEl.out (by decide) (by decide) ?_))
    have hE_w4 := blk_alloc hE_w3 (.cells x.v.toArray 68)
    have hS_w4 := blk_alloc hS_w3 (.cells x.v.toArray 68)
    have hb_w4 := hb_w3.alloc hb_w3.size (.cells x.v.toArray 68)
    have hnew := heap_new' w3 (.cells x.v.toArray 68) _ rfl
    clear hb_w3 hE_w3 hS_w3
    generalize (w3.alloc (.cells x.v.toArray 68)) = w4 at *
    refine (parity_sh X Y 3 [x] _ 1 1 _ _ (rds_en HX.out hnew) (Nat.le_refl _) HOne.out (by decide)).mono ?_
    rw [HV.out, HB.out]
    rintro e w5 ⟨rfl, hb⟩
    have hE_w5 := blk_below hE_w4 hb
    have hS_w5 := blk_below hS_w4 hb
    have hb_w5 := hb_w4.trans (hb.mono hb_w4.size)
    clear hb hb_w4 hE_w4 hS_w4
    clear hnew
    go_wp2_with (first | (refine wpList_put_row rfl 40 (.tmp 10) (.tmp 38) rfl w5.heap.size zeroV rfl rfl 40 _ (heap_new' w5 _ _ rfl) (shInfo _ rfl _ _ _ _ _ _ _) rfl (one_shV _ _ _ _ _ _ _ _) ?_; intro w6 hUw6; have hP_w6 := hUw6.at_; have hE_w6 := hUw6.old (blk_alloc hE_w5 _) (show w.heap.size ≠ w5.heap.size by have := lt_of_cells hE_w5; omega); have hS_w6 := hUw6.old (blk_alloc hS_w5 _) (show w2.heap.size ≠ w5.heap.size by have := lt_of_cells hS_w5; omega); have hb_w6 := hUw6.below (hb_w5.alloc hb_w5.size _) hb_w5.size; clear hb_w5 hE_w5 hS_w5 hUw6))
    go_ret
    exact ⟨rfl, hb_w6⟩
  | true =>
    have HM := Lib.hid (show maySh x.d x.r x.l x.s 1 X Y 3 = true from hM)
    have HB := Lib.hid (show parB [x] X Y 3 = true by rw [one_parB]; exact hM)
    have HP := Lib.hid (one_par HX.out hM)
    have HO := Lib.hid (show ownV x.d x.r x.l x.s X Y 3 = shV x.d x.r x.l x.s 1 X Y 3 by unfold ownV; rw [HM.out]; rfl)
    have HV := Lib.hid (show parV [x] X Y 3 = shV x.d x.r x.l x.s 2 X Y 3 by unfold parV; rw [HB.out, HP.out]; rfl)
    have HK := Lib.hid (back_law [x] X Y 3 HOne.out HB.out 0 x rfl)
    clear hM
    refine (own_sherd X Y 3 x.l x.s x.r x.d _ HX.out.1 HX.out.2).mono ?_
    rw [HO.out, HM.out]
    rintro e w2 ⟨rfl, hb⟩
    have hE_w2 := blk_below hE_w1 hb
    have hb_w2 := hb_w1.trans (hb.mono hb_w1.size)
    clear hb hb_w1 hE_w1
    go_wp2_with (first | (refine wpList_put_row rfl 40 (.tmp 8) (.tmp 30) rfl w2.heap.size (shV x.d x.r x.l x.s 1 X Y 3) rfl rfl 40 _ (heap_new' w2 _ _ rfl) iS (by rw [iSl.out]; rfl) (one_shV _ _ _ _ _ _ _ _) ?_; intro w3 hUw3; have hS_w3 := hUw3.at_; have hE_w3 := hUw3.old (blk_alloc hE_w2 _) (show w.heap.size ≠ w2.heap.size by have := lt_of_cells hE_w2; omega); have hb_w3 := hUw3.below (hb_w2.alloc hb_w2.size _) hb_w2.size; clear hb_w2 hE_w2 hUw3) | (refine wpList_load_mid rfl 68 (.tmp 3) rfl w.heap.size 0 rfl _ _ (range_blk hE_w3) Try.underlying68 rfl iE ?_) | (refine wpList_buildOne rfl 62 (.tmp 35) rfl 68 x.v _ 19 40 rfl Try.underlying62 eInfo3 iEl.out (by decide) (by decide) ?_))
    have hE_w4 := blk_alloc hE_w3 (.cells x.v.toArray 68)
    have hS_w4 := blk_alloc hS_w3 (.cells x.v.toArray 68)
    have hb_w4 := hb_w3.alloc hb_w3.size (.cells x.v.toArray 68)
    have hnew := heap_new' w3 (.cells x.v.toArray 68) _ rfl
    clear hb_w3 hE_w3 hS_w3
    generalize (w3.alloc (.cells x.v.toArray 68)) = w4 at *
    refine (parity_sh X Y 3 [x] _ 1 1 _ _ (rds_en HX.out hnew) (Nat.le_refl _) HOne.out (by decide)).mono ?_
    rw [HV.out, HB.out]
    rintro e w5 ⟨rfl, hb⟩
    have hE_w5 := blk_below hE_w4 hb
    have hS_w5 := blk_below hS_w4 hb
    have hb_w5 := hb_w4.trans (hb.mono hb_w4.size)
    clear hb hb_w4 hE_w4 hS_w4
    clear hnew
    go_wp2_with (first | (refine wpList_put_row rfl 40 (.tmp 10) (.tmp 38) rfl w5.heap.size (shV x.d x.r x.l x.s 2 X Y 3) rfl rfl 40 _ (heap_new' w5 _ _ rfl) iP (by rw [iPl.out]; rfl) (one_shV _ _ _ _ _ _ _ _) ?_; intro w6 hUw6; have hP_w6 := hUw6.at_; have hE_w6 := hUw6.old (blk_alloc hE_w5 _) (show w.heap.size ≠ w5.heap.size by have := lt_of_cells hE_w5; omega); have hS_w6 := hUw6.old (blk_alloc hS_w5 _) (show w2.heap.size ≠ w5.heap.size by have := lt_of_cells hS_w5; omega); have hb_w6 := hUw6.below (hb_w5.alloc hb_w5.size _) hb_w5.size; clear hb_w5 hE_w5 hS_w5 hUw6) | (refine wpList_load_mid rfl 40 (.tmp 10) rfl w5.heap.size 0 rfl _ _ (range_blk hP_w6) Try.underlying40 rfl iP ?_))
    have C := back_any (parSh [x] X Y 3) [] none 0 0 0 w6 (by rw [HP.out]; exact HX.out) Rds.nil (Nat.zero_le _) (by simp) (by decide) (fun _ h => by cases h)
    have HK1 : backB (parSh [x] X Y 3) [] = true := HK.out.1
    have HK2 : backV (parSh [x] X Y 3) [] = x.v := HK.out.2
    rw [HK1, HK2, HP.out] at C
    have HC := Lib.hid C
    clear C HK1 HK2
    refine (HC.out).mono ?_
    rintro e w7 ⟨rfl, hb⟩
    have hE_w7 := blk_below hE_w6 hb
    have hS_w7 := blk_below hS_w6 hb
    have hP_w7 := blk_below hP_w6 hb
    have hb_w7 := hb_w6.trans (hb.mono hb_w6.size)
    clear hb hb_w6 hE_w6 hS_w6 hP_w6
    go_wp2_with (first | (refine wpList_put_row rfl 68 (.tmp 12) (.tmp 53) rfl w7.heap.size x.v rfl rfl 68 _ (heap_new' w7 _ _ rfl) iE (by rw [En.v, iEl.out]; rfl) (one_enV _ _ _ _) ?_; intro w8 hUw8; have hY_w8 := hUw8.at_; have hE_w8 := hUw8.old (blk_alloc hE_w7 _) (show w.heap.size ≠ w7.heap.size by have := lt_of_cells hE_w7; omega); have hS_w8 := hUw8.old (blk_alloc hS_w7 _) (show w2.heap.size ≠ w7.heap.size by have := lt_of_cells hS_w7; omega); have hP_w8 := hUw8.old (blk_alloc hP_w7 _) (show w5.heap.size ≠ w7.heap.size by have := lt_of_cells hP_w7; omega); have hb_w8 := hUw8.below (hb_w7.alloc hb_w7.size _) hb_w7.size; clear hb_w7 hE_w7 hS_w7 hP_w7 hUw8; have p56 := sh_cells HX.out.1 hP_w8; have p58 := sh_cells HX.out.1 hS_w8; have pr := range_data hP_w8; have sr := range_data hS_w8; obtain ⟨p16, p17, p18, -⟩ := p56; obtain ⟨s16, s17, s18, -⟩ := p58) | (refine wpList_load_mid rfl 38 (.tmp 55) rfl w5.heap.size 0 rfl _ _ pr Try.underlying38 rfl iD ?_) | (refine wpList_load_mid rfl 38 (.tmp 57) rfl w2.heap.size 0 rfl _ _ sr Try.underlying38 rfl iD ?_) | (refine wpList_want_any 68 (.tmp 12) rfl w7.heap.size 0 rfl rfl _ _ (range_blk hY_w8) Try.underlying68 rfl iE ?_) | (refine wpList_want_any 68 (.tmp 3) rfl w.heap.size 0 rfl rfl _ _ (range_blk hE_w8) Try.underlying68 rfl iE ?_))
    go_ret
    exact ⟨rfl, hb_w8⟩
end Go.Proofs.Ytakekjbbbjmdpaa.weaveOne
