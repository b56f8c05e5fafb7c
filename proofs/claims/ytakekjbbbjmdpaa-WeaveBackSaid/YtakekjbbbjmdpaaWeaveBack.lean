import Derived.Test.YtakekjbbbjmdpaaBackLaw
import Derived.Test.YtakekjbbbjmdpaaRegion3
/- WeaveBack: whichever entry of a row is missing, the others tell it. -/
namespace Go.Proofs.Ytakekjbbbjmdpaa.weaveBack
open Go.RowKit
set_option linter.unusedVariables false
def oth (l : List En) (t k : Nat) : List En := (l.take k).eraseIdx t
theorem oth_zero (l : List En) (t : Nat) : oth l t 0 = [] := by simp [oth]
theorem oth_len (l : List En) (t k : Nat) : (oth l t k).length ≤ k := by
  unfold oth
  have := List.length_eraseIdx_le (l.take k) t
  rw [List.length_take] at this
  omega
theorem oth_at {l : List En} {k : Nat} {x : En} (h : l[k]? = some x) : oth l k (k + 1) = oth l k k := by
  have hk := (List.getElem?_eq_some_iff.1 h).1
  unfold oth
  rw [List.eraseIdx_eq_take_drop_succ, List.eraseIdx_of_length_le (by rw [List.length_take]; omega)]
  rw [List.take_take, List.drop_take]
  simp
theorem oth_off {l : List En} {k t : Nat} {x : En} (h : l[k]? = some x) (hne : k ≠ t) : oth l t (k + 1) = oth l t k ++ [x] := by
  have hk := (List.getElem?_eq_some_iff.1 h).1
  have e : l.take (k + 1) = l.take k ++ [x] := by rw [List.take_succ_eq_append_getElem hk]; rw [List.getElem?_eq_getElem hk] at h; rw [Option.some.inj h]
  unfold oth
  rw [e]
  by_cases ht : t < k
  · rw [List.eraseIdx_append_of_lt_length (by rw [List.length_take]; omega)]
  · rw [List.eraseIdx_of_length_le (l := l.take k) (by rw [List.length_take]; omega), List.eraseIdx_of_length_le (by rw [List.length_append, List.length_take]; simp; omega)]
theorem oth_all {l : List En} {t : Nat} (b o m : Int) : owns (oth l t l.length) b o m = (owns l b o m).take t ++ (owns l b o m).drop (t + 1) := by
  unfold oth owns
  rw [List.take_length, List.eraseIdx_eq_take_drop_succ, List.map_append, List.map_take, List.map_drop]
theorem oth_mem {l : List En} {t k : Nat} {x : En} (h : x ∈ oth l t k) : x ∈ l := List.mem_of_mem_take (List.mem_of_mem_eraseIdx h)
theorem facts {l : List En} {b o m : Int} (hok : ∀ x ∈ l, x.ok) (hP : parB l b o m = true) : ∃ p : Sh, p.ok ∧ parV l b o m = p.v ∧ 0 < l.length ∧ (∀ x ∈ l, maySh x.d x.r x.l x.s 1 b o m = true) ∧
    (∀ (k : Nat) (x : En), l[k]? = some x → backB p (owns (oth l k l.length) b o m) = true ∧ backV p (owns (oth l k l.length) b o m) = x.v) := by
  have hoks := owns_ok hok b o m
  refine ⟨parSh l b o m, ⟨overD_length fun y hy => (hoks y hy).1, overD_lt (fun y hy => (hoks y hy).1) fun y hy => (hoks y hy).2⟩, by unfold parV; rw [hP]; rfl, ?_, ?_, ?_⟩
  · unfold parB at hP
    rcases Nat.eq_zero_or_pos l.length with h | h
    · rw [h] at hP; simp at hP
    · exact h
  · intro x hx
    unfold parB at hP
    rw [Bool.and_eq_true, Bool.and_eq_true] at hP
    exact List.all_eq_true.1 hP.2.2 x hx
  · intro k x hk
    rw [oth_all]
    exact back_law l b o m hok hP k x hk
theorem range_below {w w' : World} {B g i : Nat} {cs : List Value} (h : w.rangeAt g i cs) (hb : Below B w w') (hg : g < B) : w'.rangeAt g i cs := fun j v hv => (hb.cell hg).trans (h j v hv)
theorem ownSpot {w : World} {base C n c : Nat} {e : TypeId} {A : Option Addr} {rows : List (List Value)} (h : OwnRows w base e C (.slice A n c) n rows) : ∀ a, A = some a → a.spot = none := by
  intro a ha
  rcases h.1.2 with ⟨h1, -⟩ | ⟨g, cap, cur, h1, -⟩
  · injection h1 with h1 _ _
    rw [h1] at ha; cases ha
  · injection h1 with h1 _ _
    rw [h1] at ha; injection ha with ha
    rw [← ha]
theorem pInfo {p : Sh} (h : p.ok) : (Try.prog.info? 40).map (·.size) = some p.v.length := shInfo p.d h.1 p.r p.l p.s p.k p.b p.o p.m
theorem pLen {p : Sh} (h : p.ok) : p.v.length = 23 := shV_length h.1 p.r p.l p.s p.k p.b p.o p.m
theorem pOne (p : Sh) : ∀ v ∈ p.v, v.oneCell' = true := one_shV _ _ _ _ _ _ _ _
theorem eInfo {x : En} (h : x.ok) : (Try.prog.info? 68).map (·.size) = some x.v.length := enInfo h.1 x.l x.s x.r
theorem eLen {x : En} (h : x.ok) : x.v.length = 19 := enV_length h.1 x.l x.s x.r
theorem eOne (x : En) : ∀ v ∈ x.v, v.oneCell' = true := one_enV _ _ _ _
set_option maxRecDepth 100000 in
set_option maxHeartbeats 8000000 in
theorem walk (b o m : Int) (A : Option Addr) (n c : Nat) (t : Int) (w : World) (w0 : (Lit.int .i64 b).wf = true) (w1 : (Lit.int .i64 o).wf = true) (w2 : (Lit.int .i64 m).wf = true) (w3 : IsRows (List.replicate 3 (Kd.int .i64) ++ List.replicate 16 (Kd.int .u8)) w A n c) (w4 : (Lit.int .i64 t).wf = true) :
    Calls Try.prog 12 #[.int .i64 b, .int .i64 o, .int .i64 m, .slice A n c, .int .i64 t] w fun e w' => e = .returned (.bool true) ∧ Below w.heap.size w w' := by
  obtain ⟨rows, hr0, h2, hnc, hcm⟩ := w3.rds (by simp)
  obtain ⟨l0, rfl, hl0⟩ := open_all (f := En.v) (p := fun x => x.ok ∧ okAll (List.replicate 3 (Kd.int .i64) ++ List.replicate 16 (Kd.int .u8)) x.v = true) (fun cs hc => by obtain ⟨x, rfl, h2, h3⟩ := open_en hc; exact ⟨x, rfl, h2, hc⟩) h2
  clear h2
  clear w3 w0 w1 w2 w4
  unfold maxLen at hcm
  have hq2 : min n 8 ≤ n := by omega
  have hq3 : min n 8 ≤ 8 := by omega
  have hr := hr0.take hq2
  rw [show (l0.map En.v).take (min n 8) = ens (l0.take (min n 8)) by simp [ens, List.map_take]] at hr
  have hoka : ∀ x ∈ l0.take (min n 8), okAll (List.replicate 3 (Kd.int .i64) ++ List.replicate 16 (Kd.int .u8)) x.v = true := fun x hx => (hl0 x (List.mem_of_mem_take hx)).2
  have hok : ∀ x ∈ l0.take (min n 8), x.ok := fun x hx => (hl0 x (List.mem_of_mem_take hx)).1
  have hc : (8 < (n : Int) ∧ min n 8 = 8) ∨ (decide (8 < (n : Int)) = false ∧ min n 8 = n) := by
    by_cases h : n ≤ 8
    · exact .inr ⟨by simp; omega, by omega⟩
    · exact .inl ⟨by omega, by omega⟩
  generalize l0.take (min n 8) = l at *
  generalize min n 8 = q at *
  have hl : l.length = q := by have := hr.1; rwa [ens, List.length_map] at this
  have HOk := Lib.hid hok
  have HOa := Lib.hid hoka
  have HR := Lib.hid hr
  have HL := Lib.hid hl
  clear hr0 hl0 hok hl hoka
  have hPF : Hid (parB l b o m = false → parV l b o m = zeroV) := Lib.hid fun h => by unfold parV; rw [h]; rfl
  have hPT := Lib.hid (facts (l := l) (b := b) (o := o) (m := m) HOk.out)
  go_enter Try.func12, Try.ntmps12
  go_wp2_with fail
  refine (begun9_any _).mono ?_
  rintro e w1 ⟨rfl, hb_w1⟩
  have hr1 := hr.below hb_w1 (Nat.le_refl _)
  clear hr
  rcases hc with ⟨hc, hq⟩ | ⟨hc, hq⟩
  all_goals
    go_wp2_with fail
    first | rw [show (8 : Int) = (q : Int) by omega, show (8 : Nat) = q by omega] | rw [show (n : Int) = (q : Int) by omega, show n = q by omega]
    clear hc hcm hnc hq2
    clear hq
    refine (parity_sh b o m l _ _ _ _ _ hr1 hb_w1.size HOk.out (by omega)).mono ?_
    rintro e w2 ⟨rfl, hb⟩
    have hr2 := hr1.below hb hb_w1.size
    have hb_w2 := hb_w1.trans (hb.mono hb_w1.size)
    clear hb hb_w1 hr1
    cases hP : parB l b o m with
    | false =>
      have HPV := Lib.hid (hPF.out hP)
      clear hP hPT hPF
      rw [HPV.out]
      go_wp2_with (first | (refine wpList_put_row rfl 40 (.tmp 12) (.tmp 35) rfl w2.heap.size zeroV rfl rfl 40 _ (heap_new' w2 _ _ rfl) (shInfo _ rfl _ _ _ _ _ _ _) rfl (one_shV _ _ _ _ _ _ _ _) ?_; intro w3 hU; have hb_w3 := hU.below (hb_w2.alloc hb_w2.size _) hb_w2.size; clear hU))
      go_ret
      exact ⟨rfl, hb_w3⟩
    | true =>
      obtain ⟨p, hpo, hpv, hq, hmay, hback⟩ := hPT.out hP
      rw [HL.out] at hq
      rw [hpv]
      rw [HL.out] at hback
      have HB := Lib.hid hback
      have HM := Lib.hid hmay
      have HPok := Lib.hid hpo
      have iP := pInfo hpo
      have iPl := Lib.hid (pLen hpo)
      clear hP hPF hPT hpv hback hmay hpo
      have ARM : True := trivial
      by_cases h0 : t < 0
      · go_wp2_with (first | (refine wpList_put_row rfl 40 (.tmp 12) (.tmp 35) rfl w2.heap.size p.v rfl rfl 40 _ (heap_new' w2 _ _ rfl) iP (by rw [iPl.out]; rfl) (pOne _) ?_; intro w3 hU; have hb_w3 := hU.below (hb_w2.alloc hb_w2.size _) hb_w2.size; clear hU))
        go_ret
        exact ⟨rfl, hb_w3⟩
      · obtain ⟨T, rfl⟩ := Int.eq_ofNat_of_zero_le (show 0 ≤ t by omega)
        have tq : ((q : Int) == 0) = false := by simp; omega
        have tT : decide ((T : Int) < 0) = false := by simp
        have hTq : T % q < q := Nat.mod_lt _ hq
        have hTe : (T : Int).tmod (q : Int) = ((T % q : Nat) : Int) := by rw [Int.tmod_eq_emod_of_nonneg (by omega), Int.natCast_emod]
        go_wp2_with (first | (refine wpList_put_row rfl 40 (.tmp 12) (.tmp 35) rfl w2.heap.size p.v rfl rfl 40 _ (heap_new' w2 _ _ rfl) iP (by rw [iPl.out]; rfl) (pOne _) ?_; intro w3 hU; have hP_w3 := hU.at_; have hb_w3 := hU.below (hb_w2.alloc hb_w2.size _) hb_w2.size; clear hU hb_w2 hr2))
        rw [show ((T : Int) % (q : Int)) = ((T % q : Nat) : Int) from (Int.natCast_emod ..).symm]
        generalize T % q = j at *
        have hg0 := lt_of_cells hP_w3
        go_loopw [15, 16] (fun v i wr => ∃ k N : Nat, k ≤ q ∧ N ≤ k ∧ i = .int .i64 k ∧ OwnRows wr w3.heap.size 40 23 v N (shs (owns (oth l j k) b o m)) ∧ wr.heap[w2.heap.size]? = some (.cells p.v.toArray 40 (0, 0)) ∧ Below w.heap.size w wr ∧ w3.heap.size ≤ wr.heap.size) (fun _ i _ => q - (intOf i).toNat)
        case atStart => exact ⟨0, 0, by omega, by omega, rfl, by rw [oth_zero]; exact OwnRows.nil, hP_w3, hb_w3, Nat.le_refl _⟩
        case round =>
          obtain ⟨k, N, hk, hN, rfl, hown, hP, hbel, hsz3⟩ := hrel
          by_cases hlt : k < q
          · have hkl : k < l.length := by rw [HL.out]; exact hlt
            obtain ⟨x, hx⟩ : ∃ x, l[k]? = some x := ⟨_, List.getElem?_eq_getElem hkl⟩
            have hxm := List.mem_of_getElem? hx
            have HX := Lib.hid (HOk.out x hxm)
            have hr' := HR.out.below hbel (Nat.le_refl _)
            obtain ⟨bb, oo, rfl, hbb, hR⟩ := rds_range hr' hlt (r := x.v) (by rw [ens, List.getElem?_map, hx]; rfl)
            have hE := eInfo HX.out
            have hV := shInfo x.d HX.out.1 x.r x.l x.s 1 b o m
            have hVl := Lib.hid (shV_length HX.out.1 x.r x.l x.s 1 b o m)
            have hlt2 : (k : Int) < (q : Int) := by omega
            have HMy := Lib.hid (HM.out x hxm)
            have HO := Lib.hid (show ownV x.d x.r x.l x.s b o m = (x.sh b o m).v by unfold ownV; rw [HMy.out]; rfl)
            obtain ⟨wo, hwo⟩ : ∃ wo : World, wo = wr := ⟨_, rfl⟩
            subst hwo
            by_cases hj : k = j
            · have tj : ((k : Int) != (j : Int)) = false := by simp [hj]
              have HW := Lib.hid (show oth l j (k + 1) = oth l j k by subst hj; exact oth_at hx)
              clear hx hr' hxm hj
              go_wp2_with (first | (refine wpList_load_mid rfl 68 (.tmp 64) rfl bb (oo + k * 19) rfl _ _ hR Try.underlying68 rfl hE ?_))
              refine (own_sherd b o m x.l x.s x.r x.d _ HX.out.1 HX.out.2).mono ?_
              rw [HMy.out, HO.out]; rintro e w4 ⟨rfl, hb4⟩
              have hP4 := blk_below hP hb4
              have hown4 := hown.below hb4
              have hbel4 := hbel.trans (hb4.mono hbel.size)
              have hsz4 := Nat.le_trans hsz3 hb4.size
              have ne4 : w2.heap.size ≠ w4.heap.size := by have := lt_of_cells hP4; omega
              clear hb4 hP hown hbel hR
              go_wp2_with (first | (refine wpList_put_row rfl 40 (.tmp 17) (.tmp 67) rfl w4.heap.size (x.sh b o m).v rfl rfl 40 _ (heap_new' w4 _ _ rfl) hV (by rw [Sh.v, En.sh, hVl.out]; rfl) (one_shV _ _ _ _ _ _ _ _) ?_; intro w5 hU5; have hP5 := hU5.old (blk_alloc hP4 _) ne4; have hown5 := (hown4.alloc _).upd hU5 hown4.fresh; have hbel5 := hU5.below (hbel4.alloc hbel4.size _) hbel4.size; have hsz5 : w3.heap.size ≤ w5.heap.size := (by rw [hU5.size]; simp; omega)))
              go_roundw
              case rel => exact ⟨k + 1, N, by omega, by omega, by go_num, by rw [HW.out]; exact hown5, hP5, hbel5, hsz5⟩
              case measure => simp [intOf]; omega
            · have tj : ((k : Int) != (j : Int)) = true := by simp; omega
              have HW := Lib.hid (show shs (owns (oth l j k) b o m) ++ shs [x.sh b o m] = shs (owns (oth l j (k + 1)) b o m) by rw [oth_off hx hj]; simp [shs, owns])
              clear hx hr' hxm hj
              go_wp2_with (first | (refine wpList_load_mid rfl 68 (.tmp 64) rfl bb (oo + k * 19) rfl _ _ hR Try.underlying68 rfl hE ?_))
              refine (own_sherd b o m x.l x.s x.r x.d _ HX.out.1 HX.out.2).mono ?_
              rw [HMy.out, HO.out]; rintro e w4 ⟨rfl, hb4⟩
              have hP4 := blk_below hP hb4
              have hown4 := hown.below hb4
              have hbel4 := hbel.trans (hb4.mono hbel.size)
              have hsz4 := Nat.le_trans hsz3 hb4.size
              have ne4 : w2.heap.size ≠ w4.heap.size := by have := lt_of_cells hP4; omega
              clear hb4 hP hown hbel hR
              have hbw : w.heap.size ≤ w3.heap.size := hb_w3.size
              go_wp2_with (first | (refine wpList_put_row rfl 40 (.tmp 17) (.tmp 67) rfl w4.heap.size (x.sh b o m).v rfl rfl 40 _ (heap_new' w4 _ _ rfl) hV (by rw [Sh.v, En.sh, hVl.out]; rfl) (one_shV _ _ _ _ _ _ _ _) ?_; intro w5 hU5; have hS5 := hU5.at_; have hP5 := hU5.old (blk_alloc hP4 _) ne4; have hown5 := (hown4.alloc _).upd hU5 hown4.fresh; have hbel5 := hU5.below (hbel4.alloc hbel4.size _) hbel4.size; have hsz5 : w3.heap.size ≤ w5.heap.size := (by rw [hU5.size]; simp; omega)) | (refine wpList_load_mid rfl 40 (.tmp 17) rfl w4.heap.size 0 rfl _ _ (range_blk hS5) Try.underlying40 rfl hV ?_) | (refine wpList_buildOne rfl 65 (.tmp 76) rfl 40 (x.sh b o m).v _ 23 72 rfl Try.underlying65 shInfo3 hVl.out (by decide) (by decide) ?_) |
                (at_builtin; go_must (refine wpList_appendRows rfl (.tmp 75) (.tmp 77) 65 rfl 40 _ 23 72 Try.underlying65 shInfo3 rfl (by decide) (hown5.alloc _) (hbel5.alloc hbel5.size _) rfl rfl (rds_sh (x := x.sh b o m) HX.out (heap_new' w5 _ _ rfl)) (one_shs _) (by unfold maxLen; omega) (by omega) (by simp; omega) hbw ?_; intro v6 w6 hown6 hbel6 hgr6 hat6)))
              have hP6 := blk_grown (blk_alloc hP5 _) hgr6 (fun e => hown5.ne hg0 e.symm)
              rw [HW.out] at hown6
              have hsz6 : w3.heap.size ≤ w6.heap.size := by have := hgr6.size; simp at this; omega
              go_roundw
              case rel => exact ⟨k + 1, N + 1, by omega, by omega, by go_num, hown6, hP6, hbel6, hsz6⟩
              case measure => simp [intOf]; omega
          · obtain rfl : k = q := by omega
            have hjl : j < l.length := by rw [HL.out]; exact hTq
            obtain ⟨x, hx⟩ : ∃ x, l[j]? = some x := ⟨_, List.getElem?_eq_getElem hjl⟩
            have hxm := List.mem_of_getElem? hx
            have HX := Lib.hid (HOk.out x hxm)
            have okx := HOa.out x hxm
            have hr' := HR.out.below hbel (Nat.le_refl _)
            obtain ⟨bb, oo, rfl, hbb, hR⟩ := rds_range hr' hTq (r := x.v) (by rw [ens, List.getElem?_map, hx]; rfl)
            have qE : ∀ w, (binOp .eql 68 (.agg x.v.toArray) (.agg x.v.toArray)).run Try.prog w = .ok (.bool true) w := fun w => by
              rw [run_eql_flat w flatEn eqEn (by kernel_rfl) (by decide) okx okx, lEq_self okx]
            have QE := Lib.hid qE
            have hE := eInfo HX.out
            have hEl := Lib.hid (eLen HX.out)
            obtain ⟨A15, c15, rfl, -, -⟩ := hown.slice
            have C := back_any p (owns (oth l j k) b o m) A15 N c15 _ wr HPok.out hown.rds (Nat.le_refl _) (owns_ok (fun y hy => HOk.out y (oth_mem hy)) b o m) (by omega) (ownSpot hown)
            obtain ⟨B1, B2⟩ := HB.out j x hx
            rw [B1, B2] at C
            have HC := Lib.hid C
            obtain ⟨wo, hwo⟩ : ∃ wo : World, wo = wr := ⟨_, rfl⟩
            subst hwo
            clear C B1 B2 hx hxm hr' hown qE okx
            go_wp2_with (first | (refine wpList_load_mid rfl 40 (.tmp 12) rfl w2.heap.size 0 rfl _ _ (range_blk hP) Try.underlying40 rfl iP ?_))
            refine (HC.out).mono ?_
            rintro e w5 ⟨rfl, hb⟩
            have hR5 : w5.rangeAt bb (oo + j * 19) x.v := range_below hR hb (by have := hbel.size; omega)
            have hb_w5 := hbel.trans (hb.mono hbel.size)
            clear hb hbel hP hR
            have hbb5 : bb < w5.heap.size := by have := hb_w5.size; omega
            go_upto_region 17 with (first | (refine wpList_put_row rfl 68 (.tmp 19) (.tmp 83) rfl w5.heap.size x.v rfl rfl 68 _ (heap_new' w5 _ _ rfl) hE (by rw [hEl.out]; rfl) (eOne _) ?_; intro w6 hU6; have hY_w6 := hU6.at_; have hR6 := hU6.range (range_below hR5 ((Below.refl _ w5).alloc (Nat.le_refl _) _) hbb5) (Nat.ne_of_lt hbb5); have hb_w6 := hU6.below (hb_w5.alloc hb_w5.size _) hb_w5.size; clear hU6 hR5 hb_w5))
            clear HC
            have hj2 : (j : Int) < (k : Int) := by omega
            refine wp_region_puts_g (by kernel_rfl) (by kernel_rfl) (X := Unit) (fun _ => [(some 85, .bool true), (some 86, .bool true), (some 87, .agg x.v.toArray), (some 88, .slice (some ⟨bb, oo, none⟩) k c), (some 89, .int .i64 j), (some 90, .pointer (some ⟨bb, oo + j * 19, none⟩)), (some 91, .agg x.v.toArray), (some 92, .bool true), (some 93, .bool true), (some 10, .bool true)])
              (fun _ L w' => w' = w6.drew) (fun _ => rfl) (by kernel_rfl) ⟨(), fun _ _ => rfl⟩ ?_ ?_
            · refine ⟨?_, ?_, ?_, ?_, ?_, ?_, ?_, ?_, ?_, ?_, trivial⟩
              · intro _ L w' hL hpre hJ a ha
                subst hJ
                exact .inl ⟨wanted_none rfl, wp_move' (.tmp 20) (.inl rfl) (.bool true) (by rw [ha, eval_puts_out rfl]; rfl) ⟨(), _, rfl, rfl, rfl⟩⟩
              · intro _ L w' hL hpre hJ a ha
                subst hJ
                simp [Region.binds] at hpre
                exact .inl ⟨wanted_none rfl, wp_move' (.tmp 85) (.inl rfl) (.bool true) (by rw [ha]; exact eval_puts_in (i := 0) rfl hpre (by simp) rfl) ⟨(), _, rfl, rfl, rfl⟩⟩
              · intro _ L w' hL hpre hJ a ha
                subst hJ
                simp [Region.binds] at hpre
                refine .inl ⟨wanted_yes (g := 1) (t := 86) (b := true) rfl rfl (by rw [ha]; exact eval_puts_in (i := 1) rfl (by simp [hpre]) (by simp) rfl), ?_⟩
                exact wp_load_mid 68 (.tmp 19) rfl w5.heap.size 0 (by rw [ha, eval_puts_out rfl]; rfl) x.v _ (range_blk hY_w6) Try.underlying68 rfl hE ⟨(), _, rfl, rfl, rfl⟩
              · intro _ L w' hL hpre hJ a ha
                subst hJ
                simp [Region.binds] at hpre
                refine .inl ⟨wanted_yes (g := 1) (t := 86) (b := true) rfl rfl (by rw [ha]; exact eval_puts_in (i := 1) rfl (by simp [hpre]) (by simp) rfl), ?_⟩
                exact wp_move' (.tmp 3) (.inl rfl) _ (by rw [ha, eval_puts_out rfl]; rfl) ⟨(), _, rfl, rfl, rfl⟩
              · intro _ L w' hL hpre hJ a ha
                subst hJ
                simp [Region.binds] at hpre
                refine .inl ⟨wanted_yes (g := 1) (t := 86) (b := true) rfl rfl (by rw [ha]; exact eval_puts_in (i := 1) rfl (by simp [hpre]) (by simp) rfl), ?_⟩
                exact wp_move' (.tmp 14) (.inl rfl) _ (by rw [ha, eval_puts_out rfl]; rfl) ⟨(), _, rfl, rfl, rfl⟩
              · intro _ L w' hL hpre hJ a ha
                subst hJ
                simp [Region.binds] at hpre
                have p3 : L 3 = true := by simp [hpre]
                have p4 : L 4 = true := by simp [hpre]
                have e88 : a.eval (.tmp 88) = .slice (some ⟨bb, oo, none⟩) k c := by rw [ha]; exact eval_puts_in (i := 3) rfl p3 (by simp) rfl
                have e89 : a.eval (.tmp 89) = .int .i64 j := by rw [ha]; exact eval_puts_in (i := 4) rfl p4 (by simp) rfl
                refine .inl ⟨wanted_yes (g := 1) (t := 86) (b := true) rfl rfl (by rw [ha]; exact eval_puts_in (i := 1) rfl (by simp [hpre]) (by simp) rfl), ?_⟩
                clear ha
                refine wp_intro fun K HK => ?_
                unfold Oper.wp
                simp only [execOp, e88, e89]
                go_simp
                exact HK.out _ _ ⟨(), _, rfl, rfl, rfl⟩
              · intro _ L w' hL hpre hJ a ha
                subst hJ
                simp [Region.binds] at hpre
                refine .inl ⟨wanted_yes (g := 1) (t := 86) (b := true) rfl rfl (by rw [ha]; exact eval_puts_in (i := 1) rfl (by simp [hpre]) (by simp) rfl), ?_⟩
                exact wp_load_mid 68 (.tmp 90) rfl bb (oo + j * 19) (by rw [ha]; exact eval_puts_in (i := 5) rfl (by simp [hpre]) (by simp) rfl) x.v _ hR6 Try.underlying68 rfl hE ⟨(), _, rfl, rfl, rfl⟩
              · intro _ L w' hL hpre hJ a ha
                subst hJ
                simp [Region.binds] at hpre
                have e87 : a.eval (.tmp 87) = .agg x.v.toArray := by rw [ha]; exact eval_puts_in (i := 2) rfl (by simp [hpre]) (by simp) rfl
                have e91 : a.eval (.tmp 91) = .agg x.v.toArray := by rw [ha]; exact eval_puts_in (i := 6) rfl (by simp [hpre]) (by simp) rfl
                refine .inl ⟨wanted_yes (g := 1) (t := 86) (b := true) rfl rfl (by rw [ha]; exact eval_puts_in (i := 1) rfl (by simp [hpre]) (by simp) rfl), ?_⟩
                have qE := QE.out
                clear ha
                refine wp_intro fun K HK => ?_
                unfold Oper.wp
                simp only [execOp, e87, e91]
                go_simp
                exact HK.out _ _ ⟨(), _, rfl, rfl, rfl⟩
              · intro _ L w' hL hpre hJ a ha
                subst hJ
                simp [Region.binds] at hpre
                have e86 : a.eval (.tmp 86) = .bool true := by rw [ha]; exact eval_puts_in (i := 1) rfl (by simp [hpre]) (by simp) rfl
                have e92 : a.eval (.tmp 92) = .bool true := by rw [ha]; exact eval_puts_in (i := 7) rfl (by simp [hpre]) (by simp) rfl
                refine .inl ⟨wanted_none rfl, ?_⟩
                clear ha
                refine wp_intro fun K HK => ?_
                unfold Oper.wp
                simp only [execOp, e86, e92]
                go_simp
                exact HK.out _ _ ⟨(), _, rfl, rfl, rfl⟩
              · intro _ L w' hL hpre hJ a ha
                subst hJ
                simp [Region.binds] at hpre
                exact .inl ⟨wanted_none rfl, wp_move' (.tmp 93) (.inr rfl) (.bool true) (by rw [ha]; exact eval_puts_in (i := 8) rfl (by simp [hpre]) (by simp) rfl) ⟨(), _, rfl, rfl, rfl⟩⟩
            · intro _ L w' hL hJ
              subst hJ
              simp only [List.foldl_cons, List.foldl_nil]
              go_simp
              have hb_d := hb_w6.drew
              generalize w6.drew = wd at *
              go_wp2_with fail
              go_ret
              exact ⟨rfl, hb_d⟩
end Go.Proofs.Ytakekjbbbjmdpaa.weaveBack
