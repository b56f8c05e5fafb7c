import Derived.Test.YtpbigfopmompfaaGreatTallies2
import Derived.Test.YtpbigfopmompfaaGreatBunU
import Derived.Deep.DeepCutAuto
import Derived.Deep.QuietTactic
import Derived.BigQuiet
import Derived.IntWalk
/- What is held is not emptied, not erased; what is not blank is not opened. -/
namespace Go.Proofs.YtpbigfopmompfaaGreat.pickHeld
open Go.RowKit
open Go.Proofs.YtpbigfopmompfaaGreat.pick
open Go.Proofs.YtpbigfopmompfaaGreat.tal (TalAt Sb Ty)
set_option linter.unusedVariables false
set_option maxRecDepth 100000 in
set_option maxHeartbeats 8000000 in
theorem walk0 (a b c : Int) (A : Option Addr) (n cp : Nat) (bl : Int) (w : World) (h0 : IsRows (List.replicate 4 (Kd.int .i64) ++ List.replicate 16 (Kd.int .u8) ++ List.replicate 7 (Kd.int .i64)) w A n cp) (hbw : wfI bl) : Calls Tryz.prog 11 #[.agg #[.int .i64 a, .int .i64 b, .int .i64 c], .slice A n cp, .int .i64 bl] w fun e w' => e = .returned (.bool true) ∧ Below w.heap.size w w' := by
 obtain ⟨l, hr, hwf, hnc, hcm⟩ := open_op7s h0
 obtain ⟨D, hD⟩ : ∃ D : Nat, (D : Int) = 3 + a % 4 := ⟨(3 + a % 4).toNat, by omega⟩
 obtain ⟨B, hB⟩ : ∃ B : Nat, (B : Int) = 8 + b % 9 := ⟨(8 + b % 9).toNat, by omega⟩
 obtain ⟨P, hP⟩ : ∃ P : Nat, (P : Int) = 2 + c % 7 := ⟨(2 + c % 7).toNat, by omega⟩
 have HG := Lib.hid (show 3 ≤ D ∧ D ≤ 6 ∧ 8 ≤ B ∧ B ≤ 16 ∧ 2 ≤ P ∧ P ≤ 8 by omega)
 have hb0 := nand.alloc_low w (.cells #[.int .i64 a, .int .i64 b, .int .i64 c] 39)
 have he := heap_new' w (.cells #[.int .i64 a, .int .i64 b, .int .i64 c] 39) _ rfl
 have HB0 := Lib.hid hb0
 have HE0 := Lib.hid he
 have HTL := Lib.hid (fun (wx : World) (hx : Below w.heap.size w wx) => tls.tallies_any a b c A n cp l wx (by
  have h1 := hr.below hx (Nat.le_refl _)
  exact h1.mono hx.size) hwf hnc hcm D B P hD hB hP)
 obtain ⟨β, hβ⟩ : ∃ β : Nat, (β : Int) = bl % (B : Int) := ⟨(bl % (B : Int)).toNat, by have := Int.emod_nonneg bl (show (B : Int) ≠ 0 by omega); omega⟩
 have hβB : β < B := by have := Int.emod_lt_of_pos bl (show (0 : Int) < B by omega); omega
 have e1 := norm_wrap bl (B : Int) (by omega) (by omega)
 rw [← hβ] at e1
 have hB16 : B ≤ 16 ∧ 8 ≤ B := by omega
 obtain ⟨hB16, hB8⟩ := hB16
 have tm1 := Int.lt_tmod_of_pos bl (show (0 : Int) < (B : Int) by omega)
 have tm2 := Int.tmod_lt_of_pos bl (show (0 : Int) < (B : Int) by omega)
 have e2 : (IntKind.i64.wrap (bl.tmod (B : Int) + (B : Int))).tmod (B : Int) = (β : Int) := by
  rw [wrap64_in' _ (by omega) (by omega)] at e1
  rw [IntWalk.i64_in _ (by omega)]
  exact e1
 have HEE := Lib.hid (And.intro e1 e2)
 clear hD hB hP hb0 he hr hwf h0 hcm hβ hbw e1 e2 tm1 tm2
 go_enter Tryz.func11, Tryz.ntmps11
 go_upto_region 1 with fail
 change Code.wp _ _ _ _ (w.alloc (.cells #[.int .i64 a, .int .i64 b, .int .i64 c] 39))
 generalize w.alloc (.cells #[.int .i64 a, .int .i64 b, .int .i64 c] 39) = wa at *
 go_wp2_with fail
 refine (begun13.begun13_any wa).mono ?_
 rintro e w1 ⟨rfl, hb1⟩
 have he1 := blk_below HE0.out hb1
 have HB1 := Lib.hid (HB0.out.trans (hb1.mono HB0.out.size))
 have hrow := range_blk (cs := [.int .i64 a, .int .i64 b, .int .i64 c]) he1
 clear hb1 he1
 go_wp2_with (first | (refine wpList_load_mid rfl 39 (.tmp 3) rfl w.heap.size 0 rfl [.int .i64 a, .int .i64 b, .int .i64 c] _ hrow Tryz.underlying39 rfl nand.geoInfo ?_))
 refine (HTL.out _ HB1.out).mono ?_
 rintro e w2 ⟨gt, lb, WB, g, mb, cb, tb, rb, GB, rfl, hs⟩
 obtain ⟨Y, hY⟩ : ∃ Y, Y = tls.run (tal.Ty.new D B P) (l.take 50) := ⟨_, rfl⟩
 rw [← hY] at hs
 obtain ⟨T, hT⟩ := hs.tt
 have HS := Lib.hid hs
 have HB2 := Lib.hid (HB1.out.trans (hs.below.mono HB1.out.size))
 have HLO := Lib.hid (show ∀ k, tal.TalF gt lb k → w.heap.size ≤ k from fun k hk => Nat.le_trans HB1.out.size (hs.new k (.inl hk)))
 have hV : View w2 gt lb Y g mb cb 150 T := ⟨hs.ta, hT⟩
 have HV := Lib.hid hV
 have cB : w2.cell? ⟨WB, 1, none⟩ = some (.int .i64 (B : Int)) := by
  have := hs.cell (j := 1) (v := .int .i64 (Y.B : Int)) rfl
  rw [this, hs.dim.2.1]
 have hYB := hs.dim.2.1
 obtain ⟨s, hsb⟩ : ∃ s, Y.sb[β]? = some s := ⟨_, List.getElem?_eq_getElem (by rw [hs.ta.ok.len, hYB]; exact hβB)⟩
 have HSB := Lib.hid hsb
 have HYB := Lib.hid hYB
 clear hs hT hrow hV hY hYB hsb HTL HE0 HB0
 go_upto_region 5 with fail
 obtain ⟨e1, e2⟩ := HEE.out
 go_quiet (fail)
 have hv3 := fun k => HV.out.below (below_drewN (Below.refl _ w2) k)
 have hb3 := fun k => HB2.out.trans ((below_drewN (Below.refl _ w2) k).mono HB2.out.size)
 have HVB := Lib.hid (fun k => And.intro (hv3 k) (hb3 k))
 clear hv3 hb3 e1 e2 HEE cB HB2 HB1 HS
 go_upto_region 6 with fail
 obtain ⟨w3, hw3⟩ : ∃ w3, w3 = w2.drewN nq := ⟨_, rfl⟩
 have HVB3 := HVB.out nq
 rw [← hw3] at HVB3 ⊢
 obtain ⟨hv3, hb3⟩ := HVB3
 have HO := Lib.hid (tal.hold_any hv3.tal (β : Int) true)
 have HV3 := Lib.hid hv3
 have HB3 := Lib.hid hb3
 clear hw3 hv3 hb3 HVB HV
 go_wp2_with fail
 refine HO.out.mono ?_
 rintro e w4 ⟨rfl, hy4, hk4⟩
 obtain ⟨Y1, hY1⟩ : ∃ Y1, Y1 = Y.hold (β : Int) true := ⟨_, rfl⟩
 rw [← hY1] at hy4
 have hv4 : View w4 gt lb Y1 g mb cb 150 T := ⟨hy4, HV3.out.tab.keep hk4 (tls.tal_tab HV3.out.tal HV3.out.tab)⟩
 have HB4 := Lib.hid (HB3.out.trans (hk4.below HB3.out.size HLO.out))
 have HY1 := Lib.hid (show Y1.held (β : Int) = true ∧ Y1.B = B ∧ ∃ s, Y1.sb[β]? = some s by
  rw [hY1]
  refine ⟨held_at HSB.out, (tls.upd_dim Y _ _).2.1.trans HYB.out, ?_⟩
  have hlt : β < Y.sb.length := (List.getElem?_eq_some_iff.1 HSB.out).1
  unfold tal.Ty.hold
  rw [tal.upd_in HSB.out]
  exact ⟨_, List.getElem?_eq_getElem (by simpa using hlt)⟩)
 have HSp := Lib.hid (spent_any hv4 (-1))
 have HV4 := Lib.hid hv4
 clear hy4 hk4 HO HV3 HB3 hv4 hY1
 go_wp2_with fail
 refine HSp.out.mono ?_
 rintro e w5 ⟨u, rfl, hown, hb5⟩
 obtain ⟨L, hL⟩ : ∃ L, L = spentL Y1 T (-1) := ⟨_, rfl⟩
 rw [← hL] at hown
 obtain ⟨m, hm⟩ : ∃ m, m = L.length := ⟨_, rfl⟩
 rw [← hm] at hown
 obtain ⟨A2, c2, rfl⟩ := len_nats hown
 have HRw := Lib.hid (Rd.of_own hown)
 have hv5 := HV4.out.below hb5
 have HV5 := Lib.hid hv5
 have HB5 := Lib.hid (HB4.out.trans (hb5.mono HB4.out.size))
 have hm16 : m ≤ 16 := by
  have h1 : L.length ≤ Y1.B := by rw [hL]; unfold spentL someL; exact Nat.le_trans (List.length_filter_le _ _) (by simp)
  have := HY1.out.2.1
  omega
 have HL := Lib.hid (And.intro hL hm)
 clear hown hb5 hv5 hL hm HSp HV4 HB4
 go_wp2_with fail
 go_loop [13] (fun vi => ∃ q : Nat, q ≤ m ∧ vi = .int .i64 q) (fun vi => m - (intOf vi).toNat)
 case atStart => exact ⟨0, by omega, rfl⟩
 case round =>
  obtain ⟨q, hq, rfl⟩ := hrel
  by_cases hqm : q < m
  · obtain ⟨hL, hm⟩ := HL.out
    have hql : q < L.length := by omega
    obtain ⟨y, hy⟩ : ∃ y, L[q]? = some y := ⟨_, List.getElem?_eq_getElem hql⟩
    obtain ⟨hyβ, hbk, hcz, hyB⟩ := spent_ok (T := T) HY1.out.1 (x := y) (by rw [← hL]; exact List.mem_of_getElem? hy)
    obtain ⟨b2, o2, hA, hb2, hc⟩ := HRw.out.at_ hqm
    rw [nats, List.getElem?_map, hy] at hc
    have hcq : w5.cell? ⟨b2, o2 + q, none⟩ = some (.int .i64 (y : Int)) := hc
    subst hA
    have hbl := tal.blank_any HV5.out.tal (y : Int)
    rw [hbk] at hbl
    have hct := tab.count_any HV5.out.tab (y : Int) (small_wf (by have := HY1.out.2.1; omega))
    rw [show tab.cntE T.f (y : Int) = 0 from hcz] at hct
    have HBl := Lib.hid hbl
    have HCt := Lib.hid (show Calls Tryz.prog 26 #[.pointer (some ⟨g, 0, none⟩), .int .i64 (y : Int)] w5 (fun e w' => e = .returned (.int .i64 0) ∧ w5 = w') from hct)
    have hd : decide (y = β) = false := by simpa using hyβ
    have hd2 : ((y : Int) == (β : Int)) = false := by simp; omega
    clear hL hm hy hyβ hbk hcz hyB hc hbl hct
    go_wp2_with fail
    refine HBl.out.mono ?_
    rintro e w6 ⟨rfl, rfl⟩
    go_wp2_with fail
    refine HCt.out.mono ?_
    rintro e w6 ⟨rfl, rfl⟩
    go_wp2_with fail
    go_round
    case rel => exact ⟨q + 1, by omega, by go_num⟩
    case measure => simp [intOf]; omega
  · obtain rfl : q = m := by omega
    obtain ⟨s1, hs1⟩ := HY1.out.2.2
    have hvn := vict_not (T := T) hs1 HY1.out.1
    have hon := open_not (T := T) hs1
    have hoc := open_clean (T := T) hs1
    have hou := open_use (Y := Y1) (T := T)
    have HVc := Lib.hid (victim_any HV5.out (-1))
    have HOp := Lib.hid (fun (w' : World) (v : View w' gt lb Y1 g mb cb 150 T) => open_any v (-1))
    have HOp2 := Lib.hid (fun (w' : World) (v : View w' gt lb (Y1.clean (β : Int) false) g mb cb 150 T) => open_any v (-1))
    have HUs := Lib.hid (fun (w' : World) (v : View w' gt lb (Y1.clean (β : Int) false) g mb cb 150 T) (x : Nat) => (clean_usable hs1 x) ▸ tal.usable_any v.tal (x : Int))
    obtain ⟨V, hVe⟩ : ∃ V, V = leastI (victOrd Y1 T) (victL Y1 T (-1)) := ⟨_, rfl⟩
    obtain ⟨O, hOe⟩ : ∃ O, O = leastI (wearOrd Y1) (freeL Y1 T (-1)) := ⟨_, rfl⟩
    obtain ⟨Q, hQe⟩ : ∃ Q, Q = leastI (wearOrd (Y1.clean (β : Int) false)) (freeL (Y1.clean (β : Int) false) T (-1)) := ⟨_, rfl⟩
    rw [← hVe] at hvn HVc
    rw [← hOe] at hoc hou HOp
    rw [← hQe] at hon hoc HOp2
    have HVN := Lib.hid hvn
    have HON := Lib.hid hon
    have HOC := Lib.hid hoc
    have HOU := Lib.hid hou
    have hY1B := HY1.out.2.1
    have HYB1 := Lib.hid hY1B
    clear hvn hon hoc hou hVe hOe hQe hs1 hY1B HL HRw
    go_wp2_with fail
    refine HVc.out.mono ?_
    rintro e w6 ⟨rfl, hb6⟩
    have HV6 := Lib.hid (HV5.out.below hb6)
    have HB6 := Lib.hid (HB5.out.trans (hb6.mono HB5.out.size))
    clear hb6
    go_wp2_with fail
    refine (HOp.out w6 HV6.out).mono ?_
    rintro e w7 ⟨rfl, hb7⟩
    have hv7 := HV6.out.below hb7
    have HB7 := Lib.hid (HB6.out.trans (hb7.mono HB6.out.size))
    have HC := Lib.hid (tal.clean_any hv7.tal (β : Int) false)
    have HV7 := Lib.hid hv7
    clear hb7 hv7 HV6 HB6
    go_wp2_with fail
    refine HC.out.mono ?_
    rintro e w8 ⟨rfl, hy8, hk8⟩
    have HV8 := Lib.hid (show View w8 gt lb (Y1.clean (β : Int) false) g mb cb 150 T from ⟨hy8, HV7.out.tab.keep hk8 (tls.tal_tab HV7.out.tal HV7.out.tab)⟩)
    have HB8 := Lib.hid (HB7.out.trans (hk8.below HB7.out.size HLO.out))
    clear hy8 hk8 HC HV7 HB7
    go_wp2_with fail
    refine (HOp2.out w8 HV8.out).mono ?_
    rintro e w9 ⟨rfl, hb9⟩
    have hv9 := HV8.out.below hb9
    have HV9 := Lib.hid hv9
    have HB9 := Lib.hid (HB8.out.trans (hb9.mono HB8.out.size))
    have HV9d := Lib.hid (fun k => hv9.below (below_drewN (Below.refl _ w9) k))
    clear hb9 hv9 HV8 HB8
    have t1 : (V != (β : Int)) = true := by simpa using HVN.out.1
    have t2 : (Q != (β : Int)) = true := by simpa using HON.out
    have hoq : (O == (β : Int)) = true ∨ ((O == (β : Int)) = false ∧ (Q == O) = true) := by
     by_cases h : O = (β : Int)
     · exact .inl (by simpa using h)
     · rcases HOC.out with h' | h'
       · exact absurd h' h
       · exact .inr ⟨by simpa using h, by simpa using h'⟩
    have HOQ := Lib.hid hoq
    clear hoq HON HOC
    rcases HOU.out with hO0 | ⟨mo, rfl, huse, hmoB⟩
    · rcases HVN.out.2 with hV0 | ⟨mv, rfl, hcnt, hmvB⟩
      · rcases HOQ.out with q1 | ⟨q1, q2⟩
        all_goals
         go_wp2_with fail
         go_ret
         exact ⟨rfl, HB9.out⟩
      · have hct := tab.count_any HV9.out.tab (mv : Int) (small_wf (by have := HYB1.out; omega))
        have HCt := Lib.hid (show Calls Tryz.prog 26 #[.pointer (some ⟨g, 0, none⟩), .int .i64 (mv : Int)] w9 (fun e w' => e = .returned (.int .i64 (cntOf T mv : Int)) ∧ w9 = w') from hct)
        obtain ⟨C, hC⟩ : ∃ C, C = cntOf T mv := ⟨_, rfl⟩
        rw [← hC] at hcnt HCt
        clear hct hC hmvB
        rcases HOQ.out with q1 | ⟨q1, q2⟩
        all_goals
         go_wp2_with fail
         refine HCt.out.mono ?_
         rintro e w10 ⟨rfl, rfl⟩
         go_wp2_with fail
         go_ret
         exact ⟨rfl, HB9.out⟩
    · have HUm := Lib.hid (HUs.out w9 HV9.out mo)
      rw [huse] at HUm
      clear huse hmoB
      rcases HVN.out.2 with hV0 | ⟨mv, rfl, hcnt, hmvB⟩
      · rcases HOQ.out with q1 | ⟨q1, q2⟩
        all_goals
         go_wp2_with fail
         refine HUm.out.mono ?_
         rintro e w10 ⟨rfl, k, rfl⟩
         go_wp2_with fail
         go_ret
         exact ⟨rfl, below_drewN HB9.out _⟩
      · have HCk := Lib.hid (fun k => tab.count_any (HV9d.out k).tab (mv : Int) (small_wf (by have := HYB1.out; omega)))
        have HCt := Lib.hid (show ∀ k, Calls Tryz.prog 26 #[.pointer (some ⟨g, 0, none⟩), .int .i64 (mv : Int)] (w9.drewN k) (fun e w' => e = .returned (.int .i64 (cntOf T mv : Int)) ∧ w9.drewN k = w') from HCk.out)
        obtain ⟨C, hC⟩ : ∃ C, C = cntOf T mv := ⟨_, rfl⟩
        rw [← hC] at hcnt HCt
        clear hC hmvB HCk
        rcases HOQ.out with q1 | ⟨q1, q2⟩
        all_goals
         go_wp2_with fail
         refine HUm.out.mono ?_
         rintro e w10 ⟨rfl, k, rfl⟩
         go_wp2_with fail
         refine (HCt.out k).mono ?_
         rintro e w10 ⟨rfl, rfl⟩
         go_wp2_with fail
         go_ret
         exact ⟨rfl, below_drewN HB9.out _⟩
theorem walk (a0 : List Value) (A : Option Addr) (n c : Nat) (a2 : Int) (w : World) (w0 : okAll (List.replicate 3 (Kd.int .i64)) a0 = true) (w1 : IsRows (List.replicate 4 (Kd.int .i64) ++ List.replicate 16 (Kd.int .u8) ++ List.replicate 7 (Kd.int .i64)) w A n c) (w2 : (Lit.int .i64 a2).wf = true) : Calls Tryz.prog 11 #[.agg a0.toArray, .slice A n c, .int .i64 a2] w fun e w' => e = .returned (.bool true) ∧ Below w.heap.size w w' := by
 obtain ⟨x, y, v, rfl⟩ := open_geo3 w0
 exact walk0 x y v A n c a2 w w1 w2
end Go.Proofs.YtpbigfopmompfaaGreat.pickHeld
