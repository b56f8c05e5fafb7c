import Derived.Test.YtpbigfopmompfaaGreatBunS
import Derived.Test.YtpbigfopmompfaaGreatBunR
import Derived.Test.YtpbigfopmompfaaGreatBegun9
/- Stage 13's begun: printed by genbegun13.py. -/
namespace Go.Proofs.YtpbigfopmompfaaGreat.begun13
open Go.RowKit
open Go.Proofs.YtpbigfopmompfaaGreat.pick (View)
set_option linter.unusedVariables false
theorem begun7_all (w : World) : Calls Tryz.prog 50 #[] w fun e w' => e = .returned (.bool true) ∧ Below w.heap.size w w' := by
 go_enter Tryz.func50, Tryz.ntmps50
 go_wp2_with fail
 refine (nand.begun7_any _).mono ?_
 rintro e w' ⟨rfl, hb⟩
 go_wp2_with fail
 go_ret
 exact ⟨rfl, hb⟩
theorem begun9_all (w : World) : Calls Tryz.prog 51 #[] w fun e w' => e = .returned (.bool true) ∧ Below w.heap.size w w' := by
 go_enter Tryz.func51, Tryz.ntmps51
 go_wp2_with fail
 refine (begun9_any _).mono ?_
 rintro e w' ⟨rfl, hb⟩
 go_wp2_with fail
 go_ret
 exact ⟨rfl, hb⟩
def T0 : tab.Tb := ⟨10, [], 1⟩
def T1 : tab.Tb := ⟨10, [(4, ⟨2, 1, 0, 7, 7, 1⟩)], 8⟩
def a4 : tab.At6 := ⟨2, 1, 0, 7, 7, 1⟩
def Y0 : tal.Ty := tal.Ty.new 3 8 2
def Y1 : tal.Ty := Y0.wore 0 3
def Y2 : tal.Ty := Y1.badN 1 2
theorem put1 : T0.putB 4 7 1 = true ∧ T0.putT 4 7 1 2 1 0 7 = T1 := ⟨by decide +kernel, by kernel_rfl⟩
theorem put2 : T1.putB 4 6 1 = false ∧ T1.putT 4 6 1 0 0 0 7 = T1 := ⟨by decide +kernel, by kernel_rfl⟩
theorem put3 : T1.putB 10 9 1 = false ∧ T1.putT 10 9 1 0 0 0 7 = T1 := ⟨by decide +kernel, by kernel_rfl⟩
theorem built_e1 : Tryz.prog.built 29 [(0, .int .i64 4), (1, .int .i64 7), (2, .int .i64 1)] = some (enV 4 7 1 zero16).toArray := by kernel_rfl
theorem built_e2 : Tryz.prog.built 29 [(0, .int .i64 4), (1, .int .i64 6), (2, .int .i64 1)] = some (enV 4 6 1 zero16).toArray := by kernel_rfl
theorem built_e3 : Tryz.prog.built 29 [(0, .int .i64 10), (1, .int .i64 9), (2, .int .i64 1)] = some (enV 10 9 1 zero16).toArray := by kernel_rfl
theorem wf0 {x : Int} (h : 0 ≤ x ∧ x ≤ 100) : wfI x := by unfold wfI; simp [Lit.wf, IntKind.min, IntKind.max, IntKind.bits, IntKind.signed]; omega
set_option maxRecDepth 100000 in
set_option maxHeartbeats 8000000 in
theorem begun13_any (w : World) : Calls Tryz.prog 14 #[] w fun e w' => e = .returned (.bool true) ∧ Below w.heap.size w w' := by
 have q1 := tab.nonnil_eql
 have q2 := tal.nonnil_eql
 have q3 := tal.nil_neq
 go_enter Tryz.func14, Tryz.ntmps14
 go_wp2_with fail
 refine (tab.new_any w 10 (by decide)).mono ?_
 rintro e w1 ⟨g, mb, cb, rfl, ht1, hg1, hg2, hg3, hb1⟩
 have HT1 := Lib.hid ht1
 have HG := Lib.hid (And.intro hg1 (And.intro hg2 hg3))
 have HB1 := Lib.hid hb1
 clear ht1 hg1 hg2 hg3 hb1
 go_wp2_with fail
 have hN : Calls Tryz.prog 20 #[.agg #[.int .i64 3, .int .i64 8, .int .i64 2]] w1 _ := tal.new_any w1 3 8 2 (by decide)
 refine hN.mono ?_
 rintro e w2 ⟨gt_, lb, rfl, hy2, hl1, hl2, hb2⟩
 have HV2 := Lib.hid (View.mk (n := 0) (T := T0) hy2 (HT1.out.below hb2))
 have HL := Lib.hid (And.intro hl1 hl2)
 have HS := Lib.hid hb2.size
 have HB2 := Lib.hid (HB1.out.trans (hb2.mono HB1.out.size))
 have HT1s := Lib.hid HT1.out.lt
 clear hy2 hl1 hl2 hb2 HT1 hN
 go_wp2_with fail
 refine (tal.tnew_no w2).mono ?_
 rintro e w3 ⟨rfl, hb3⟩
 have HV3 := Lib.hid (HV2.out.below hb3)
 have HB3 := Lib.hid (HB2.out.trans (hb3.mono HB2.out.size))
 have HTF := Lib.hid (show ∀ k, tab.TabF g mb cb k → w.heap.size ≤ k from fun k hk => by have := HG.out; rcases hk with rfl | rfl | rfl <;> omega)
 have HSW := Lib.hid HB1.out.size
 have HYF := Lib.hid (show ∀ k, tal.TalF gt_ lb k → w.heap.size ≤ k from fun k hk => by have := HL.out; have := HSW.out; rcases hk with rfl | rfl <;> omega)
 have HTY := Lib.hid (show ∀ k, tab.TabF g mb cb k → tal.TalF gt_ lb k → False from fun k hk hy => by have := HL.out; have h1 := HT1s.out; rcases hk with rfl | rfl | rfl <;> rcases hy with e | e <;> omega)
 clear hb3 HV2 HB2
 go_wp2_with (first | (refine zao rfl 29 _ rfl _ rfl _ built_e1 ?_))
 have hP : Calls Tryz.prog 16 #[.pointer (some ⟨g, 0, none⟩), .agg (enV 4 7 1 zero16).toArray, .agg #[.int .i64 2, .int .i64 1, .int .i64 0], .int .i64 7] w3 _ := tab.put_any HV3.out.tab 4 7 1 2 1 0 7 zero16 rfl (wf0 (by decide)) (wf0 (by decide)) (wf0 (by decide)) (by decide)
 rw [put1.1, put1.2] at hP
 refine hP.mono ?_
 rintro e w4 ⟨rfl, ht, hk⟩
 have HV4 := Lib.hid (View.mk (HV3.out.tal.keep hk (fun h => HTY.out _ h (.inl rfl)) (fun h => HTY.out _ h (.inr rfl))) ht)
 have HB4 := Lib.hid (HB3.out.trans (hk.below HB3.out.size HTF.out))
 clear ht hk HV3 HB3 hP
 go_wp2_with (first | (refine zao rfl 29 _ rfl _ rfl _ built_e2 ?_))
 have hP : Calls Tryz.prog 16 #[.pointer (some ⟨g, 0, none⟩), .agg (enV 4 6 1 zero16).toArray, .agg #[.int .i64 0, .int .i64 0, .int .i64 0], .int .i64 7] w4 _ := tab.put_any HV4.out.tab 4 6 1 0 0 0 7 zero16 rfl (wf0 (by decide)) (wf0 (by decide)) (wf0 (by decide)) (by decide)
 rw [put2.1, put2.2] at hP
 refine hP.mono ?_
 rintro e w5 ⟨rfl, ht, hk⟩
 have HV5 := Lib.hid (View.mk (HV4.out.tal.keep hk (fun h => HTY.out _ h (.inl rfl)) (fun h => HTY.out _ h (.inr rfl))) ht)
 have HB5 := Lib.hid (HB4.out.trans (hk.below HB4.out.size HTF.out))
 clear ht hk HV4 HB4 hP
 go_wp2_with (first | (refine zao rfl 29 _ rfl _ rfl _ built_e3 ?_))
 have hP : Calls Tryz.prog 16 #[.pointer (some ⟨g, 0, none⟩), .agg (enV 10 9 1 zero16).toArray, .agg #[.int .i64 0, .int .i64 0, .int .i64 0], .int .i64 7] w5 _ := tab.put_any HV5.out.tab 10 9 1 0 0 0 7 zero16 rfl (wf0 (by decide)) (wf0 (by decide)) (wf0 (by decide)) (by decide)
 rw [put3.1, put3.2] at hP
 refine hP.mono ?_
 rintro e w6 ⟨rfl, ht, hk⟩
 have HV6 := Lib.hid (View.mk (HV5.out.tal.keep hk (fun h => HTY.out _ h (.inl rfl)) (fun h => HTY.out _ h (.inr rfl))) ht)
 have HB6 := Lib.hid (HB5.out.trans (hk.below HB5.out.size HTF.out))
 clear ht hk HV5 HB5 hP
 go_wp2_with fail
 have hG : Calls Tryz.prog 17 #[.pointer (some ⟨g, 0, none⟩), .int .i64 4] w6 _ := tab.get_any HV6.out.tab 4 (wf0 (by decide))
 rw [show tab.At6.of (tab.getE T1.f 4) = a4 by kernel_rfl, show (tab.getE T1.f 4).isSome = true by decide +kernel] at hG
 refine hG.mono ?_
 rintro e w7 ⟨rfl, hb⟩
 have hba := nand.zax w7 (.cells tab.At6.zero.v.toArray 33)
 have hbs := hb.alloc hb.size (.cells tab.At6.zero.v.toArray 33)
 have hs0 := hb.size
 have HX := Lib.hid (show w.heap.size ≤ w7.heap.size from Nat.le_trans HB6.out.size hs0)
 obtain ⟨xa, hxa⟩ : ∃ x, x = w7.heap.size := ⟨_, rfl⟩
 have hza := zak w7 (.cells tab.At6.zero.v.toArray 33) xa hxa.symm
 rw [← hxa] at HX
 clear hb hba hG
 go_upto_region 9 with (first | (refine zai rfl 33 (.tmp 6) (.tmp 37) rfl w7.heap.size a4.v rfl rfl 33 _ (zak w7 _ _ rfl) tab.atInfo rfl (tab.one_at _) ?_; intro w8 hU; have hx := hU.at_; have hb5 := hU.below hbs hs0; clear hU hbs))
 rw [← hxa] at hx
 simp only [← hxa]
 have HV8 := Lib.hid (HV6.out.below hb5)
 have HB8 := Lib.hid (HB6.out.trans (hb5.mono HB6.out.size))
 have HXn := Lib.hid (show ¬ tal.TalF gt_ lb xa from fun h => by have h1 := HV6.out.tal.lt; rcases h with e | e <;> omega)
 have HX8 := Lib.hid hx
 clear hx hb5 HV6 HB6 hs0 hza hxa
 go_wp2_with fail
 refine (tal.wore_any HV8.out.tal 0 3).mono ?_
 rintro e w9 ⟨rfl, hy, hk⟩
 have HV9 := Lib.hid (View.mk (Y := Y1) hy (HV8.out.tab.keep hk (fun k h1 h2 => HTY.out k h1 h2)))
 have HB9 := Lib.hid (HB8.out.trans (hk.below HB8.out.size HYF.out))
 have HX9 := Lib.hid (zay HX8.out hk HXn.out)
 clear hy hk HV8 HB8 HX8
 go_wp2_with fail
 refine (tal.bad_any HV9.out.tal 1 2).mono ?_
 rintro e w10 ⟨rfl, hy, hk⟩
 have HV10 := Lib.hid (View.mk (Y := Y2) hy (HV9.out.tab.keep hk (fun k h1 h2 => HTY.out k h1 h2)))
 have HB10 := Lib.hid (HB9.out.trans (hk.below HB9.out.size HYF.out))
 have HX10 := Lib.hid (zay HX9.out hk HXn.out)
 clear hy hk HV9 HB9 HX9
 go_wp2_with fail
 have hC := begun7_all w10
 refine hC.mono ?_
 rintro e w11 ⟨rfl, hb⟩
 have HV11 := Lib.hid (HV10.out.below hb)
 have HB11 := Lib.hid (HB10.out.trans (hb.mono HB10.out.size))
 have HX11 := Lib.hid (zad HX10.out hb)
 clear hb hC HV10 HB10 HX10
 go_wp2_with fail
 have hC := begun9_all w11
 refine hC.mono ?_
 rintro e w12 ⟨rfl, hb⟩
 have HV12 := Lib.hid (HV11.out.below hb)
 have HB12 := Lib.hid (HB11.out.trans (hb.mono HB11.out.size))
 have HX12 := Lib.hid (zad HX11.out hb)
 clear hb hC HV11 HB11 HX11
 have x0 : w12.cell? ⟨xa, 0, none⟩ = some (.int .i64 2) := by rw [zaf HX12.out]; rfl
 have x3 : w12.cell? ⟨xa, 3, none⟩ = some (.int .i64 7) := by rw [zaf HX12.out]; rfl
 go_wp2_with fail
 have hC := (show Calls Tryz.prog 24 #[.pointer (some ⟨g, 0, none⟩)] w12 _ from tab.len_any HV12.out.tab)
 rw [show T1.f.length = 1 by kernel_rfl] at hC
 refine hC.mono ?_
 rintro e wz ⟨rfl, rfl⟩
 clear hC
 clear x0 x3
 go_wp2_with fail
 have hC := (show Calls Tryz.prog 26 #[.pointer (some ⟨g, 0, none⟩), .int .i64 2] w12 _ from tab.zb8 HV12.out.tab 2 (wf0 (by decide)))
 rw [show tab.cntE T1.f 2 = 1 by decide +kernel] at hC
 refine hC.mono ?_
 rintro e wz ⟨rfl, rfl⟩
 clear hC
 go_wp2_with fail
 have hC := (show Calls Tryz.prog 25 #[.pointer (some ⟨g, 0, none⟩), .int .i64 2] w12 _ from tab.in_any HV12.out.tab 2 (wf0 (by decide)))
 rw [show (T1.inL 2).length = 1 by decide +kernel] at hC
 refine hC.mono ?_
 rintro e w13 ⟨u, rfl, hown, hb⟩
 have HV13 := Lib.hid (HV12.out.below hb)
 have HB13 := Lib.hid (HB12.out.trans (hb.mono HB12.out.size))
 have HX13 := Lib.hid (zad HX12.out hb)
 obtain ⟨A, c, rfl⟩ := pick.len_nats hown
 clear hown
 clear hb hC HV12 HB12 HX12
 go_wp2_with fail
 have hC := (show Calls Tryz.prog 18 #[.pointer (some ⟨g, 0, none⟩)] w13 _ from tab.next_any HV13.out.tab)
 rw [show T1.next = 8 by kernel_rfl] at hC
 refine hC.mono ?_
 rintro e wz ⟨rfl, rfl⟩
 clear hC
 go_wp2_with fail
 have hC := (show Calls Tryz.prog 23 #[.pointer (some ⟨gt_, 0, none⟩), .int .i64 0] w13 _ from tal.wear_any HV13.out.tal 0)
 rw [show Y2.wear 0 = 3 by decide +kernel] at hC
 refine hC.mono ?_
 rintro e wz ⟨rfl, rfl⟩
 clear hC
 clear HX13
 go_wp2_with fail
 have hC := (show Calls Tryz.prog 32 #[.pointer (some ⟨gt_, 0, none⟩), .int .i64 2] w13 _ from tal.mask_any HV13.out.tal 2)
 rw [show Y2.mask 2 = 5 by decide +kernel] at hC
 refine hC.mono ?_
 rintro e w14 ⟨rfl, hz⟩
 have hb := tal.drewN_below hz
 clear hz
 have HV14 := Lib.hid (HV13.out.below hb)
 have HB14 := Lib.hid (HB13.out.trans (hb.mono HB13.out.size))
 clear hb hC HV13 HB13
 go_wp2_with fail
 have hC := (show Calls Tryz.prog 34 #[.pointer (some ⟨gt_, 0, none⟩), .int .i64 2] w14 _ from tal.usable_any HV14.out.tal 2)
 rw [show Y2.usable 2 = true by decide +kernel] at hC
 refine hC.mono ?_
 rintro e w15 ⟨rfl, hz⟩
 have hb := tal.drewN_below hz
 clear hz
 have HV15 := Lib.hid (HV14.out.below hb)
 have HB15 := Lib.hid (HB14.out.trans (hb.mono HB14.out.size))
 clear hb hC HV14 HB14
 go_wp2_with fail
 have hC := (show Calls Tryz.prog 33 #[.pointer (some ⟨gt_, 0, none⟩)] w15 _ from tal.alive_any HV15.out.tal)
 rw [show Y2.alive = 7 by decide +kernel] at hC
 refine hC.mono ?_
 rintro e w16 ⟨rfl, hz⟩
 have hb := tal.drewN_below hz
 clear hz
 have HV16 := Lib.hid (HV15.out.below hb)
 have HB16 := Lib.hid (HB15.out.trans (hb.mono HB15.out.size))
 clear hb hC HV15 HB15
 go_wp2_with fail
 have hC := (show Calls Tryz.prog 21 #[.pointer (some ⟨gt_, 0, none⟩), .pointer (some ⟨g, 0, none⟩), .int .i64 (-1)] w16 _ from pick.open_any HV16.out (-1))
 rw [show pick.leastI (pick.wearOrd Y2) (pick.freeL Y2 T1 (-1)) = 1 by decide +kernel] at hC
 refine hC.mono ?_
 rintro e w17 ⟨rfl, hb⟩
 have HV17 := Lib.hid (HV16.out.below hb)
 have HB17 := Lib.hid (HB16.out.trans (hb.mono HB16.out.size))
 clear hb hC HV16 HB16
 go_wp2_with fail
 have hC := (show Calls Tryz.prog 28 #[.pointer (some ⟨gt_, 0, none⟩), .pointer (some ⟨g, 0, none⟩), .int .i64 (-1)] w17 _ from pick.victim_any HV17.out (-1))
 rw [show pick.leastI (pick.victOrd Y2 T1) (pick.victL Y2 T1 (-1)) = 2 by decide +kernel] at hC
 refine hC.mono ?_
 rintro e w18 ⟨rfl, hb⟩
 have HV18 := Lib.hid (HV17.out.below hb)
 have HB18 := Lib.hid (HB17.out.trans (hb.mono HB17.out.size))
 clear hb hC HV17 HB17
 go_wp2_with fail
 have hC := (show Calls Tryz.prog 27 #[.pointer (some ⟨gt_, 0, none⟩), .pointer (some ⟨g, 0, none⟩), .int .i64 (-1)] w18 _ from pick.frees_any HV18.out (-1))
 rw [show (pick.freeL Y2 T1 (-1)).length = 7 by decide +kernel] at hC
 refine hC.mono ?_
 rintro e w19 ⟨rfl, hb⟩
 have HV19 := Lib.hid (HV18.out.below hb)
 have HB19 := Lib.hid (HB18.out.trans (hb.mono HB18.out.size))
 clear hb hC HV18 HB18
 go_wp2_with fail
 have hC := (show Calls Tryz.prog 37 #[.pointer (some ⟨gt_, 0, none⟩), .pointer (some ⟨g, 0, none⟩), .int .i64 (-1)] w19 _ from pick.spent_any HV19.out (-1))
 rw [show (pick.spentL Y2 T1 (-1)).length = 0 by decide +kernel] at hC
 refine hC.mono ?_
 rintro e w20 ⟨u, rfl, hown, hb⟩
 have HV20 := Lib.hid (HV19.out.below hb)
 have HB20 := Lib.hid (HB19.out.trans (hb.mono HB19.out.size))
 obtain ⟨A2, c2, rfl⟩ := pick.len_nats hown
 clear hown
 clear hb hC HV19 HB19
 go_wp2_with fail
 have hC := (show Calls Tryz.prog 29 #[.pointer (some ⟨gt_, 0, none⟩), .pointer (some ⟨g, 0, none⟩)] w20 _ from pick.hurt_any HV20.out)
 rw [show (pick.hurtL Y2 T1).length = 1 by decide +kernel] at hC
 refine hC.mono ?_
 rintro e w21 ⟨u, rfl, hown, hb⟩
 have HV21 := Lib.hid (HV20.out.below hb)
 have HB21 := Lib.hid (HB20.out.trans (hb.mono HB20.out.size))
 obtain ⟨A3, c3, rfl⟩ := pick.len_nats hown
 clear hown
 clear hb hC HV20 HB20
 go_wp2_with fail
 have hC := (show Calls Tryz.prog 35 #[.pointer (some ⟨gt_, 0, none⟩), .int .i64 3] w21 _ from tal.blank_any HV21.out.tal 3)
 rw [show Y2.blank 3 = true by decide +kernel] at hC
 refine hC.mono ?_
 rintro e wz ⟨rfl, rfl⟩
 clear hC
 go_wp2_with fail
 go_ret
 exact ⟨rfl, HB21.out⟩
end Go.Proofs.YtpbigfopmompfaaGreat.begun13
