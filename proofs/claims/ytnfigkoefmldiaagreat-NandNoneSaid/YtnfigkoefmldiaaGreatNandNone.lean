import Derived.Test.YtnfigkoefmldiaaGreatBunR
import Derived.Test.YtnfigkoefmldiaaGreatBunJ
/- NandNone: no flash, no plan; no condition. -/
namespace Go.Proofs.YtnfigkoefmldiaaGreat.nandNone
open Go.RowKit
open Go.Proofs.YtnfigkoefmldiaaGreat.nand
set_option linter.unusedVariables false
set_option maxRecDepth 100000 in
set_option maxHeartbeats 4000000 in
theorem fault_nil (f : Flt) (w : World) : Calls Tryz.prog 25 #[.pointer none, .agg f.v.toArray] w fun e w' => e = .returned (.bool false) ∧ Below w.heap.size w w' := by
  have HB := Lib.hid (alloc_low w (.cells f.v.toArray 44))
  go_enter Tryz.func25, Tryz.ntmps25
  go_upto_region 1 with fail
  refine wp_region_puts_g (by kernel_rfl) (by kernel_rfl) (X := Unit) (fun _ => [(some 7, .pointer none), (some 8, .bool true), (some 9, .bool true), (some 10, undef), (some 11, undef), (some 12, undef), (some 13, undef), (some 14, undef), (some 15, undef), (some 16, undef), (some 17, undef), (some 18, .bool true)])
    (fun _ L w' => True ∧ Below w.heap.size w w') (fun _ => rfl) (by kernel_rfl) ⟨(), fun _ _ => ⟨trivial, HB.out.drew⟩⟩ ?_ ?_
  · refine ⟨?_, ?_, ?_, ?_, ?_, ?_, ?_, ?_, ?_, ?_, ?_, ?_, trivial⟩
    · intro _ L w' hL hpre hJ a ha
      obtain ⟨jt, jb⟩ := hJ
      simp [Region.binds] at hpre
      refine .inl ⟨wanted_none rfl, ?_⟩
      exact wp_move' (.tmp 0) (.inl rfl) (.pointer none) (by rw [ha, eval_puts_out rfl]; rfl) ⟨(), _, rfl, rfl, jt, jb⟩
    · intro _ L w' hL hpre hJ a ha
      obtain ⟨jt, jb⟩ := hJ
      simp [Region.binds] at hpre
      refine .inl ⟨wanted_none rfl, ?_⟩
      have e7 : a.eval (.tmp 7) = .pointer none := by rw [ha]; exact eval_puts_in (i := 0) rfl (by simp [hpre]) (by simp) rfl
      clear ha
      have cc := nil_eql
      have jt' := Lib.hid jt
      have jb' := Lib.hid jb
      clear jt jb
      refine wp_intro fun K HK => ?_
      unfold Oper.wp
      simp only [execOp, e7]
      go_simp
      exact HK.out _ _ ⟨(), _, rfl, rfl, jt'.out, jb'.out⟩
    · intro _ L w' hL hpre hJ a ha
      obtain ⟨jt, jb⟩ := hJ
      simp [Region.binds] at hpre
      refine .inl ⟨wanted_none rfl, ?_⟩
      exact wp_move' (.tmp 8) (.inl rfl) (.bool true) (by rw [ha]; exact eval_puts_in (i := 1) rfl (by simp [hpre]) (by simp) rfl) ⟨(), _, rfl, rfl, jt, jb⟩
    · intro _ L w' hL hpre hJ a ha
      obtain ⟨jt, jb⟩ := hJ
      simp [Region.binds] at hpre
      exact .inr ⟨wanted_no (g := 2) (t := 9) (b := false) rfl rfl (by rw [ha]; exact eval_puts_in (i := 2) rfl (by simp [hpre]) (by simp) rfl), (), rfl, jt, jb⟩
    · intro _ L w' hL hpre hJ a ha
      obtain ⟨jt, jb⟩ := hJ
      simp [Region.binds] at hpre
      exact .inr ⟨wanted_no (g := 2) (t := 9) (b := false) rfl rfl (by rw [ha]; exact eval_puts_in (i := 2) rfl (by simp [hpre]) (by simp) rfl), (), rfl, jt, jb⟩
    · intro _ L w' hL hpre hJ a ha
      obtain ⟨jt, jb⟩ := hJ
      simp [Region.binds] at hpre
      exact .inr ⟨wanted_no (g := 2) (t := 9) (b := false) rfl rfl (by rw [ha]; exact eval_puts_in (i := 2) rfl (by simp [hpre]) (by simp) rfl), (), rfl, jt, jb⟩
    · intro _ L w' hL hpre hJ a ha
      obtain ⟨jt, jb⟩ := hJ
      simp [Region.binds] at hpre
      exact .inr ⟨wanted_no (g := 2) (t := 9) (b := false) rfl rfl (by rw [ha]; exact eval_puts_in (i := 2) rfl (by simp [hpre]) (by simp) rfl), (), rfl, jt, jb⟩
    · intro _ L w' hL hpre hJ a ha
      obtain ⟨jt, jb⟩ := hJ
      simp [Region.binds] at hpre
      exact .inr ⟨wanted_no (g := 2) (t := 9) (b := false) rfl rfl (by rw [ha]; exact eval_puts_in (i := 2) rfl (by simp [hpre]) (by simp) rfl), (), rfl, jt, jb⟩
    · intro _ L w' hL hpre hJ a ha
      obtain ⟨jt, jb⟩ := hJ
      simp [Region.binds] at hpre
      exact .inr ⟨wanted_no (g := 2) (t := 9) (b := false) rfl rfl (by rw [ha]; exact eval_puts_in (i := 2) rfl (by simp [hpre]) (by simp) rfl), (), rfl, jt, jb⟩
    · intro _ L w' hL hpre hJ a ha
      obtain ⟨jt, jb⟩ := hJ
      simp [Region.binds] at hpre
      exact .inr ⟨wanted_no (g := 2) (t := 9) (b := false) rfl rfl (by rw [ha]; exact eval_puts_in (i := 2) rfl (by simp [hpre]) (by simp) rfl), (), rfl, jt, jb⟩
    · intro _ L w' hL hpre hJ a ha
      obtain ⟨jt, jb⟩ := hJ
      simp [Region.binds] at hpre
      exact .inr ⟨wanted_no (g := 2) (t := 9) (b := false) rfl rfl (by rw [ha]; exact eval_puts_in (i := 2) rfl (by simp [hpre]) (by simp) rfl), (), rfl, jt, jb⟩
    · intro _ L w' hL hpre hJ a ha
      obtain ⟨jt, jb⟩ := hJ
      simp [Region.binds] at hpre
      refine .inl ⟨wanted_none rfl, ?_⟩
      have e9 : a.eval (.tmp 9) = .bool true := by rw [ha]; exact eval_puts_in (i := 2) rfl (by simp [hpre]) (by simp) rfl
      clear ha
      have jt' := Lib.hid jt
      have jb' := Lib.hid jb
      clear jt jb
      refine wp_intro fun K HK => ?_
      unfold Oper.wp
      simp only [execOp, e9]
      go_simp
      exact HK.out _ _ ⟨(), _, rfl, rfl, jt'.out, jb'.out⟩
  · intro _ L w' hL hJ
    obtain ⟨jt, jb⟩ := hJ
    clear hL
    simp only [List.foldl_cons, List.foldl_nil]
    go_simp
    go_wp2_with fail
    go_ret
    exact ⟨rfl, jb⟩
theorem run_nil (w : World) : Calls Tryz.prog 40 #[.pointer none, .pointer none] w fun e w' => e = .returned (.int .i64 0) ∧ Below w.heap.size w w' := by
  go_enter Tryz.func40, Tryz.ntmps40
  go_wp2_with fail
  refine (ops_nil _).mono ?_
  rintro e w1 ⟨rfl, hb1⟩
  go_wp2_with fail
  refine (due_nil _ _).mono ?_
  rintro e w2 ⟨rfl, rfl⟩
  go_wp2_with fail
  go_loopw [14] (fun i wr => i = .int .i64 0 ∧ wr = w1) (fun _ _ => 0)
  case atStart => exact ⟨rfl, rfl⟩
  case round =>
    obtain ⟨rfl, rfl⟩ := hrel
    go_wp2_with fail
    go_ret
    exact ⟨rfl, hb1⟩
theorem flatGeo : flat Tryz.prog 4 25 = some (List.replicate 3 (Kd.int .i64)) := by kernel_rfl
theorem eqGeo : eqOk Tryz.prog 4 25 = true := by kernel_rfl
theorem eql_g0 (w : World) : (binOp .eql 25 (.agg gZ.toArray) (.agg gZ.toArray)).run Tryz.prog w = .ok (.bool true) w := by
  rw [run_eql_flat w flatGeo eqGeo (by kernel_rfl) (by decide) (show okAll (List.replicate 3 (Kd.int .i64)) gZ = true by decide +kernel) (show okAll (List.replicate 3 (Kd.int .i64)) gZ = true by decide +kernel)]; rfl
set_option maxRecDepth 100000 in
set_option maxHeartbeats 8000000 in
theorem walk (w : World) :
    Calls Tryz.prog 14 #[] w fun e w' => e = .returned (.bool true) ∧ Below w.heap.size w w' := by
  go_enter Tryz.func14, Tryz.ntmps14
  have HB0 := Lib.hid (Below.refl w.heap.size w)
  go_wp2_with (first | (refine want_build 32 _ rfl [] rfl _ ad_0 (by rfl) ?_))
  refine (read_nil ⟨0, 0, 0⟩ _).mono ?_
  rintro e w1 ⟨rfl, hb1⟩
  have HB1 := Lib.hid (HB0.out.trans (hb1.mono HB0.out.size))
  clear hb1 HB0 
  go_wp2_with (first | (refine wpList_put_row rfl 34 (.tmp 3) (.tmp 9) rfl _ (nats .u8 zero32) rfl rfl 34 _ (heap_new' _ _ _ rfl) (pgInfo rfl) rfl (one_nats _ _) ?_; intro w2 hU2; have h2 := hU2.at_; have hb2 := hU2.below (alloc_low _ _) (Nat.le_refl _); clear hU2))
  have HB2 := Lib.hid (HB1.out.trans (hb2.mono HB1.out.size))
  clear hb2 HB1 
  clear h2
  go_wp2_with fail
  refine (cut_nil _ 1 1).mono ?_
  rintro e w3 ⟨rfl, hb3⟩
  have HB3 := Lib.hid (HB2.out.trans (hb3.mono HB2.out.size))
  clear hb3 HB2 
  go_wp2_with fail
  refine (on_nil _).mono ?_
  rintro e w4 ⟨rfl, hb4⟩
  have HB4 := Lib.hid (HB3.out.trans (hb4.mono HB3.out.size))
  clear hb4 HB3 
  go_upto_region 6 with fail
  simp only [List.append_eq, List.cons_append, List.nil_append]
  have hgz := eql_g0
  go_wp2_with fail
  refine (begun7_any _).mono ?_
  rintro e w5 ⟨rfl, hb5⟩
  have HB5 := Lib.hid (HB4.out.trans (hb5.mono HB4.out.size))
  clear hb5 HB4 
  go_wp2_with (first | (refine want_build 32 _ rfl [] rfl _ ad_0 (by rfl) ?_) | (refine want_build 34 _ rfl [] rfl _ built_pz (by rfl) ?_))
  refine (program_nil ⟨0, 0, 0⟩ zero32 _).mono ?_
  rintro e w6 ⟨rfl, hb6⟩
  have HB6 := Lib.hid (HB5.out.trans (hb6.mono HB5.out.size))
  clear hb6 HB5 
  go_wp2_with fail
  refine (erase_nil 0 0 _).mono ?_
  rintro e w7 ⟨rfl, hb7⟩
  have HB7 := Lib.hid (HB6.out.trans (hb7.mono HB6.out.size))
  clear hb7 HB6 
  go_wp2_with fail
  refine (next_nil _ 0 0).mono ?_
  rintro e w8 ⟨rfl, hb8⟩
  have HB8 := Lib.hid (HB7.out.trans (hb8.mono HB7.out.size))
  clear hb8 HB7 
  go_wp2_with fail
  refine (worn_nil _ 0 0).mono ?_
  rintro e w9 ⟨rfl, hb9⟩
  have HB9 := Lib.hid (HB8.out.trans (hb9.mono HB8.out.size))
  clear hb9 HB8 
  go_wp2_with fail
  refine (dead_nil _ 0).mono ?_
  rintro e w10 ⟨rfl, hb10⟩
  have HB10 := Lib.hid (HB9.out.trans (hb10.mono HB9.out.size))
  clear hb10 HB9 
  go_wp2_with (first | (refine want_build 44 _ rfl [(1, .int .i64 _)] rfl _ (flt_k 4) (by rfl) ?_))
  refine (fault_nil ⟨0, 4, 0, 0, 0, 0, 0⟩ _).mono ?_
  rintro e w11 ⟨rfl, hb11⟩
  have HB11 := Lib.hid (HB10.out.trans (hb11.mono HB10.out.size))
  clear hb11 HB10 
  go_wp2_with fail
  refine (power_nil _).mono ?_
  rintro e w12 ⟨rfl, hb12⟩
  have HB12 := Lib.hid (HB11.out.trans (hb12.mono HB11.out.size))
  clear hb12 HB11 
  go_wp2_with fail
  refine (ops_nil _).mono ?_
  rintro e w13 ⟨rfl, hb13⟩
  have HB13 := Lib.hid (HB12.out.trans (hb13.mono HB12.out.size))
  clear hb13 HB12 
  go_wp2_with fail
  refine (broken_nil _).mono ?_
  rintro e w14 ⟨rfl, hb14⟩
  have HB14 := Lib.hid (HB13.out.trans (hb14.mono HB13.out.size))
  clear hb14 HB13 
  go_wp2_with fail
  refine (show Calls _ _ _ _ (fun e w' => e = .returned (.agg gZ.toArray) ∧ Below _ _ w') from geo_nil _).mono ?_
  rintro e w15 ⟨rfl, hb15⟩
  have HB15 := Lib.hid (HB14.out.trans (hb15.mono HB14.out.size))
  clear hb15 HB14 
  go_wp2_with (first | (refine want_build 25 _ rfl [] rfl _ built_gZ (by rfl) ?_))
  refine (due_nil _ 3).mono ?_
  rintro e wq ⟨rfl, rfl⟩
  go_wp2_with fail
  refine (run_nil _).mono ?_
  rintro e w16 ⟨rfl, hb16⟩
  have HB16 := Lib.hid (HB15.out.trans (hb16.mono HB15.out.size))
  clear hb16 HB15 
  go_wp2_with fail
  refine (left_nil _).mono ?_
  rintro e wq ⟨rfl, rfl⟩
  go_wp2_with fail
  go_ret
  exact ⟨rfl, HB16.out⟩
end Go.Proofs.YtnfigkoefmldiaaGreat.nandNone
