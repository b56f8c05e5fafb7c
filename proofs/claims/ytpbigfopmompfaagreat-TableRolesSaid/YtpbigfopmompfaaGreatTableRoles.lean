import Derived.Test.YtpbigfopmompfaaGreatBegun13
import Derived.Test.YtpbigfopmompfaaGreatFlat
import Derived.Test.YtpbigfopmompfaaGreatBunQ
import Derived.Deep.DeepCutAuto
/- Pads never stand; pages that there are not never do. -/
namespace Go.Proofs.YtpbigfopmompfaaGreat.tableRoles
open Go.RowKit
set_option linter.unusedVariables false
set_option maxRecDepth 100000 in
set_option maxHeartbeats 4000000 in
theorem walk0 (l s r : Int) (d : List Nat) (hd : d.length = 16) (hb : ∀ x ∈ d, x < 256) (a1 : Int) (w : World) (w0 : wfI l) (ws : wfI s) (wr_ : wfI r) (w1 : (Lit.int .i64 a1).wf = true) : Calls Tryz.prog 7 #[.agg (enV l s r d).toArray, .int .i64 a1] w fun e w' => e = .returned (.bool true) ∧ Below w.heap.size w w' := by
  obtain ⟨n, hn⟩ : ∃ n : Nat, (n : Int) = a1 % 50 := ⟨(a1 % 50).toNat, by omega⟩
  have e1 := norm_wrap a1 50 (by decide) (by decide)
  rw [← hn] at e1
  have hn49 : n ≤ 49 := by omega
  have hb0 := nand.alloc_low w (.cells (enV l s r d).toArray 29)
  have he := heap_new' w (.cells (enV l s r d).toArray 29) _ rfl
  have HE0 := Lib.hid he
  have HB0 := Lib.hid hb0
  clear hn w1 he hb0 hb
  go_enter Tryz.func7, Tryz.ntmps7
  go_upto_region 1 with fail
  change Code.wp _ _ _ _ (w.alloc (.cells (enV l s r d).toArray 29))
  generalize w.alloc (.cells (enV l s r d).toArray 29) = wa at *
  go_wp2_with fail
  refine (begun13.begun13_any wa).mono ?_
  rintro e w1 ⟨rfl, hb1⟩
  have HE1 := Lib.hid (blk_below HE0.out hb1)
  have HB1 := Lib.hid (HB0.out.trans (hb1.mono HB0.out.size))
  clear hb1
  go_wp2_with fail
  refine (tab.new_any w1 n (by omega)).mono ?_
  rintro e w2 ⟨g, mb, cb, rfl, ht, hg1, hg2, hg3, hb2⟩
  have HE2 := Lib.hid (blk_below HE1.out hb2)
  have HB2 := Lib.hid (HB1.out.trans (hb2.mono HB1.out.size))
  have HT2 := Lib.hid ht
  clear ht hb2
  have c0 : w2.cell? ⟨w.heap.size, 0, none⟩ = some (.int .i64 l) := by rw [blk_cell HE2.out]; rfl
  have c2 : w2.cell? ⟨w.heap.size, 2, none⟩ = some (.int .i64 r) := by rw [blk_cell HE2.out]; rfl
  obtain ⟨W, hW⟩ : ∃ W, W = (decide (0 ≤ l ∧ l < (n : Int)) && tab.roleB r) := ⟨_, rfl⟩
  have HW := Lib.hid hW
  clear hW
  go_upto_region 6 with fail
  go_cut [7] (fun v wx => v = .bool W ∧ wx = w2)
  case first =>
    by_cases h0 : 0 ≤ l
    · by_cases h1 : l < (n : Int)
      · have HD := Lib.hid (show W = tab.roleB r by rw [HW.out]; simp [h0, h1])
        unfold tab.roleB at HD
        by_cases r1 : r = 1
        · subst r1
          have HF := Lib.hid (show W = true from HD.out)
          go_wp2_with fail
          go_meet
          exact ⟨by rw [HF.out], rfl⟩
        · by_cases r2 : r = 2
          · subst r2
            have HF := Lib.hid (show W = true from HD.out)
            go_wp2_with fail
            go_meet
            exact ⟨by rw [HF.out], rfl⟩
          · have q1 : (r == 1) = false := by simpa using r1
            have q2 : (r == 2) = false := by simpa using r2
            have HF := Lib.hid (show W = (r == 4) by rw [HD.out, q1, q2]; rfl)
            go_wp2_with fail
            go_meet
            exact ⟨by rw [HF.out], rfl⟩
      · have HF := Lib.hid (show W = false by rw [HW.out]; simp [h1])
        go_wp2_with fail
        go_meet
        exact ⟨by rw [HF.out], rfl⟩
    · have HF := Lib.hid (show W = false by rw [HW.out]; simp [h0])
      go_wp2_with fail
      go_meet
      exact ⟨by rw [HF.out], rfl⟩
  case rest =>
    obtain ⟨rfl, rfl⟩ := hcut
    have hPB : tab.Tb.putB ⟨n, [], 1⟩ l s r = W := by
      rw [HW.out]; unfold tab.Tb.putB; simp [tab.getE]
    have hLen : (tab.Tb.putT ⟨n, [], 1⟩ l s r 1 0 0 3).f.length = if W = true then 1 else 0 := by
      unfold tab.Tb.putT
      rw [hPB]
      cases W <;> simp [tab.putE, tab.delE]
    have hP := tab.put_any HT2.out l s r 1 0 0 3 d hd w0 ws (begun13.wf0 (by decide)) (by omega)
    rw [hPB] at hP
    have HP := Lib.hid hP
    have HLen := Lib.hid hLen
    have hrow := range_blk HE2.out
    clear hP hPB hLen c0 c2
    go_wp2_with (first | (refine wpList_load_mid rfl 29 (.tmp 2) rfl w.heap.size 0 rfl (enV l s r d) _ hrow Tryz.underlying29 rfl (enInfo hd _ _ _) ?_))
    refine HP.out.mono ?_
    rintro e w3 ⟨rfl, ht3, hk3⟩
    have HB3 := Lib.hid (HB2.out.trans (hk3.below HB2.out.size (fun k hk => by have := HB1.out.size; rcases hk with rfl | rfl | rfl <;> omega)))
    have HT3 := Lib.hid ht3
    clear ht3 hk3 hrow
    cases W with
    | true =>
      have HL1 := Lib.hid (show (((tab.Tb.putT ⟨n, [], 1⟩ l s r 1 0 0 3).f.length : Nat) : Int) = 1 by rw [HLen.out]; rfl)
      obtain ⟨wI, hmu0, hbI, hlk0⟩ := one_map w3
      have HMU := Lib.hid hmu0
      have HBI := Lib.hid (show Below w3.heap.size w3 wI from hbI)
      have HLK := Lib.hid hlk0
      clear hmu0 hbI hlk0
      go_upto_region 8 with fail
      refine wp_region_puts_g (by kernel_rfl) (by kernel_rfl) (X := Unit) (fun _ => [(some 46, .bool true), (some 47, .bool true), (some 48, .bool true), (some 49, .bool true), (some 50, .pointer (some ⟨g, 0, none⟩)), (some 51, .int .i64 1), (some 52, .map (some w3.heap.size)), (none, undef), (some 53, .map (some w3.heap.size)), (some 54, .bool true), (some 55, .int .i64 1), (some 56, .bool true), (some 57, .bool true), (some 4, .bool true)])
        (fun _ L w' => (L 8 = true → L 7 = true) ∧ (L 7 = true → L 6 = true) ∧ w' = (bif L 7 then wI else (bif L 6 then w3.drew.alloc (.map #[] 0) else w3.drew)) ∧ Below w3.heap.size w3 w') (fun _ => rfl) (by kernel_rfl) ⟨(), fun L hL => ⟨(by rw [hL 8]; intro h; cases h), (by rw [hL 7]; intro h; cases h), (by simp only [hL, cond_false]), (Below.refl _ w3).drew⟩⟩ ?_ ?_
      · refine ⟨?_, ?_, ?_, ?_, ?_, ?_, ?_, ?_, ?_, ?_, ?_, ?_, ?_, ?_, trivial⟩
        · intro _ L w' hL hpre hJ a ha
          obtain ⟨j8, jo, jw, jb⟩ := hJ
          simp [Region.binds] at hpre
          refine .inl ⟨wanted_none rfl, ?_⟩
          exact wp_move' (.tmp 8) (.inl rfl) (.bool true) (by rw [ha, eval_puts_out rfl]; rfl) ⟨(), _, rfl, rfl, j8, jo, jw, jb⟩
        · intro _ L w' hL hpre hJ a ha
          obtain ⟨j8, jo, jw, jb⟩ := hJ
          simp [Region.binds] at hpre
          refine .inl ⟨wanted_none rfl, ?_⟩
          exact wp_move' (.tmp 7) (.inl rfl) (.bool true) (by rw [ha, eval_puts_out rfl]; rfl) ⟨(), _, rfl, rfl, j8, jo, jw, jb⟩
        · intro _ L w' hL hpre hJ a ha
          obtain ⟨j8, jo, jw, jb⟩ := hJ
          simp [Region.binds] at hpre
          refine .inl ⟨wanted_none rfl, ?_⟩
          have e46 : a.eval (.tmp 46) = .bool true := by rw [ha]; exact eval_puts_in (i := 0) rfl (by simp [hpre]) (by simp) rfl
          have e47 : a.eval (.tmp 47) = .bool true := by rw [ha]; exact eval_puts_in (i := 1) rfl (by simp [hpre]) (by simp) rfl
          clear ha
          have j8' := Lib.hid j8
          have jo' := Lib.hid jo
          have jw' := Lib.hid jw
          have jb' := Lib.hid jb
          clear j8 jo jw jb
          refine wp_intro fun K HK => ?_
          unfold Oper.wp
          simp only [execOp, e46, e47]
          go_simp
          exact HK.out _ _ ⟨(), _, rfl, rfl, j8'.out, jo'.out, jw'.out, jb'.out⟩
        · intro _ L w' hL hpre hJ a ha
          obtain ⟨j8, jo, jw, jb⟩ := hJ
          simp [Region.binds] at hpre
          refine .inl ⟨wanted_none rfl, ?_⟩
          exact wp_move' (.tmp 48) (.inl rfl) (.bool true) (by rw [ha]; exact eval_puts_in (i := 2) rfl (by simp [hpre]) (by simp) rfl) ⟨(), _, rfl, rfl, j8, jo, jw, jb⟩
        · intro _ L w' hL hpre hJ a ha
          obtain ⟨j8, jo, jw, jb⟩ := hJ
          simp [Region.binds] at hpre
          refine .inl ⟨wanted_yes (g := 3) (t := 49) (b := true) rfl rfl (by rw [ha]; exact eval_puts_in (i := 3) rfl (by simp [hpre]) (by simp) rfl), ?_⟩
          exact wp_move' (.tmp 6) (.inl rfl) (.pointer (some ⟨g, 0, none⟩)) (by rw [ha, eval_puts_out rfl]; rfl) ⟨(), _, rfl, rfl, j8, jo, jw, jb⟩
        · intro _ L w' hL hpre hJ a ha
          obtain ⟨j8, jo, jw, jb⟩ := hJ
          simp [Region.binds] at hpre
          refine .inl ⟨wanted_yes (g := 3) (t := 49) (b := true) rfl rfl (by rw [ha]; exact eval_puts_in (i := 3) rfl (by simp [hpre]) (by simp) rfl), ?_⟩
          have e50 : a.eval (.tmp 50) = .pointer (some ⟨g, 0, none⟩) := by rw [ha]; exact eval_puts_in (i := 4) rfl (by simp [hpre]) (by simp) rfl
          have hc := Lib.hid (tab.len_any (HT3.out.below jb))
          rw [HL1.out] at hc
          have HJ := Lib.hid (And.intro j8 (And.intro jo (And.intro jw jb)))
          clear ha j8 jo jw jb
          refine wp_intro fun K HK => ?_
          unfold Oper.wp
          simp only [execOp, resolve, List.map_toArray, List.map_cons, List.map_nil, e50]
          go_simp
          refine hc.out.mono ?_
          rintro e w'' ⟨rfl, rfl⟩
          exact HK.out _ _ ⟨(), _, rfl, rfl, HJ.out⟩
        · intro _ L w' hL hpre hJ a ha
          obtain ⟨j8, jo, jw, jb⟩ := hJ
          simp [Region.binds] at hpre
          refine .inl ⟨wanted_yes (g := 3) (t := 49) (b := true) rfl rfl (by rw [ha]; exact eval_puts_in (i := 3) rfl (by simp [hpre]) (by simp) rfl), ?_⟩
          have h7 : L 7 = false := by
            cases h : L 7 with
            | false => rfl
            | true => exact absurd (jo h) (by simp [hL])
          rw [h7, hL] at jw
          simp only [cond_false] at jw
          subst jw
          have hmm := @run_makeMap Tryz.prog
          have HJ := Lib.hid (jb.alloc jb.size (.map #[] 0))
          have H7 := Lib.hid h7
          have H8 := Lib.hid j8
          clear ha j8 jb jo h7
          refine wp_intro fun K HK => ?_
          unfold Oper.wp
          simp only [execOp]
          go_simp
          exact HK.out _ _ ⟨(), _, rfl, rfl, H8.out, fun _ => rfl, (by show _ = (bif L 7 then wI else _); rw [H7.out]; rfl), HJ.out⟩
        · intro _ L w' hL hpre hJ a ha
          obtain ⟨j8, jo, jw, jb⟩ := hJ
          simp [Region.binds] at hpre
          refine .inl ⟨wanted_yes (g := 3) (t := 49) (b := true) rfl rfl (by rw [ha]; exact eval_puts_in (i := 3) rfl (by simp [hpre]) (by simp) rfl), ?_⟩
          have e52 : a.eval (.tmp 52) = .map (some w3.heap.size) := by rw [ha]; exact eval_puts_in (i := 6) rfl (by simp [hpre]) (by simp) rfl
          have p6 : L 6 = true := by simp [hpre]
          rw [hL, p6] at jw
          simp only [cond_false, cond_true] at jw
          subst jw
          have hmu := HMU.out
          have P6 := Lib.hid p6
          clear ha j8 jb jo p6
          refine wp_intro fun K HK => ?_
          unfold Oper.wp
          simp only [execOp, e52]
          go_simp
          exact HK.out _ _ ⟨(), _, rfl, rfl, fun _ => rfl, fun _ => P6.out, rfl, HBI.out⟩
        · intro _ L w' hL hpre hJ a ha
          obtain ⟨j8, jo, jw, jb⟩ := hJ
          simp [Region.binds] at hpre
          refine .inl ⟨wanted_yes (g := 3) (t := 49) (b := true) rfl rfl (by rw [ha]; exact eval_puts_in (i := 3) rfl (by simp [hpre]) (by simp) rfl), ?_⟩
          have e52 : a.eval (.tmp 52) = .map (some w3.heap.size) := by rw [ha]; exact eval_puts_in (i := 6) rfl (by simp [hpre]) (by simp) rfl
          have p7 : L 7 = true := by simp [hpre]
          exact wp_move' (.tmp 52) (.inl rfl) (.map (some w3.heap.size)) e52 ⟨(), _, rfl, rfl, fun _ => p7, jo, jw, jb⟩
        · intro _ L w' hL hpre hJ a ha
          obtain ⟨j8, jo, jw, jb⟩ := hJ
          simp [Region.binds] at hpre
          refine .inl ⟨wanted_yes (g := 3) (t := 49) (b := true) rfl rfl (by rw [ha]; exact eval_puts_in (i := 3) rfl (by simp [hpre]) (by simp) rfl), ?_⟩
          exact wp_move' (.tmp 7) (.inl rfl) (.bool true) (by rw [ha, eval_puts_out rfl]; rfl) ⟨(), _, rfl, rfl, j8, jo, jw, jb⟩
        · intro _ L w' hL hpre hJ a ha
          obtain ⟨j8, jo, jw, jb⟩ := hJ
          simp [Region.binds] at hpre
          refine .inl ⟨wanted_yes (g := 3) (t := 49) (b := true) rfl rfl (by rw [ha]; exact eval_puts_in (i := 3) rfl (by simp [hpre]) (by simp) rfl), ?_⟩
          have e53 : a.eval (.tmp 53) = .map (some w3.heap.size) := by rw [ha]; exact eval_puts_in (i := 8) rfl (by simp [hpre]) (by simp) rfl
          have e54 : a.eval (.tmp 54) = .bool true := by rw [ha]; exact eval_puts_in (i := 9) rfl (by simp [hpre]) (by simp) rfl
          have p7 : L 7 = true := j8 (by simp [hpre])
          have jw' := jw
          rw [p7] at jw'
          simp only [cond_true] at jw'
          subst jw'
          have hlk := HLK.out true
          have HJ := Lib.hid (And.intro j8 (And.intro jo (And.intro jw jb)))
          clear ha j8 jo jw jb
          refine wp_intro fun K HK => ?_
          unfold Oper.wp
          simp only [execOp, e53, e54]
          go_simp
          exact HK.out _ _ ⟨(), _, rfl, rfl, HJ.out⟩
        · intro _ L w' hL hpre hJ a ha
          obtain ⟨j8, jo, jw, jb⟩ := hJ
          simp [Region.binds] at hpre
          refine .inl ⟨wanted_yes (g := 3) (t := 49) (b := true) rfl rfl (by rw [ha]; exact eval_puts_in (i := 3) rfl (by simp [hpre]) (by simp) rfl), ?_⟩
          have e51 : a.eval (.tmp 51) = .int .i64 1 := by rw [ha]; exact eval_puts_in (i := 5) rfl (by simp [hpre]) (by simp) rfl
          have e55 : a.eval (.tmp 55) = .int .i64 1 := by rw [ha]; exact eval_puts_in (i := 10) rfl (by simp [hpre]) (by simp) rfl
          clear ha
          have j8' := Lib.hid j8
          have jo' := Lib.hid jo
          have jw' := Lib.hid jw
          have jb' := Lib.hid jb
          clear j8 jo jw jb
          refine wp_intro fun K HK => ?_
          unfold Oper.wp
          simp only [execOp, e51, e55]
          go_simp
          exact HK.out _ _ ⟨(), _, rfl, rfl, j8'.out, jo'.out, jw'.out, jb'.out⟩
        · intro _ L w' hL hpre hJ a ha
          obtain ⟨j8, jo, jw, jb⟩ := hJ
          simp [Region.binds] at hpre
          refine .inl ⟨wanted_none rfl, ?_⟩
          have e49 : a.eval (.tmp 49) = .bool true := by rw [ha]; exact eval_puts_in (i := 3) rfl (by simp [hpre]) (by simp) rfl
          have e56 : a.eval (.tmp 56) = .bool true := by rw [ha]; exact eval_puts_in (i := 11) rfl (by simp [hpre]) (by simp) rfl
          clear ha
          have j8' := Lib.hid j8
          have jo' := Lib.hid jo
          have jw' := Lib.hid jw
          have jb' := Lib.hid jb
          clear j8 jo jw jb
          refine wp_intro fun K HK => ?_
          unfold Oper.wp
          simp only [execOp, e49, e56]
          go_simp
          exact HK.out _ _ ⟨(), _, rfl, rfl, j8'.out, jo'.out, jw'.out, jb'.out⟩
        · intro _ L w' hL hpre hJ a ha
          obtain ⟨j8, jo, jw, jb⟩ := hJ
          simp [Region.binds] at hpre
          refine .inl ⟨wanted_none rfl, ?_⟩
          exact wp_move' (.tmp 57) (.inr rfl) (.bool true) (by rw [ha]; exact eval_puts_in (i := 12) rfl (by simp [hpre]) (by simp) rfl) ⟨(), _, rfl, rfl, j8, jo, jw, jb⟩
      · intro _ L w' hL hJ
        obtain ⟨j8, jo, jw, jb⟩ := hJ
        clear hL
        simp only [List.foldl_cons, List.foldl_nil]
        have HBz := Lib.hid (HB3.out.trans (jb.mono HB3.out.size))
        clear j8 jo jw jb
        go_simp
        go_wp2_with fail
        go_ret
        exact ⟨rfl, HBz.out⟩
    | false =>
      have HL1 := Lib.hid (show (((tab.Tb.putT ⟨n, [], 1⟩ l s r 1 0 0 3).f.length : Nat) : Int) = 0 by rw [HLen.out]; rfl)
      obtain ⟨wI, hmu0, hbI, hlk0⟩ := one_map w3
      have HMU := Lib.hid hmu0
      have HBI := Lib.hid (show Below w3.heap.size w3 wI from hbI)
      have HLK := Lib.hid hlk0
      clear hmu0 hbI hlk0
      go_upto_region 8 with fail
      refine wp_region_puts_g (by kernel_rfl) (by kernel_rfl) (X := Unit) (fun _ => [(some 46, .bool false), (some 47, .bool false), (some 48, .bool true), (some 49, .bool true), (some 50, .pointer (some ⟨g, 0, none⟩)), (some 51, .int .i64 0), (some 52, .map (some w3.heap.size)), (none, undef), (some 53, .map (some w3.heap.size)), (some 54, .bool false), (some 55, .int .i64 0), (some 56, .bool true), (some 57, .bool true), (some 4, .bool true)])
        (fun _ L w' => (L 8 = true → L 7 = true) ∧ (L 7 = true → L 6 = true) ∧ w' = (bif L 7 then wI else (bif L 6 then w3.drew.alloc (.map #[] 0) else w3.drew)) ∧ Below w3.heap.size w3 w') (fun _ => rfl) (by kernel_rfl) ⟨(), fun L hL => ⟨(by rw [hL 8]; intro h; cases h), (by rw [hL 7]; intro h; cases h), (by simp only [hL, cond_false]), (Below.refl _ w3).drew⟩⟩ ?_ ?_
      · refine ⟨?_, ?_, ?_, ?_, ?_, ?_, ?_, ?_, ?_, ?_, ?_, ?_, ?_, ?_, trivial⟩
        · intro _ L w' hL hpre hJ a ha
          obtain ⟨j8, jo, jw, jb⟩ := hJ
          simp [Region.binds] at hpre
          refine .inl ⟨wanted_none rfl, ?_⟩
          exact wp_move' (.tmp 8) (.inl rfl) (.bool false) (by rw [ha, eval_puts_out rfl]; rfl) ⟨(), _, rfl, rfl, j8, jo, jw, jb⟩
        · intro _ L w' hL hpre hJ a ha
          obtain ⟨j8, jo, jw, jb⟩ := hJ
          simp [Region.binds] at hpre
          refine .inl ⟨wanted_none rfl, ?_⟩
          exact wp_move' (.tmp 7) (.inl rfl) (.bool false) (by rw [ha, eval_puts_out rfl]; rfl) ⟨(), _, rfl, rfl, j8, jo, jw, jb⟩
        · intro _ L w' hL hpre hJ a ha
          obtain ⟨j8, jo, jw, jb⟩ := hJ
          simp [Region.binds] at hpre
          refine .inl ⟨wanted_none rfl, ?_⟩
          have e46 : a.eval (.tmp 46) = .bool false := by rw [ha]; exact eval_puts_in (i := 0) rfl (by simp [hpre]) (by simp) rfl
          have e47 : a.eval (.tmp 47) = .bool false := by rw [ha]; exact eval_puts_in (i := 1) rfl (by simp [hpre]) (by simp) rfl
          clear ha
          have j8' := Lib.hid j8
          have jo' := Lib.hid jo
          have jw' := Lib.hid jw
          have jb' := Lib.hid jb
          clear j8 jo jw jb
          refine wp_intro fun K HK => ?_
          unfold Oper.wp
          simp only [execOp, e46, e47]
          go_simp
          exact HK.out _ _ ⟨(), _, rfl, rfl, j8'.out, jo'.out, jw'.out, jb'.out⟩
        · intro _ L w' hL hpre hJ a ha
          obtain ⟨j8, jo, jw, jb⟩ := hJ
          simp [Region.binds] at hpre
          refine .inl ⟨wanted_none rfl, ?_⟩
          exact wp_move' (.tmp 48) (.inl rfl) (.bool true) (by rw [ha]; exact eval_puts_in (i := 2) rfl (by simp [hpre]) (by simp) rfl) ⟨(), _, rfl, rfl, j8, jo, jw, jb⟩
        · intro _ L w' hL hpre hJ a ha
          obtain ⟨j8, jo, jw, jb⟩ := hJ
          simp [Region.binds] at hpre
          refine .inl ⟨wanted_yes (g := 3) (t := 49) (b := true) rfl rfl (by rw [ha]; exact eval_puts_in (i := 3) rfl (by simp [hpre]) (by simp) rfl), ?_⟩
          exact wp_move' (.tmp 6) (.inl rfl) (.pointer (some ⟨g, 0, none⟩)) (by rw [ha, eval_puts_out rfl]; rfl) ⟨(), _, rfl, rfl, j8, jo, jw, jb⟩
        · intro _ L w' hL hpre hJ a ha
          obtain ⟨j8, jo, jw, jb⟩ := hJ
          simp [Region.binds] at hpre
          refine .inl ⟨wanted_yes (g := 3) (t := 49) (b := true) rfl rfl (by rw [ha]; exact eval_puts_in (i := 3) rfl (by simp [hpre]) (by simp) rfl), ?_⟩
          have e50 : a.eval (.tmp 50) = .pointer (some ⟨g, 0, none⟩) := by rw [ha]; exact eval_puts_in (i := 4) rfl (by simp [hpre]) (by simp) rfl
          have hc := Lib.hid (tab.len_any (HT3.out.below jb))
          rw [HL1.out] at hc
          have HJ := Lib.hid (And.intro j8 (And.intro jo (And.intro jw jb)))
          clear ha j8 jo jw jb
          refine wp_intro fun K HK => ?_
          unfold Oper.wp
          simp only [execOp, resolve, List.map_toArray, List.map_cons, List.map_nil, e50]
          go_simp
          refine hc.out.mono ?_
          rintro e w'' ⟨rfl, rfl⟩
          exact HK.out _ _ ⟨(), _, rfl, rfl, HJ.out⟩
        · intro _ L w' hL hpre hJ a ha
          obtain ⟨j8, jo, jw, jb⟩ := hJ
          simp [Region.binds] at hpre
          refine .inl ⟨wanted_yes (g := 3) (t := 49) (b := true) rfl rfl (by rw [ha]; exact eval_puts_in (i := 3) rfl (by simp [hpre]) (by simp) rfl), ?_⟩
          have h7 : L 7 = false := by
            cases h : L 7 with
            | false => rfl
            | true => exact absurd (jo h) (by simp [hL])
          rw [h7, hL] at jw
          simp only [cond_false] at jw
          subst jw
          have hmm := @run_makeMap Tryz.prog
          have HJ := Lib.hid (jb.alloc jb.size (.map #[] 0))
          have H7 := Lib.hid h7
          have H8 := Lib.hid j8
          clear ha j8 jb jo h7
          refine wp_intro fun K HK => ?_
          unfold Oper.wp
          simp only [execOp]
          go_simp
          exact HK.out _ _ ⟨(), _, rfl, rfl, H8.out, fun _ => rfl, (by show _ = (bif L 7 then wI else _); rw [H7.out]; rfl), HJ.out⟩
        · intro _ L w' hL hpre hJ a ha
          obtain ⟨j8, jo, jw, jb⟩ := hJ
          simp [Region.binds] at hpre
          refine .inl ⟨wanted_yes (g := 3) (t := 49) (b := true) rfl rfl (by rw [ha]; exact eval_puts_in (i := 3) rfl (by simp [hpre]) (by simp) rfl), ?_⟩
          have e52 : a.eval (.tmp 52) = .map (some w3.heap.size) := by rw [ha]; exact eval_puts_in (i := 6) rfl (by simp [hpre]) (by simp) rfl
          have p6 : L 6 = true := by simp [hpre]
          rw [hL, p6] at jw
          simp only [cond_false, cond_true] at jw
          subst jw
          have hmu := HMU.out
          have P6 := Lib.hid p6
          clear ha j8 jb jo p6
          refine wp_intro fun K HK => ?_
          unfold Oper.wp
          simp only [execOp, e52]
          go_simp
          exact HK.out _ _ ⟨(), _, rfl, rfl, fun _ => rfl, fun _ => P6.out, rfl, HBI.out⟩
        · intro _ L w' hL hpre hJ a ha
          obtain ⟨j8, jo, jw, jb⟩ := hJ
          simp [Region.binds] at hpre
          refine .inl ⟨wanted_yes (g := 3) (t := 49) (b := true) rfl rfl (by rw [ha]; exact eval_puts_in (i := 3) rfl (by simp [hpre]) (by simp) rfl), ?_⟩
          have e52 : a.eval (.tmp 52) = .map (some w3.heap.size) := by rw [ha]; exact eval_puts_in (i := 6) rfl (by simp [hpre]) (by simp) rfl
          have p7 : L 7 = true := by simp [hpre]
          exact wp_move' (.tmp 52) (.inl rfl) (.map (some w3.heap.size)) e52 ⟨(), _, rfl, rfl, fun _ => p7, jo, jw, jb⟩
        · intro _ L w' hL hpre hJ a ha
          obtain ⟨j8, jo, jw, jb⟩ := hJ
          simp [Region.binds] at hpre
          refine .inl ⟨wanted_yes (g := 3) (t := 49) (b := true) rfl rfl (by rw [ha]; exact eval_puts_in (i := 3) rfl (by simp [hpre]) (by simp) rfl), ?_⟩
          exact wp_move' (.tmp 7) (.inl rfl) (.bool false) (by rw [ha, eval_puts_out rfl]; rfl) ⟨(), _, rfl, rfl, j8, jo, jw, jb⟩
        · intro _ L w' hL hpre hJ a ha
          obtain ⟨j8, jo, jw, jb⟩ := hJ
          simp [Region.binds] at hpre
          refine .inl ⟨wanted_yes (g := 3) (t := 49) (b := true) rfl rfl (by rw [ha]; exact eval_puts_in (i := 3) rfl (by simp [hpre]) (by simp) rfl), ?_⟩
          have e53 : a.eval (.tmp 53) = .map (some w3.heap.size) := by rw [ha]; exact eval_puts_in (i := 8) rfl (by simp [hpre]) (by simp) rfl
          have e54 : a.eval (.tmp 54) = .bool false := by rw [ha]; exact eval_puts_in (i := 9) rfl (by simp [hpre]) (by simp) rfl
          have p7 : L 7 = true := j8 (by simp [hpre])
          have jw' := jw
          rw [p7] at jw'
          simp only [cond_true] at jw'
          subst jw'
          have hlk := HLK.out false
          have HJ := Lib.hid (And.intro j8 (And.intro jo (And.intro jw jb)))
          clear ha j8 jo jw jb
          refine wp_intro fun K HK => ?_
          unfold Oper.wp
          simp only [execOp, e53, e54]
          go_simp
          exact HK.out _ _ ⟨(), _, rfl, rfl, HJ.out⟩
        · intro _ L w' hL hpre hJ a ha
          obtain ⟨j8, jo, jw, jb⟩ := hJ
          simp [Region.binds] at hpre
          refine .inl ⟨wanted_yes (g := 3) (t := 49) (b := true) rfl rfl (by rw [ha]; exact eval_puts_in (i := 3) rfl (by simp [hpre]) (by simp) rfl), ?_⟩
          have e51 : a.eval (.tmp 51) = .int .i64 0 := by rw [ha]; exact eval_puts_in (i := 5) rfl (by simp [hpre]) (by simp) rfl
          have e55 : a.eval (.tmp 55) = .int .i64 0 := by rw [ha]; exact eval_puts_in (i := 10) rfl (by simp [hpre]) (by simp) rfl
          clear ha
          have j8' := Lib.hid j8
          have jo' := Lib.hid jo
          have jw' := Lib.hid jw
          have jb' := Lib.hid jb
          clear j8 jo jw jb
          refine wp_intro fun K HK => ?_
          unfold Oper.wp
          simp only [execOp, e51, e55]
          go_simp
          exact HK.out _ _ ⟨(), _, rfl, rfl, j8'.out, jo'.out, jw'.out, jb'.out⟩
        · intro _ L w' hL hpre hJ a ha
          obtain ⟨j8, jo, jw, jb⟩ := hJ
          simp [Region.binds] at hpre
          refine .inl ⟨wanted_none rfl, ?_⟩
          have e49 : a.eval (.tmp 49) = .bool true := by rw [ha]; exact eval_puts_in (i := 3) rfl (by simp [hpre]) (by simp) rfl
          have e56 : a.eval (.tmp 56) = .bool true := by rw [ha]; exact eval_puts_in (i := 11) rfl (by simp [hpre]) (by simp) rfl
          clear ha
          have j8' := Lib.hid j8
          have jo' := Lib.hid jo
          have jw' := Lib.hid jw
          have jb' := Lib.hid jb
          clear j8 jo jw jb
          refine wp_intro fun K HK => ?_
          unfold Oper.wp
          simp only [execOp, e49, e56]
          go_simp
          exact HK.out _ _ ⟨(), _, rfl, rfl, j8'.out, jo'.out, jw'.out, jb'.out⟩
        · intro _ L w' hL hpre hJ a ha
          obtain ⟨j8, jo, jw, jb⟩ := hJ
          simp [Region.binds] at hpre
          refine .inl ⟨wanted_none rfl, ?_⟩
          exact wp_move' (.tmp 57) (.inr rfl) (.bool true) (by rw [ha]; exact eval_puts_in (i := 12) rfl (by simp [hpre]) (by simp) rfl) ⟨(), _, rfl, rfl, j8, jo, jw, jb⟩
      · intro _ L w' hL hJ
        obtain ⟨j8, jo, jw, jb⟩ := hJ
        clear hL
        simp only [List.foldl_cons, List.foldl_nil]
        have HBz := Lib.hid (HB3.out.trans (jb.mono HB3.out.size))
        clear j8 jo jw jb
        go_simp
        go_wp2_with fail
        go_ret
        exact ⟨rfl, HBz.out⟩
theorem walk (a0 : List Value) (a1 : Int) (w : World) (w0 : okAll (List.replicate 3 (Kd.int .i64) ++ List.replicate 16 (Kd.int .u8)) a0 = true) (w1 : (Lit.int .i64 a1).wf = true) : Calls Tryz.prog 7 #[.agg a0.toArray, .int .i64 a1] w fun e w' => e = .returned (.bool true) ∧ Below w.heap.size w w' := by
  obtain ⟨x, rfl, hok, hwf⟩ := open_en w0
  exact walk0 x.l x.s x.r x.d hok.1 hok.2 a1 w hwf.1 hwf.2.1 hwf.2.2 w1
end Go.Proofs.YtpbigfopmompfaaGreat.tableRoles
