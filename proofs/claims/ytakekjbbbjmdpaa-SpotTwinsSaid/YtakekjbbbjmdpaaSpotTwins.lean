import Derived.Test.YtakekjbbbjmdpaaTwinLaw
import Derived.Test.YtakekjbbbjmdpaaRegion3
/- SpotTwins: pages that are alike, each group in its order; no condition. -/
namespace Go.Proofs.Ytakekjbbbjmdpaa.spotTwins
open Go.RowKit
open Go.Proofs.Ytakekjbbbjmdpaa.pg (wfP pgs idxs twinsK firstB idxs_succ idxs_len twins_succ twins_len rows_off iInfo1 sInfo1)
open Go.Proofs.Ytakekjbbbjmdpaa.begun5 (cell1 lt_cell)
set_option linter.unusedVariables false
theorem wpList_min25 {P : Program} {ops : Array Oper} {rest : List Oper} {o : Oper} {a : Act} {w : World} {Q : Exit → Act → World → Prop} (hgd : o.guard = none) (x : Operand) (ts : Array TypeId) (ho : o.op = .call { callee := .builtin .min, args := #[x, .const (.int .i64 25)], argTypes := ts })
    (n q : Nat) (hx : a.eval x = .int .i64 (n : Int)) (hq : q = min n 25) (h : wpList P ops Q rest (a.put o.dst (.int .i64 (q : Int))) w) : wpList P ops Q (o :: rest) a w := by
  refine wpList_plain hgd fun K hK => ?_
  unfold Oper.wp
  simp only [execOp, ho, resolve, List.map_toArray, List.map_cons, List.map_nil, hx]
  go_simp
  rw [show min (n : Int) 25 = (q : Int) by omega]
  exact hK _ _ h
set_option maxRecDepth 100000 in
set_option maxHeartbeats 8000000 in
theorem walk (A : Option Addr) (n c0 : Nat) (w : World) (h0 : IsRows (List.replicate 32 (Kd.int .u8)) w A n c0) :
    Calls Try.prog 20 #[.slice A n c0] w fun e w' => e = .returned (.bool true) ∧ Below w.heap.size w w' := by
  obtain ⟨l0, hr0, hwf0, hnc, hcm⟩ := open_pgs h0
  clear h0
  unfold maxLen at hcm
  obtain ⟨q, hq⟩ : ∃ q, q = min n 25 := ⟨_, rfl⟩
  have hqn : q ≤ n := by omega
  have hq25 : q ≤ 25 := by omega
  have hl0 : l0.length = n := by have := hr0.1; simpa [pgs] using this
  have hr := hr0.take hqn
  rw [show (pgs l0).take q = pgs (l0.take q) by simp [pgs, List.map_take]] at hr
  have hwf : ∀ p ∈ l0.take q, wfP p := fun p hp => hwf0 p (List.mem_of_mem_take hp)
  have hl : (l0.take q).length = q := by rw [List.length_take]; omega
  generalize l0.take q = l at *
  clear hr0 hwf0 hl0
  have HR := Lib.hid hr
  have HL := Lib.hid hl
  have HW := Lib.hid hwf
  have HQ := Lib.hid hq
  clear hr hwf hl hq
  have hqI : (q : Int) ≤ (n : Int) := by omega
  have hqC : (q : Int) ≤ (c0 : Int) := by omega
  go_enter Try.func20, Try.ntmps20
  go_wp2_with fail
  refine (begun5.begun5_any _).mono ?_
  rintro e w1 ⟨rfl, hb1⟩
  go_wp2_with (first | (refine wpList_min25 rfl (.tmp 17) _ rfl n q rfl HQ.out ?_))
  have hr1 := HR.out.below hb1 (Nat.le_refl _)
  go_loopw [4, 5, 6, 7, 8] (fun vw i vf vg vk wr => ∃ (k : Nat) (vs : List Value), k ≤ q ∧ i = .int .i64 k ∧ wr.ownsRow w.heap.size 27 1 vw (twinsK l k).length vs ∧ Rows wr w.heap.size l (twinsK l k) vs ∧ Below w.heap.size w wr) (fun _ i _ _ _ _ => q - (intOf i).toNat)
  case atStart => exact ⟨0, [], by omega, rfl, World.ownsRow_nil _ _ _ _, Rows.nil _ _ _, hb1⟩
  case round =>
    clear hb1 hr1
    obtain ⟨i, vs, hi, rfl, hwant, hRows, hb⟩ := hrel
    by_cases hlt : i < q
    · have hil : i < l.length := by rw [HL.out]; exact hlt
      have HP := Lib.hid (show l[i]? = some l[i] from List.getElem?_eq_getElem hil)
      have hwp := HW.out l[i] (List.getElem_mem hil)
      have hlt2 : (i : Int) < (q : Int) := by omega
      generalize l[i] = p at *
      have HWP := Lib.hid hwp
      have iP := pgInfo hwp.1
      obtain ⟨bb, oo, rfl, hbb, hRr⟩ := rds_range (HR.out.below hb (Nat.le_refl _)) hlt (getPgs HP.out)
      have hown0 := own_one wr (.int .i64 (i : Int))
      have hbn := (Below.refl _ wr).alloc (Nat.le_refl _) (.cells #[.int .i64 (i : Int)] 3)
      have HRr := Lib.hid hRr
      have HWant := Lib.hid hwant
      have HRows := Lib.hid hRows
      have HB := Lib.hid hb
      clear hRr hwant hRows hb hwp
      go_wp2_with fail
      generalize wr = wo at *
      go_loopw [6, 7, 8] (fun vf vg j wr => ∃ k : Nat, k ≤ q ∧ j = .int .i64 k ∧ vf = .bool (fK l p i k) ∧ wr.ownsRow wo.heap.size 3 1 vg (gK l p i k).length (nats .i64 (gK l p i k)) ∧ Below wo.heap.size wo wr) (fun _ _ j _ => q - (intOf j).toNat)
      case atStart => exact ⟨0, by omega, rfl, rfl, hown0, hbn⟩
      case round =>
        clear hown0 hbn
        obtain ⟨k, hk, rfl, rfl, hrow, hb⟩ := hrel
        by_cases hlk : k < q
        · have hkl : k < l.length := by rw [HL.out]; exact hlk
          have HK := Lib.hid (show l[k]? = some l[k] from List.getElem?_eq_getElem hkl)
          have hwp2 := HW.out l[k] (List.getElem_mem hkl)
          have hlk2 : (k : Int) < (q : Int) := by omega
          have HG := Lib.hid (gK_succ l p i k)
          have HF := Lib.hid (fK_succ l p i k)
          have hgl := gK_len l p i k
          generalize l[k] = p2 at *
          have HEQ := Lib.hid (fun w => eql_page w hwp2 HWP.out)
          have iP2 := pgInfo hwp2.1
          have hb0 := HB.out.trans (hb.mono HB.out.size)
          obtain ⟨bb', oo', eA, -, hR2⟩ := rds_range (HR.out.below hb0 (Nat.le_refl _)) hlk (getPgs HK.out)
          cases eA
          obtain ⟨bb', oo', eA, -, hR1⟩ := rds_range (HR.out.below hb0 (Nat.le_refl _)) hlt (getPgs HP.out)
          cases eA
          have HR1 := Lib.hid hR1
          have HR2 := Lib.hid hR2
          clear hwp2 hR1 hR2 hb0
          go_upto_region 14 with fail
          by_cases e : p2 = p
          · by_cases q0 : k < i
            · subst e
              have c1 : (k : Int) < (i : Int) := by omega
              have c2 : ¬ (i : Int) < (k : Int) := by omega
              have HF2 := Lib.hid (show fK l p2 i (k + 1) = false by rw [HF.out, HK.out]; simp <;> omega)
              have HG2 := Lib.hid (show gK l p2 i (k + 1) = gK l p2 i k by rw [HG.out, HK.out]; simp <;> omega)
              have HEQ := Lib.hid (show ∀ w, (binOp .eql 42 (.agg (nats .u8 p2).toArray) (.agg (nats .u8 p2).toArray)).run Try.prog w = .ok (.bool true) w from fun w => by have := HEQ.out w; rw [decide_eq_true rfl] at this; exact this)
              refine wp_region_puts_g (by kernel_rfl) (by kernel_rfl) (X := Unit) (fun _ => [(some 34, .slice (some ⟨bb, oo, none⟩) q c0), (some 35, .int .i64 (k : Int)), (some 36, .pointer (some ⟨bb, oo + k * 32, none⟩)), (some 37, .agg (nats .u8 p2).toArray), (some 38, .slice (some ⟨bb, oo, none⟩) q c0), (some 39, .int .i64 (i : Int)), (some 40, .pointer (some ⟨bb, oo + i * 32, none⟩)), (some 41, .agg (nats .u8 p2).toArray), (some 42, .bool true), (some 43, .bool true), (some 44, .int .i64 (k : Int)), (some 45, .int .i64 (i : Int)), (some 46, .bool true), (some 47, .bool true)])
                (fun _ L w' => w' = wr.drew ∧ Below wr.heap.size wr w') (fun _ => rfl) (by kernel_rfl) ⟨(), fun _ _ => ⟨rfl, (Below.refl _ wr).drew⟩⟩ ?_ ?_
              · refine ⟨?_, ?_, ?_, ?_, ?_, ?_, ?_, ?_, ?_, ?_, ?_, ?_, ?_, ?_, trivial⟩
                · intro _ L w' hL hpre hJ a ha
                  obtain ⟨jw, jb⟩ := hJ
                  simp [Region.binds] at hpre
                  refine .inl ⟨wanted_none rfl, ?_⟩
                  exact wp_move' (.tmp 0) (.inl rfl) (.slice (some ⟨bb, oo, none⟩) q c0) (by rw [ha, eval_puts_out rfl]; rfl) ⟨(), _, rfl, rfl, jw, jb⟩
                · intro _ L w' hL hpre hJ a ha
                  obtain ⟨jw, jb⟩ := hJ
                  simp [Region.binds] at hpre
                  refine .inl ⟨wanted_none rfl, ?_⟩
                  exact wp_move' (.tmp 8) (.inl rfl) (.int .i64 (k : Int)) (by rw [ha, eval_puts_out rfl]; rfl) ⟨(), _, rfl, rfl, jw, jb⟩
                · intro _ L w' hL hpre hJ a ha
                  obtain ⟨jw, jb⟩ := hJ
                  simp [Region.binds] at hpre
                  refine .inl ⟨wanted_none rfl, ?_⟩
                  have e34 : a.eval (.tmp 34) = .slice (some ⟨bb, oo, none⟩) q c0 := by rw [ha]; exact eval_puts_in (i := 0) rfl (by simp [hpre]) (by simp) rfl
                  have e35 : a.eval (.tmp 35) = .int .i64 (k : Int) := by rw [ha]; exact eval_puts_in (i := 1) rfl (by simp [hpre]) (by simp) rfl
                  clear ha
                  have jw' := Lib.hid jw
                  have jb' := Lib.hid jb
                  clear jw jb
                  refine wp_intro fun K HK => ?_
                  unfold Oper.wp
                  simp only [execOp, e34, e35]
                  go_simp
                  exact HK.out _ _ ⟨(), _, rfl, rfl, jw'.out, jb'.out⟩
                · intro _ L w' hL hpre hJ a ha
                  obtain ⟨jw, jb⟩ := hJ
                  simp [Region.binds] at hpre
                  refine .inl ⟨wanted_none rfl, ?_⟩
                  exact wp_load_mid 42 (.tmp 36) rfl bb (oo + k * 32) (by rw [ha]; exact eval_puts_in (i := 2) rfl (by simp [hpre]) (by simp) rfl) (nats .u8 p2) _ (by rw [jw]; exact HR2.out) Try.underlying42 rfl iP2 ⟨(), _, rfl, rfl, jw, jb⟩
                · intro _ L w' hL hpre hJ a ha
                  obtain ⟨jw, jb⟩ := hJ
                  simp [Region.binds] at hpre
                  refine .inl ⟨wanted_none rfl, ?_⟩
                  exact wp_move' (.tmp 0) (.inl rfl) (.slice (some ⟨bb, oo, none⟩) q c0) (by rw [ha, eval_puts_out rfl]; rfl) ⟨(), _, rfl, rfl, jw, jb⟩
                · intro _ L w' hL hpre hJ a ha
                  obtain ⟨jw, jb⟩ := hJ
                  simp [Region.binds] at hpre
                  refine .inl ⟨wanted_none rfl, ?_⟩
                  exact wp_move' (.tmp 5) (.inl rfl) (.int .i64 (i : Int)) (by rw [ha, eval_puts_out rfl]; rfl) ⟨(), _, rfl, rfl, jw, jb⟩
                · intro _ L w' hL hpre hJ a ha
                  obtain ⟨jw, jb⟩ := hJ
                  simp [Region.binds] at hpre
                  refine .inl ⟨wanted_none rfl, ?_⟩
                  have e38 : a.eval (.tmp 38) = .slice (some ⟨bb, oo, none⟩) q c0 := by rw [ha]; exact eval_puts_in (i := 4) rfl (by simp [hpre]) (by simp) rfl
                  have e39 : a.eval (.tmp 39) = .int .i64 (i : Int) := by rw [ha]; exact eval_puts_in (i := 5) rfl (by simp [hpre]) (by simp) rfl
                  clear ha
                  have jw' := Lib.hid jw
                  have jb' := Lib.hid jb
                  clear jw jb
                  refine wp_intro fun K HK => ?_
                  unfold Oper.wp
                  simp only [execOp, e38, e39]
                  go_simp
                  exact HK.out _ _ ⟨(), _, rfl, rfl, jw'.out, jb'.out⟩
                · intro _ L w' hL hpre hJ a ha
                  obtain ⟨jw, jb⟩ := hJ
                  simp [Region.binds] at hpre
                  refine .inl ⟨wanted_none rfl, ?_⟩
                  exact wp_load_mid 42 (.tmp 40) rfl bb (oo + i * 32) (by rw [ha]; exact eval_puts_in (i := 6) rfl (by simp [hpre]) (by simp) rfl) (nats .u8 p2) _ (by rw [jw]; exact HR1.out) Try.underlying42 rfl iP ⟨(), _, rfl, rfl, jw, jb⟩
                · intro _ L w' hL hpre hJ a ha
                  obtain ⟨jw, jb⟩ := hJ
                  simp [Region.binds] at hpre
                  refine .inl ⟨wanted_none rfl, ?_⟩
                  have e37 : a.eval (.tmp 37) = .agg (nats .u8 p2).toArray := by rw [ha]; exact eval_puts_in (i := 3) rfl (by simp [hpre]) (by simp) rfl
                  have e41 : a.eval (.tmp 41) = .agg (nats .u8 p2).toArray := by rw [ha]; exact eval_puts_in (i := 7) rfl (by simp [hpre]) (by simp) rfl
                  clear ha
                  have he := HEQ.out
                  have jw' := Lib.hid jw
                  have jb' := Lib.hid jb
                  clear jw jb
                  refine wp_intro fun K HK => ?_
                  unfold Oper.wp
                  simp only [execOp, e37, e41]
                  go_simp
                  exact HK.out _ _ ⟨(), _, rfl, rfl, jw'.out, jb'.out⟩
                · intro _ L w' hL hpre hJ a ha
                  obtain ⟨jw, jb⟩ := hJ
                  simp [Region.binds] at hpre
                  refine .inl ⟨wanted_none rfl, ?_⟩
                  exact wp_move' (.tmp 42) (.inl rfl) (.bool true) (by rw [ha]; exact eval_puts_in (i := 8) rfl (by simp [hpre]) (by simp) rfl) ⟨(), _, rfl, rfl, jw, jb⟩
                · intro _ L w' hL hpre hJ a ha
                  obtain ⟨jw, jb⟩ := hJ
                  simp [Region.binds] at hpre
                  refine .inl ⟨wanted_yes (g := 9) (t := 43) (b := true) rfl rfl (by rw [ha]; exact eval_puts_in (i := 9) rfl (by simp [hpre]) (by simp) rfl), ?_⟩
                  exact wp_move' (.tmp 8) (.inl rfl) (.int .i64 (k : Int)) (by rw [ha, eval_puts_out rfl]; rfl) ⟨(), _, rfl, rfl, jw, jb⟩
                · intro _ L w' hL hpre hJ a ha
                  obtain ⟨jw, jb⟩ := hJ
                  simp [Region.binds] at hpre
                  refine .inl ⟨wanted_yes (g := 9) (t := 43) (b := true) rfl rfl (by rw [ha]; exact eval_puts_in (i := 9) rfl (by simp [hpre]) (by simp) rfl), ?_⟩
                  exact wp_move' (.tmp 5) (.inl rfl) (.int .i64 (i : Int)) (by rw [ha, eval_puts_out rfl]; rfl) ⟨(), _, rfl, rfl, jw, jb⟩
                · intro _ L w' hL hpre hJ a ha
                  obtain ⟨jw, jb⟩ := hJ
                  simp [Region.binds] at hpre
                  refine .inl ⟨wanted_yes (g := 9) (t := 43) (b := true) rfl rfl (by rw [ha]; exact eval_puts_in (i := 9) rfl (by simp [hpre]) (by simp) rfl), ?_⟩
                  have e44 : a.eval (.tmp 44) = .int .i64 (k : Int) := by rw [ha]; exact eval_puts_in (i := 10) rfl (by simp [hpre]) (by simp) rfl
                  have e45 : a.eval (.tmp 45) = .int .i64 (i : Int) := by rw [ha]; exact eval_puts_in (i := 11) rfl (by simp [hpre]) (by simp) rfl
                  clear ha
                  have jw' := Lib.hid jw
                  have jb' := Lib.hid jb
                  clear jw jb
                  refine wp_intro fun K HK => ?_
                  unfold Oper.wp
                  simp only [execOp, e44, e45]
                  go_simp
                  exact HK.out _ _ ⟨(), _, rfl, rfl, jw'.out, jb'.out⟩
                · intro _ L w' hL hpre hJ a ha
                  obtain ⟨jw, jb⟩ := hJ
                  simp [Region.binds] at hpre
                  refine .inl ⟨wanted_none rfl, ?_⟩
                  have e43 : a.eval (.tmp 43) = .bool true := by rw [ha]; exact eval_puts_in (i := 9) rfl (by simp [hpre]) (by simp) rfl
                  have e46 : a.eval (.tmp 46) = .bool true := by rw [ha]; exact eval_puts_in (i := 12) rfl (by simp [hpre]) (by simp) rfl
                  clear ha
                  have jw' := Lib.hid jw
                  have jb' := Lib.hid jb
                  clear jw jb
                  refine wp_intro fun K HK => ?_
                  unfold Oper.wp
                  simp only [execOp, e43, e46]
                  go_simp
                  exact HK.out _ _ ⟨(), _, rfl, rfl, jw'.out, jb'.out⟩
              · intro _ L w' hL hJ
                obtain ⟨jw, jb⟩ := hJ
                clear hL
                simp only [List.foldl_cons, List.foldl_nil]
                subst jw
                go_simp
                go_wp2_with fail
                go_roundw
                case rel => exact ⟨k + 1, by omega, by go_num, by rw [HF2.out], by rw [HG2.out]; exact hrow, hb.drew⟩
                case measure => simp [intOf]; omega
            · by_cases q3 : i < k
              · subst e
                have c1 : ¬ (k : Int) < (i : Int) := by omega
                have c2 : (i : Int) < (k : Int) := by omega
                have HF2 := Lib.hid (show fK l p2 i (k + 1) = fK l p2 i k by rw [HF.out, HK.out]; simp <;> omega)
                have HG2 := Lib.hid (show gK l p2 i (k + 1) = gK l p2 i k ++ [k] by rw [HG.out, HK.out]; simp <;> omega)
                have HEQ := Lib.hid (show ∀ w, (binOp .eql 42 (.agg (nats .u8 p2).toArray) (.agg (nats .u8 p2).toArray)).run Try.prog w = .ok (.bool true) w from fun w => by have := HEQ.out w; rw [decide_eq_true rfl] at this; exact this)
                refine wp_region_puts_g (by kernel_rfl) (by kernel_rfl) (X := Unit) (fun _ => [(some 34, .slice (some ⟨bb, oo, none⟩) q c0), (some 35, .int .i64 (k : Int)), (some 36, .pointer (some ⟨bb, oo + k * 32, none⟩)), (some 37, .agg (nats .u8 p2).toArray), (some 38, .slice (some ⟨bb, oo, none⟩) q c0), (some 39, .int .i64 (i : Int)), (some 40, .pointer (some ⟨bb, oo + i * 32, none⟩)), (some 41, .agg (nats .u8 p2).toArray), (some 42, .bool true), (some 43, .bool true), (some 44, .int .i64 (k : Int)), (some 45, .int .i64 (i : Int)), (some 46, .bool false), (some 47, .bool false)])
                  (fun _ L w' => w' = wr.drew ∧ Below wr.heap.size wr w') (fun _ => rfl) (by kernel_rfl) ⟨(), fun _ _ => ⟨rfl, (Below.refl _ wr).drew⟩⟩ ?_ ?_
                · refine ⟨?_, ?_, ?_, ?_, ?_, ?_, ?_, ?_, ?_, ?_, ?_, ?_, ?_, ?_, trivial⟩
                  · intro _ L w' hL hpre hJ a ha
                    obtain ⟨jw, jb⟩ := hJ
                    simp [Region.binds] at hpre
                    refine .inl ⟨wanted_none rfl, ?_⟩
                    exact wp_move' (.tmp 0) (.inl rfl) (.slice (some ⟨bb, oo, none⟩) q c0) (by rw [ha, eval_puts_out rfl]; rfl) ⟨(), _, rfl, rfl, jw, jb⟩
                  · intro _ L w' hL hpre hJ a ha
                    obtain ⟨jw, jb⟩ := hJ
                    simp [Region.binds] at hpre
                    refine .inl ⟨wanted_none rfl, ?_⟩
                    exact wp_move' (.tmp 8) (.inl rfl) (.int .i64 (k : Int)) (by rw [ha, eval_puts_out rfl]; rfl) ⟨(), _, rfl, rfl, jw, jb⟩
                  · intro _ L w' hL hpre hJ a ha
                    obtain ⟨jw, jb⟩ := hJ
                    simp [Region.binds] at hpre
                    refine .inl ⟨wanted_none rfl, ?_⟩
                    have e34 : a.eval (.tmp 34) = .slice (some ⟨bb, oo, none⟩) q c0 := by rw [ha]; exact eval_puts_in (i := 0) rfl (by simp [hpre]) (by simp) rfl
                    have e35 : a.eval (.tmp 35) = .int .i64 (k : Int) := by rw [ha]; exact eval_puts_in (i := 1) rfl (by simp [hpre]) (by simp) rfl
                    clear ha
                    have jw' := Lib.hid jw
                    have jb' := Lib.hid jb
                    clear jw jb
                    refine wp_intro fun K HK => ?_
                    unfold Oper.wp
                    simp only [execOp, e34, e35]
                    go_simp
                    exact HK.out _ _ ⟨(), _, rfl, rfl, jw'.out, jb'.out⟩
                  · intro _ L w' hL hpre hJ a ha
                    obtain ⟨jw, jb⟩ := hJ
                    simp [Region.binds] at hpre
                    refine .inl ⟨wanted_none rfl, ?_⟩
                    exact wp_load_mid 42 (.tmp 36) rfl bb (oo + k * 32) (by rw [ha]; exact eval_puts_in (i := 2) rfl (by simp [hpre]) (by simp) rfl) (nats .u8 p2) _ (by rw [jw]; exact HR2.out) Try.underlying42 rfl iP2 ⟨(), _, rfl, rfl, jw, jb⟩
                  · intro _ L w' hL hpre hJ a ha
                    obtain ⟨jw, jb⟩ := hJ
                    simp [Region.binds] at hpre
                    refine .inl ⟨wanted_none rfl, ?_⟩
                    exact wp_move' (.tmp 0) (.inl rfl) (.slice (some ⟨bb, oo, none⟩) q c0) (by rw [ha, eval_puts_out rfl]; rfl) ⟨(), _, rfl, rfl, jw, jb⟩
                  · intro _ L w' hL hpre hJ a ha
                    obtain ⟨jw, jb⟩ := hJ
                    simp [Region.binds] at hpre
                    refine .inl ⟨wanted_none rfl, ?_⟩
                    exact wp_move' (.tmp 5) (.inl rfl) (.int .i64 (i : Int)) (by rw [ha, eval_puts_out rfl]; rfl) ⟨(), _, rfl, rfl, jw, jb⟩
                  · intro _ L w' hL hpre hJ a ha
                    obtain ⟨jw, jb⟩ := hJ
                    simp [Region.binds] at hpre
                    refine .inl ⟨wanted_none rfl, ?_⟩
                    have e38 : a.eval (.tmp 38) = .slice (some ⟨bb, oo, none⟩) q c0 := by rw [ha]; exact eval_puts_in (i := 4) rfl (by simp [hpre]) (by simp) rfl
                    have e39 : a.eval (.tmp 39) = .int .i64 (i : Int) := by rw [ha]; exact eval_puts_in (i := 5) rfl (by simp [hpre]) (by simp) rfl
                    clear ha
                    have jw' := Lib.hid jw
                    have jb' := Lib.hid jb
                    clear jw jb
                    refine wp_intro fun K HK => ?_
                    unfold Oper.wp
                    simp only [execOp, e38, e39]
                    go_simp
                    exact HK.out _ _ ⟨(), _, rfl, rfl, jw'.out, jb'.out⟩
                  · intro _ L w' hL hpre hJ a ha
                    obtain ⟨jw, jb⟩ := hJ
                    simp [Region.binds] at hpre
                    refine .inl ⟨wanted_none rfl, ?_⟩
                    exact wp_load_mid 42 (.tmp 40) rfl bb (oo + i * 32) (by rw [ha]; exact eval_puts_in (i := 6) rfl (by simp [hpre]) (by simp) rfl) (nats .u8 p2) _ (by rw [jw]; exact HR1.out) Try.underlying42 rfl iP ⟨(), _, rfl, rfl, jw, jb⟩
                  · intro _ L w' hL hpre hJ a ha
                    obtain ⟨jw, jb⟩ := hJ
                    simp [Region.binds] at hpre
                    refine .inl ⟨wanted_none rfl, ?_⟩
                    have e37 : a.eval (.tmp 37) = .agg (nats .u8 p2).toArray := by rw [ha]; exact eval_puts_in (i := 3) rfl (by simp [hpre]) (by simp) rfl
                    have e41 : a.eval (.tmp 41) = .agg (nats .u8 p2).toArray := by rw [ha]; exact eval_puts_in (i := 7) rfl (by simp [hpre]) (by simp) rfl
                    clear ha
                    have he := HEQ.out
                    have jw' := Lib.hid jw
                    have jb' := Lib.hid jb
                    clear jw jb
                    refine wp_intro fun K HK => ?_
                    unfold Oper.wp
                    simp only [execOp, e37, e41]
                    go_simp
                    exact HK.out _ _ ⟨(), _, rfl, rfl, jw'.out, jb'.out⟩
                  · intro _ L w' hL hpre hJ a ha
                    obtain ⟨jw, jb⟩ := hJ
                    simp [Region.binds] at hpre
                    refine .inl ⟨wanted_none rfl, ?_⟩
                    exact wp_move' (.tmp 42) (.inl rfl) (.bool true) (by rw [ha]; exact eval_puts_in (i := 8) rfl (by simp [hpre]) (by simp) rfl) ⟨(), _, rfl, rfl, jw, jb⟩
                  · intro _ L w' hL hpre hJ a ha
                    obtain ⟨jw, jb⟩ := hJ
                    simp [Region.binds] at hpre
                    refine .inl ⟨wanted_yes (g := 9) (t := 43) (b := true) rfl rfl (by rw [ha]; exact eval_puts_in (i := 9) rfl (by simp [hpre]) (by simp) rfl), ?_⟩
                    exact wp_move' (.tmp 8) (.inl rfl) (.int .i64 (k : Int)) (by rw [ha, eval_puts_out rfl]; rfl) ⟨(), _, rfl, rfl, jw, jb⟩
                  · intro _ L w' hL hpre hJ a ha
                    obtain ⟨jw, jb⟩ := hJ
                    simp [Region.binds] at hpre
                    refine .inl ⟨wanted_yes (g := 9) (t := 43) (b := true) rfl rfl (by rw [ha]; exact eval_puts_in (i := 9) rfl (by simp [hpre]) (by simp) rfl), ?_⟩
                    exact wp_move' (.tmp 5) (.inl rfl) (.int .i64 (i : Int)) (by rw [ha, eval_puts_out rfl]; rfl) ⟨(), _, rfl, rfl, jw, jb⟩
                  · intro _ L w' hL hpre hJ a ha
                    obtain ⟨jw, jb⟩ := hJ
                    simp [Region.binds] at hpre
                    refine .inl ⟨wanted_yes (g := 9) (t := 43) (b := true) rfl rfl (by rw [ha]; exact eval_puts_in (i := 9) rfl (by simp [hpre]) (by simp) rfl), ?_⟩
                    have e44 : a.eval (.tmp 44) = .int .i64 (k : Int) := by rw [ha]; exact eval_puts_in (i := 10) rfl (by simp [hpre]) (by simp) rfl
                    have e45 : a.eval (.tmp 45) = .int .i64 (i : Int) := by rw [ha]; exact eval_puts_in (i := 11) rfl (by simp [hpre]) (by simp) rfl
                    clear ha
                    have jw' := Lib.hid jw
                    have jb' := Lib.hid jb
                    clear jw jb
                    refine wp_intro fun K HK => ?_
                    unfold Oper.wp
                    simp only [execOp, e44, e45]
                    go_simp
                    exact HK.out _ _ ⟨(), _, rfl, rfl, jw'.out, jb'.out⟩
                  · intro _ L w' hL hpre hJ a ha
                    obtain ⟨jw, jb⟩ := hJ
                    simp [Region.binds] at hpre
                    refine .inl ⟨wanted_none rfl, ?_⟩
                    have e43 : a.eval (.tmp 43) = .bool true := by rw [ha]; exact eval_puts_in (i := 9) rfl (by simp [hpre]) (by simp) rfl
                    have e46 : a.eval (.tmp 46) = .bool false := by rw [ha]; exact eval_puts_in (i := 12) rfl (by simp [hpre]) (by simp) rfl
                    clear ha
                    have jw' := Lib.hid jw
                    have jb' := Lib.hid jb
                    clear jw jb
                    refine wp_intro fun K HK => ?_
                    unfold Oper.wp
                    simp only [execOp, e43, e46]
                    go_simp
                    exact HK.out _ _ ⟨(), _, rfl, rfl, jw'.out, jb'.out⟩
                · intro _ L w' hL hJ
                  obtain ⟨jw, jb⟩ := hJ
                  clear hL
                  simp only [List.foldl_cons, List.foldl_nil]
                  subst jw
                  clear jb
                  go_simp
                  go_upto_region 16 with fail
                  refine wp_region_puts_g (by kernel_rfl) (by kernel_rfl) (X := Unit) (fun _ => [(some 48, .slice (some ⟨bb, oo, none⟩) q c0), (some 49, .int .i64 (k : Int)), (some 50, .pointer (some ⟨bb, oo + k * 32, none⟩)), (some 51, .agg (nats .u8 p2).toArray), (some 52, .slice (some ⟨bb, oo, none⟩) q c0), (some 53, .int .i64 (i : Int)), (some 54, .pointer (some ⟨bb, oo + i * 32, none⟩)), (some 55, .agg (nats .u8 p2).toArray), (some 56, .bool true), (some 57, .bool true), (some 58, .int .i64 (k : Int)), (some 59, .int .i64 (i : Int)), (some 60, .bool true), (some 61, .bool true)])
                    (fun _ L w' => w' = wr.drew.drew ∧ Below wr.heap.size wr w') (fun _ => rfl) (by kernel_rfl) ⟨(), fun _ _ => ⟨rfl, (Below.refl _ wr).drew.drew⟩⟩ ?_ ?_
                  · refine ⟨?_, ?_, ?_, ?_, ?_, ?_, ?_, ?_, ?_, ?_, ?_, ?_, ?_, ?_, trivial⟩
                    · intro _ L w' hL hpre hJ a ha
                      obtain ⟨jw, jb⟩ := hJ
                      simp [Region.binds] at hpre
                      refine .inl ⟨wanted_none rfl, ?_⟩
                      exact wp_move' (.tmp 0) (.inl rfl) (.slice (some ⟨bb, oo, none⟩) q c0) (by rw [ha, eval_puts_out rfl]; rfl) ⟨(), _, rfl, rfl, jw, jb⟩
                    · intro _ L w' hL hpre hJ a ha
                      obtain ⟨jw, jb⟩ := hJ
                      simp [Region.binds] at hpre
                      refine .inl ⟨wanted_none rfl, ?_⟩
                      exact wp_move' (.tmp 8) (.inl rfl) (.int .i64 (k : Int)) (by rw [ha, eval_puts_out rfl]; rfl) ⟨(), _, rfl, rfl, jw, jb⟩
                    · intro _ L w' hL hpre hJ a ha
                      obtain ⟨jw, jb⟩ := hJ
                      simp [Region.binds] at hpre
                      refine .inl ⟨wanted_none rfl, ?_⟩
                      have e48 : a.eval (.tmp 48) = .slice (some ⟨bb, oo, none⟩) q c0 := by rw [ha]; exact eval_puts_in (i := 0) rfl (by simp [hpre]) (by simp) rfl
                      have e49 : a.eval (.tmp 49) = .int .i64 (k : Int) := by rw [ha]; exact eval_puts_in (i := 1) rfl (by simp [hpre]) (by simp) rfl
                      clear ha
                      have jw' := Lib.hid jw
                      have jb' := Lib.hid jb
                      clear jw jb
                      refine wp_intro fun K HK => ?_
                      unfold Oper.wp
                      simp only [execOp, e48, e49]
                      go_simp
                      exact HK.out _ _ ⟨(), _, rfl, rfl, jw'.out, jb'.out⟩
                    · intro _ L w' hL hpre hJ a ha
                      obtain ⟨jw, jb⟩ := hJ
                      simp [Region.binds] at hpre
                      refine .inl ⟨wanted_none rfl, ?_⟩
                      exact wp_load_mid 42 (.tmp 50) rfl bb (oo + k * 32) (by rw [ha]; exact eval_puts_in (i := 2) rfl (by simp [hpre]) (by simp) rfl) (nats .u8 p2) _ (by rw [jw]; exact HR2.out) Try.underlying42 rfl iP2 ⟨(), _, rfl, rfl, jw, jb⟩
                    · intro _ L w' hL hpre hJ a ha
                      obtain ⟨jw, jb⟩ := hJ
                      simp [Region.binds] at hpre
                      refine .inl ⟨wanted_none rfl, ?_⟩
                      exact wp_move' (.tmp 0) (.inl rfl) (.slice (some ⟨bb, oo, none⟩) q c0) (by rw [ha, eval_puts_out rfl]; rfl) ⟨(), _, rfl, rfl, jw, jb⟩
                    · intro _ L w' hL hpre hJ a ha
                      obtain ⟨jw, jb⟩ := hJ
                      simp [Region.binds] at hpre
                      refine .inl ⟨wanted_none rfl, ?_⟩
                      exact wp_move' (.tmp 5) (.inl rfl) (.int .i64 (i : Int)) (by rw [ha, eval_puts_out rfl]; rfl) ⟨(), _, rfl, rfl, jw, jb⟩
                    · intro _ L w' hL hpre hJ a ha
                      obtain ⟨jw, jb⟩ := hJ
                      simp [Region.binds] at hpre
                      refine .inl ⟨wanted_none rfl, ?_⟩
                      have e52 : a.eval (.tmp 52) = .slice (some ⟨bb, oo, none⟩) q c0 := by rw [ha]; exact eval_puts_in (i := 4) rfl (by simp [hpre]) (by simp) rfl
                      have e53 : a.eval (.tmp 53) = .int .i64 (i : Int) := by rw [ha]; exact eval_puts_in (i := 5) rfl (by simp [hpre]) (by simp) rfl
                      clear ha
                      have jw' := Lib.hid jw
                      have jb' := Lib.hid jb
                      clear jw jb
                      refine wp_intro fun K HK => ?_
                      unfold Oper.wp
                      simp only [execOp, e52, e53]
                      go_simp
                      exact HK.out _ _ ⟨(), _, rfl, rfl, jw'.out, jb'.out⟩
                    · intro _ L w' hL hpre hJ a ha
                      obtain ⟨jw, jb⟩ := hJ
                      simp [Region.binds] at hpre
                      refine .inl ⟨wanted_none rfl, ?_⟩
                      exact wp_load_mid 42 (.tmp 54) rfl bb (oo + i * 32) (by rw [ha]; exact eval_puts_in (i := 6) rfl (by simp [hpre]) (by simp) rfl) (nats .u8 p2) _ (by rw [jw]; exact HR1.out) Try.underlying42 rfl iP ⟨(), _, rfl, rfl, jw, jb⟩
                    · intro _ L w' hL hpre hJ a ha
                      obtain ⟨jw, jb⟩ := hJ
                      simp [Region.binds] at hpre
                      refine .inl ⟨wanted_none rfl, ?_⟩
                      have e51 : a.eval (.tmp 51) = .agg (nats .u8 p2).toArray := by rw [ha]; exact eval_puts_in (i := 3) rfl (by simp [hpre]) (by simp) rfl
                      have e55 : a.eval (.tmp 55) = .agg (nats .u8 p2).toArray := by rw [ha]; exact eval_puts_in (i := 7) rfl (by simp [hpre]) (by simp) rfl
                      clear ha
                      have he := HEQ.out
                      have jw' := Lib.hid jw
                      have jb' := Lib.hid jb
                      clear jw jb
                      refine wp_intro fun K HK => ?_
                      unfold Oper.wp
                      simp only [execOp, e51, e55]
                      go_simp
                      exact HK.out _ _ ⟨(), _, rfl, rfl, jw'.out, jb'.out⟩
                    · intro _ L w' hL hpre hJ a ha
                      obtain ⟨jw, jb⟩ := hJ
                      simp [Region.binds] at hpre
                      refine .inl ⟨wanted_none rfl, ?_⟩
                      exact wp_move' (.tmp 56) (.inl rfl) (.bool true) (by rw [ha]; exact eval_puts_in (i := 8) rfl (by simp [hpre]) (by simp) rfl) ⟨(), _, rfl, rfl, jw, jb⟩
                    · intro _ L w' hL hpre hJ a ha
                      obtain ⟨jw, jb⟩ := hJ
                      simp [Region.binds] at hpre
                      refine .inl ⟨wanted_yes (g := 9) (t := 57) (b := true) rfl rfl (by rw [ha]; exact eval_puts_in (i := 9) rfl (by simp [hpre]) (by simp) rfl), ?_⟩
                      exact wp_move' (.tmp 8) (.inl rfl) (.int .i64 (k : Int)) (by rw [ha, eval_puts_out rfl]; rfl) ⟨(), _, rfl, rfl, jw, jb⟩
                    · intro _ L w' hL hpre hJ a ha
                      obtain ⟨jw, jb⟩ := hJ
                      simp [Region.binds] at hpre
                      refine .inl ⟨wanted_yes (g := 9) (t := 57) (b := true) rfl rfl (by rw [ha]; exact eval_puts_in (i := 9) rfl (by simp [hpre]) (by simp) rfl), ?_⟩
                      exact wp_move' (.tmp 5) (.inl rfl) (.int .i64 (i : Int)) (by rw [ha, eval_puts_out rfl]; rfl) ⟨(), _, rfl, rfl, jw, jb⟩
                    · intro _ L w' hL hpre hJ a ha
                      obtain ⟨jw, jb⟩ := hJ
                      simp [Region.binds] at hpre
                      refine .inl ⟨wanted_yes (g := 9) (t := 57) (b := true) rfl rfl (by rw [ha]; exact eval_puts_in (i := 9) rfl (by simp [hpre]) (by simp) rfl), ?_⟩
                      have e58 : a.eval (.tmp 58) = .int .i64 (k : Int) := by rw [ha]; exact eval_puts_in (i := 10) rfl (by simp [hpre]) (by simp) rfl
                      have e59 : a.eval (.tmp 59) = .int .i64 (i : Int) := by rw [ha]; exact eval_puts_in (i := 11) rfl (by simp [hpre]) (by simp) rfl
                      clear ha
                      have jw' := Lib.hid jw
                      have jb' := Lib.hid jb
                      clear jw jb
                      refine wp_intro fun K HK => ?_
                      unfold Oper.wp
                      simp only [execOp, e58, e59]
                      go_simp
                      exact HK.out _ _ ⟨(), _, rfl, rfl, jw'.out, jb'.out⟩
                    · intro _ L w' hL hpre hJ a ha
                      obtain ⟨jw, jb⟩ := hJ
                      simp [Region.binds] at hpre
                      refine .inl ⟨wanted_none rfl, ?_⟩
                      have e57 : a.eval (.tmp 57) = .bool true := by rw [ha]; exact eval_puts_in (i := 9) rfl (by simp [hpre]) (by simp) rfl
                      have e60 : a.eval (.tmp 60) = .bool true := by rw [ha]; exact eval_puts_in (i := 12) rfl (by simp [hpre]) (by simp) rfl
                      clear ha
                      have jw' := Lib.hid jw
                      have jb' := Lib.hid jb
                      clear jw jb
                      refine wp_intro fun K HK => ?_
                      unfold Oper.wp
                      simp only [execOp, e57, e60]
                      go_simp
                      exact HK.out _ _ ⟨(), _, rfl, rfl, jw'.out, jb'.out⟩
                  · intro _ L w' hL hJ
                    obtain ⟨jw, jb⟩ := hJ
                    clear hL
                    simp only [List.foldl_cons, List.foldl_nil]
                    subst jw
                    clear jb
                    go_simp
                    have hrow2 := (show World.ownsRow wr.drew.drew _ _ _ _ _ _ from hrow)
                    have hb2 : Below wo.heap.size wo wr.drew.drew := hb.drew.drew
                    clear hrow hb
                    generalize wr.drew.drew = wd at *
                    have hsz := hb2.size
                    go_wp2_with (first | (at_builtin; refine wpList_append1 rfl (.tmp 62) (.tmp 64) 27 rfl 3 _ _ Try.underlying27 iInfo1 rfl hrow2 hb2 rfl rfl rfl (by unfold maxLen; omega) (by omega) hsz (Nat.le_refl _) ?_; intro v8 w8 hrow8 hb8 hgr8 hat8))
                    go_roundw
                    case rel => exact ⟨k + 1, by omega, by go_num, by rw [HF2.out], by rw [HG2.out, List.length_append]; simpa [nats] using hrow8, hb8⟩
                    case measure => simp [intOf]; omega
              · subst e
                have c1 : ¬ (k : Int) < (i : Int) := by omega
                have c2 : ¬ (i : Int) < (k : Int) := by omega
                have HF2 := Lib.hid (show fK l p2 i (k + 1) = fK l p2 i k by rw [HF.out, HK.out]; simp <;> omega)
                have HG2 := Lib.hid (show gK l p2 i (k + 1) = gK l p2 i k by rw [HG.out, HK.out]; simp <;> omega)
                have HEQ := Lib.hid (show ∀ w, (binOp .eql 42 (.agg (nats .u8 p2).toArray) (.agg (nats .u8 p2).toArray)).run Try.prog w = .ok (.bool true) w from fun w => by have := HEQ.out w; rw [decide_eq_true rfl] at this; exact this)
                refine wp_region_puts_g (by kernel_rfl) (by kernel_rfl) (X := Unit) (fun _ => [(some 34, .slice (some ⟨bb, oo, none⟩) q c0), (some 35, .int .i64 (k : Int)), (some 36, .pointer (some ⟨bb, oo + k * 32, none⟩)), (some 37, .agg (nats .u8 p2).toArray), (some 38, .slice (some ⟨bb, oo, none⟩) q c0), (some 39, .int .i64 (i : Int)), (some 40, .pointer (some ⟨bb, oo + i * 32, none⟩)), (some 41, .agg (nats .u8 p2).toArray), (some 42, .bool true), (some 43, .bool true), (some 44, .int .i64 (k : Int)), (some 45, .int .i64 (i : Int)), (some 46, .bool false), (some 47, .bool false)])
                  (fun _ L w' => w' = wr.drew ∧ Below wr.heap.size wr w') (fun _ => rfl) (by kernel_rfl) ⟨(), fun _ _ => ⟨rfl, (Below.refl _ wr).drew⟩⟩ ?_ ?_
                · refine ⟨?_, ?_, ?_, ?_, ?_, ?_, ?_, ?_, ?_, ?_, ?_, ?_, ?_, ?_, trivial⟩
                  · intro _ L w' hL hpre hJ a ha
                    obtain ⟨jw, jb⟩ := hJ
                    simp [Region.binds] at hpre
                    refine .inl ⟨wanted_none rfl, ?_⟩
                    exact wp_move' (.tmp 0) (.inl rfl) (.slice (some ⟨bb, oo, none⟩) q c0) (by rw [ha, eval_puts_out rfl]; rfl) ⟨(), _, rfl, rfl, jw, jb⟩
                  · intro _ L w' hL hpre hJ a ha
                    obtain ⟨jw, jb⟩ := hJ
                    simp [Region.binds] at hpre
                    refine .inl ⟨wanted_none rfl, ?_⟩
                    exact wp_move' (.tmp 8) (.inl rfl) (.int .i64 (k : Int)) (by rw [ha, eval_puts_out rfl]; rfl) ⟨(), _, rfl, rfl, jw, jb⟩
                  · intro _ L w' hL hpre hJ a ha
                    obtain ⟨jw, jb⟩ := hJ
                    simp [Region.binds] at hpre
                    refine .inl ⟨wanted_none rfl, ?_⟩
                    have e34 : a.eval (.tmp 34) = .slice (some ⟨bb, oo, none⟩) q c0 := by rw [ha]; exact eval_puts_in (i := 0) rfl (by simp [hpre]) (by simp) rfl
                    have e35 : a.eval (.tmp 35) = .int .i64 (k : Int) := by rw [ha]; exact eval_puts_in (i := 1) rfl (by simp [hpre]) (by simp) rfl
                    clear ha
                    have jw' := Lib.hid jw
                    have jb' := Lib.hid jb
                    clear jw jb
                    refine wp_intro fun K HK => ?_
                    unfold Oper.wp
                    simp only [execOp, e34, e35]
                    go_simp
                    exact HK.out _ _ ⟨(), _, rfl, rfl, jw'.out, jb'.out⟩
                  · intro _ L w' hL hpre hJ a ha
                    obtain ⟨jw, jb⟩ := hJ
                    simp [Region.binds] at hpre
                    refine .inl ⟨wanted_none rfl, ?_⟩
                    exact wp_load_mid 42 (.tmp 36) rfl bb (oo + k * 32) (by rw [ha]; exact eval_puts_in (i := 2) rfl (by simp [hpre]) (by simp) rfl) (nats .u8 p2) _ (by rw [jw]; exact HR2.out) Try.underlying42 rfl iP2 ⟨(), _, rfl, rfl, jw, jb⟩
                  · intro _ L w' hL hpre hJ a ha
                    obtain ⟨jw, jb⟩ := hJ
                    simp [Region.binds] at hpre
                    refine .inl ⟨wanted_none rfl, ?_⟩
                    exact wp_move' (.tmp 0) (.inl rfl) (.slice (some ⟨bb, oo, none⟩) q c0) (by rw [ha, eval_puts_out rfl]; rfl) ⟨(), _, rfl, rfl, jw, jb⟩
                  · intro _ L w' hL hpre hJ a ha
                    obtain ⟨jw, jb⟩ := hJ
                    simp [Region.binds] at hpre
                    refine .inl ⟨wanted_none rfl, ?_⟩
                    exact wp_move' (.tmp 5) (.inl rfl) (.int .i64 (i : Int)) (by rw [ha, eval_puts_out rfl]; rfl) ⟨(), _, rfl, rfl, jw, jb⟩
                  · intro _ L w' hL hpre hJ a ha
                    obtain ⟨jw, jb⟩ := hJ
                    simp [Region.binds] at hpre
                    refine .inl ⟨wanted_none rfl, ?_⟩
                    have e38 : a.eval (.tmp 38) = .slice (some ⟨bb, oo, none⟩) q c0 := by rw [ha]; exact eval_puts_in (i := 4) rfl (by simp [hpre]) (by simp) rfl
                    have e39 : a.eval (.tmp 39) = .int .i64 (i : Int) := by rw [ha]; exact eval_puts_in (i := 5) rfl (by simp [hpre]) (by simp) rfl
                    clear ha
                    have jw' := Lib.hid jw
                    have jb' := Lib.hid jb
                    clear jw jb
                    refine wp_intro fun K HK => ?_
                    unfold Oper.wp
                    simp only [execOp, e38, e39]
                    go_simp
                    exact HK.out _ _ ⟨(), _, rfl, rfl, jw'.out, jb'.out⟩
                  · intro _ L w' hL hpre hJ a ha
                    obtain ⟨jw, jb⟩ := hJ
                    simp [Region.binds] at hpre
                    refine .inl ⟨wanted_none rfl, ?_⟩
                    exact wp_load_mid 42 (.tmp 40) rfl bb (oo + i * 32) (by rw [ha]; exact eval_puts_in (i := 6) rfl (by simp [hpre]) (by simp) rfl) (nats .u8 p2) _ (by rw [jw]; exact HR1.out) Try.underlying42 rfl iP ⟨(), _, rfl, rfl, jw, jb⟩
                  · intro _ L w' hL hpre hJ a ha
                    obtain ⟨jw, jb⟩ := hJ
                    simp [Region.binds] at hpre
                    refine .inl ⟨wanted_none rfl, ?_⟩
                    have e37 : a.eval (.tmp 37) = .agg (nats .u8 p2).toArray := by rw [ha]; exact eval_puts_in (i := 3) rfl (by simp [hpre]) (by simp) rfl
                    have e41 : a.eval (.tmp 41) = .agg (nats .u8 p2).toArray := by rw [ha]; exact eval_puts_in (i := 7) rfl (by simp [hpre]) (by simp) rfl
                    clear ha
                    have he := HEQ.out
                    have jw' := Lib.hid jw
                    have jb' := Lib.hid jb
                    clear jw jb
                    refine wp_intro fun K HK => ?_
                    unfold Oper.wp
                    simp only [execOp, e37, e41]
                    go_simp
                    exact HK.out _ _ ⟨(), _, rfl, rfl, jw'.out, jb'.out⟩
                  · intro _ L w' hL hpre hJ a ha
                    obtain ⟨jw, jb⟩ := hJ
                    simp [Region.binds] at hpre
                    refine .inl ⟨wanted_none rfl, ?_⟩
                    exact wp_move' (.tmp 42) (.inl rfl) (.bool true) (by rw [ha]; exact eval_puts_in (i := 8) rfl (by simp [hpre]) (by simp) rfl) ⟨(), _, rfl, rfl, jw, jb⟩
                  · intro _ L w' hL hpre hJ a ha
                    obtain ⟨jw, jb⟩ := hJ
                    simp [Region.binds] at hpre
                    refine .inl ⟨wanted_yes (g := 9) (t := 43) (b := true) rfl rfl (by rw [ha]; exact eval_puts_in (i := 9) rfl (by simp [hpre]) (by simp) rfl), ?_⟩
                    exact wp_move' (.tmp 8) (.inl rfl) (.int .i64 (k : Int)) (by rw [ha, eval_puts_out rfl]; rfl) ⟨(), _, rfl, rfl, jw, jb⟩
                  · intro _ L w' hL hpre hJ a ha
                    obtain ⟨jw, jb⟩ := hJ
                    simp [Region.binds] at hpre
                    refine .inl ⟨wanted_yes (g := 9) (t := 43) (b := true) rfl rfl (by rw [ha]; exact eval_puts_in (i := 9) rfl (by simp [hpre]) (by simp) rfl), ?_⟩
                    exact wp_move' (.tmp 5) (.inl rfl) (.int .i64 (i : Int)) (by rw [ha, eval_puts_out rfl]; rfl) ⟨(), _, rfl, rfl, jw, jb⟩
                  · intro _ L w' hL hpre hJ a ha
                    obtain ⟨jw, jb⟩ := hJ
                    simp [Region.binds] at hpre
                    refine .inl ⟨wanted_yes (g := 9) (t := 43) (b := true) rfl rfl (by rw [ha]; exact eval_puts_in (i := 9) rfl (by simp [hpre]) (by simp) rfl), ?_⟩
                    have e44 : a.eval (.tmp 44) = .int .i64 (k : Int) := by rw [ha]; exact eval_puts_in (i := 10) rfl (by simp [hpre]) (by simp) rfl
                    have e45 : a.eval (.tmp 45) = .int .i64 (i : Int) := by rw [ha]; exact eval_puts_in (i := 11) rfl (by simp [hpre]) (by simp) rfl
                    clear ha
                    have jw' := Lib.hid jw
                    have jb' := Lib.hid jb
                    clear jw jb
                    refine wp_intro fun K HK => ?_
                    unfold Oper.wp
                    simp only [execOp, e44, e45]
                    go_simp
                    exact HK.out _ _ ⟨(), _, rfl, rfl, jw'.out, jb'.out⟩
                  · intro _ L w' hL hpre hJ a ha
                    obtain ⟨jw, jb⟩ := hJ
                    simp [Region.binds] at hpre
                    refine .inl ⟨wanted_none rfl, ?_⟩
                    have e43 : a.eval (.tmp 43) = .bool true := by rw [ha]; exact eval_puts_in (i := 9) rfl (by simp [hpre]) (by simp) rfl
                    have e46 : a.eval (.tmp 46) = .bool false := by rw [ha]; exact eval_puts_in (i := 12) rfl (by simp [hpre]) (by simp) rfl
                    clear ha
                    have jw' := Lib.hid jw
                    have jb' := Lib.hid jb
                    clear jw jb
                    refine wp_intro fun K HK => ?_
                    unfold Oper.wp
                    simp only [execOp, e43, e46]
                    go_simp
                    exact HK.out _ _ ⟨(), _, rfl, rfl, jw'.out, jb'.out⟩
                · intro _ L w' hL hJ
                  obtain ⟨jw, jb⟩ := hJ
                  clear hL
                  simp only [List.foldl_cons, List.foldl_nil]
                  subst jw
                  clear jb
                  go_simp
                  go_upto_region 16 with fail
                  refine wp_region_puts_g (by kernel_rfl) (by kernel_rfl) (X := Unit) (fun _ => [(some 48, .slice (some ⟨bb, oo, none⟩) q c0), (some 49, .int .i64 (k : Int)), (some 50, .pointer (some ⟨bb, oo + k * 32, none⟩)), (some 51, .agg (nats .u8 p2).toArray), (some 52, .slice (some ⟨bb, oo, none⟩) q c0), (some 53, .int .i64 (i : Int)), (some 54, .pointer (some ⟨bb, oo + i * 32, none⟩)), (some 55, .agg (nats .u8 p2).toArray), (some 56, .bool true), (some 57, .bool true), (some 58, .int .i64 (k : Int)), (some 59, .int .i64 (i : Int)), (some 60, .bool false), (some 61, .bool false)])
                    (fun _ L w' => w' = wr.drew.drew ∧ Below wr.heap.size wr w') (fun _ => rfl) (by kernel_rfl) ⟨(), fun _ _ => ⟨rfl, (Below.refl _ wr).drew.drew⟩⟩ ?_ ?_
                  · refine ⟨?_, ?_, ?_, ?_, ?_, ?_, ?_, ?_, ?_, ?_, ?_, ?_, ?_, ?_, trivial⟩
                    · intro _ L w' hL hpre hJ a ha
                      obtain ⟨jw, jb⟩ := hJ
                      simp [Region.binds] at hpre
                      refine .inl ⟨wanted_none rfl, ?_⟩
                      exact wp_move' (.tmp 0) (.inl rfl) (.slice (some ⟨bb, oo, none⟩) q c0) (by rw [ha, eval_puts_out rfl]; rfl) ⟨(), _, rfl, rfl, jw, jb⟩
                    · intro _ L w' hL hpre hJ a ha
                      obtain ⟨jw, jb⟩ := hJ
                      simp [Region.binds] at hpre
                      refine .inl ⟨wanted_none rfl, ?_⟩
                      exact wp_move' (.tmp 8) (.inl rfl) (.int .i64 (k : Int)) (by rw [ha, eval_puts_out rfl]; rfl) ⟨(), _, rfl, rfl, jw, jb⟩
                    · intro _ L w' hL hpre hJ a ha
                      obtain ⟨jw, jb⟩ := hJ
                      simp [Region.binds] at hpre
                      refine .inl ⟨wanted_none rfl, ?_⟩
                      have e48 : a.eval (.tmp 48) = .slice (some ⟨bb, oo, none⟩) q c0 := by rw [ha]; exact eval_puts_in (i := 0) rfl (by simp [hpre]) (by simp) rfl
                      have e49 : a.eval (.tmp 49) = .int .i64 (k : Int) := by rw [ha]; exact eval_puts_in (i := 1) rfl (by simp [hpre]) (by simp) rfl
                      clear ha
                      have jw' := Lib.hid jw
                      have jb' := Lib.hid jb
                      clear jw jb
                      refine wp_intro fun K HK => ?_
                      unfold Oper.wp
                      simp only [execOp, e48, e49]
                      go_simp
                      exact HK.out _ _ ⟨(), _, rfl, rfl, jw'.out, jb'.out⟩
                    · intro _ L w' hL hpre hJ a ha
                      obtain ⟨jw, jb⟩ := hJ
                      simp [Region.binds] at hpre
                      refine .inl ⟨wanted_none rfl, ?_⟩
                      exact wp_load_mid 42 (.tmp 50) rfl bb (oo + k * 32) (by rw [ha]; exact eval_puts_in (i := 2) rfl (by simp [hpre]) (by simp) rfl) (nats .u8 p2) _ (by rw [jw]; exact HR2.out) Try.underlying42 rfl iP2 ⟨(), _, rfl, rfl, jw, jb⟩
                    · intro _ L w' hL hpre hJ a ha
                      obtain ⟨jw, jb⟩ := hJ
                      simp [Region.binds] at hpre
                      refine .inl ⟨wanted_none rfl, ?_⟩
                      exact wp_move' (.tmp 0) (.inl rfl) (.slice (some ⟨bb, oo, none⟩) q c0) (by rw [ha, eval_puts_out rfl]; rfl) ⟨(), _, rfl, rfl, jw, jb⟩
                    · intro _ L w' hL hpre hJ a ha
                      obtain ⟨jw, jb⟩ := hJ
                      simp [Region.binds] at hpre
                      refine .inl ⟨wanted_none rfl, ?_⟩
                      exact wp_move' (.tmp 5) (.inl rfl) (.int .i64 (i : Int)) (by rw [ha, eval_puts_out rfl]; rfl) ⟨(), _, rfl, rfl, jw, jb⟩
                    · intro _ L w' hL hpre hJ a ha
                      obtain ⟨jw, jb⟩ := hJ
                      simp [Region.binds] at hpre
                      refine .inl ⟨wanted_none rfl, ?_⟩
                      have e52 : a.eval (.tmp 52) = .slice (some ⟨bb, oo, none⟩) q c0 := by rw [ha]; exact eval_puts_in (i := 4) rfl (by simp [hpre]) (by simp) rfl
                      have e53 : a.eval (.tmp 53) = .int .i64 (i : Int) := by rw [ha]; exact eval_puts_in (i := 5) rfl (by simp [hpre]) (by simp) rfl
                      clear ha
                      have jw' := Lib.hid jw
                      have jb' := Lib.hid jb
                      clear jw jb
                      refine wp_intro fun K HK => ?_
                      unfold Oper.wp
                      simp only [execOp, e52, e53]
                      go_simp
                      exact HK.out _ _ ⟨(), _, rfl, rfl, jw'.out, jb'.out⟩
                    · intro _ L w' hL hpre hJ a ha
                      obtain ⟨jw, jb⟩ := hJ
                      simp [Region.binds] at hpre
                      refine .inl ⟨wanted_none rfl, ?_⟩
                      exact wp_load_mid 42 (.tmp 54) rfl bb (oo + i * 32) (by rw [ha]; exact eval_puts_in (i := 6) rfl (by simp [hpre]) (by simp) rfl) (nats .u8 p2) _ (by rw [jw]; exact HR1.out) Try.underlying42 rfl iP ⟨(), _, rfl, rfl, jw, jb⟩
                    · intro _ L w' hL hpre hJ a ha
                      obtain ⟨jw, jb⟩ := hJ
                      simp [Region.binds] at hpre
                      refine .inl ⟨wanted_none rfl, ?_⟩
                      have e51 : a.eval (.tmp 51) = .agg (nats .u8 p2).toArray := by rw [ha]; exact eval_puts_in (i := 3) rfl (by simp [hpre]) (by simp) rfl
                      have e55 : a.eval (.tmp 55) = .agg (nats .u8 p2).toArray := by rw [ha]; exact eval_puts_in (i := 7) rfl (by simp [hpre]) (by simp) rfl
                      clear ha
                      have he := HEQ.out
                      have jw' := Lib.hid jw
                      have jb' := Lib.hid jb
                      clear jw jb
                      refine wp_intro fun K HK => ?_
                      unfold Oper.wp
                      simp only [execOp, e51, e55]
                      go_simp
                      exact HK.out _ _ ⟨(), _, rfl, rfl, jw'.out, jb'.out⟩
                    · intro _ L w' hL hpre hJ a ha
                      obtain ⟨jw, jb⟩ := hJ
                      simp [Region.binds] at hpre
                      refine .inl ⟨wanted_none rfl, ?_⟩
                      exact wp_move' (.tmp 56) (.inl rfl) (.bool true) (by rw [ha]; exact eval_puts_in (i := 8) rfl (by simp [hpre]) (by simp) rfl) ⟨(), _, rfl, rfl, jw, jb⟩
                    · intro _ L w' hL hpre hJ a ha
                      obtain ⟨jw, jb⟩ := hJ
                      simp [Region.binds] at hpre
                      refine .inl ⟨wanted_yes (g := 9) (t := 57) (b := true) rfl rfl (by rw [ha]; exact eval_puts_in (i := 9) rfl (by simp [hpre]) (by simp) rfl), ?_⟩
                      exact wp_move' (.tmp 8) (.inl rfl) (.int .i64 (k : Int)) (by rw [ha, eval_puts_out rfl]; rfl) ⟨(), _, rfl, rfl, jw, jb⟩
                    · intro _ L w' hL hpre hJ a ha
                      obtain ⟨jw, jb⟩ := hJ
                      simp [Region.binds] at hpre
                      refine .inl ⟨wanted_yes (g := 9) (t := 57) (b := true) rfl rfl (by rw [ha]; exact eval_puts_in (i := 9) rfl (by simp [hpre]) (by simp) rfl), ?_⟩
                      exact wp_move' (.tmp 5) (.inl rfl) (.int .i64 (i : Int)) (by rw [ha, eval_puts_out rfl]; rfl) ⟨(), _, rfl, rfl, jw, jb⟩
                    · intro _ L w' hL hpre hJ a ha
                      obtain ⟨jw, jb⟩ := hJ
                      simp [Region.binds] at hpre
                      refine .inl ⟨wanted_yes (g := 9) (t := 57) (b := true) rfl rfl (by rw [ha]; exact eval_puts_in (i := 9) rfl (by simp [hpre]) (by simp) rfl), ?_⟩
                      have e58 : a.eval (.tmp 58) = .int .i64 (k : Int) := by rw [ha]; exact eval_puts_in (i := 10) rfl (by simp [hpre]) (by simp) rfl
                      have e59 : a.eval (.tmp 59) = .int .i64 (i : Int) := by rw [ha]; exact eval_puts_in (i := 11) rfl (by simp [hpre]) (by simp) rfl
                      clear ha
                      have jw' := Lib.hid jw
                      have jb' := Lib.hid jb
                      clear jw jb
                      refine wp_intro fun K HK => ?_
                      unfold Oper.wp
                      simp only [execOp, e58, e59]
                      go_simp
                      exact HK.out _ _ ⟨(), _, rfl, rfl, jw'.out, jb'.out⟩
                    · intro _ L w' hL hpre hJ a ha
                      obtain ⟨jw, jb⟩ := hJ
                      simp [Region.binds] at hpre
                      refine .inl ⟨wanted_none rfl, ?_⟩
                      have e57 : a.eval (.tmp 57) = .bool true := by rw [ha]; exact eval_puts_in (i := 9) rfl (by simp [hpre]) (by simp) rfl
                      have e60 : a.eval (.tmp 60) = .bool false := by rw [ha]; exact eval_puts_in (i := 12) rfl (by simp [hpre]) (by simp) rfl
                      clear ha
                      have jw' := Lib.hid jw
                      have jb' := Lib.hid jb
                      clear jw jb
                      refine wp_intro fun K HK => ?_
                      unfold Oper.wp
                      simp only [execOp, e57, e60]
                      go_simp
                      exact HK.out _ _ ⟨(), _, rfl, rfl, jw'.out, jb'.out⟩
                  · intro _ L w' hL hJ
                    obtain ⟨jw, jb⟩ := hJ
                    clear hL
                    simp only [List.foldl_cons, List.foldl_nil]
                    subst jw
                    go_simp
                    go_wp2_with fail
                    go_roundw
                    case rel => exact ⟨k + 1, by omega, by go_num, by rw [HF2.out], by rw [HG2.out]; exact hrow, hb.drew.drew⟩
                    case measure => simp [intOf]; omega
          · have HF2 := Lib.hid (show fK l p i (k + 1) = fK l p i k by rw [HF.out, HK.out]; simp [e])
            have HG2 := Lib.hid (show gK l p i (k + 1) = gK l p i k by rw [HG.out, HK.out]; simp [e])
            have HEQ := Lib.hid (show ∀ w, (binOp .eql 42 (.agg (nats .u8 p2).toArray) (.agg (nats .u8 p).toArray)).run Try.prog w = .ok (.bool false) w from fun w => by have := HEQ.out w; rw [decide_eq_false e] at this; exact this)
            refine wp_region_puts_g (by kernel_rfl) (by kernel_rfl) (X := Unit) (fun _ => [(some 34, .slice (some ⟨bb, oo, none⟩) q c0), (some 35, .int .i64 (k : Int)), (some 36, .pointer (some ⟨bb, oo + k * 32, none⟩)), (some 37, .agg (nats .u8 p2).toArray), (some 38, .slice (some ⟨bb, oo, none⟩) q c0), (some 39, .int .i64 (i : Int)), (some 40, .pointer (some ⟨bb, oo + i * 32, none⟩)), (some 41, .agg (nats .u8 p).toArray), (some 42, .bool false), (some 43, .bool false), (some 44, undef), (some 45, undef), (some 46, undef), (some 47, .bool false)])
              (fun _ L w' => w' = wr.drew ∧ Below wr.heap.size wr w') (fun _ => rfl) (by kernel_rfl) ⟨(), fun _ _ => ⟨rfl, (Below.refl _ wr).drew⟩⟩ ?_ ?_
            · refine ⟨?_, ?_, ?_, ?_, ?_, ?_, ?_, ?_, ?_, ?_, ?_, ?_, ?_, ?_, trivial⟩
              · intro _ L w' hL hpre hJ a ha
                obtain ⟨jw, jb⟩ := hJ
                simp [Region.binds] at hpre
                refine .inl ⟨wanted_none rfl, ?_⟩
                exact wp_move' (.tmp 0) (.inl rfl) (.slice (some ⟨bb, oo, none⟩) q c0) (by rw [ha, eval_puts_out rfl]; rfl) ⟨(), _, rfl, rfl, jw, jb⟩
              · intro _ L w' hL hpre hJ a ha
                obtain ⟨jw, jb⟩ := hJ
                simp [Region.binds] at hpre
                refine .inl ⟨wanted_none rfl, ?_⟩
                exact wp_move' (.tmp 8) (.inl rfl) (.int .i64 (k : Int)) (by rw [ha, eval_puts_out rfl]; rfl) ⟨(), _, rfl, rfl, jw, jb⟩
              · intro _ L w' hL hpre hJ a ha
                obtain ⟨jw, jb⟩ := hJ
                simp [Region.binds] at hpre
                refine .inl ⟨wanted_none rfl, ?_⟩
                have e34 : a.eval (.tmp 34) = .slice (some ⟨bb, oo, none⟩) q c0 := by rw [ha]; exact eval_puts_in (i := 0) rfl (by simp [hpre]) (by simp) rfl
                have e35 : a.eval (.tmp 35) = .int .i64 (k : Int) := by rw [ha]; exact eval_puts_in (i := 1) rfl (by simp [hpre]) (by simp) rfl
                clear ha
                have jw' := Lib.hid jw
                have jb' := Lib.hid jb
                clear jw jb
                refine wp_intro fun K HK => ?_
                unfold Oper.wp
                simp only [execOp, e34, e35]
                go_simp
                exact HK.out _ _ ⟨(), _, rfl, rfl, jw'.out, jb'.out⟩
              · intro _ L w' hL hpre hJ a ha
                obtain ⟨jw, jb⟩ := hJ
                simp [Region.binds] at hpre
                refine .inl ⟨wanted_none rfl, ?_⟩
                exact wp_load_mid 42 (.tmp 36) rfl bb (oo + k * 32) (by rw [ha]; exact eval_puts_in (i := 2) rfl (by simp [hpre]) (by simp) rfl) (nats .u8 p2) _ (by rw [jw]; exact HR2.out) Try.underlying42 rfl iP2 ⟨(), _, rfl, rfl, jw, jb⟩
              · intro _ L w' hL hpre hJ a ha
                obtain ⟨jw, jb⟩ := hJ
                simp [Region.binds] at hpre
                refine .inl ⟨wanted_none rfl, ?_⟩
                exact wp_move' (.tmp 0) (.inl rfl) (.slice (some ⟨bb, oo, none⟩) q c0) (by rw [ha, eval_puts_out rfl]; rfl) ⟨(), _, rfl, rfl, jw, jb⟩
              · intro _ L w' hL hpre hJ a ha
                obtain ⟨jw, jb⟩ := hJ
                simp [Region.binds] at hpre
                refine .inl ⟨wanted_none rfl, ?_⟩
                exact wp_move' (.tmp 5) (.inl rfl) (.int .i64 (i : Int)) (by rw [ha, eval_puts_out rfl]; rfl) ⟨(), _, rfl, rfl, jw, jb⟩
              · intro _ L w' hL hpre hJ a ha
                obtain ⟨jw, jb⟩ := hJ
                simp [Region.binds] at hpre
                refine .inl ⟨wanted_none rfl, ?_⟩
                have e38 : a.eval (.tmp 38) = .slice (some ⟨bb, oo, none⟩) q c0 := by rw [ha]; exact eval_puts_in (i := 4) rfl (by simp [hpre]) (by simp) rfl
                have e39 : a.eval (.tmp 39) = .int .i64 (i : Int) := by rw [ha]; exact eval_puts_in (i := 5) rfl (by simp [hpre]) (by simp) rfl
                clear ha
                have jw' := Lib.hid jw
                have jb' := Lib.hid jb
                clear jw jb
                refine wp_intro fun K HK => ?_
                unfold Oper.wp
                simp only [execOp, e38, e39]
                go_simp
                exact HK.out _ _ ⟨(), _, rfl, rfl, jw'.out, jb'.out⟩
              · intro _ L w' hL hpre hJ a ha
                obtain ⟨jw, jb⟩ := hJ
                simp [Region.binds] at hpre
                refine .inl ⟨wanted_none rfl, ?_⟩
                exact wp_load_mid 42 (.tmp 40) rfl bb (oo + i * 32) (by rw [ha]; exact eval_puts_in (i := 6) rfl (by simp [hpre]) (by simp) rfl) (nats .u8 p) _ (by rw [jw]; exact HR1.out) Try.underlying42 rfl iP ⟨(), _, rfl, rfl, jw, jb⟩
              · intro _ L w' hL hpre hJ a ha
                obtain ⟨jw, jb⟩ := hJ
                simp [Region.binds] at hpre
                refine .inl ⟨wanted_none rfl, ?_⟩
                have e37 : a.eval (.tmp 37) = .agg (nats .u8 p2).toArray := by rw [ha]; exact eval_puts_in (i := 3) rfl (by simp [hpre]) (by simp) rfl
                have e41 : a.eval (.tmp 41) = .agg (nats .u8 p).toArray := by rw [ha]; exact eval_puts_in (i := 7) rfl (by simp [hpre]) (by simp) rfl
                clear ha
                have he := HEQ.out
                have jw' := Lib.hid jw
                have jb' := Lib.hid jb
                clear jw jb
                refine wp_intro fun K HK => ?_
                unfold Oper.wp
                simp only [execOp, e37, e41]
                go_simp
                exact HK.out _ _ ⟨(), _, rfl, rfl, jw'.out, jb'.out⟩
              · intro _ L w' hL hpre hJ a ha
                obtain ⟨jw, jb⟩ := hJ
                simp [Region.binds] at hpre
                refine .inl ⟨wanted_none rfl, ?_⟩
                exact wp_move' (.tmp 42) (.inl rfl) (.bool false) (by rw [ha]; exact eval_puts_in (i := 8) rfl (by simp [hpre]) (by simp) rfl) ⟨(), _, rfl, rfl, jw, jb⟩
              · intro _ L w' hL hpre hJ a ha
                obtain ⟨jw, jb⟩ := hJ
                simp [Region.binds] at hpre
                exact .inr ⟨wanted_no (g := 9) (t := 43) (b := true) rfl rfl (by rw [ha]; exact eval_puts_in (i := 9) rfl (by simp [hpre]) (by simp) rfl), (), rfl, jw, jb⟩
              · intro _ L w' hL hpre hJ a ha
                obtain ⟨jw, jb⟩ := hJ
                simp [Region.binds] at hpre
                exact .inr ⟨wanted_no (g := 9) (t := 43) (b := true) rfl rfl (by rw [ha]; exact eval_puts_in (i := 9) rfl (by simp [hpre]) (by simp) rfl), (), rfl, jw, jb⟩
              · intro _ L w' hL hpre hJ a ha
                obtain ⟨jw, jb⟩ := hJ
                simp [Region.binds] at hpre
                exact .inr ⟨wanted_no (g := 9) (t := 43) (b := true) rfl rfl (by rw [ha]; exact eval_puts_in (i := 9) rfl (by simp [hpre]) (by simp) rfl), (), rfl, jw, jb⟩
              · intro _ L w' hL hpre hJ a ha
                obtain ⟨jw, jb⟩ := hJ
                simp [Region.binds] at hpre
                refine .inl ⟨wanted_none rfl, ?_⟩
                have e43 : a.eval (.tmp 43) = .bool false := by rw [ha]; exact eval_puts_in (i := 9) rfl (by simp [hpre]) (by simp) rfl
                clear ha
                have jw' := Lib.hid jw
                have jb' := Lib.hid jb
                clear jw jb
                refine wp_intro fun K HK => ?_
                unfold Oper.wp
                simp only [execOp, e43]
                go_simp
                exact HK.out _ _ ⟨(), _, rfl, rfl, jw'.out, jb'.out⟩
            · intro _ L w' hL hJ
              obtain ⟨jw, jb⟩ := hJ
              clear hL
              simp only [List.foldl_cons, List.foldl_nil]
              subst jw
              clear jb
              go_simp
              go_upto_region 16 with fail
              refine wp_region_puts_g (by kernel_rfl) (by kernel_rfl) (X := Unit) (fun _ => [(some 48, .slice (some ⟨bb, oo, none⟩) q c0), (some 49, .int .i64 (k : Int)), (some 50, .pointer (some ⟨bb, oo + k * 32, none⟩)), (some 51, .agg (nats .u8 p2).toArray), (some 52, .slice (some ⟨bb, oo, none⟩) q c0), (some 53, .int .i64 (i : Int)), (some 54, .pointer (some ⟨bb, oo + i * 32, none⟩)), (some 55, .agg (nats .u8 p).toArray), (some 56, .bool false), (some 57, .bool false), (some 58, undef), (some 59, undef), (some 60, undef), (some 61, .bool false)])
                (fun _ L w' => w' = wr.drew.drew ∧ Below wr.heap.size wr w') (fun _ => rfl) (by kernel_rfl) ⟨(), fun _ _ => ⟨rfl, (Below.refl _ wr).drew.drew⟩⟩ ?_ ?_
              · refine ⟨?_, ?_, ?_, ?_, ?_, ?_, ?_, ?_, ?_, ?_, ?_, ?_, ?_, ?_, trivial⟩
                · intro _ L w' hL hpre hJ a ha
                  obtain ⟨jw, jb⟩ := hJ
                  simp [Region.binds] at hpre
                  refine .inl ⟨wanted_none rfl, ?_⟩
                  exact wp_move' (.tmp 0) (.inl rfl) (.slice (some ⟨bb, oo, none⟩) q c0) (by rw [ha, eval_puts_out rfl]; rfl) ⟨(), _, rfl, rfl, jw, jb⟩
                · intro _ L w' hL hpre hJ a ha
                  obtain ⟨jw, jb⟩ := hJ
                  simp [Region.binds] at hpre
                  refine .inl ⟨wanted_none rfl, ?_⟩
                  exact wp_move' (.tmp 8) (.inl rfl) (.int .i64 (k : Int)) (by rw [ha, eval_puts_out rfl]; rfl) ⟨(), _, rfl, rfl, jw, jb⟩
                · intro _ L w' hL hpre hJ a ha
                  obtain ⟨jw, jb⟩ := hJ
                  simp [Region.binds] at hpre
                  refine .inl ⟨wanted_none rfl, ?_⟩
                  have e48 : a.eval (.tmp 48) = .slice (some ⟨bb, oo, none⟩) q c0 := by rw [ha]; exact eval_puts_in (i := 0) rfl (by simp [hpre]) (by simp) rfl
                  have e49 : a.eval (.tmp 49) = .int .i64 (k : Int) := by rw [ha]; exact eval_puts_in (i := 1) rfl (by simp [hpre]) (by simp) rfl
                  clear ha
                  have jw' := Lib.hid jw
                  have jb' := Lib.hid jb
                  clear jw jb
                  refine wp_intro fun K HK => ?_
                  unfold Oper.wp
                  simp only [execOp, e48, e49]
                  go_simp
                  exact HK.out _ _ ⟨(), _, rfl, rfl, jw'.out, jb'.out⟩
                · intro _ L w' hL hpre hJ a ha
                  obtain ⟨jw, jb⟩ := hJ
                  simp [Region.binds] at hpre
                  refine .inl ⟨wanted_none rfl, ?_⟩
                  exact wp_load_mid 42 (.tmp 50) rfl bb (oo + k * 32) (by rw [ha]; exact eval_puts_in (i := 2) rfl (by simp [hpre]) (by simp) rfl) (nats .u8 p2) _ (by rw [jw]; exact HR2.out) Try.underlying42 rfl iP2 ⟨(), _, rfl, rfl, jw, jb⟩
                · intro _ L w' hL hpre hJ a ha
                  obtain ⟨jw, jb⟩ := hJ
                  simp [Region.binds] at hpre
                  refine .inl ⟨wanted_none rfl, ?_⟩
                  exact wp_move' (.tmp 0) (.inl rfl) (.slice (some ⟨bb, oo, none⟩) q c0) (by rw [ha, eval_puts_out rfl]; rfl) ⟨(), _, rfl, rfl, jw, jb⟩
                · intro _ L w' hL hpre hJ a ha
                  obtain ⟨jw, jb⟩ := hJ
                  simp [Region.binds] at hpre
                  refine .inl ⟨wanted_none rfl, ?_⟩
                  exact wp_move' (.tmp 5) (.inl rfl) (.int .i64 (i : Int)) (by rw [ha, eval_puts_out rfl]; rfl) ⟨(), _, rfl, rfl, jw, jb⟩
                · intro _ L w' hL hpre hJ a ha
                  obtain ⟨jw, jb⟩ := hJ
                  simp [Region.binds] at hpre
                  refine .inl ⟨wanted_none rfl, ?_⟩
                  have e52 : a.eval (.tmp 52) = .slice (some ⟨bb, oo, none⟩) q c0 := by rw [ha]; exact eval_puts_in (i := 4) rfl (by simp [hpre]) (by simp) rfl
                  have e53 : a.eval (.tmp 53) = .int .i64 (i : Int) := by rw [ha]; exact eval_puts_in (i := 5) rfl (by simp [hpre]) (by simp) rfl
                  clear ha
                  have jw' := Lib.hid jw
                  have jb' := Lib.hid jb
                  clear jw jb
                  refine wp_intro fun K HK => ?_
                  unfold Oper.wp
                  simp only [execOp, e52, e53]
                  go_simp
                  exact HK.out _ _ ⟨(), _, rfl, rfl, jw'.out, jb'.out⟩
                · intro _ L w' hL hpre hJ a ha
                  obtain ⟨jw, jb⟩ := hJ
                  simp [Region.binds] at hpre
                  refine .inl ⟨wanted_none rfl, ?_⟩
                  exact wp_load_mid 42 (.tmp 54) rfl bb (oo + i * 32) (by rw [ha]; exact eval_puts_in (i := 6) rfl (by simp [hpre]) (by simp) rfl) (nats .u8 p) _ (by rw [jw]; exact HR1.out) Try.underlying42 rfl iP ⟨(), _, rfl, rfl, jw, jb⟩
                · intro _ L w' hL hpre hJ a ha
                  obtain ⟨jw, jb⟩ := hJ
                  simp [Region.binds] at hpre
                  refine .inl ⟨wanted_none rfl, ?_⟩
                  have e51 : a.eval (.tmp 51) = .agg (nats .u8 p2).toArray := by rw [ha]; exact eval_puts_in (i := 3) rfl (by simp [hpre]) (by simp) rfl
                  have e55 : a.eval (.tmp 55) = .agg (nats .u8 p).toArray := by rw [ha]; exact eval_puts_in (i := 7) rfl (by simp [hpre]) (by simp) rfl
                  clear ha
                  have he := HEQ.out
                  have jw' := Lib.hid jw
                  have jb' := Lib.hid jb
                  clear jw jb
                  refine wp_intro fun K HK => ?_
                  unfold Oper.wp
                  simp only [execOp, e51, e55]
                  go_simp
                  exact HK.out _ _ ⟨(), _, rfl, rfl, jw'.out, jb'.out⟩
                · intro _ L w' hL hpre hJ a ha
                  obtain ⟨jw, jb⟩ := hJ
                  simp [Region.binds] at hpre
                  refine .inl ⟨wanted_none rfl, ?_⟩
                  exact wp_move' (.tmp 56) (.inl rfl) (.bool false) (by rw [ha]; exact eval_puts_in (i := 8) rfl (by simp [hpre]) (by simp) rfl) ⟨(), _, rfl, rfl, jw, jb⟩
                · intro _ L w' hL hpre hJ a ha
                  obtain ⟨jw, jb⟩ := hJ
                  simp [Region.binds] at hpre
                  exact .inr ⟨wanted_no (g := 9) (t := 57) (b := true) rfl rfl (by rw [ha]; exact eval_puts_in (i := 9) rfl (by simp [hpre]) (by simp) rfl), (), rfl, jw, jb⟩
                · intro _ L w' hL hpre hJ a ha
                  obtain ⟨jw, jb⟩ := hJ
                  simp [Region.binds] at hpre
                  exact .inr ⟨wanted_no (g := 9) (t := 57) (b := true) rfl rfl (by rw [ha]; exact eval_puts_in (i := 9) rfl (by simp [hpre]) (by simp) rfl), (), rfl, jw, jb⟩
                · intro _ L w' hL hpre hJ a ha
                  obtain ⟨jw, jb⟩ := hJ
                  simp [Region.binds] at hpre
                  exact .inr ⟨wanted_no (g := 9) (t := 57) (b := true) rfl rfl (by rw [ha]; exact eval_puts_in (i := 9) rfl (by simp [hpre]) (by simp) rfl), (), rfl, jw, jb⟩
                · intro _ L w' hL hpre hJ a ha
                  obtain ⟨jw, jb⟩ := hJ
                  simp [Region.binds] at hpre
                  refine .inl ⟨wanted_none rfl, ?_⟩
                  have e57 : a.eval (.tmp 57) = .bool false := by rw [ha]; exact eval_puts_in (i := 9) rfl (by simp [hpre]) (by simp) rfl
                  clear ha
                  have jw' := Lib.hid jw
                  have jb' := Lib.hid jb
                  clear jw jb
                  refine wp_intro fun K HK => ?_
                  unfold Oper.wp
                  simp only [execOp, e57]
                  go_simp
                  exact HK.out _ _ ⟨(), _, rfl, rfl, jw'.out, jb'.out⟩
              · intro _ L w' hL hJ
                obtain ⟨jw, jb⟩ := hJ
                clear hL
                simp only [List.foldl_cons, List.foldl_nil]
                subst jw
                go_simp
                go_wp2_with fail
                go_roundw
                case rel => exact ⟨k + 1, by omega, by go_num, by rw [HF2.out], by rw [HG2.out]; exact hrow, hb.drew.drew⟩
                case measure => simp [intOf]; omega
        · obtain rfl : k = q := by omega
          have hpos := gK_pos l p i k
          have hgl := gK_len l p i k
          have HTw := Lib.hid (twins_succ l i p HP.out)
          have HFi := Lib.hid (show firstB l i p = (fK l p i k && decide (1 < (gK l p i k).length)) by rw [first_iff HP.out, HL.out])
          have HGd := Lib.hid (fun (hf : fK l p i k = true) => show idxs l p l.length = gK l p i k by rw [gK_done HP.out (by rw [HL.out]; exact hf), HL.out])
          have htl := twins_len l i
          have hbq := HB.out.trans (hb.mono HB.out.size)
          have hw2 := own_below HWant.out hb
          have hR2 := HRows.out.below hb (Nat.le_refl _)
          have hg2 := own_base hrow HB.out.size
          obtain ⟨g9, c9, e9, -, -, -, -⟩ := own_form hrow hpos
          subst e9
          clear hrow hb
          cases hf : fK l p i k with
          | false =>
            have HTs := Lib.hid (show twinsK l (i + 1) = twinsK l i by rw [HTw.out, HFi.out, hf]; simp)
            clear hf
            go_wp2_with fail
            go_roundw
            case rel => exact ⟨i + 1, vs, by omega, by go_num, by rw [HTs.out]; exact hw2, by rw [HTs.out]; exact hR2, hbq⟩
            case measure => simp [intOf]; omega
          | true =>
            have HI := Lib.hid (HGd.out hf)
            by_cases h1 : 1 < (gK l p i k).length
            · have HTs := Lib.hid (show twinsK l (i + 1) = twinsK l i ++ [p] by rw [HTw.out, HFi.out, hf]; simp [h1])
              clear hf HTw HFi HGd
              generalize gK l p i k = G at *
              have h1I : (1 : Int) < (G.length : Int) := by omega
              have hsz := hbq.size
              have HR2 := Lib.hid hR2
              have HG2 := Lib.hid hg2
              have HW2 := Lib.hid hw2
              clear hR2 hg2
              go_wp2_with (first | (at_builtin; (refine wpList_append1 rfl (.tmp 72) (.tmp 74) 100 rfl 27 _ _ Try.underlying100 sInfo1 rfl (show World.ownsRow wr w.heap.size 27 1 _ (twinsK l i).length vs from hw2) hbq rfl rfl rfl (by unfold maxLen; omega) (by omega) hsz (Nat.le_refl _) ?_); intro v8 w8 hrow8 hb8 hgr8 hat8))
              go_roundw
              case rel =>
                have a1 := (HR2.out.below ((Below.refl _ wr).alloc (Nat.le_refl _) (.cells #[.slice (some ⟨g9, 0, none⟩) G.length c9] 27)) (Nat.le_refl _)).grown (HW2.out.alloc (.cells #[.slice (some ⟨g9, 0, none⟩) G.length c9] 27)) hgr8
                have a2 := (HG2.out.alloc (.cells #[.slice (some ⟨g9, 0, none⟩) G.length c9] 27)).kept hgr8 (.inr (rows_off (HG2.out.alloc (.cells #[.slice (some ⟨g9, 0, none⟩) G.length c9] 27)) hpos (HW2.out.alloc (.cells #[.slice (some ⟨g9, 0, none⟩) G.length c9] 27))))
                exact ⟨i + 1, _, by omega, by go_num, by rw [HTs.out, List.length_append]; exact hrow8, by rw [HTs.out]; exact a1.snoc (by rw [HI.out]; exact a2) (by rw [HI.out]; exact hpos), hb8⟩
              case measure => simp [intOf]; omega
            · have HTs := Lib.hid (show twinsK l (i + 1) = twinsK l i by rw [HTw.out, HFi.out, hf]; simp; omega)
              clear hf HTw HFi HGd
              generalize gK l p i k = G at *
              have h1I : ¬ (1 : Int) < (G.length : Int) := by omega
              go_wp2_with fail
              go_roundw
              case rel => exact ⟨i + 1, vs, by omega, by go_num, by rw [HTs.out]; exact hw2, by rw [HTs.out]; exact hR2, hbq⟩
              case measure => simp [intOf]; omega
    · obtain rfl : i = q := by omega
      have hrq := HR.out.below hb (Nat.le_refl _)
      have CT := Lib.hid (pg.twins_any A i c0 w.heap.size l wr hrq hb.size HW.out (by omega))
      have htl := twins_len l i
      have HWant := Lib.hid hwant
      have HRows := Lib.hid hRows
      have HB := Lib.hid hb
      clear hrq hwant hRows hb
      go_wp2_with fail
      refine CT.out.mono ?_
      rintro e w5 ⟨v, f, rfl, hown5, hin5, hbb⟩
      have hw5 := own_below HWant.out hbb
      have hR5 := HRows.out.below hbb (Nat.le_refl _)
      have hb5 := HB.out.trans (hbb.mono HB.out.size)
      have hT : twinsK l i = twinsK l l.length := by rw [HL.out]
      rw [hT] at hw5 hR5 htl
      clear hbb CT hT HWant HRows HB
      have hpos : ∀ (m : Nat) (p : List Nat), (twinsK l l.length)[m]? = some p → 1 < (idxs l p l.length).length := fun m p h => twins_pos h
      generalize twinsK l l.length = T at *
      have hvl := hR5.1
      obtain ⟨A9, c9, rfl, -, -⟩ := own_slice hown5
      obtain ⟨A4, c4, rfl, -, -⟩ := own_slice hw5
      have HO5 := Lib.hid hown5
      have HW5 := Lib.hid hw5
      have HIn := Lib.hid hin5
      have HR5 := Lib.hid hR5
      have HPos := Lib.hid hpos
      have HB5 := Lib.hid hb5
      have HVL := Lib.hid hvl
      clear hown5 hw5 hin5 hR5 hpos hb5 hvl
      go_wp2_with fail
      go_loopw [10, 11] (fun i2 vj wr => ∃ k2 : Nat, k2 ≤ T.length ∧ i2 = .int .i64 k2 ∧ Below w5.heap.size w5 wr) (fun i2 _ _ => T.length - (intOf i2).toNat)
      case atStart => exact ⟨0, by omega, rfl, Below.refl _ _⟩
      case round =>
        obtain ⟨k2, hk2, rfl, hb⟩ := hrel
        by_cases hlt : k2 < T.length
        · have hp : T[k2]? = some T[k2] := List.getElem?_eq_getElem hlt
          have hv : vs[k2]? = some (vs[k2]'(by rw [HVL.out]; exact hlt)) := List.getElem?_eq_getElem _
          generalize T[k2] = p at *
          generalize vs[k2]'_ = u at *
          have hm := HPos.out _ _ hp
          have in1 := HIn.out p
          have in2 := (HR5.out.2 k2 p u hp hv).1
          have o5 := HO5.out
          have o4 := HW5.out
          obtain ⟨g9, c9', e9, -, -, -, -⟩ := own_form o5 (by omega)
          cases e9
          obtain ⟨g4, c4', e4, -, -, -, -⟩ := own_form o4 (by omega)
          cases e4
          have q9 : w5.cell? ⟨g9, k2, none⟩ = some (pg.lookF f p (.slice none 0 0)) := cell1 o5 (j := k2) (by rw [List.getElem?_map, hp]; rfl)
          have q4 := cell1 o4 (j := k2) hv
          generalize pg.lookF f p (.slice none 0 0) = u1 at *
          have hil : (idxs l p l.length).length ≤ i := Nat.le_trans (idxs_len l p l.length) (Nat.le_of_eq HL.out)
          generalize idxs l p l.length = I at *
          obtain ⟨g1, c1, rfl, -, -, -, -⟩ := own_form in1 (by omega)
          obtain ⟨g2, c2, rfl, -, -, -, -⟩ := own_form in2 (by omega)
          have HQ9 := Lib.hid q9
          have HQ4 := Lib.hid q4
          have HI1 := Lib.hid in1
          have HI2 := Lib.hid in2
          have b9 := (hb.cell (lt_cell q9)).trans q9
          have b4 := (hb.cell (lt_cell q4)).trans q4
          have hlt2 : (k2 : Int) < (T.length : Int) := by omega
          clear hp hv in1 in2 o5 o4 q9 q4
          go_upto_region 26 with fail
          go_region
          go_wp2_with fail
          clear b9 b4
          go_loopw [11] (fun j wr => ∃ k3 : Nat, k3 ≤ I.length ∧ j = .int .i64 k3 ∧ Below w5.heap.size w5 wr) (fun j _ => I.length - (intOf j).toNat)
          case atStart => exact ⟨0, by omega, rfl, hb.drew⟩
          case round =>
            clear hb
            obtain ⟨k3, hk3, rfl, hb⟩ := hrel
            have b9 := (hb.cell (lt_cell HQ9.out)).trans HQ9.out
            have b4 := (hb.cell (lt_cell HQ4.out)).trans HQ4.out
            by_cases hl3 : k3 < I.length
            · have hi : (nats .i64 I)[k3]? = some (.int .i64 (I[k3] : Int)) := by rw [nats, List.getElem?_map, List.getElem?_eq_getElem hl3]; rfl
              generalize I[k3] = x at *
              have q1 := cell1 HI1.out hi
              have q2 := cell1 HI2.out hi
              have b1 := (hb.cell (lt_cell q1)).trans q1
              have b2 := (hb.cell (lt_cell q2)).trans q2
              have hl4 : (k3 : Int) < (I.length : Int) := by omega
              clear hi q1 q2
              go_upto_region 31 with fail
              go_region
              go_wp2_with fail
              go_roundw
              case rel => exact ⟨k3 + 1, by omega, by go_num, hb.drew⟩
              case measure => simp [intOf]; omega
            · obtain rfl : k3 = I.length := by omega
              go_wp2_with fail
              go_roundw
              case rel => exact ⟨k2 + 1, by omega, by go_num, hb⟩
              case measure => simp [intOf]; omega
        · obtain rfl : k2 = T.length := by omega
          go_wp2_with fail
          go_ret
          exact ⟨rfl, HB5.out.trans (hb.mono HB5.out.size)⟩
end Go.Proofs.Ytakekjbbbjmdpaa.spotTwins
