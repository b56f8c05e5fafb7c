import Derived.Test.YtakekjbbbjmdpaaRefField
import Derived.Test.YtakekjbbbjmdpaaBunD
import Derived.Test.YtakekjbbbjmdpaaBunE
import Derived.Test.YtakekjbbbjmdpaaRegion3
/- The document's sherd of a page. -/
namespace Go.Proofs.Ytakekjbbbjmdpaa
open Go.RowKit
set_option linter.unusedVariables false
set_option maxRecDepth 100000 in
set_option maxHeartbeats 8000000 in
theorem refget_any (P : List Nat) (w : World) (hP : P.length = 32) (hb : ∀ x ∈ P, x < 256) :
    Calls Try.prog 89 #[.agg (nats .u8 P).toArray] w fun e w' => e = .returned (.tuple #[.agg (getV P).toArray, .bool (getB P)]) ∧ Below w.heap.size w w' := by
  have hl16 : (P.take 16).length = 16 := by rw [List.length_take]; omega
  have HP := Lib.hid hP
  have HT := Lib.hid hl16
  have HBy := Lib.hid hb
  have HT8 := Lib.hid (take_lt hb 16)
  have HT28 := Lib.hid (take_lt hb 28)
  have iP := pgInfo hP
  obtain ⟨q1, q2, q3⟩ := r_fields hP
  have C1 : ∀ w, Calls Try.prog 121 #[.agg (nats .u8 P).toArray, .int .i64 128, .int .i64 8] w fun e w' => e = .returned (.int .u64 (rR P)) ∧ Below w.heap.size w w' := fun w => by have := field_nat P 128 8 w hP hb (by decide) (by decide) (by decide); rw [← q1] at this; exact this
  have l1 : 0 ≤ rR P ∧ rR P < 256 := by have := fld_lt P 128 8 (by omega); rw [q1]; omega
  have C2 : ∀ w, Calls Try.prog 121 #[.agg (nats .u8 P).toArray, .int .i64 136, .int .i64 16] w fun e w' => e = .returned (.int .u64 (rL P)) ∧ Below w.heap.size w w' := fun w => by have := field_nat P 136 16 w hP hb (by decide) (by decide) (by decide); rw [← q2] at this; exact this
  have l2 : 0 ≤ rL P ∧ rL P < 65536 := by have := fld_lt P 136 16 (by omega); rw [q2]; omega
  have C3 : ∀ w, Calls Try.prog 121 #[.agg (nats .u8 P).toArray, .int .i64 152, .int .i64 40] w fun e w' => e = .returned (.int .u64 (rS P)) ∧ Below w.heap.size w w' := fun w => by have := field_nat P 152 40 w hP hb (by decide) (by decide) (by decide); rw [← q3] at this; exact this
  have l3 : 0 ≤ rS P ∧ rS P < 1099511627776 := by have := fld_lt P 152 40 (by omega); rw [q3]; omega
  have C4 : ∀ w, Calls Try.prog 121 #[.agg (nats .u8 P).toArray, .int .i64 192, .int .i64 8] w fun e w' => e = .returned (.int .u64 (rB P)) ∧ Below w.heap.size w w' := fun w => by have := field_nat P 192 8 w hP hb (by decide) (by decide) (by decide); exact this
  have l4 : 0 ≤ rB P ∧ rB P < 256 := by have := fld_lt P 192 8 (by omega); unfold rB; omega
  have C5 : ∀ w, Calls Try.prog 121 #[.agg (nats .u8 P).toArray, .int .i64 200, .int .i64 8] w fun e w' => e = .returned (.int .u64 (rO P)) ∧ Below w.heap.size w w' := fun w => by have := field_nat P 200 8 w hP hb (by decide) (by decide) (by decide); exact this
  have l5 : 0 ≤ rO P ∧ rO P < 256 := by have := fld_lt P 200 8 (by omega); unfold rO; omega
  have C6 : ∀ w, Calls Try.prog 121 #[.agg (nats .u8 P).toArray, .int .i64 208, .int .i64 8] w fun e w' => e = .returned (.int .u64 (rMask P)) ∧ Below w.heap.size w w' := fun w => by have := field_nat P 208 8 w hP hb (by decide) (by decide) (by decide); exact this
  have l6 : 0 ≤ rMask P ∧ rMask P < 256 := by have := fld_lt P 208 8 (by omega); unfold rMask; omega
  have C7 : ∀ w, Calls Try.prog 121 #[.agg (nats .u8 P).toArray, .int .i64 216, .int .i64 8] w fun e w' => e = .returned (.int .u64 (rK P)) ∧ Below w.heap.size w w' := fun w => by have := field_nat P 216 8 w hP hb (by decide) (by decide) (by decide); exact this
  have l7 : 0 ≤ rK P ∧ rK P < 256 := by have := fld_lt P 216 8 (by omega); unfold rK; omega
  have C8 : ∀ w, Calls Try.prog 121 #[.agg (nats .u8 P).toArray, .int .i64 224, .int .i64 32] w fun e w' => e = .returned (.int .u64 (fld P 224 32 : Int)) ∧ Below w.heap.size w w' := fun w => field_nat P 224 32 w hP hb (by decide) (by decide) (by decide)
  have l8 : fld P 224 32 < 4294967296 := fld_lt P 224 32 (by omega)
  have hG : getB P = (maySh (P.take 16) (rR P) (rL P) (rS P) (rK P) (rB P) (rO P) (rMask P) && (fld P 224 32 == kof (P.take 28))) := rfl
  have hGV : getV P = if getB P then shV (P.take 16) (rR P) (rL P) (rS P) (rK P) (rB P) (rO P) (rMask P) else shV zero16 0 0 0 0 0 0 0 := rfl
  have HG := Lib.hid hG
  have HGV := Lib.hid hGV
  clear hG hGV q1 q2 q3
  generalize rR P = f1 at *
  generalize rL P = f2 at *
  generalize rS P = f3 at *
  generalize rB P = f4 at *
  generalize rO P = f5 at *
  generalize rMask P = f6 at *
  generalize rK P = f7 at *
  generalize fld P 224 32 = f8 at *
  obtain ⟨l1, u1⟩ := l1
  obtain ⟨l2, u2⟩ := l2
  obtain ⟨l3, u3⟩ := l3
  obtain ⟨l4, u4⟩ := l4
  obtain ⟨l5, u5⟩ := l5
  obtain ⟨l6, u6⟩ := l6
  obtain ⟨l7, u7⟩ := l7
  have HC1 := Lib.hid C1
  clear C1
  have HC2 := Lib.hid C2
  clear C2
  have HC3 := Lib.hid C3
  clear C3
  have HC4 := Lib.hid C4
  clear C4
  have HC5 := Lib.hid C5
  clear C5
  have HC6 := Lib.hid C6
  clear C6
  have HC7 := Lib.hid C7
  clear C7
  have HC8 := Lib.hid C8
  clear C8
  have WR1 := Lib.hid (show IntKind.i64.wrap f1 = f1 by simp [IntKind.wrap, IntKind.bits, IntKind.signed]; omega)
  have WR2 := Lib.hid (show IntKind.i64.wrap f2 = f2 by simp [IntKind.wrap, IntKind.bits, IntKind.signed]; omega)
  have WR3 := Lib.hid (show IntKind.i64.wrap f3 = f3 by simp [IntKind.wrap, IntKind.bits, IntKind.signed]; omega)
  have WR4 := Lib.hid (show IntKind.i64.wrap f4 = f4 by simp [IntKind.wrap, IntKind.bits, IntKind.signed]; omega)
  have WR5 := Lib.hid (show IntKind.i64.wrap f5 = f5 by simp [IntKind.wrap, IntKind.bits, IntKind.signed]; omega)
  have WR6 := Lib.hid (show IntKind.i64.wrap f6 = f6 by simp [IntKind.wrap, IntKind.bits, IntKind.signed]; omega)
  have WR7 := Lib.hid (show IntKind.i64.wrap f7 = f7 by simp [IntKind.wrap, IntKind.bits, IntKind.signed]; omega)
  have WR8 := Lib.hid (show IntKind.u32.wrap (f8 : Int) = (f8 : Int) by simp [IntKind.wrap, IntKind.bits, IntKind.signed]; omega)
  clear hP hl16 hb
  go_enter Try.func89, Try.ntmps89
  go_upto_region 2 with fail
  have h0 := heap_at2' w (.cells (nats .u8 P).toArray 42) (.cells (shV zero16 0 0 0 0 0 0 0).toArray 40) (.cells (shV zero16 0 0 0 0 0 0 0).toArray 40)
  have h1 := heap_at2 w (.cells (nats .u8 P).toArray 42) (.cells (shV zero16 0 0 0 0 0 0 0).toArray 40) (.cells (shV zero16 0 0 0 0 0 0 0).toArray 40)
  have h2 := heap_new' ((w.alloc (.cells (nats .u8 P).toArray 42)).alloc (.cells (shV zero16 0 0 0 0 0 0 0).toArray 40)) (.cells (shV zero16 0 0 0 0 0 0 0).toArray 40) (w.heap.size + 1 + 1) (by simp)
  have hbel := below3 w (.cells (nats .u8 P).toArray 42) (.cells (shV zero16 0 0 0 0 0 0 0).toArray 40) (.cells (shV zero16 0 0 0 0 0 0 0).toArray 40)
  change Code.wp _ _ _ _ (((w.alloc (.cells (nats .u8 P).toArray 42)).alloc (.cells (shV zero16 0 0 0 0 0 0 0).toArray 40)).alloc (.cells (shV zero16 0 0 0 0 0 0 0).toArray 40))
  generalize ((w.alloc (.cells (nats .u8 P).toArray 42)).alloc (.cells (shV zero16 0 0 0 0 0 0 0).toArray 40)).alloc (.cells (shV zero16 0 0 0 0 0 0 0).toArray 40) = w1 at *
  have hr0 := range_take 16 h0
  go_region_law (refine step_copy_upd rfl (.tmp 6) (.tmp 7) 109 109 rfl 5 Try.underlying109 u8Size (some ⟨w.heap.size + 1 + 1, 0, none⟩) (some ⟨w.heap.size, 0, none⟩) 16 16 16 32 (by go_simp) (by go_simp) (w.heap.size + 1 + 1) 0 (shV zero16 0 0 0 0 0 0 0) 40 h2 (nats .u8 (P.take 16)) (by rw [nats_length, HT.out]; rfl) (fun _ => ⟨rfl, _, _, rfl, hr0⟩) (by rw [nats_length, HT.out, shV_len0]; decide) (one_nats _ _) ?_; intro w2 hU2; replace hU2 := hU2.undrew)
  have h22 := hU2.at_
  rw [splice_sh HP.out] at h22
  have h02 := hU2.old h0 (by omega)
  have h12 := hU2.old h1 (by omega)
  have hbel2 := hU2.below hbel (by omega)
  have g2 := lt_of_cells h22
  clear h0 h1 h2 hbel hr0 hU2
  go_upto_region 3 with fail
  refine wp_region_puts_g (by kernel_rfl) (by kernel_rfl) (X := Unit) (fun _ => [(some 9, .agg (nats .u8 P).toArray), (some 10, .int .u64 f1), (some 11, .int .i64 f1), (some 12, .agg (nats .u8 P).toArray), (some 13, .int .u64 f2), (some 14, .int .i64 f2), (some 15, .agg (nats .u8 P).toArray), (some 16, .int .u64 f3), (some 17, .int .i64 f3), (some 18, .pointer (some ⟨(w.heap.size + 1 + 1), 16, none⟩)), (none, undef), (some 19, .pointer (some ⟨(w.heap.size + 1 + 1), 17, none⟩)), (none, undef), (some 20, .pointer (some ⟨(w.heap.size + 1 + 1), 18, none⟩)), (none, undef)])
    (fun _ L w' => w'.heap[w.heap.size]? = some (.cells (nats .u8 P).toArray 42 (0, 0)) ∧ w'.heap[(w.heap.size + 1)]? = some (.cells (shV zero16 0 0 0 0 0 0 0).toArray 40 (0, 0)) ∧ w'.heap[(w.heap.size + 1 + 1)]? = some (.cells (shV (P.take 16) (bif L 10 then f1 else 0) (bif L 12 then f2 else 0) (bif L 14 then f3 else 0) 0 0 0 0).toArray 40 (0, 0)) ∧ Below w.heap.size w w') (fun _ => rfl) (by kernel_rfl) ⟨(), fun L hL => ⟨h02, h12, (by simp only [hL, cond_false]; exact h22), hbel2.drew⟩⟩ ?_ ?_
  · refine ⟨?_, ?_, ?_, ?_, ?_, ?_, ?_, ?_, ?_, ?_, ?_, ?_, ?_, ?_, ?_, trivial⟩
    · intro _ L w' hL hpre hJ a ha
      obtain ⟨j0, j1, j2, jb⟩ := hJ
      simp [Region.binds] at hpre
      refine .inl ⟨wanted_none rfl, ?_⟩
      exact wp_load_mid 42 (.tmp 1) rfl w.heap.size 0 (by rw [ha, eval_puts_out rfl]; rfl) (nats .u8 P) _ (range_blk j0) Try.underlying42 rfl iP ⟨(), _, rfl, rfl, j0, j1, j2, jb⟩
    · intro _ L w' hL hpre hJ a ha
      obtain ⟨j0, j1, j2, jb⟩ := hJ
      simp [Region.binds] at hpre
      refine .inl ⟨wanted_none rfl, ?_⟩
      have e9 : a.eval (.tmp 9) = .agg (nats .u8 P).toArray := by rw [ha]; exact eval_puts_in (i := 0) rfl (by simp [hpre]) (by simp) rfl
      clear ha
      have j0' := Lib.hid j0
      have j1' := Lib.hid j1
      have j2' := Lib.hid j2
      have jb' := Lib.hid jb
      clear j0 j1 j2 jb
      refine wp_intro fun K HK => ?_
      unfold Oper.wp
      simp only [execOp, resolve, List.map_toArray, List.map_cons, List.map_nil, e9]
      go_simp
      refine (HC1.out w').mono ?_
      rintro e w'' ⟨rfl, hb⟩
      exact HK.out _ _ ⟨(), _, rfl, rfl, blk_below j0'.out hb, blk_below j1'.out hb, blk_below j2'.out hb, jb'.out.trans (hb.mono jb'.out.size)⟩
    · intro _ L w' hL hpre hJ a ha
      obtain ⟨j0, j1, j2, jb⟩ := hJ
      simp [Region.binds] at hpre
      refine .inl ⟨wanted_none rfl, ?_⟩
      have e10 : a.eval (.tmp 10) = .int .u64 f1 := by rw [ha]; exact eval_puts_in (i := 1) rfl (by simp [hpre]) (by simp) rfl
      clear ha
      have j0' := Lib.hid j0
      have j1' := Lib.hid j1
      have j2' := Lib.hid j2
      have jb' := Lib.hid jb
      clear j0 j1 j2 jb
      refine wp_intro fun K HK => ?_
      unfold Oper.wp
      simp only [execOp, e10]
      go_simp
      rw [WR1.out]
      exact HK.out _ _ ⟨(), _, rfl, rfl, j0'.out, j1'.out, j2'.out, jb'.out⟩
    · intro _ L w' hL hpre hJ a ha
      obtain ⟨j0, j1, j2, jb⟩ := hJ
      simp [Region.binds] at hpre
      refine .inl ⟨wanted_none rfl, ?_⟩
      exact wp_load_mid 42 (.tmp 1) rfl w.heap.size 0 (by rw [ha, eval_puts_out rfl]; rfl) (nats .u8 P) _ (range_blk j0) Try.underlying42 rfl iP ⟨(), _, rfl, rfl, j0, j1, j2, jb⟩
    · intro _ L w' hL hpre hJ a ha
      obtain ⟨j0, j1, j2, jb⟩ := hJ
      simp [Region.binds] at hpre
      refine .inl ⟨wanted_none rfl, ?_⟩
      have e12 : a.eval (.tmp 12) = .agg (nats .u8 P).toArray := by rw [ha]; exact eval_puts_in (i := 3) rfl (by simp [hpre]) (by simp) rfl
      clear ha
      have j0' := Lib.hid j0
      have j1' := Lib.hid j1
      have j2' := Lib.hid j2
      have jb' := Lib.hid jb
      clear j0 j1 j2 jb
      refine wp_intro fun K HK => ?_
      unfold Oper.wp
      simp only [execOp, resolve, List.map_toArray, List.map_cons, List.map_nil, e12]
      go_simp
      refine (HC2.out w').mono ?_
      rintro e w'' ⟨rfl, hb⟩
      exact HK.out _ _ ⟨(), _, rfl, rfl, blk_below j0'.out hb, blk_below j1'.out hb, blk_below j2'.out hb, jb'.out.trans (hb.mono jb'.out.size)⟩
    · intro _ L w' hL hpre hJ a ha
      obtain ⟨j0, j1, j2, jb⟩ := hJ
      simp [Region.binds] at hpre
      refine .inl ⟨wanted_none rfl, ?_⟩
      have e13 : a.eval (.tmp 13) = .int .u64 f2 := by rw [ha]; exact eval_puts_in (i := 4) rfl (by simp [hpre]) (by simp) rfl
      clear ha
      have j0' := Lib.hid j0
      have j1' := Lib.hid j1
      have j2' := Lib.hid j2
      have jb' := Lib.hid jb
      clear j0 j1 j2 jb
      refine wp_intro fun K HK => ?_
      unfold Oper.wp
      simp only [execOp, e13]
      go_simp
      rw [WR2.out]
      exact HK.out _ _ ⟨(), _, rfl, rfl, j0'.out, j1'.out, j2'.out, jb'.out⟩
    · intro _ L w' hL hpre hJ a ha
      obtain ⟨j0, j1, j2, jb⟩ := hJ
      simp [Region.binds] at hpre
      refine .inl ⟨wanted_none rfl, ?_⟩
      exact wp_load_mid 42 (.tmp 1) rfl w.heap.size 0 (by rw [ha, eval_puts_out rfl]; rfl) (nats .u8 P) _ (range_blk j0) Try.underlying42 rfl iP ⟨(), _, rfl, rfl, j0, j1, j2, jb⟩
    · intro _ L w' hL hpre hJ a ha
      obtain ⟨j0, j1, j2, jb⟩ := hJ
      simp [Region.binds] at hpre
      refine .inl ⟨wanted_none rfl, ?_⟩
      have e15 : a.eval (.tmp 15) = .agg (nats .u8 P).toArray := by rw [ha]; exact eval_puts_in (i := 6) rfl (by simp [hpre]) (by simp) rfl
      clear ha
      have j0' := Lib.hid j0
      have j1' := Lib.hid j1
      have j2' := Lib.hid j2
      have jb' := Lib.hid jb
      clear j0 j1 j2 jb
      refine wp_intro fun K HK => ?_
      unfold Oper.wp
      simp only [execOp, resolve, List.map_toArray, List.map_cons, List.map_nil, e15]
      go_simp
      refine (HC3.out w').mono ?_
      rintro e w'' ⟨rfl, hb⟩
      exact HK.out _ _ ⟨(), _, rfl, rfl, blk_below j0'.out hb, blk_below j1'.out hb, blk_below j2'.out hb, jb'.out.trans (hb.mono jb'.out.size)⟩
    · intro _ L w' hL hpre hJ a ha
      obtain ⟨j0, j1, j2, jb⟩ := hJ
      simp [Region.binds] at hpre
      refine .inl ⟨wanted_none rfl, ?_⟩
      have e16 : a.eval (.tmp 16) = .int .u64 f3 := by rw [ha]; exact eval_puts_in (i := 7) rfl (by simp [hpre]) (by simp) rfl
      clear ha
      have j0' := Lib.hid j0
      have j1' := Lib.hid j1
      have j2' := Lib.hid j2
      have jb' := Lib.hid jb
      clear j0 j1 j2 jb
      refine wp_intro fun K HK => ?_
      unfold Oper.wp
      simp only [execOp, e16]
      go_simp
      rw [WR3.out]
      exact HK.out _ _ ⟨(), _, rfl, rfl, j0'.out, j1'.out, j2'.out, jb'.out⟩
    · intro _ L w' hL hpre hJ a ha
      obtain ⟨j0, j1, j2, jb⟩ := hJ
      simp [Region.binds] at hpre
      refine .inl ⟨wanted_none rfl, ?_⟩
      have e4 : a.eval (.tmp 4) = .pointer (some ⟨(w.heap.size + 1 + 1), 0, none⟩) := by rw [ha, eval_puts_out rfl]; rfl
      clear ha
      have j0' := Lib.hid j0
      have j1' := Lib.hid j1
      have j2' := Lib.hid j2
      have jb' := Lib.hid jb
      clear j0 j1 j2 jb
      refine wp_intro fun K HK => ?_
      unfold Oper.wp
      simp only [execOp, e4]
      go_simp
      exact HK.out _ _ ⟨(), _, rfl, rfl, j0'.out, j1'.out, j2'.out, jb'.out⟩
    · intro _ L w' hL hpre hJ a ha
      obtain ⟨j0, j1, j2, jb⟩ := hJ
      simp [Region.binds] at hpre
      refine .inl ⟨wanted_none rfl, ?_⟩
      have e18 : a.eval (.tmp 18) = .pointer (some ⟨(w.heap.size + 1 + 1), 16, none⟩) := by rw [ha]; exact eval_puts_in (i := 9) rfl (by simp [hpre]) (by simp) rfl
      have e11 : a.eval (.tmp 11) = .int .i64 f1 := by rw [ha]; exact eval_puts_in (i := 2) rfl (by simp [hpre]) (by simp) rfl
      obtain ⟨c16, c17, c18, c19, c20, c21, c22⟩ := sh_cells HT.out j2
      have ff := blk_frozen j2 16
      have U := upd_setCell (i := 16) j2 (.int .i64 f1)
      have k2 := U.at_
      rw [(sh_sets HT.out _ _ _ _ _ _ _ _).1] at k2
      have HR := Lib.hid (And.intro (U.old j0 (by omega)) (And.intro (U.old j1 (by omega)) (And.intro k2 (U.below jb (by omega)))))
      clear ha U k2 j0 j1 j2 jb
      refine wp_intro fun K HK => ?_
      unfold Oper.wp
      simp only [execOp, e18, e11]
      go_simp
      exact HK.out _ _ ⟨(), _, rfl, rfl, HR.out⟩
    · intro _ L w' hL hpre hJ a ha
      obtain ⟨j0, j1, j2, jb⟩ := hJ
      simp [Region.binds] at hpre
      refine .inl ⟨wanted_none rfl, ?_⟩
      have e4 : a.eval (.tmp 4) = .pointer (some ⟨(w.heap.size + 1 + 1), 0, none⟩) := by rw [ha, eval_puts_out rfl]; rfl
      clear ha
      have j0' := Lib.hid j0
      have j1' := Lib.hid j1
      have j2' := Lib.hid j2
      have jb' := Lib.hid jb
      clear j0 j1 j2 jb
      refine wp_intro fun K HK => ?_
      unfold Oper.wp
      simp only [execOp, e4]
      go_simp
      exact HK.out _ _ ⟨(), _, rfl, rfl, j0'.out, j1'.out, j2'.out, jb'.out⟩
    · intro _ L w' hL hpre hJ a ha
      obtain ⟨j0, j1, j2, jb⟩ := hJ
      simp [Region.binds] at hpre
      refine .inl ⟨wanted_none rfl, ?_⟩
      have e19 : a.eval (.tmp 19) = .pointer (some ⟨(w.heap.size + 1 + 1), 17, none⟩) := by rw [ha]; exact eval_puts_in (i := 11) rfl (by simp [hpre]) (by simp) rfl
      have e14 : a.eval (.tmp 14) = .int .i64 f2 := by rw [ha]; exact eval_puts_in (i := 5) rfl (by simp [hpre]) (by simp) rfl
      obtain ⟨c16, c17, c18, c19, c20, c21, c22⟩ := sh_cells HT.out j2
      have ff := blk_frozen j2 17
      have U := upd_setCell (i := 17) j2 (.int .i64 f2)
      have k2 := U.at_
      rw [(sh_sets HT.out _ _ _ _ _ _ _ _).2.1] at k2
      have HR := Lib.hid (And.intro (U.old j0 (by omega)) (And.intro (U.old j1 (by omega)) (And.intro k2 (U.below jb (by omega)))))
      clear ha U k2 j0 j1 j2 jb
      refine wp_intro fun K HK => ?_
      unfold Oper.wp
      simp only [execOp, e19, e14]
      go_simp
      exact HK.out _ _ ⟨(), _, rfl, rfl, HR.out⟩
    · intro _ L w' hL hpre hJ a ha
      obtain ⟨j0, j1, j2, jb⟩ := hJ
      simp [Region.binds] at hpre
      refine .inl ⟨wanted_none rfl, ?_⟩
      have e4 : a.eval (.tmp 4) = .pointer (some ⟨(w.heap.size + 1 + 1), 0, none⟩) := by rw [ha, eval_puts_out rfl]; rfl
      clear ha
      have j0' := Lib.hid j0
      have j1' := Lib.hid j1
      have j2' := Lib.hid j2
      have jb' := Lib.hid jb
      clear j0 j1 j2 jb
      refine wp_intro fun K HK => ?_
      unfold Oper.wp
      simp only [execOp, e4]
      go_simp
      exact HK.out _ _ ⟨(), _, rfl, rfl, j0'.out, j1'.out, j2'.out, jb'.out⟩
    · intro _ L w' hL hpre hJ a ha
      obtain ⟨j0, j1, j2, jb⟩ := hJ
      simp [Region.binds] at hpre
      refine .inl ⟨wanted_none rfl, ?_⟩
      have e20 : a.eval (.tmp 20) = .pointer (some ⟨(w.heap.size + 1 + 1), 18, none⟩) := by rw [ha]; exact eval_puts_in (i := 13) rfl (by simp [hpre]) (by simp) rfl
      have e17 : a.eval (.tmp 17) = .int .i64 f3 := by rw [ha]; exact eval_puts_in (i := 8) rfl (by simp [hpre]) (by simp) rfl
      obtain ⟨c16, c17, c18, c19, c20, c21, c22⟩ := sh_cells HT.out j2
      have ff := blk_frozen j2 18
      have U := upd_setCell (i := 18) j2 (.int .i64 f3)
      have k2 := U.at_
      rw [(sh_sets HT.out _ _ _ _ _ _ _ _).2.2.1] at k2
      have HR := Lib.hid (And.intro (U.old j0 (by omega)) (And.intro (U.old j1 (by omega)) (And.intro k2 (U.below jb (by omega)))))
      clear ha U k2 j0 j1 j2 jb
      refine wp_intro fun K HK => ?_
      unfold Oper.wp
      simp only [execOp, e20, e17]
      go_simp
      exact HK.out _ _ ⟨(), _, rfl, rfl, HR.out⟩
  · intro _ L w' hL hJ
    obtain ⟨j0, j1, j2, jb⟩ := hJ
    rw [hL 10 (by decide), hL 12 (by decide), hL 14 (by decide)] at j2
    simp only [cond_true] at j2
    clear hL
    simp only [List.foldl_cons, List.foldl_nil]
    go_simp
    clear h02 h12 h22 hbel2
    have i0 := j0
    have i1 := j1
    have i2 := j2
    have ib := jb
    clear j0 j1 j2 jb
    generalize hw3 : w' = w3 at *
    clear hw3 w'
    go_upto_region 4 with fail
    refine wp_region_puts_g (by kernel_rfl) (by kernel_rfl) (X := Unit) (fun _ => [(some 21, .agg (nats .u8 P).toArray), (some 22, .int .u64 f4), (some 23, .int .i64 f4), (some 24, .agg (nats .u8 P).toArray), (some 25, .int .u64 f5), (some 26, .int .i64 f5), (some 27, .agg (nats .u8 P).toArray), (some 28, .int .u64 f6), (some 29, .int .i64 f6), (some 30, .agg (nats .u8 P).toArray), (some 31, .int .u64 f7), (some 32, .int .i64 f7), (some 33, .pointer (some ⟨(w.heap.size + 1 + 1), 20, none⟩)), (none, undef), (some 34, .pointer (some ⟨(w.heap.size + 1 + 1), 21, none⟩)), (none, undef), (some 35, .pointer (some ⟨(w.heap.size + 1 + 1), 22, none⟩)), (none, undef), (some 36, .pointer (some ⟨(w.heap.size + 1 + 1), 19, none⟩)), (none, undef)])
      (fun _ L w' => w'.heap[w.heap.size]? = some (.cells (nats .u8 P).toArray 42 (0, 0)) ∧ w'.heap[(w.heap.size + 1)]? = some (.cells (shV zero16 0 0 0 0 0 0 0).toArray 40 (0, 0)) ∧ w'.heap[(w.heap.size + 1 + 1)]? = some (.cells (shV (P.take 16) f1 f2 f3 (bif L 19 then f7 else 0) (bif L 13 then f4 else 0) (bif L 15 then f5 else 0) (bif L 17 then f6 else 0)).toArray 40 (0, 0)) ∧ Below w.heap.size w w') (fun _ => rfl) (by kernel_rfl) ⟨(), fun L hL => ⟨i0, i1, (by simp only [hL, cond_false]; exact i2), ib.drew⟩⟩ ?_ ?_
    · refine ⟨?_, ?_, ?_, ?_, ?_, ?_, ?_, ?_, ?_, ?_, ?_, ?_, ?_, ?_, ?_, ?_, ?_, ?_, ?_, ?_, trivial⟩
      · intro _ L w' hL hpre hJ a ha
        obtain ⟨j0, j1, j2, jb⟩ := hJ
        simp [Region.binds] at hpre
        refine .inl ⟨wanted_none rfl, ?_⟩
        exact wp_load_mid 42 (.tmp 1) rfl w.heap.size 0 (by rw [ha, eval_puts_out rfl]; rfl) (nats .u8 P) _ (range_blk j0) Try.underlying42 rfl iP ⟨(), _, rfl, rfl, j0, j1, j2, jb⟩
      · intro _ L w' hL hpre hJ a ha
        obtain ⟨j0, j1, j2, jb⟩ := hJ
        simp [Region.binds] at hpre
        refine .inl ⟨wanted_none rfl, ?_⟩
        have e21 : a.eval (.tmp 21) = .agg (nats .u8 P).toArray := by rw [ha]; exact eval_puts_in (i := 0) rfl (by simp [hpre]) (by simp) rfl
        clear ha
        have j0' := Lib.hid j0
        have j1' := Lib.hid j1
        have j2' := Lib.hid j2
        have jb' := Lib.hid jb
        clear j0 j1 j2 jb
        refine wp_intro fun K HK => ?_
        unfold Oper.wp
        simp only [execOp, resolve, List.map_toArray, List.map_cons, List.map_nil, e21]
        go_simp
        refine (HC4.out w').mono ?_
        rintro e w'' ⟨rfl, hb⟩
        exact HK.out _ _ ⟨(), _, rfl, rfl, blk_below j0'.out hb, blk_below j1'.out hb, blk_below j2'.out hb, jb'.out.trans (hb.mono jb'.out.size)⟩
      · intro _ L w' hL hpre hJ a ha
        obtain ⟨j0, j1, j2, jb⟩ := hJ
        simp [Region.binds] at hpre
        refine .inl ⟨wanted_none rfl, ?_⟩
        have e22 : a.eval (.tmp 22) = .int .u64 f4 := by rw [ha]; exact eval_puts_in (i := 1) rfl (by simp [hpre]) (by simp) rfl
        clear ha
        have j0' := Lib.hid j0
        have j1' := Lib.hid j1
        have j2' := Lib.hid j2
        have jb' := Lib.hid jb
        clear j0 j1 j2 jb
        refine wp_intro fun K HK => ?_
        unfold Oper.wp
        simp only [execOp, e22]
        go_simp
        rw [WR4.out]
        exact HK.out _ _ ⟨(), _, rfl, rfl, j0'.out, j1'.out, j2'.out, jb'.out⟩
      · intro _ L w' hL hpre hJ a ha
        obtain ⟨j0, j1, j2, jb⟩ := hJ
        simp [Region.binds] at hpre
        refine .inl ⟨wanted_none rfl, ?_⟩
        exact wp_load_mid 42 (.tmp 1) rfl w.heap.size 0 (by rw [ha, eval_puts_out rfl]; rfl) (nats .u8 P) _ (range_blk j0) Try.underlying42 rfl iP ⟨(), _, rfl, rfl, j0, j1, j2, jb⟩
      · intro _ L w' hL hpre hJ a ha
        obtain ⟨j0, j1, j2, jb⟩ := hJ
        simp [Region.binds] at hpre
        refine .inl ⟨wanted_none rfl, ?_⟩
        have e24 : a.eval (.tmp 24) = .agg (nats .u8 P).toArray := by rw [ha]; exact eval_puts_in (i := 3) rfl (by simp [hpre]) (by simp) rfl
        clear ha
        have j0' := Lib.hid j0
        have j1' := Lib.hid j1
        have j2' := Lib.hid j2
        have jb' := Lib.hid jb
        clear j0 j1 j2 jb
        refine wp_intro fun K HK => ?_
        unfold Oper.wp
        simp only [execOp, resolve, List.map_toArray, List.map_cons, List.map_nil, e24]
        go_simp
        refine (HC5.out w').mono ?_
        rintro e w'' ⟨rfl, hb⟩
        exact HK.out _ _ ⟨(), _, rfl, rfl, blk_below j0'.out hb, blk_below j1'.out hb, blk_below j2'.out hb, jb'.out.trans (hb.mono jb'.out.size)⟩
      · intro _ L w' hL hpre hJ a ha
        obtain ⟨j0, j1, j2, jb⟩ := hJ
        simp [Region.binds] at hpre
        refine .inl ⟨wanted_none rfl, ?_⟩
        have e25 : a.eval (.tmp 25) = .int .u64 f5 := by rw [ha]; exact eval_puts_in (i := 4) rfl (by simp [hpre]) (by simp) rfl
        clear ha
        have j0' := Lib.hid j0
        have j1' := Lib.hid j1
        have j2' := Lib.hid j2
        have jb' := Lib.hid jb
        clear j0 j1 j2 jb
        refine wp_intro fun K HK => ?_
        unfold Oper.wp
        simp only [execOp, e25]
        go_simp
        rw [WR5.out]
        exact HK.out _ _ ⟨(), _, rfl, rfl, j0'.out, j1'.out, j2'.out, jb'.out⟩
      · intro _ L w' hL hpre hJ a ha
        obtain ⟨j0, j1, j2, jb⟩ := hJ
        simp [Region.binds] at hpre
        refine .inl ⟨wanted_none rfl, ?_⟩
        exact wp_load_mid 42 (.tmp 1) rfl w.heap.size 0 (by rw [ha, eval_puts_out rfl]; rfl) (nats .u8 P) _ (range_blk j0) Try.underlying42 rfl iP ⟨(), _, rfl, rfl, j0, j1, j2, jb⟩
      · intro _ L w' hL hpre hJ a ha
        obtain ⟨j0, j1, j2, jb⟩ := hJ
        simp [Region.binds] at hpre
        refine .inl ⟨wanted_none rfl, ?_⟩
        have e27 : a.eval (.tmp 27) = .agg (nats .u8 P).toArray := by rw [ha]; exact eval_puts_in (i := 6) rfl (by simp [hpre]) (by simp) rfl
        clear ha
        have j0' := Lib.hid j0
        have j1' := Lib.hid j1
        have j2' := Lib.hid j2
        have jb' := Lib.hid jb
        clear j0 j1 j2 jb
        refine wp_intro fun K HK => ?_
        unfold Oper.wp
        simp only [execOp, resolve, List.map_toArray, List.map_cons, List.map_nil, e27]
        go_simp
        refine (HC6.out w').mono ?_
        rintro e w'' ⟨rfl, hb⟩
        exact HK.out _ _ ⟨(), _, rfl, rfl, blk_below j0'.out hb, blk_below j1'.out hb, blk_below j2'.out hb, jb'.out.trans (hb.mono jb'.out.size)⟩
      · intro _ L w' hL hpre hJ a ha
        obtain ⟨j0, j1, j2, jb⟩ := hJ
        simp [Region.binds] at hpre
        refine .inl ⟨wanted_none rfl, ?_⟩
        have e28 : a.eval (.tmp 28) = .int .u64 f6 := by rw [ha]; exact eval_puts_in (i := 7) rfl (by simp [hpre]) (by simp) rfl
        clear ha
        have j0' := Lib.hid j0
        have j1' := Lib.hid j1
        have j2' := Lib.hid j2
        have jb' := Lib.hid jb
        clear j0 j1 j2 jb
        refine wp_intro fun K HK => ?_
        unfold Oper.wp
        simp only [execOp, e28]
        go_simp
        rw [WR6.out]
        exact HK.out _ _ ⟨(), _, rfl, rfl, j0'.out, j1'.out, j2'.out, jb'.out⟩
      · intro _ L w' hL hpre hJ a ha
        obtain ⟨j0, j1, j2, jb⟩ := hJ
        simp [Region.binds] at hpre
        refine .inl ⟨wanted_none rfl, ?_⟩
        exact wp_load_mid 42 (.tmp 1) rfl w.heap.size 0 (by rw [ha, eval_puts_out rfl]; rfl) (nats .u8 P) _ (range_blk j0) Try.underlying42 rfl iP ⟨(), _, rfl, rfl, j0, j1, j2, jb⟩
      · intro _ L w' hL hpre hJ a ha
        obtain ⟨j0, j1, j2, jb⟩ := hJ
        simp [Region.binds] at hpre
        refine .inl ⟨wanted_none rfl, ?_⟩
        have e30 : a.eval (.tmp 30) = .agg (nats .u8 P).toArray := by rw [ha]; exact eval_puts_in (i := 9) rfl (by simp [hpre]) (by simp) rfl
        clear ha
        have j0' := Lib.hid j0
        have j1' := Lib.hid j1
        have j2' := Lib.hid j2
        have jb' := Lib.hid jb
        clear j0 j1 j2 jb
        refine wp_intro fun K HK => ?_
        unfold Oper.wp
        simp only [execOp, resolve, List.map_toArray, List.map_cons, List.map_nil, e30]
        go_simp
        refine (HC7.out w').mono ?_
        rintro e w'' ⟨rfl, hb⟩
        exact HK.out _ _ ⟨(), _, rfl, rfl, blk_below j0'.out hb, blk_below j1'.out hb, blk_below j2'.out hb, jb'.out.trans (hb.mono jb'.out.size)⟩
      · intro _ L w' hL hpre hJ a ha
        obtain ⟨j0, j1, j2, jb⟩ := hJ
        simp [Region.binds] at hpre
        refine .inl ⟨wanted_none rfl, ?_⟩
        have e31 : a.eval (.tmp 31) = .int .u64 f7 := by rw [ha]; exact eval_puts_in (i := 10) rfl (by simp [hpre]) (by simp) rfl
        clear ha
        have j0' := Lib.hid j0
        have j1' := Lib.hid j1
        have j2' := Lib.hid j2
        have jb' := Lib.hid jb
        clear j0 j1 j2 jb
        refine wp_intro fun K HK => ?_
        unfold Oper.wp
        simp only [execOp, e31]
        go_simp
        rw [WR7.out]
        exact HK.out _ _ ⟨(), _, rfl, rfl, j0'.out, j1'.out, j2'.out, jb'.out⟩
      · intro _ L w' hL hpre hJ a ha
        obtain ⟨j0, j1, j2, jb⟩ := hJ
        simp [Region.binds] at hpre
        refine .inl ⟨wanted_none rfl, ?_⟩
        have e4 : a.eval (.tmp 4) = .pointer (some ⟨(w.heap.size + 1 + 1), 0, none⟩) := by rw [ha, eval_puts_out rfl]; rfl
        clear ha
        have j0' := Lib.hid j0
        have j1' := Lib.hid j1
        have j2' := Lib.hid j2
        have jb' := Lib.hid jb
        clear j0 j1 j2 jb
        refine wp_intro fun K HK => ?_
        unfold Oper.wp
        simp only [execOp, e4]
        go_simp
        exact HK.out _ _ ⟨(), _, rfl, rfl, j0'.out, j1'.out, j2'.out, jb'.out⟩
      · intro _ L w' hL hpre hJ a ha
        obtain ⟨j0, j1, j2, jb⟩ := hJ
        simp [Region.binds] at hpre
        refine .inl ⟨wanted_none rfl, ?_⟩
        have e33 : a.eval (.tmp 33) = .pointer (some ⟨(w.heap.size + 1 + 1), 20, none⟩) := by rw [ha]; exact eval_puts_in (i := 12) rfl (by simp [hpre]) (by simp) rfl
        have e23 : a.eval (.tmp 23) = .int .i64 f4 := by rw [ha]; exact eval_puts_in (i := 2) rfl (by simp [hpre]) (by simp) rfl
        obtain ⟨c16, c17, c18, c19, c20, c21, c22⟩ := sh_cells HT.out j2
        have ff := blk_frozen j2 20
        have U := upd_setCell (i := 20) j2 (.int .i64 f4)
        have k2 := U.at_
        rw [(sh_sets HT.out _ _ _ _ _ _ _ _).2.2.2.2.1] at k2
        have HR := Lib.hid (And.intro (U.old j0 (by omega)) (And.intro (U.old j1 (by omega)) (And.intro k2 (U.below jb (by omega)))))
        clear ha U k2 j0 j1 j2 jb
        refine wp_intro fun K HK => ?_
        unfold Oper.wp
        simp only [execOp, e33, e23]
        go_simp
        exact HK.out _ _ ⟨(), _, rfl, rfl, HR.out⟩
      · intro _ L w' hL hpre hJ a ha
        obtain ⟨j0, j1, j2, jb⟩ := hJ
        simp [Region.binds] at hpre
        refine .inl ⟨wanted_none rfl, ?_⟩
        have e4 : a.eval (.tmp 4) = .pointer (some ⟨(w.heap.size + 1 + 1), 0, none⟩) := by rw [ha, eval_puts_out rfl]; rfl
        clear ha
        have j0' := Lib.hid j0
        have j1' := Lib.hid j1
        have j2' := Lib.hid j2
        have jb' := Lib.hid jb
        clear j0 j1 j2 jb
        refine wp_intro fun K HK => ?_
        unfold Oper.wp
        simp only [execOp, e4]
        go_simp
        exact HK.out _ _ ⟨(), _, rfl, rfl, j0'.out, j1'.out, j2'.out, jb'.out⟩
      · intro _ L w' hL hpre hJ a ha
        obtain ⟨j0, j1, j2, jb⟩ := hJ
        simp [Region.binds] at hpre
        refine .inl ⟨wanted_none rfl, ?_⟩
        have e34 : a.eval (.tmp 34) = .pointer (some ⟨(w.heap.size + 1 + 1), 21, none⟩) := by rw [ha]; exact eval_puts_in (i := 14) rfl (by simp [hpre]) (by simp) rfl
        have e26 : a.eval (.tmp 26) = .int .i64 f5 := by rw [ha]; exact eval_puts_in (i := 5) rfl (by simp [hpre]) (by simp) rfl
        obtain ⟨c16, c17, c18, c19, c20, c21, c22⟩ := sh_cells HT.out j2
        have ff := blk_frozen j2 21
        have U := upd_setCell (i := 21) j2 (.int .i64 f5)
        have k2 := U.at_
        rw [(sh_sets HT.out _ _ _ _ _ _ _ _).2.2.2.2.2.1] at k2
        have HR := Lib.hid (And.intro (U.old j0 (by omega)) (And.intro (U.old j1 (by omega)) (And.intro k2 (U.below jb (by omega)))))
        clear ha U k2 j0 j1 j2 jb
        refine wp_intro fun K HK => ?_
        unfold Oper.wp
        simp only [execOp, e34, e26]
        go_simp
        exact HK.out _ _ ⟨(), _, rfl, rfl, HR.out⟩
      · intro _ L w' hL hpre hJ a ha
        obtain ⟨j0, j1, j2, jb⟩ := hJ
        simp [Region.binds] at hpre
        refine .inl ⟨wanted_none rfl, ?_⟩
        have e4 : a.eval (.tmp 4) = .pointer (some ⟨(w.heap.size + 1 + 1), 0, none⟩) := by rw [ha, eval_puts_out rfl]; rfl
        clear ha
        have j0' := Lib.hid j0
        have j1' := Lib.hid j1
        have j2' := Lib.hid j2
        have jb' := Lib.hid jb
        clear j0 j1 j2 jb
        refine wp_intro fun K HK => ?_
        unfold Oper.wp
        simp only [execOp, e4]
        go_simp
        exact HK.out _ _ ⟨(), _, rfl, rfl, j0'.out, j1'.out, j2'.out, jb'.out⟩
      · intro _ L w' hL hpre hJ a ha
        obtain ⟨j0, j1, j2, jb⟩ := hJ
        simp [Region.binds] at hpre
        refine .inl ⟨wanted_none rfl, ?_⟩
        have e35 : a.eval (.tmp 35) = .pointer (some ⟨(w.heap.size + 1 + 1), 22, none⟩) := by rw [ha]; exact eval_puts_in (i := 16) rfl (by simp [hpre]) (by simp) rfl
        have e29 : a.eval (.tmp 29) = .int .i64 f6 := by rw [ha]; exact eval_puts_in (i := 8) rfl (by simp [hpre]) (by simp) rfl
        obtain ⟨c16, c17, c18, c19, c20, c21, c22⟩ := sh_cells HT.out j2
        have ff := blk_frozen j2 22
        have U := upd_setCell (i := 22) j2 (.int .i64 f6)
        have k2 := U.at_
        rw [(sh_sets HT.out _ _ _ _ _ _ _ _).2.2.2.2.2.2] at k2
        have HR := Lib.hid (And.intro (U.old j0 (by omega)) (And.intro (U.old j1 (by omega)) (And.intro k2 (U.below jb (by omega)))))
        clear ha U k2 j0 j1 j2 jb
        refine wp_intro fun K HK => ?_
        unfold Oper.wp
        simp only [execOp, e35, e29]
        go_simp
        exact HK.out _ _ ⟨(), _, rfl, rfl, HR.out⟩
      · intro _ L w' hL hpre hJ a ha
        obtain ⟨j0, j1, j2, jb⟩ := hJ
        simp [Region.binds] at hpre
        refine .inl ⟨wanted_none rfl, ?_⟩
        have e4 : a.eval (.tmp 4) = .pointer (some ⟨(w.heap.size + 1 + 1), 0, none⟩) := by rw [ha, eval_puts_out rfl]; rfl
        clear ha
        have j0' := Lib.hid j0
        have j1' := Lib.hid j1
        have j2' := Lib.hid j2
        have jb' := Lib.hid jb
        clear j0 j1 j2 jb
        refine wp_intro fun K HK => ?_
        unfold Oper.wp
        simp only [execOp, e4]
        go_simp
        exact HK.out _ _ ⟨(), _, rfl, rfl, j0'.out, j1'.out, j2'.out, jb'.out⟩
      · intro _ L w' hL hpre hJ a ha
        obtain ⟨j0, j1, j2, jb⟩ := hJ
        simp [Region.binds] at hpre
        refine .inl ⟨wanted_none rfl, ?_⟩
        have e36 : a.eval (.tmp 36) = .pointer (some ⟨(w.heap.size + 1 + 1), 19, none⟩) := by rw [ha]; exact eval_puts_in (i := 18) rfl (by simp [hpre]) (by simp) rfl
        have e32 : a.eval (.tmp 32) = .int .i64 f7 := by rw [ha]; exact eval_puts_in (i := 11) rfl (by simp [hpre]) (by simp) rfl
        obtain ⟨c16, c17, c18, c19, c20, c21, c22⟩ := sh_cells HT.out j2
        have ff := blk_frozen j2 19
        have U := upd_setCell (i := 19) j2 (.int .i64 f7)
        have k2 := U.at_
        rw [(sh_sets HT.out _ _ _ _ _ _ _ _).2.2.2.1] at k2
        have HR := Lib.hid (And.intro (U.old j0 (by omega)) (And.intro (U.old j1 (by omega)) (And.intro k2 (U.below jb (by omega)))))
        clear ha U k2 j0 j1 j2 jb
        refine wp_intro fun K HK => ?_
        unfold Oper.wp
        simp only [execOp, e36, e32]
        go_simp
        exact HK.out _ _ ⟨(), _, rfl, rfl, HR.out⟩
    · intro _ L w' hL hJ
      obtain ⟨j0, j1, j2, jb⟩ := hJ
      rw [hL 13 (by decide), hL 15 (by decide), hL 17 (by decide), hL 19 (by decide)] at j2
      simp only [cond_true] at j2
      clear hL
      simp only [List.foldl_cons, List.foldl_nil]
      go_simp
      clear i0 i1 i2 ib
      have i0 := j0
      have i1 := j1
      have i2 := j2
      have ib := jb
      clear j0 j1 j2 jb
      generalize hw4 : w' = w4 at *
      clear hw4 w'
      have hV := shInfo (P.take 16) HT.out f1 f2 f3 f7 f4 f5 f6
      have hVl := Lib.hid (shV_length HT.out f1 f2 f3 f7 f4 f5 f6)
      have hk32 : kof (P.take 28) < 4294967296 := ksum_lt _ _ (by decide) HT28.out
      have hl28 : (P.take 28).length = 28 := by rw [List.length_take, HP.out]; rfl
      have HL28 := Lib.hid hl28
      clear hl28
      by_cases hq : f8 = kof (P.take 28)
      · have HQ := Lib.hid (show ((f8 : Int) != (kof (P.take 28) : Int)) = false by rw [hq]; simp)
        cases hM : maySh (P.take 16) f1 f2 f3 f7 f4 f5 f6 with
        | false =>
          have HE := Lib.hid (show Ending.returned (.tuple #[.agg (getV P).toArray, .bool (getB P)]) = Ending.returned (.tuple #[.agg (shV zero16 0 0 0 0 0 0 0).toArray, .bool false]) by rw [HGV.out, HG.out, hM]; simp)
          have HM := Lib.hid hM
          clear hM hq HG HGV
          go_upto_region 5 with fail
          refine wp_region_puts_g (by kernel_rfl) (by kernel_rfl) (X := Unit) (fun _ => [(some 37, .agg (nats .u8 P).toArray), (some 38, .int .u64 f8), (some 39, .int .u32 f8), (some 40, .slice (some ⟨w.heap.size, 0, none⟩) 28 32), (some 41, .int .u32 (kof (P.take 28))), (some 42, .bool false), (some 43, .bool false), (some 44, .agg (shV (P.take 16) f1 f2 f3 f7 f4 f5 f6).toArray), (some 45, .bool false), (some 46, .bool true), (some 47, .bool true)])
            (fun _ L w' => w'.heap[w.heap.size]? = some (.cells (nats .u8 P).toArray 42 (0, 0)) ∧ w'.heap[(w.heap.size + 1)]? = some (.cells (shV zero16 0 0 0 0 0 0 0).toArray 40 (0, 0)) ∧ w'.heap[(w.heap.size + 1 + 1)]? = some (.cells (shV (P.take 16) f1 f2 f3 f7 f4 f5 f6).toArray 40 (0, 0)) ∧ Below w.heap.size w w') (fun _ => rfl) (by kernel_rfl) ⟨(), fun _ _ => ⟨i0, i1, i2, ib.drew⟩⟩ ?_ ?_
          · refine ⟨?_, ?_, ?_, ?_, ?_, ?_, ?_, ?_, ?_, ?_, ?_, trivial⟩
            · intro _ L w' hL hpre hJ a ha
              obtain ⟨j0, j1, j2, jb⟩ := hJ
              simp [Region.binds] at hpre
              refine .inl ⟨wanted_none rfl, ?_⟩
              exact wp_load_mid 42 (.tmp 1) rfl w.heap.size 0 (by rw [ha, eval_puts_out rfl]; rfl) (nats .u8 P) _ (range_blk j0) Try.underlying42 rfl iP ⟨(), _, rfl, rfl, j0, j1, j2, jb⟩
            · intro _ L w' hL hpre hJ a ha
              obtain ⟨j0, j1, j2, jb⟩ := hJ
              simp [Region.binds] at hpre
              refine .inl ⟨wanted_none rfl, ?_⟩
              have e37 : a.eval (.tmp 37) = .agg (nats .u8 P).toArray := by rw [ha]; exact eval_puts_in (i := 0) rfl (by simp [hpre]) (by simp) rfl
              clear ha
              have j0' := Lib.hid j0
              have j1' := Lib.hid j1
              have j2' := Lib.hid j2
              have jb' := Lib.hid jb
              clear j0 j1 j2 jb
              refine wp_intro fun K HK => ?_
              unfold Oper.wp
              simp only [execOp, resolve, List.map_toArray, List.map_cons, List.map_nil, e37]
              go_simp
              refine (HC8.out w').mono ?_
              rintro e w'' ⟨rfl, hb⟩
              exact HK.out _ _ ⟨(), _, rfl, rfl, blk_below j0'.out hb, blk_below j1'.out hb, blk_below j2'.out hb, jb'.out.trans (hb.mono jb'.out.size)⟩
            · intro _ L w' hL hpre hJ a ha
              obtain ⟨j0, j1, j2, jb⟩ := hJ
              simp [Region.binds] at hpre
              refine .inl ⟨wanted_none rfl, ?_⟩
              have e38 : a.eval (.tmp 38) = .int .u64 f8 := by rw [ha]; exact eval_puts_in (i := 1) rfl (by simp [hpre]) (by simp) rfl
              clear ha
              have j0' := Lib.hid j0
              have j1' := Lib.hid j1
              have j2' := Lib.hid j2
              have jb' := Lib.hid jb
              clear j0 j1 j2 jb
              refine wp_intro fun K HK => ?_
              unfold Oper.wp
              simp only [execOp, e38]
              go_simp
              rw [WR8.out]
              exact HK.out _ _ ⟨(), _, rfl, rfl, j0'.out, j1'.out, j2'.out, jb'.out⟩
            · intro _ L w' hL hpre hJ a ha
              obtain ⟨j0, j1, j2, jb⟩ := hJ
              simp [Region.binds] at hpre
              refine .inl ⟨wanted_none rfl, ?_⟩
              have e1 : a.eval (.tmp 1) = .pointer (some ⟨w.heap.size, 0, none⟩) := by rw [ha, eval_puts_out rfl]; rfl
              clear ha
              have j0c := j0
              have j0' := Lib.hid j0
              have j1' := Lib.hid j1
              have j2' := Lib.hid j2
              have jb' := Lib.hid jb
              clear j0 j1 j2 jb
              refine wp_intro fun K HK => ?_
              unfold Oper.wp
              simp only [execOp, e1]
              go_simp
              exact HK.out _ _ ⟨(), _, rfl, rfl, j0'.out, j1'.out, j2'.out, jb'.out⟩
            · intro _ L w' hL hpre hJ a ha
              obtain ⟨j0, j1, j2, jb⟩ := hJ
              simp [Region.binds] at hpre
              refine .inl ⟨wanted_none rfl, ?_⟩
              have HRd := Lib.hid (rd_of_range (C := w'.heap.size) (range_take 28 j0) (show _ = 28 by rw [nats_length, HL28.out]) (lt_of_cells j0))
              have e40 : a.eval (.tmp 40) = .slice (some ⟨w.heap.size, 0, none⟩) 28 32 := by rw [ha]; exact eval_puts_in (i := 3) rfl (by simp [hpre]) (by simp) rfl
              clear ha
              have j0' := Lib.hid j0
              have j1' := Lib.hid j1
              have j2' := Lib.hid j2
              have jb' := Lib.hid jb
              clear j0 j1 j2 jb
              refine wp_intro fun K HK => ?_
              unfold Oper.wp
              simp only [execOp, resolve, List.map_toArray, List.map_cons, List.map_nil, e40]
              go_simp
              refine (refsum_any (some ⟨w.heap.size, 0, none⟩) 28 32 w'.heap.size _ w' (HRd.out) (Nat.le_refl _) HT28.out (by decide)).mono ?_
              rintro e w'' ⟨rfl, hb⟩
              exact HK.out _ _ ⟨(), _, rfl, rfl, blk_below j0'.out hb, blk_below j1'.out hb, blk_below j2'.out hb, jb'.out.trans (hb.mono jb'.out.size)⟩
            · intro _ L w' hL hpre hJ a ha
              obtain ⟨j0, j1, j2, jb⟩ := hJ
              simp [Region.binds] at hpre
              refine .inl ⟨wanted_none rfl, ?_⟩
              have e39 : a.eval (.tmp 39) = .int .u32 f8 := by rw [ha]; exact eval_puts_in (i := 2) rfl (by simp [hpre]) (by simp) rfl
              have e41 : a.eval (.tmp 41) = .int .u32 (kof (P.take 28)) := by rw [ha]; exact eval_puts_in (i := 4) rfl (by simp [hpre]) (by simp) rfl
              clear ha
              have QQ : ((f8 : Int) != (kof (P.take 28) : Int)) = false := HQ.out
              have j0' := Lib.hid j0
              have j1' := Lib.hid j1
              have j2' := Lib.hid j2
              have jb' := Lib.hid jb
              clear j0 j1 j2 jb
              refine wp_intro fun K HK => ?_
              unfold Oper.wp
              simp only [execOp, e39, e41]
              go_simp
              exact HK.out _ _ ⟨(), _, rfl, rfl, j0'.out, j1'.out, j2'.out, jb'.out⟩
            · intro _ L w' hL hpre hJ a ha
              obtain ⟨j0, j1, j2, jb⟩ := hJ
              simp [Region.binds] at hpre
              refine .inl ⟨wanted_none rfl, ?_⟩
              exact wp_move' (.tmp 42) (.inl rfl) (.bool false) (by rw [ha]; exact eval_puts_in (i := 5) rfl (by simp [hpre]) (by simp) rfl) ⟨(), _, rfl, rfl, j0, j1, j2, jb⟩
            · intro _ L w' hL hpre hJ a ha
              obtain ⟨j0, j1, j2, jb⟩ := hJ
              simp [Region.binds] at hpre
              refine .inl ⟨wanted_yes (g := 6) (t := 43) (b := false) rfl rfl (by rw [ha]; exact eval_puts_in (i := 6) rfl (by simp [hpre]) (by simp) rfl), ?_⟩
              exact wp_load_mid 40 (.tmp 4) rfl (w.heap.size + 1 + 1) 0 (by rw [ha, eval_puts_out rfl]; rfl) (shV (P.take 16) f1 f2 f3 f7 f4 f5 f6) _ (range_blk j2) Try.underlying40 rfl hV ⟨(), _, rfl, rfl, j0, j1, j2, jb⟩
            · intro _ L w' hL hpre hJ a ha
              obtain ⟨j0, j1, j2, jb⟩ := hJ
              simp [Region.binds] at hpre
              refine .inl ⟨wanted_yes (g := 6) (t := 43) (b := false) rfl rfl (by rw [ha]; exact eval_puts_in (i := 6) rfl (by simp [hpre]) (by simp) rfl), ?_⟩
              have e44 : a.eval (.tmp 44) = .agg (shV (P.take 16) f1 f2 f3 f7 f4 f5 f6).toArray := by rw [ha]; exact eval_puts_in (i := 7) rfl (by simp [hpre]) (by simp) rfl
              clear ha
              have j0' := Lib.hid j0
              have j1' := Lib.hid j1
              have j2' := Lib.hid j2
              have jb' := Lib.hid jb
              clear j0 j1 j2 jb
              refine wp_intro fun K HK => ?_
              unfold Oper.wp
              simp only [execOp, resolve, List.map_toArray, List.map_cons, List.map_nil, e44]
              go_simp
              refine (refmay_any (P.take 16) f1 f2 f3 f7 f4 f5 f6 w' HT.out HT8.out).mono ?_
              rw [HM.out]
              rintro e w'' ⟨rfl, hb⟩
              exact HK.out _ _ ⟨(), _, rfl, rfl, blk_below j0'.out hb, blk_below j1'.out hb, blk_below j2'.out hb, jb'.out.trans (hb.mono jb'.out.size)⟩
            · intro _ L w' hL hpre hJ a ha
              obtain ⟨j0, j1, j2, jb⟩ := hJ
              simp [Region.binds] at hpre
              refine .inl ⟨wanted_yes (g := 6) (t := 43) (b := false) rfl rfl (by rw [ha]; exact eval_puts_in (i := 6) rfl (by simp [hpre]) (by simp) rfl), ?_⟩
              have e45 : a.eval (.tmp 45) = .bool false := by rw [ha]; exact eval_puts_in (i := 8) rfl (by simp [hpre]) (by simp) rfl
              clear ha
              have j0' := Lib.hid j0
              have j1' := Lib.hid j1
              have j2' := Lib.hid j2
              have jb' := Lib.hid jb
              clear j0 j1 j2 jb
              refine wp_intro fun K HK => ?_
              unfold Oper.wp
              simp only [execOp, e45]
              go_simp
              exact HK.out _ _ ⟨(), _, rfl, rfl, j0'.out, j1'.out, j2'.out, jb'.out⟩
            · intro _ L w' hL hpre hJ a ha
              obtain ⟨j0, j1, j2, jb⟩ := hJ
              simp [Region.binds] at hpre
              refine .inl ⟨wanted_none rfl, ?_⟩
              have e43 : a.eval (.tmp 43) = .bool false := by rw [ha]; exact eval_puts_in (i := 6) rfl (by simp [hpre]) (by simp) rfl
              have e46 : a.eval (.tmp 46) = .bool true := by rw [ha]; exact eval_puts_in (i := 9) rfl (by simp [hpre]) (by simp) rfl
              clear ha
              have j0' := Lib.hid j0
              have j1' := Lib.hid j1
              have j2' := Lib.hid j2
              have jb' := Lib.hid jb
              clear j0 j1 j2 jb
              refine wp_intro fun K HK => ?_
              unfold Oper.wp
              simp only [execOp, e43, e46]
              go_simp
              exact HK.out _ _ ⟨(), _, rfl, rfl, j0'.out, j1'.out, j2'.out, jb'.out⟩
          · intro _ L w' hL hJ
            obtain ⟨j0, j1, j2, jb⟩ := hJ
            clear hL
            simp only [List.foldl_cons, List.foldl_nil]
            go_simp
            go_wp2_with (first | (refine wpList_build_l rfl 40 _ rfl _ rfl _ built_zero ?_) | (refine wpList_put_row rfl 40 (.tmp 2) (.tmp 48) rfl (w.heap.size + 1) (shV zero16 0 0 0 0 0 0 0) rfl rfl 40 _ j1 (shInfo _ rfl _ _ _ _ _ _ _) rfl (one_shV _ _ _ _ _ _ _ _) ?_; intro w8 hU8))
            refine bodyPost_ret (v := .tuple #[.agg (shV zero16 0 0 0 0 0 0 0).toArray, .bool false]) ?_ rfl ⟨by rw [HE.out], hU8.below jb (by omega)⟩
            rw [results_row2 rfl _ _ _ _ _ _ _ rfl hU8.at_ Try.underlying40 rfl (shInfo _ rfl _ _ _ _ _ _ _)]; rfl
        | true =>
          have HE := Lib.hid (show Ending.returned (.tuple #[.agg (getV P).toArray, .bool (getB P)]) = Ending.returned (.tuple #[.agg (shV (P.take 16) f1 f2 f3 f7 f4 f5 f6).toArray, .bool true]) by rw [HGV.out, HG.out, hM, hq]; simp)
          have HM := Lib.hid hM
          clear hM hq HG HGV
          go_upto_region 5 with fail
          refine wp_region_puts_g (by kernel_rfl) (by kernel_rfl) (X := Unit) (fun _ => [(some 37, .agg (nats .u8 P).toArray), (some 38, .int .u64 f8), (some 39, .int .u32 f8), (some 40, .slice (some ⟨w.heap.size, 0, none⟩) 28 32), (some 41, .int .u32 (kof (P.take 28))), (some 42, .bool false), (some 43, .bool false), (some 44, .agg (shV (P.take 16) f1 f2 f3 f7 f4 f5 f6).toArray), (some 45, .bool true), (some 46, .bool false), (some 47, .bool false)])
            (fun _ L w' => w'.heap[w.heap.size]? = some (.cells (nats .u8 P).toArray 42 (0, 0)) ∧ w'.heap[(w.heap.size + 1)]? = some (.cells (shV zero16 0 0 0 0 0 0 0).toArray 40 (0, 0)) ∧ w'.heap[(w.heap.size + 1 + 1)]? = some (.cells (shV (P.take 16) f1 f2 f3 f7 f4 f5 f6).toArray 40 (0, 0)) ∧ Below w.heap.size w w') (fun _ => rfl) (by kernel_rfl) ⟨(), fun _ _ => ⟨i0, i1, i2, ib.drew⟩⟩ ?_ ?_
          · refine ⟨?_, ?_, ?_, ?_, ?_, ?_, ?_, ?_, ?_, ?_, ?_, trivial⟩
            · intro _ L w' hL hpre hJ a ha
              obtain ⟨j0, j1, j2, jb⟩ := hJ
              simp [Region.binds] at hpre
              refine .inl ⟨wanted_none rfl, ?_⟩
              exact wp_load_mid 42 (.tmp 1) rfl w.heap.size 0 (by rw [ha, eval_puts_out rfl]; rfl) (nats .u8 P) _ (range_blk j0) Try.underlying42 rfl iP ⟨(), _, rfl, rfl, j0, j1, j2, jb⟩
            · intro _ L w' hL hpre hJ a ha
              obtain ⟨j0, j1, j2, jb⟩ := hJ
              simp [Region.binds] at hpre
              refine .inl ⟨wanted_none rfl, ?_⟩
              have e37 : a.eval (.tmp 37) = .agg (nats .u8 P).toArray := by rw [ha]; exact eval_puts_in (i := 0) rfl (by simp [hpre]) (by simp) rfl
              clear ha
              have j0' := Lib.hid j0
              have j1' := Lib.hid j1
              have j2' := Lib.hid j2
              have jb' := Lib.hid jb
              clear j0 j1 j2 jb
              refine wp_intro fun K HK => ?_
              unfold Oper.wp
              simp only [execOp, resolve, List.map_toArray, List.map_cons, List.map_nil, e37]
              go_simp
              refine (HC8.out w').mono ?_
              rintro e w'' ⟨rfl, hb⟩
              exact HK.out _ _ ⟨(), _, rfl, rfl, blk_below j0'.out hb, blk_below j1'.out hb, blk_below j2'.out hb, jb'.out.trans (hb.mono jb'.out.size)⟩
            · intro _ L w' hL hpre hJ a ha
              obtain ⟨j0, j1, j2, jb⟩ := hJ
              simp [Region.binds] at hpre
              refine .inl ⟨wanted_none rfl, ?_⟩
              have e38 : a.eval (.tmp 38) = .int .u64 f8 := by rw [ha]; exact eval_puts_in (i := 1) rfl (by simp [hpre]) (by simp) rfl
              clear ha
              have j0' := Lib.hid j0
              have j1' := Lib.hid j1
              have j2' := Lib.hid j2
              have jb' := Lib.hid jb
              clear j0 j1 j2 jb
              refine wp_intro fun K HK => ?_
              unfold Oper.wp
              simp only [execOp, e38]
              go_simp
              rw [WR8.out]
              exact HK.out _ _ ⟨(), _, rfl, rfl, j0'.out, j1'.out, j2'.out, jb'.out⟩
            · intro _ L w' hL hpre hJ a ha
              obtain ⟨j0, j1, j2, jb⟩ := hJ
              simp [Region.binds] at hpre
              refine .inl ⟨wanted_none rfl, ?_⟩
              have e1 : a.eval (.tmp 1) = .pointer (some ⟨w.heap.size, 0, none⟩) := by rw [ha, eval_puts_out rfl]; rfl
              clear ha
              have j0c := j0
              have j0' := Lib.hid j0
              have j1' := Lib.hid j1
              have j2' := Lib.hid j2
              have jb' := Lib.hid jb
              clear j0 j1 j2 jb
              refine wp_intro fun K HK => ?_
              unfold Oper.wp
              simp only [execOp, e1]
              go_simp
              exact HK.out _ _ ⟨(), _, rfl, rfl, j0'.out, j1'.out, j2'.out, jb'.out⟩
            · intro _ L w' hL hpre hJ a ha
              obtain ⟨j0, j1, j2, jb⟩ := hJ
              simp [Region.binds] at hpre
              refine .inl ⟨wanted_none rfl, ?_⟩
              have HRd := Lib.hid (rd_of_range (C := w'.heap.size) (range_take 28 j0) (show _ = 28 by rw [nats_length, HL28.out]) (lt_of_cells j0))
              have e40 : a.eval (.tmp 40) = .slice (some ⟨w.heap.size, 0, none⟩) 28 32 := by rw [ha]; exact eval_puts_in (i := 3) rfl (by simp [hpre]) (by simp) rfl
              clear ha
              have j0' := Lib.hid j0
              have j1' := Lib.hid j1
              have j2' := Lib.hid j2
              have jb' := Lib.hid jb
              clear j0 j1 j2 jb
              refine wp_intro fun K HK => ?_
              unfold Oper.wp
              simp only [execOp, resolve, List.map_toArray, List.map_cons, List.map_nil, e40]
              go_simp
              refine (refsum_any (some ⟨w.heap.size, 0, none⟩) 28 32 w'.heap.size _ w' (HRd.out) (Nat.le_refl _) HT28.out (by decide)).mono ?_
              rintro e w'' ⟨rfl, hb⟩
              exact HK.out _ _ ⟨(), _, rfl, rfl, blk_below j0'.out hb, blk_below j1'.out hb, blk_below j2'.out hb, jb'.out.trans (hb.mono jb'.out.size)⟩
            · intro _ L w' hL hpre hJ a ha
              obtain ⟨j0, j1, j2, jb⟩ := hJ
              simp [Region.binds] at hpre
              refine .inl ⟨wanted_none rfl, ?_⟩
              have e39 : a.eval (.tmp 39) = .int .u32 f8 := by rw [ha]; exact eval_puts_in (i := 2) rfl (by simp [hpre]) (by simp) rfl
              have e41 : a.eval (.tmp 41) = .int .u32 (kof (P.take 28)) := by rw [ha]; exact eval_puts_in (i := 4) rfl (by simp [hpre]) (by simp) rfl
              clear ha
              have QQ : ((f8 : Int) != (kof (P.take 28) : Int)) = false := HQ.out
              have j0' := Lib.hid j0
              have j1' := Lib.hid j1
              have j2' := Lib.hid j2
              have jb' := Lib.hid jb
              clear j0 j1 j2 jb
              refine wp_intro fun K HK => ?_
              unfold Oper.wp
              simp only [execOp, e39, e41]
              go_simp
              exact HK.out _ _ ⟨(), _, rfl, rfl, j0'.out, j1'.out, j2'.out, jb'.out⟩
            · intro _ L w' hL hpre hJ a ha
              obtain ⟨j0, j1, j2, jb⟩ := hJ
              simp [Region.binds] at hpre
              refine .inl ⟨wanted_none rfl, ?_⟩
              exact wp_move' (.tmp 42) (.inl rfl) (.bool false) (by rw [ha]; exact eval_puts_in (i := 5) rfl (by simp [hpre]) (by simp) rfl) ⟨(), _, rfl, rfl, j0, j1, j2, jb⟩
            · intro _ L w' hL hpre hJ a ha
              obtain ⟨j0, j1, j2, jb⟩ := hJ
              simp [Region.binds] at hpre
              refine .inl ⟨wanted_yes (g := 6) (t := 43) (b := false) rfl rfl (by rw [ha]; exact eval_puts_in (i := 6) rfl (by simp [hpre]) (by simp) rfl), ?_⟩
              exact wp_load_mid 40 (.tmp 4) rfl (w.heap.size + 1 + 1) 0 (by rw [ha, eval_puts_out rfl]; rfl) (shV (P.take 16) f1 f2 f3 f7 f4 f5 f6) _ (range_blk j2) Try.underlying40 rfl hV ⟨(), _, rfl, rfl, j0, j1, j2, jb⟩
            · intro _ L w' hL hpre hJ a ha
              obtain ⟨j0, j1, j2, jb⟩ := hJ
              simp [Region.binds] at hpre
              refine .inl ⟨wanted_yes (g := 6) (t := 43) (b := false) rfl rfl (by rw [ha]; exact eval_puts_in (i := 6) rfl (by simp [hpre]) (by simp) rfl), ?_⟩
              have e44 : a.eval (.tmp 44) = .agg (shV (P.take 16) f1 f2 f3 f7 f4 f5 f6).toArray := by rw [ha]; exact eval_puts_in (i := 7) rfl (by simp [hpre]) (by simp) rfl
              clear ha
              have j0' := Lib.hid j0
              have j1' := Lib.hid j1
              have j2' := Lib.hid j2
              have jb' := Lib.hid jb
              clear j0 j1 j2 jb
              refine wp_intro fun K HK => ?_
              unfold Oper.wp
              simp only [execOp, resolve, List.map_toArray, List.map_cons, List.map_nil, e44]
              go_simp
              refine (refmay_any (P.take 16) f1 f2 f3 f7 f4 f5 f6 w' HT.out HT8.out).mono ?_
              rw [HM.out]
              rintro e w'' ⟨rfl, hb⟩
              exact HK.out _ _ ⟨(), _, rfl, rfl, blk_below j0'.out hb, blk_below j1'.out hb, blk_below j2'.out hb, jb'.out.trans (hb.mono jb'.out.size)⟩
            · intro _ L w' hL hpre hJ a ha
              obtain ⟨j0, j1, j2, jb⟩ := hJ
              simp [Region.binds] at hpre
              refine .inl ⟨wanted_yes (g := 6) (t := 43) (b := false) rfl rfl (by rw [ha]; exact eval_puts_in (i := 6) rfl (by simp [hpre]) (by simp) rfl), ?_⟩
              have e45 : a.eval (.tmp 45) = .bool true := by rw [ha]; exact eval_puts_in (i := 8) rfl (by simp [hpre]) (by simp) rfl
              clear ha
              have j0' := Lib.hid j0
              have j1' := Lib.hid j1
              have j2' := Lib.hid j2
              have jb' := Lib.hid jb
              clear j0 j1 j2 jb
              refine wp_intro fun K HK => ?_
              unfold Oper.wp
              simp only [execOp, e45]
              go_simp
              exact HK.out _ _ ⟨(), _, rfl, rfl, j0'.out, j1'.out, j2'.out, jb'.out⟩
            · intro _ L w' hL hpre hJ a ha
              obtain ⟨j0, j1, j2, jb⟩ := hJ
              simp [Region.binds] at hpre
              refine .inl ⟨wanted_none rfl, ?_⟩
              have e43 : a.eval (.tmp 43) = .bool false := by rw [ha]; exact eval_puts_in (i := 6) rfl (by simp [hpre]) (by simp) rfl
              have e46 : a.eval (.tmp 46) = .bool false := by rw [ha]; exact eval_puts_in (i := 9) rfl (by simp [hpre]) (by simp) rfl
              clear ha
              have j0' := Lib.hid j0
              have j1' := Lib.hid j1
              have j2' := Lib.hid j2
              have jb' := Lib.hid jb
              clear j0 j1 j2 jb
              refine wp_intro fun K HK => ?_
              unfold Oper.wp
              simp only [execOp, e43, e46]
              go_simp
              exact HK.out _ _ ⟨(), _, rfl, rfl, j0'.out, j1'.out, j2'.out, jb'.out⟩
          · intro _ L w' hL hJ
            obtain ⟨j0, j1, j2, jb⟩ := hJ
            clear hL
            simp only [List.foldl_cons, List.foldl_nil]
            go_simp
            have h1e := j1
            go_wp2_with (first | (refine wpList_load_mid rfl 40 (.tmp 4) rfl (w.heap.size + 1 + 1) 0 rfl _ _ (range_blk j2) Try.underlying40 rfl hV ?_) | (refine wpList_put_row rfl 40 (.tmp 2) (.tmp 49) rfl (w.heap.size + 1) (shV (P.take 16) f1 f2 f3 f7 f4 f5 f6) rfl rfl 40 _ j1 hV (by rw [hVl.out]; rfl) (one_shV _ _ _ _ _ _ _ _) ?_; intro w8 hU8))
            refine bodyPost_ret (v := .tuple #[.agg (shV (P.take 16) f1 f2 f3 f7 f4 f5 f6).toArray, .bool true]) ?_ rfl ⟨by rw [HE.out], hU8.below jb (by omega)⟩
            rw [results_row2 rfl _ _ _ _ _ _ _ rfl hU8.at_ Try.underlying40 rfl hV]; rfl
      · have HQ := Lib.hid (show ((f8 : Int) != (kof (P.take 28) : Int)) = true by simpa using (by omega : ¬ (f8 : Int) = (kof (P.take 28) : Int)))
        have HE := Lib.hid (show Ending.returned (.tuple #[.agg (getV P).toArray, .bool (getB P)]) = Ending.returned (.tuple #[.agg (shV zero16 0 0 0 0 0 0 0).toArray, .bool false]) by rw [HGV.out, HG.out, show (f8 == kof (P.take 28)) = false from beq_eq_false_iff_ne.2 hq]; simp)
        clear hq HG HGV
        go_upto_region 5 with fail
        refine wp_region_puts_g (by kernel_rfl) (by kernel_rfl) (X := Unit) (fun _ => [(some 37, .agg (nats .u8 P).toArray), (some 38, .int .u64 f8), (some 39, .int .u32 f8), (some 40, .slice (some ⟨w.heap.size, 0, none⟩) 28 32), (some 41, .int .u32 (kof (P.take 28))), (some 42, .bool true), (some 43, .bool true), (some 44, undef), (some 45, undef), (some 46, undef), (some 47, .bool true)])
          (fun _ L w' => w'.heap[w.heap.size]? = some (.cells (nats .u8 P).toArray 42 (0, 0)) ∧ w'.heap[(w.heap.size + 1)]? = some (.cells (shV zero16 0 0 0 0 0 0 0).toArray 40 (0, 0)) ∧ w'.heap[(w.heap.size + 1 + 1)]? = some (.cells (shV (P.take 16) f1 f2 f3 f7 f4 f5 f6).toArray 40 (0, 0)) ∧ Below w.heap.size w w') (fun _ => rfl) (by kernel_rfl) ⟨(), fun _ _ => ⟨i0, i1, i2, ib.drew⟩⟩ ?_ ?_
        · refine ⟨?_, ?_, ?_, ?_, ?_, ?_, ?_, ?_, ?_, ?_, ?_, trivial⟩
          · intro _ L w' hL hpre hJ a ha
            obtain ⟨j0, j1, j2, jb⟩ := hJ
            simp [Region.binds] at hpre
            refine .inl ⟨wanted_none rfl, ?_⟩
            exact wp_load_mid 42 (.tmp 1) rfl w.heap.size 0 (by rw [ha, eval_puts_out rfl]; rfl) (nats .u8 P) _ (range_blk j0) Try.underlying42 rfl iP ⟨(), _, rfl, rfl, j0, j1, j2, jb⟩
          · intro _ L w' hL hpre hJ a ha
            obtain ⟨j0, j1, j2, jb⟩ := hJ
            simp [Region.binds] at hpre
            refine .inl ⟨wanted_none rfl, ?_⟩
            have e37 : a.eval (.tmp 37) = .agg (nats .u8 P).toArray := by rw [ha]; exact eval_puts_in (i := 0) rfl (by simp [hpre]) (by simp) rfl
            clear ha
            have j0' := Lib.hid j0
            have j1' := Lib.hid j1
            have j2' := Lib.hid j2
            have jb' := Lib.hid jb
            clear j0 j1 j2 jb
            refine wp_intro fun K HK => ?_
            unfold Oper.wp
            simp only [execOp, resolve, List.map_toArray, List.map_cons, List.map_nil, e37]
            go_simp
            refine (HC8.out w').mono ?_
            rintro e w'' ⟨rfl, hb⟩
            exact HK.out _ _ ⟨(), _, rfl, rfl, blk_below j0'.out hb, blk_below j1'.out hb, blk_below j2'.out hb, jb'.out.trans (hb.mono jb'.out.size)⟩
          · intro _ L w' hL hpre hJ a ha
            obtain ⟨j0, j1, j2, jb⟩ := hJ
            simp [Region.binds] at hpre
            refine .inl ⟨wanted_none rfl, ?_⟩
            have e38 : a.eval (.tmp 38) = .int .u64 f8 := by rw [ha]; exact eval_puts_in (i := 1) rfl (by simp [hpre]) (by simp) rfl
            clear ha
            have j0' := Lib.hid j0
            have j1' := Lib.hid j1
            have j2' := Lib.hid j2
            have jb' := Lib.hid jb
            clear j0 j1 j2 jb
            refine wp_intro fun K HK => ?_
            unfold Oper.wp
            simp only [execOp, e38]
            go_simp
            rw [WR8.out]
            exact HK.out _ _ ⟨(), _, rfl, rfl, j0'.out, j1'.out, j2'.out, jb'.out⟩
          · intro _ L w' hL hpre hJ a ha
            obtain ⟨j0, j1, j2, jb⟩ := hJ
            simp [Region.binds] at hpre
            refine .inl ⟨wanted_none rfl, ?_⟩
            have e1 : a.eval (.tmp 1) = .pointer (some ⟨w.heap.size, 0, none⟩) := by rw [ha, eval_puts_out rfl]; rfl
            clear ha
            have j0c := j0
            have j0' := Lib.hid j0
            have j1' := Lib.hid j1
            have j2' := Lib.hid j2
            have jb' := Lib.hid jb
            clear j0 j1 j2 jb
            refine wp_intro fun K HK => ?_
            unfold Oper.wp
            simp only [execOp, e1]
            go_simp
            exact HK.out _ _ ⟨(), _, rfl, rfl, j0'.out, j1'.out, j2'.out, jb'.out⟩
          · intro _ L w' hL hpre hJ a ha
            obtain ⟨j0, j1, j2, jb⟩ := hJ
            simp [Region.binds] at hpre
            refine .inl ⟨wanted_none rfl, ?_⟩
            have HRd := Lib.hid (rd_of_range (C := w'.heap.size) (range_take 28 j0) (show _ = 28 by rw [nats_length, HL28.out]) (lt_of_cells j0))
            have e40 : a.eval (.tmp 40) = .slice (some ⟨w.heap.size, 0, none⟩) 28 32 := by rw [ha]; exact eval_puts_in (i := 3) rfl (by simp [hpre]) (by simp) rfl
            clear ha
            have j0' := Lib.hid j0
            have j1' := Lib.hid j1
            have j2' := Lib.hid j2
            have jb' := Lib.hid jb
            clear j0 j1 j2 jb
            refine wp_intro fun K HK => ?_
            unfold Oper.wp
            simp only [execOp, resolve, List.map_toArray, List.map_cons, List.map_nil, e40]
            go_simp
            refine (refsum_any (some ⟨w.heap.size, 0, none⟩) 28 32 w'.heap.size _ w' (HRd.out) (Nat.le_refl _) HT28.out (by decide)).mono ?_
            rintro e w'' ⟨rfl, hb⟩
            exact HK.out _ _ ⟨(), _, rfl, rfl, blk_below j0'.out hb, blk_below j1'.out hb, blk_below j2'.out hb, jb'.out.trans (hb.mono jb'.out.size)⟩
          · intro _ L w' hL hpre hJ a ha
            obtain ⟨j0, j1, j2, jb⟩ := hJ
            simp [Region.binds] at hpre
            refine .inl ⟨wanted_none rfl, ?_⟩
            have e39 : a.eval (.tmp 39) = .int .u32 f8 := by rw [ha]; exact eval_puts_in (i := 2) rfl (by simp [hpre]) (by simp) rfl
            have e41 : a.eval (.tmp 41) = .int .u32 (kof (P.take 28)) := by rw [ha]; exact eval_puts_in (i := 4) rfl (by simp [hpre]) (by simp) rfl
            clear ha
            have QQ : ((f8 : Int) != (kof (P.take 28) : Int)) = true := HQ.out
            have j0' := Lib.hid j0
            have j1' := Lib.hid j1
            have j2' := Lib.hid j2
            have jb' := Lib.hid jb
            clear j0 j1 j2 jb
            refine wp_intro fun K HK => ?_
            unfold Oper.wp
            simp only [execOp, e39, e41]
            go_simp
            exact HK.out _ _ ⟨(), _, rfl, rfl, j0'.out, j1'.out, j2'.out, jb'.out⟩
          · intro _ L w' hL hpre hJ a ha
            obtain ⟨j0, j1, j2, jb⟩ := hJ
            simp [Region.binds] at hpre
            refine .inl ⟨wanted_none rfl, ?_⟩
            exact wp_move' (.tmp 42) (.inl rfl) (.bool true) (by rw [ha]; exact eval_puts_in (i := 5) rfl (by simp [hpre]) (by simp) rfl) ⟨(), _, rfl, rfl, j0, j1, j2, jb⟩
          · intro _ L w' hL hpre hJ a ha
            obtain ⟨j0, j1, j2, jb⟩ := hJ
            simp [Region.binds] at hpre
            exact .inr ⟨wanted_no (g := 6) (t := 43) (b := false) rfl rfl (by rw [ha]; exact eval_puts_in (i := 6) rfl (by simp [hpre]) (by simp) rfl), (), rfl, j0, j1, j2, jb⟩
          · intro _ L w' hL hpre hJ a ha
            obtain ⟨j0, j1, j2, jb⟩ := hJ
            simp [Region.binds] at hpre
            exact .inr ⟨wanted_no (g := 6) (t := 43) (b := false) rfl rfl (by rw [ha]; exact eval_puts_in (i := 6) rfl (by simp [hpre]) (by simp) rfl), (), rfl, j0, j1, j2, jb⟩
          · intro _ L w' hL hpre hJ a ha
            obtain ⟨j0, j1, j2, jb⟩ := hJ
            simp [Region.binds] at hpre
            exact .inr ⟨wanted_no (g := 6) (t := 43) (b := false) rfl rfl (by rw [ha]; exact eval_puts_in (i := 6) rfl (by simp [hpre]) (by simp) rfl), (), rfl, j0, j1, j2, jb⟩
          · intro _ L w' hL hpre hJ a ha
            obtain ⟨j0, j1, j2, jb⟩ := hJ
            simp [Region.binds] at hpre
            refine .inl ⟨wanted_none rfl, ?_⟩
            have e43 : a.eval (.tmp 43) = .bool true := by rw [ha]; exact eval_puts_in (i := 6) rfl (by simp [hpre]) (by simp) rfl
            clear ha
            have j0' := Lib.hid j0
            have j1' := Lib.hid j1
            have j2' := Lib.hid j2
            have jb' := Lib.hid jb
            clear j0 j1 j2 jb
            refine wp_intro fun K HK => ?_
            unfold Oper.wp
            simp only [execOp, e43]
            go_simp
            exact HK.out _ _ ⟨(), _, rfl, rfl, j0'.out, j1'.out, j2'.out, jb'.out⟩
        · intro _ L w' hL hJ
          obtain ⟨j0, j1, j2, jb⟩ := hJ
          clear hL
          simp only [List.foldl_cons, List.foldl_nil]
          go_simp
          go_wp2_with (first | (refine wpList_build_l rfl 40 _ rfl _ rfl _ built_zero ?_) | (refine wpList_put_row rfl 40 (.tmp 2) (.tmp 48) rfl (w.heap.size + 1) (shV zero16 0 0 0 0 0 0 0) rfl rfl 40 _ j1 (shInfo _ rfl _ _ _ _ _ _ _) rfl (one_shV _ _ _ _ _ _ _ _) ?_; intro w8 hU8))
          refine bodyPost_ret (v := .tuple #[.agg (shV zero16 0 0 0 0 0 0 0).toArray, .bool false]) ?_ rfl ⟨by rw [HE.out], hU8.below jb (by omega)⟩
          rw [results_row2 rfl _ _ _ _ _ _ _ rfl hU8.at_ Try.underlying40 rfl (shInfo _ rfl _ _ _ _ _ _ _)]; rfl
end Go.Proofs.Ytakekjbbbjmdpaa
