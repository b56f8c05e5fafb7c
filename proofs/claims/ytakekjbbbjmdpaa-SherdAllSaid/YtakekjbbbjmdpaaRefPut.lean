import Derived.Test.YtakekjbbbjmdpaaRefMeta
import Derived.Test.YtakekjbbbjmdpaaBunD
import Derived.Test.YtakekjbbbjmdpaaBunE
import Derived.Test.YtakekjbbbjmdpaaRegion3
/- The document's page of a sherd. -/
namespace Go.Proofs.Ytakekjbbbjmdpaa
open Go.RowKit
set_option linter.unusedVariables false
set_option maxRecDepth 100000 in
set_option maxHeartbeats 4000000 in
theorem refput_no (d : List Nat) (r l s k b o m : Int) (w : World) (hd : d.length = 16) (hb : ∀ x ∈ d, x < 256) (hM : maySh d r l s k b o m = false) :
    Calls Try.prog 37 #[.agg (shV d r l s k b o m).toArray] w fun e w' => e = .returned (.tuple #[.agg (nats .u8 zero32).toArray, .bool false]) ∧ Below w.heap.size w w' := by
  have hV := shInfo d hd r l s k b o m
  have HM := Lib.hid hM
  have hz : Try.prog.built 42 [] = some (nats .u8 zero32).toArray := by kernel_rfl
  clear hM
  go_enter Try.func37, Try.ntmps37
  go_wp2_with (first | (refine wpList_load_mid rfl 40 (.tmp 1) rfl w.heap.size 0 rfl _ _ (range_blk (heap_at1 _ _ _)) Try.underlying40 rfl hV ?_))
  refine (refmay_any d r l s k b o m _ hd hb).mono ?_
  rw [HM.out]; rintro e w5 ⟨rfl, hb5⟩
  have h1 : w5.heap[w.heap.size + 1]? = some (.cells (nats .u8 zero32).toArray 42 (0, 0)) := blk_below (heap_new' _ _ _ (by simp)) hb5
  have hbel := (below2 _ _ _).trans (hb5.mono (below2 _ _ _).size)
  clear hb5
  go_wp2_with (first | (refine wpList_build_l rfl 42 _ rfl _ rfl _ hz ?_) | (refine wpList_put_row rfl 42 (.tmp 2) (.tmp 12) rfl (w.heap.size + 1) (nats .u8 zero32) rfl rfl 42 _ h1 (pgInfo rfl) rfl (one_nats _ _) ?_; intro w6 hU6))
  refine bodyPost_ret (v := .tuple #[.agg (nats .u8 zero32).toArray, .bool false]) ?_ rfl ⟨rfl, hU6.below hbel (by omega)⟩
  rw [results_row2 rfl _ _ _ _ _ _ _ rfl hU6.at_ Try.underlying42 rfl (pgInfo rfl)]; rfl
theorem splice_full {α : Type} {a b : List α} (h : a.length = b.length) : splice a 0 b = b := by
  unfold splice
  rw [List.take_zero, List.nil_append, Nat.zero_add, ← h, List.drop_length, List.append_nil]
structure PJ (G : Nat) (w0 : World) (d : List Nat) (r l s k b o m : Int) (v15 v22 v23 v4 : Value) (L : Nat → Bool) (w' : World) : Prop where
  h0 : w'.heap[w0.heap.size]? = some (.cells (shV d r l s k b o m).toArray 40 (0, 0))
  h1 : w'.heap[w0.heap.size + 1]? = some (.cells (nats .u8 zero32).toArray 42 (0, 0))
  hb : Below w0.heap.size w0 w'
  hs : G ≤ w'.heap.size
  f15 : L 2 = true → L 10 = false → w'.ownsRow G 4 1 v15 128 (bools (ofN d))
  f22 : L 9 = true → L 10 = false → w'.ownsRow G 4 1 v22 64 (bools (bitsL (metaN r l s) 64))
  f23 : L 10 = true → w'.ownsRow G 4 1 v23 192 (bools (ofN d ++ bitsL (metaN r l s) 64))
  f4 : L 11 = true → v4 = v23
  f11 : L 11 = true → L 10 = true
theorem PJ.same {G : Nat} {w0 : World} {d : List Nat} {r l s k b o m : Int} {v15 v22 v23 v4 : Value} {L L' : Nat → Bool} {w' : World} (h : PJ G w0 d r l s k b o m v15 v22 v23 v4 L w') (e2 : L' 2 = L 2) (e9 : L' 9 = L 9) (e10 : L' 10 = L 10) (e11 : L' 11 = L 11) : PJ G w0 d r l s k b o m v15 v22 v23 v4 L' w' :=
  ⟨h.h0, h.h1, h.hb, h.hs, fun a b => h.f15 (e2 ▸ a) (e10 ▸ b), fun a b => h.f22 (e9 ▸ a) (e10 ▸ b), fun a => h.f23 (e10 ▸ a), fun a => h.f4 (e11 ▸ a), fun a => e10 ▸ h.f11 (e11 ▸ a)⟩
theorem PJ.below {G : Nat} {w0 : World} {d : List Nat} {r l s k b o m : Int} {v15 v22 v23 v4 : Value} {L : Nat → Bool} {w' w'' : World} (h : PJ G w0 d r l s k b o m v15 v22 v23 v4 L w') (hb : Below w'.heap.size w' w'') : PJ G w0 d r l s k b o m v15 v22 v23 v4 L w'' :=
  ⟨blk_below h.h0 hb, blk_below h.h1 hb, h.hb.trans (hb.mono h.hb.size), Nat.le_trans h.hs hb.size, fun a b => own_below (h.f15 a b) hb, fun a b => own_below (h.f22 a b) hb, fun a => own_below (h.f23 a) hb, h.f4, h.f11⟩
set_option maxRecDepth 100000 in
set_option maxHeartbeats 8000000 in
theorem refput_yes (d : List Nat) (r l s k b o m : Int) (w : World) (hd : d.length = 16) (hb : ∀ x ∈ d, x < 256) (hM : maySh d r l s k b o m = true) :
    Calls Try.prog 37 #[.agg (shV d r l s k b o m).toArray] w fun e w' => e = .returned (.tuple #[.agg (nats .u8 (pageN d r l s k b o m)).toArray, .bool true]) ∧ Below w.heap.size w w' := by
  have hV := shInfo d hd r l s k b o m
  have HM := Lib.hid hM
  obtain ⟨r0, r1, l0, l1, s0, s1, k0, k1, b0, b1, o0, o1, m0, m1⟩ := may_bd hM
  clear hM
  go_enter Try.func37, Try.ntmps37
  go_wp2_with (first | (refine wpList_load_mid rfl 40 (.tmp 1) rfl w.heap.size 0 rfl _ _ (range_blk (heap_at1 _ _ _)) Try.underlying40 rfl hV ?_))
  refine (refmay_any d r l s k b o m _ hd hb).mono ?_
  rw [HM.out]; rintro e w5 ⟨rfl, hb5⟩
  have h0 : w5.heap[w.heap.size]? = some (.cells (shV d r l s k b o m).toArray 40 (0, 0)) := blk_below (heap_at1 _ _ _) hb5
  have h1 : w5.heap[w.heap.size + 1]? = some (.cells (nats .u8 zero32).toArray 42 (0, 0)) := blk_below (heap_new' _ _ _ (by simp)) hb5
  have hbel := (below2 _ _ _).trans (hb5.mono (below2 _ _ _).size)
  have g1 := lt_of_cells h1
  clear hb5
  have HB := Lib.hid hb
  have HD := Lib.hid hd
  go_upto_region 3 with fail
  refine wp_region_puts (by kernel_rfl) (by kernel_rfl) (by kernel_rfl) (X := Value × Value × Value × Value) (fun x => [(some 13, .pointer (some ⟨w.heap.size, 0, none⟩)), (some 14, .slice (some ⟨w.heap.size, 0, none⟩) 16 16), (some 15, x.1), (some 16, .pointer (some ⟨w.heap.size, 16, none⟩)), (some 17, .int .i64 r), (some 18, .pointer (some ⟨w.heap.size, 17, none⟩)), (some 19, .int .i64 l), (some 20, .pointer (some ⟨w.heap.size, 18, none⟩)), (some 21, .int .i64 s), (some 22, x.2.1), (some 23, x.2.2.1), (some 4, x.2.2.2)])
    (fun x L w' => PJ w5.heap.size w d r l s k b o m x.1 x.2.1 x.2.2.1 x.2.2.2 L w') (fun _ => rfl) (by kernel_rfl) ?_ ?_ ?_
  · exact ⟨(undef, undef, undef, undef), fun L hL => ⟨h0, h1, hbel.drew, Nat.le_refl _, (fun h => by rw [hL] at h; cases h), (fun h => by rw [hL] at h; cases h), (fun h => by rw [hL] at h; cases h), (fun _ => rfl), (fun h => absurd h (by simp [hL]))⟩⟩
  · refine ⟨?_, ?_, ?_, ?_, ?_, ?_, ?_, ?_, ?_, ?_, ?_, ?_, trivial⟩
    · intro x L w' hL hpre hJ a ha
      have e1 : a.eval (.tmp 1) = .pointer (some ⟨w.heap.size, 0, none⟩) := by rw [ha, eval_puts_out rfl]; rfl
      clear ha
      have HJ := Lib.hid hJ
      clear hJ
      refine wp_intro fun K HK => ?_
      unfold Oper.wp
      simp only [execOp, e1]
      go_simp
      exact HK.out _ _ ⟨x, _, rfl, rfl, HJ.out.same rfl rfl rfl rfl⟩
    · intro x L w' hL hpre hJ a ha
      simp [Region.binds] at hpre
      have e1 : a.eval (.tmp 13) = .pointer (some ⟨w.heap.size, 0, none⟩) := by rw [ha]; exact eval_puts_in (i := 0) rfl (by simp [hpre]) (by simp) rfl
      have hj0 := hJ.h0
      clear ha
      have HJ := Lib.hid hJ
      clear hJ
      refine wp_intro fun K HK => ?_
      unfold Oper.wp
      simp only [execOp, e1]
      go_simp
      exact HK.out _ _ ⟨x, _, rfl, rfl, HJ.out.same rfl rfl rfl rfl⟩
    · intro x L w' hL hpre hJ a ha
      simp [Region.binds] at hpre
      have e1 : a.eval (.tmp 14) = .slice (some ⟨w.heap.size, 0, none⟩) 16 16 := by rw [ha]; exact eval_puts_in (i := 1) rfl (by simp [hpre]) (by simp) rfl
      clear ha
      have HJ := Lib.hid hJ
      have HR := Lib.hid (rd_of_range (C := w'.heap.size) (range_data hJ.h0) (show _ = 16 by rw [nats_length, HD.out]) (lt_of_cells hJ.h0))
      clear hJ
      refine wp_intro fun K HK => ?_
      unfold Oper.wp
      simp only [execOp, resolve, List.map_toArray, List.map_cons, List.map_nil, e1]
      go_simp
      refine (of_any (some ⟨w.heap.size, 0, none⟩) 16 16 _ d w' HR.out (Nat.le_refl _) HB.out (by decide)).mono ?_
      rintro e w'' ⟨v, rfl, ho, hb⟩
      have hJ' := HJ.out.below hb
      exact HK.out _ _ ⟨(v, x.2.1, x.2.2), v, rfl, rfl, hJ'.h0, hJ'.h1, hJ'.hb, hJ'.hs, fun _ _ => own_base ho HJ.out.hs, hJ'.f22, hJ'.f23, hJ'.f4, hJ'.f11⟩
    · intro x L w' hL hpre hJ a ha
      have e1 : a.eval (.tmp 1) = .pointer (some ⟨w.heap.size, 0, none⟩) := by rw [ha, eval_puts_out rfl]; rfl
      clear ha
      have HJ := Lib.hid hJ
      clear hJ
      refine wp_intro fun K HK => ?_
      unfold Oper.wp
      simp only [execOp, e1]
      go_simp
      exact HK.out _ _ ⟨x, _, rfl, rfl, HJ.out.same rfl rfl rfl rfl⟩
    · intro x L w' hL hpre hJ a ha
      simp [Region.binds] at hpre
      have e1 : a.eval (.tmp 16) = .pointer (some ⟨w.heap.size, 16, none⟩) := by rw [ha]; exact eval_puts_in (i := 3) rfl (by simp [hpre]) (by simp) rfl
      clear ha
      obtain ⟨c16, -⟩ := sh_cells HD.out hJ.h0
      have HJ := Lib.hid hJ
      clear hJ
      refine wp_intro fun K HK => ?_
      unfold Oper.wp
      simp only [execOp, e1]
      go_simp
      exact HK.out _ _ ⟨x, _, rfl, rfl, HJ.out.same rfl rfl rfl rfl⟩
    · intro x L w' hL hpre hJ a ha
      have e1 : a.eval (.tmp 1) = .pointer (some ⟨w.heap.size, 0, none⟩) := by rw [ha, eval_puts_out rfl]; rfl
      clear ha
      have HJ := Lib.hid hJ
      clear hJ
      refine wp_intro fun K HK => ?_
      unfold Oper.wp
      simp only [execOp, e1]
      go_simp
      exact HK.out _ _ ⟨x, _, rfl, rfl, HJ.out.same rfl rfl rfl rfl⟩
    · intro x L w' hL hpre hJ a ha
      simp [Region.binds] at hpre
      have e1 : a.eval (.tmp 18) = .pointer (some ⟨w.heap.size, 17, none⟩) := by rw [ha]; exact eval_puts_in (i := 5) rfl (by simp [hpre]) (by simp) rfl
      clear ha
      obtain ⟨-, c17, -⟩ := sh_cells HD.out hJ.h0
      have HJ := Lib.hid hJ
      clear hJ
      refine wp_intro fun K HK => ?_
      unfold Oper.wp
      simp only [execOp, e1]
      go_simp
      exact HK.out _ _ ⟨x, _, rfl, rfl, HJ.out.same rfl rfl rfl rfl⟩
    · intro x L w' hL hpre hJ a ha
      have e1 : a.eval (.tmp 1) = .pointer (some ⟨w.heap.size, 0, none⟩) := by rw [ha, eval_puts_out rfl]; rfl
      clear ha
      have HJ := Lib.hid hJ
      clear hJ
      refine wp_intro fun K HK => ?_
      unfold Oper.wp
      simp only [execOp, e1]
      go_simp
      exact HK.out _ _ ⟨x, _, rfl, rfl, HJ.out.same rfl rfl rfl rfl⟩
    · intro x L w' hL hpre hJ a ha
      simp [Region.binds] at hpre
      have e1 : a.eval (.tmp 20) = .pointer (some ⟨w.heap.size, 18, none⟩) := by rw [ha]; exact eval_puts_in (i := 7) rfl (by simp [hpre]) (by simp) rfl
      clear ha
      obtain ⟨-, -, c18, -⟩ := sh_cells HD.out hJ.h0
      have HJ := Lib.hid hJ
      clear hJ
      refine wp_intro fun K HK => ?_
      unfold Oper.wp
      simp only [execOp, e1]
      go_simp
      exact HK.out _ _ ⟨x, _, rfl, rfl, HJ.out.same rfl rfl rfl rfl⟩
    · intro x L w' hL hpre hJ a ha
      simp [Region.binds] at hpre
      have e1 : a.eval (.tmp 17) = .int .i64 r := by rw [ha]; exact eval_puts_in (i := 4) rfl (by simp [hpre]) (by simp) rfl
      have e2 : a.eval (.tmp 19) = .int .i64 l := by rw [ha]; exact eval_puts_in (i := 6) rfl (by simp [hpre]) (by simp) rfl
      have e3 : a.eval (.tmp 21) = .int .i64 s := by rw [ha]; exact eval_puts_in (i := 8) rfl (by simp [hpre]) (by simp) rfl
      clear ha
      have HJ := Lib.hid hJ
      clear hJ
      refine wp_intro fun K HK => ?_
      unfold Oper.wp
      simp only [execOp, resolve, List.map_toArray, List.map_cons, List.map_nil, e1, e2, e3]
      go_simp
      refine (refmeta_any r l s w').mono ?_
      rintro e w'' ⟨v, rfl, ho, hb⟩
      have hJ' := HJ.out.below hb
      exact HK.out _ _ ⟨(x.1, v, x.2.2), v, rfl, rfl, hJ'.h0, hJ'.h1, hJ'.hb, hJ'.hs, hJ'.f15, fun _ _ => own_base ho HJ.out.hs, hJ'.f23, hJ'.f4, hJ'.f11⟩
    · intro x L w' hL hpre hJ a ha
      simp [Region.binds] at hpre
      have p2 : L 2 = true := by simp [hpre]
      have p9 : L 9 = true := by simp [hpre]
      have ho := hJ.f15 p2 hL
      have ho2 := hJ.f22 p9 hL
      obtain ⟨A2, c2, e2, -, -⟩ := own_slice ho2
      refine wp_appendN (.tmp 15) (.tmp 22) 59 4 _ _ rfl Try.underlying59 boolInfo rfl ho (Below.refl w5.heap.size w') (by rw [ha]; exact eval_puts_in (i := 2) rfl p2 (by simp) rfl) (by rw [ha, eval_puts_in (i := 9) rfl p9 (by simp) rfl]; exact e2) (Rd.of_own (e2 ▸ ho2)) (one_bools _) (by decide) (by decide) hJ.hs (Nat.le_refl _) ?_
      intro v5 w5' hown5 hbel5 hgr5 _
      rw [show bools (ofN d) ++ bools (bitsL (metaN r l s) 64) = bools (ofN d ++ bitsL (metaN r l s) 64) by simp [bools]] at hown5
      exact ⟨(x.1, x.2.1, v5, x.2.2.2), v5, rfl, rfl, (hbel5.block _ (by omega)).trans hJ.h0, (hbel5.block _ g1).trans hJ.h1, hJ.hb.trans (hbel5.mono (by omega)), Nat.le_trans hJ.hs hbel5.size, (fun _ h => by simp [also] at h), (fun _ h => by simp [also] at h), fun _ => hown5, (fun h => by have h := hJ.f11 h; rw [hL] at h; cases h), fun _ => rfl⟩
    · intro x L w' hL hpre hJ a ha
      simp [Region.binds] at hpre
      exact wp_move' (.tmp 23) (.inr rfl) _ (by rw [ha]; exact eval_puts_in (i := 10) rfl (by simp [hpre]) (by simp) rfl) ⟨(x.1, x.2.1, x.2.2.1, x.2.2.1), _, rfl, rfl, hJ.h0, hJ.h1, hJ.hb, hJ.hs, hJ.f15, hJ.f22, hJ.f23, fun _ => rfl, fun _ => by simp [hpre, also]⟩
  · intro x L w6 hL hJ
    have ho := hJ.f23 (hL 10 (by decide))
    have h06 := hJ.h0
    have h16 := hJ.h1
    have hb6 := hJ.hb
    have hs6 := hJ.hs
    have e4 := hJ.f4 (hL 11 (by decide))
    obtain ⟨v15, v22, v23, v4⟩ := x
    simp only at ho e4
    subst e4
    clear hJ hL h0 h1 hbel
    simp only [List.foldl_cons, List.foldl_nil]
    go_simp
    obtain ⟨c16, c17, c18, c19, c20, c21, c22⟩ := sh_cells HD.out h06
    generalize w5.heap.size = G at *
    go_wp2_with fail
    have h27 := heap_new' w6 (.cells #[.int .i64 b, .int .i64 o, .int .i64 m, .int .i64 k] 3) _ rfl
    have h17 := blk_alloc h16 (.cells #[.int .i64 b, .int .i64 o, .int .i64 m, .int .i64 k] 3)
    have ho7 := ho.alloc (.cells #[.int .i64 b, .int .i64 o, .int .i64 m, .int .i64 k] 3)
    have hb7 := hb6.alloc hb6.size (.cells #[.int .i64 b, .int .i64 o, .int .i64 m, .int .i64 k] 3)
    have hs7 : G ≤ (w6.alloc (.cells #[.int .i64 b, .int .i64 o, .int .i64 m, .int .i64 k] 3)).heap.size := by simp; omega
    have hG6 := hs6
    clear h06 h16 hb6 ho hs6 c16 c17 c18 c19 c20 c21 c22
    generalize hw7 : w6.alloc (.cells #[.int .i64 b, .int .i64 o, .int .i64 m, .int .i64 k] 3) = w7 at *
    clear hw7
    generalize w6.heap.size = G6 at *
    go_loopw [4, 34] (fun v i wr => ∃ j : Nat, j ≤ 4 ∧ i = .int .i64 j ∧ wr.ownsRow G 4 1 v (192 + 8 * j) (bools (ofN d ++ (bitsL (metaN r l s) 64 ++ fldsN b o m k j))) ∧ wr.heap[G6]? = some (.cells #[.int .i64 b, .int .i64 o, .int .i64 m, .int .i64 k] 3 (0, 0)) ∧ wr.heap[w.heap.size + 1]? = some (.cells (nats .u8 zero32).toArray 42 (0, 0)) ∧ Below w.heap.size w wr ∧ G ≤ wr.heap.size) (fun _ i _ => 4 - (intOf i).toNat)
    case atStart => exact ⟨0, by omega, rfl, by simpa [fldsN] using ho7, h27, h17, hb7, hs7⟩
    case round =>
      clear ho7 h27 h17 hb7 hs7
      obtain ⟨j, hj, rfl, ho, h2, h1, hb, hs⟩ := hrel
      by_cases hj4 : j = 4
      · subst hj4
        obtain ⟨A4, c4, rfl, hc1, hc2⟩ := own_slice ho
        have hr4 := Rd.of_own ho
        have HH := Lib.hid (show bytesN (ofN d ++ (bitsL (metaN r l s) 64 ++ fldsN b o m k 4)) = d ++ headN r l s k b o m by
          rw [bytesN_data d _ HB.out (by simp [bitsL_length, fldsN])]; rfl)
        have hh := headN_length r l s k b o m
        have hhl := headN_lt r l s k b o m
        have HPG := Lib.hid (show nats .u8 (d ++ headN r l s k b o m) ++ nats .u8 (crcN (d ++ headN r l s k b o m)) = nats .u8 (pageN d r l s k b o m) by simp [nats, pageN])
        have HPl := Lib.hid (pageN_length HD.out r l s k b o m)
        have HC : Hid (bytesN (bitsL (kof (d ++ headN r l s k b o m)) 32) = crcN (d ++ headN r l s k b o m)) := Lib.hid rfl
        have iPg := pgInfo HPl.out
        have HL28 := Lib.hid (show (d ++ headN r l s k b o m).length = 28 by rw [List.length_append, HD.out, hh])
        have hkb := bytes_app d (headN r l s k b o m) HB.out hhl
        have HKB := Lib.hid hkb
        have hk32 : kof (d ++ headN r l s k b o m) < 4294967296 := ksum_lt _ _ (by decide) hkb
        clear hkb hhl hh h2
        go_wp2_with fail
        refine (bytes_any _ _ _ _ _ _ hr4 (Nat.le_refl _) (by decide)).mono ?_
        rw [HH.out]
        rintro e w8 ⟨v8, rfl, ho8', hb8⟩
        have ho8 : w8.ownsRow wr.heap.size 5 1 v8 28 (nats .u8 (d ++ headN r l s k b o m)) := ho8'
        obtain ⟨A8, c8, e8, hc81, hc82⟩ := own_slice ho8
        have h18 := blk_below h1 hb8
        have hbel8 := hb.trans (hb8.mono hb.size)
        have C8 := refsum_any A8 28 c8 _ _ w8 (Rd.of_own (e8 ▸ ho8)) (Nat.le_refl _) HKB.out (by decide)
        rw [← e8] at C8
        have HC8 := Lib.hid C8
        clear e8 C8
        have hW8 : w.heap.size ≤ wr.heap.size := hb.size
        have hs8 := hb8.size
        clear ho8' hb8 hr4 ho h1 hb hs
        generalize wr.heap.size = B8 at *
        go_wp2_with fail
        refine (HC8.out).mono ?_
        clear HC8
        rintro e w9 ⟨rfl, hb9⟩
        have ho9 := own_below ho8 hb9
        have h19 := blk_below h18 hb9
        have hbel9 := hbel8.trans (hb9.mono hbel8.size)
        have hs9 := Nat.le_trans hs8 hb9.size
        clear ho8 h18 hbel8 hs8 hb9
        generalize hX : kof (d ++ headN r l s k b o m) = X at *
        go_wp2_with fail
        refine (bits_nat X 32 _ (by omega) (by decide)).mono ?_
        rintro e w10 ⟨v10, rfl, ho10, hb10⟩
        obtain ⟨A10, c10, rfl, hc101, hc102⟩ := own_slice ho10
        have ho9' := own_below ho9 hb10
        have h110 := blk_below h19 hb10
        have hbel10 := hbel9.trans (hb10.mono hbel9.size)
        have hs10 := Nat.le_trans hs9 hb10.size
        clear ho9 h19 hbel9 hs9 hb10
        go_wp2_with fail
        refine (bytes_any _ _ _ _ _ _ (Rd.of_own ho10) (Nat.le_refl _) (by decide)).mono ?_
        rw [HC.out]
        rintro e w11 ⟨v11, rfl, ho11', hb11⟩
        have ho11 : w11.ownsRow w10.heap.size 5 1 v11 4 (nats .u8 (crcN (d ++ headN r l s k b o m))) := ho11'
        obtain ⟨A11, c11, rfl, hc111, hc112⟩ := own_slice ho11
        have ho12 := own_below ho9' hb11
        have h111 := blk_below h110 hb11
        have hbel11 := hbel10.trans (hb11.mono hbel10.size)
        have hs11 := Nat.le_trans hs10 hb11.size
        have hr11 := Rd.of_own ho11
        clear ho9' h110 hbel10 hs10 hb11 ho11' ho10
        go_wp2_with (first
          | (at_builtin; (refine wpList_appendN rfl (.tmp 46) (.tmp 51) 109 rfl 5 _ _ Try.underlying109 u8Info rfl ho12 hbel11 rfl rfl hr11 (one_nats _ _) (by decide) (by decide) hs11 hW8 ?_; intro v13 w13 ho13 hbel13 hgr13 _; rw [HPG.out] at ho13; obtain ⟨g13, c13, rfl, q1, q2, q3, q4⟩ := own_form ho13 (by decide); have h113 := blk_grown h111 hgr13 (fun e => own_ne ho12 h111 (by decide) e.symm); have hr13 := range_below (range_own ho13) ((Below.refl _ w13).alloc (Nat.le_refl _) (.cells (nats .u8 zero32).toArray 42)); have ne13 : w.heap.size + 1 ≠ w13.heap.size := by have := lt_of_cells h113; omega))
          | (refine wpList_load_mid rfl 42 (.tmp 8) rfl w13.heap.size 0 rfl _ _ (range_blk h814) Try.underlying42 rfl iPg ?_)
          | (refine wpList_put_row rfl 42 (.tmp 2) (.tmp 56) rfl (w.heap.size + 1) (nats .u8 (pageN d r l s k b o m)) rfl rfl 42 _ h114 iPg (by rw [nats_length, HPl.out]; rfl) (one_nats _ _) ?_; intro w15 hU15)
          | (refine wpList_copy_upd rfl (.tmp 53) (.tmp 54) 109 109 rfl 5 Try.underlying109 u8Size (some ⟨w13.heap.size, 0, none⟩) (some ⟨g13, 0, none⟩) 32 32 32 c13 (by go_simp) (by go_simp) w13.heap.size 0 (nats .u8 zero32) 42 (heap_new' w13 _ _ rfl) (nats .u8 (pageN d r l s k b o m)) (by rw [nats_length, HPl.out]; rfl) (fun _ => ⟨rfl, _, _, rfl, hr13⟩) (by rw [nats_length, nats_length, HPl.out]; decide) (one_nats _ _) ?_; intro w14 hU14; have h814 := hU14.at_; rw [splice_full (by rw [nats_length, nats_length, HPl.out]; rfl)] at h814; have h114 := hU14.old (blk_alloc h113 _) ne13; have hbel14 := hU14.below (hbel13.alloc hbel13.size _) hbel13.size; clear hr13 ho13 hgr13 hU14))
        refine bodyPost_ret (v := .tuple #[.agg (nats .u8 (pageN d r l s k b o m)).toArray, .bool true]) ?_ rfl ⟨rfl, hU15.below hbel14 (by omega)⟩
        rw [results_row2 rfl _ _ _ _ _ _ _ rfl hU15.at_ Try.underlying42 rfl iPg]; rfl
      · obtain ⟨x, x0, x1, hx, hc⟩ : ∃ x : Int, 0 ≤ x ∧ x < 256 ∧ bools (ofN d ++ (bitsL (metaN r l s) 64 ++ fldsN b o m k j)) ++ bools (bitsL x.toNat (8 : Int).toNat) = bools (ofN d ++ (bitsL (metaN r l s) 64 ++ fldsN b o m k (j + 1))) ∧ wr.cell? ⟨G6, j, none⟩ = some (.int .i64 x) := by
          rcases (show j = 0 ∨ j = 1 ∨ j = 2 ∨ j = 3 by omega) with rfl | rfl | rfl | rfl
          · exact ⟨b, b0, by omega, by simp [fldsN, bools], by rw [blk_cell h2]; rfl⟩
          · exact ⟨o, o0, by omega, by simp [fldsN, bools], by rw [blk_cell h2]; rfl⟩
          · exact ⟨m, m0, m1, by simp [fldsN, bools], by rw [blk_cell h2]; rfl⟩
          · exact ⟨k, by omega, by omega, by simp [fldsN, bools], by rw [blk_cell h2]; rfl⟩
        have HX := Lib.hid hx
        have hlt4 : (j : Int) < 4 := by omega
        clear hx hj4
        go_wp2_with fail
        refine (bits_any x 8 _ x0 (by omega) (by decide) (by decide)).mono ?_
        rintro e w8 ⟨v8, rfl, ho8, hb8⟩
        obtain ⟨A8, c8, rfl, -, -⟩ := own_slice ho8
        have ho' := own_below ho hb8
        have h28 := blk_below h2 hb8
        have h18 := blk_below h1 hb8
        have hbel8 := hb.trans (hb8.mono hb.size)
        have hs8 := Nat.le_trans hs hb8.size
        have hr8 := Rd.of_own ho8
        have n2 := fun e => own_ne ho' h28 (by decide) (Eq.symm e)
        have n1 := fun e => own_ne ho' h18 (by decide) (Eq.symm e)
        clear ho h2 h1 hb hs hb8 hc ho8
        go_wp2_with (at_builtin; refine wpList_appendN rfl (.tmp 38) (.tmp 41) 59 rfl 4 _ _ Try.underlying59 boolInfo rfl ho' hbel8 rfl rfl hr8 (one_bools _) (by unfold maxLen; simp; omega) (by simp; omega) hs8 (by omega) ?_; intro v9 w9 ho9 hbel9 hgr9 _; have h29 := blk_grown h28 hgr9 n2; have h19 := blk_grown h18 hgr9 n1; have hsz9 := hgr9.size)
        rw [HX.out] at ho9
        go_roundw
        case rel => exact ⟨j + 1, by omega, by go_num, by have := ho9; rwa [show 192 + 8 * j + 8 = 192 + 8 * (j + 1) by omega] at this, h29, h19, hbel9, by omega⟩
        case measure => simp [intOf]; omega
theorem refput_any (d : List Nat) (r l s k b o m : Int) (w : World) (hd : d.length = 16) (hb : ∀ x ∈ d, x < 256) :
    Calls Try.prog 37 #[.agg (shV d r l s k b o m).toArray] w fun e w' => e = .returned (.tuple #[.agg (nats .u8 (putP d r l s k b o m)).toArray, .bool (maySh d r l s k b o m)]) ∧ Below w.heap.size w w' := by
  unfold putP
  cases hM : maySh d r l s k b o m with
  | false => exact refput_no d r l s k b o m w hd hb hM
  | true => exact refput_yes d r l s k b o m w hd hb hM
end Go.Proofs.Ytakekjbbbjmdpaa
