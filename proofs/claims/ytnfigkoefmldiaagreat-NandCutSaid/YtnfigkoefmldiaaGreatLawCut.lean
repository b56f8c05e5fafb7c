import Derived.Test.YtnfigkoefmldiaaGreatBunR
import Derived.Test.YtnfigkoefmldiaaGreatCutLaw
import Derived.Deep.DeepCutAuto
import Derived.Deep.CutBlock
/- NandCut: power goes at just the operation that was said; what was done ahead of it is done; behind it nothing is; no condition. -/
namespace Go.Proofs.YtnfigkoefmldiaaGreat.nandCut
open Go.RowKit
open Go.Proofs.YtnfigkoefmldiaaGreat.nand
set_option linter.unusedVariables false
def pC : List Nat := (List.range 32).map fun i => i + 1
theorem pC_ok : pC.length = 32 ∧ ∀ y ∈ pC, y < 256 := ⟨by decide, by decide⟩
def fillP (i : Nat) : List Nat := ((List.range i).map fun j => j + 1) ++ List.replicate (32 - i) 0
theorem fillP_len {i : Nat} (h : i ≤ 32) : (fillP i).length = 32 := by simp [fillP]; omega
theorem fillP_step {i : Nat} (h : i < 32) : (fillP i).set i (i + 1) = fillP (i + 1) := by
  unfold fillP
  rw [List.set_append_right _ _ (by simp), List.range_succ, List.map_append, List.append_assoc]
  congr 1
  rw [List.length_map, List.length_range, Nat.sub_self, show 32 - i = (32 - (i + 1)) + 1 by omega, List.replicate_succ, List.set_cons_zero]
  rfl
theorem fillP_end : fillP 32 = pC := by simp [fillP, pC]
theorem torn_low {P : List Nat} (h : P.length = 32) {kk i : Nat} (hk : kk ≤ 32) (hi : i < kk) : (tornTo P kk 32)[i]? = P[i]? := by
  unfold tornTo
  rw [List.getElem?_append_left (by simp; omega), List.getElem?_take_of_lt hi]
theorem torn_high {P : List Nat} (h : P.length = 32) {kk i : Nat} (h1 : kk ≤ i) (h2 : i < 32) : (tornTo P kk 32)[i]? = some 255 := by
  unfold tornTo
  rw [List.getElem?_append_right (by simp; omega), List.getElem?_append_left (by simp; omega), List.getElem?_replicate, if_pos (by simp; omega)]
def CR (K M kk base g wb : Nat) (w : World) (i : Value) (wx : World) : Prop := ∃ (m : Nat) (N : Nd), m ≤ 16 ∧ m ≤ K + 1 + M ∧ i = .int .i64 m ∧ ((Ct N K m kk ∧ m ≤ K) ∨ (Cx N K kk pC ∧ K < m)) ∧ NandIn wx base g 0 N ∧ Below w.heap.size w wx ∧ wx.heap[wb]? = some (.cells (nats .u8 pC).toArray 34 (0, 0))
def CE (K kk base g wb : Nat) (w : World) (wx : World) : Prop := ∃ N : Nd, Cx N K kk pC ∧ NandIn wx base g 0 N ∧ Below w.heap.size w wx ∧ wx.heap[wb]? = some (.cells (nats .u8 pC).toArray 34 (0, 0))
theorem CR.of {K M kk base g wb : Nat} {w wx : World} {i : Value} (m : Nat) (N : Nd) (h1 : m ≤ 16) (h2 : m ≤ K + 1 + M) (h3 : i = .int .i64 m) (h4 : (Ct N K m kk ∧ m ≤ K) ∨ (Cx N K kk pC ∧ K < m)) (h5 : NandIn wx base g 0 N) (h6 : Below w.heap.size w wx) (h7 : wx.heap[wb]? = some (.cells (nats .u8 pC).toArray 34 (0, 0))) : CR K M kk base g wb w i wx := ⟨m, N, h1, h2, h3, h4, h5, h6, h7⟩
set_option maxRecDepth 100000 in
set_option maxHeartbeats 8000000 in
theorem walk (a0 a1 a2 : Int) (w : World) (w0 : (Lit.int .i64 a0).wf = true) (w1 : (Lit.int .i64 a1).wf = true) (w2 : (Lit.int .i64 a2).wf = true) :
    Calls Tryz.prog 4 #[.int .i64 a0, .int .i64 a1, .int .i64 a2] w fun e w' => e = .returned (.bool true) ∧ Below w.heap.size w w' := by
  clear w0 w1 w2
  go_enter Tryz.func4, Tryz.ntmps4
  go_wp2_with fail
  refine (begun7_any _).mono ?_
  rintro e w1 ⟨rfl, hb1⟩
  have HB1 := Lib.hid hb1
  clear hb1
  by_cases hbad : a0 < 0 ∨ 12 < a0 ∨ a2 < 0 ∨ 10 < a2
  · by_cases b1 : a0 < 0
    · go_wp2_with fail
      go_ret
      exact ⟨rfl, HB1.out⟩
    · by_cases b2 : 12 < a0
      · go_wp2_with fail
        go_ret
        exact ⟨rfl, HB1.out⟩
      · by_cases b3 : a2 < 0
        · go_wp2_with fail
          go_ret
          exact ⟨rfl, HB1.out⟩
        · have b4 : 10 < a2 := by omega
          go_wp2_with fail
          go_ret
          exact ⟨rfl, HB1.out⟩
  obtain ⟨K, rfl⟩ := Int.eq_ofNat_of_zero_le (show 0 ≤ a0 by omega)
  obtain ⟨M, rfl⟩ := Int.eq_ofNat_of_zero_le (show 0 ≤ a2 by omega)
  have hK : K ≤ 12 := by omega
  have hM : M ≤ 10 := by omega
  clear hbad
  have q1 : decide ((K : Int) < 0) = false := by simp
  have q2 : decide (12 < (K : Int)) = false := by simp; omega
  have q3 : decide ((M : Int) < 0) = false := by simp
  have q4 : decide (10 < (M : Int)) = false := by simp; omega
  go_wp2_with (first | (refine want_build 25 _ rfl [(0, .int .i64 _), (1, .int .i64 _), (2, .int .i64 _)] rfl _ (built_g3 3 8 8) (by rfl) ?_))
  refine (show Calls _ _ #[.agg #[.int .i64 3, .int .i64 8, .int .i64 8]] _ _ from new_any w1 3 8 8 (by decide)).mono ?_
  rintro e w2 ⟨g, rfl, hn2, hb2⟩
  obtain ⟨base, hbase⟩ : ∃ base, base = w1.heap.size := ⟨_, rfl⟩
  rw [← hbase] at hn2
  have HLB := Lib.hid (show w.heap.size ≤ base by rw [hbase]; exact HB1.out.size)
  have HN2 := Lib.hid hn2
  have HB2 := Lib.hid (HB1.out.trans (hb2.mono HB1.out.size))
  clear hn2 hb2 HB1 hbase
  go_wp2_with fail
  refine (cut_in (show NandIn _ _ _ 0 (Nd.new 3 8 8) from HN2.out) (K : Int) a1 (by omega)).mono ?_
  rintro e w3 ⟨rfl, hn3, hf3⟩
  replace hn3 : NandIn w3 base g (0) ((Nd.new 3 8 8).cutAt K a1) := by rw [show ((Nd.new 3 8 8).cutAt K a1) = ((Nd.new 3 8 8).cutAt (K : Int) a1) from rfl]; exact hn3
  have HN3 := Lib.hid hn3
  have HB3 := Lib.hid (hf3.below HB2.out HLB.out (Nat.le_refl _))
  clear hn3 hf3 HN2 HB2 
  clear q1 q2 q3 q4
  have HCT := Lib.hid (Ct.start K a1)
  generalize (Nd.new 3 8 8).cutAt K a1 = N1 at *
  obtain ⟨wb, hwb⟩ : ∃ wb, wb = w3.heap.size := ⟨_, rfl⟩
  have HWB := Lib.hid (show w.heap.size ≤ wb by rw [hwb]; exact HB3.out.size)
  go_upto_region 9 with (first | (refine want_build 34 _ rfl [] rfl _ built_pz (by rfl) ?_) | (refine wpList_put_row rfl 34 (.tmp 9) (.tmp 40) rfl _ (nats .u8 zero32) rfl rfl 34 _ (heap_new' _ _ _ rfl) (pgInfo rfl) rfl (one_nats _ _) ?_; intro w4 hU4; have h4 := hU4.at_; have hb4 := hU4.below (alloc_low _ _) (Nat.le_refl _); clear hU4))
  rw [← hwb] at h4 ⊢
  have HN4 := Lib.hid (HN3.out.below hb4)
  have HB4 := Lib.hid (HB3.out.trans (hb4.mono HB3.out.size))
  clear hb4 HN3 HB3 
  have hp_4 := h4
  clear h4 hwb
  go_simp
  go_wp2_with fail
  go_loopw [10, 41] (fun _ i wr => ∃ m : Nat, m ≤ 32 ∧ i = .int .i64 m ∧ NandIn wr base g 0 N1 ∧ Below w.heap.size w wr ∧ wr.heap[wb]? = some (.cells (nats .u8 (fillP m)).toArray 34 (0, 0))) (fun _ i _ => 32 - (intOf i).toNat)
  case atStart => exact ⟨0, by omega, rfl, HN4.out, HB4.out, hp_4⟩
  case round =>
    clear HN4 HB4 hp_4
    obtain ⟨m, hm, rfl, hnd, hbl, hpg⟩ := hrel
    by_cases hlt : m < 32
    · have hI : (m : Int) < 32 := by omega
      have hlen := fillP_len (i := m) (by omega)
      have hc : wr.cell? ⟨wb, m, none⟩ = some (.int .u8 (((fillP m).getD m 0 : Nat) : Int)) := by rw [blk_cell hpg, List.getElem?_toArray, nats_at .u8 _ m (by rw [hlen]; exact hlt), List.getD_eq_getElem?_getD, List.getElem?_eq_getElem (by rw [hlen]; exact hlt)]; rfl
      have ff := blk_frozen hpg m
      have U := upd_setCell (i := m) hpg (.int .u8 ((m + 1 : Nat) : Int))
      have hset : (nats .u8 (fillP m)).set m (.int .u8 ((m + 1 : Nat) : Int)) = nats .u8 (fillP (m + 1)) := by rw [← fillP_step hlt]; simp [nats, List.map_set]
      have k8 := U.at_
      rw [hset] at k8
      have HU := Lib.hid (And.intro (hnd.other (upd_grown U) hpg rfl) (And.intro (U.below hbl HWB.out) k8))
      have hwr : IntKind.u8.wrap ((m : Int) + 1) = ((m + 1 : Nat) : Int) := by rw [wrap_u8]; omega
      clear U hset k8 hpg hnd hbl hlen
      generalize (fillP m).getD m 0 = z at *
      go_wp2_with fail
      clear hwr
      go_roundw
      case rel => exact ⟨m + 1, by omega, by go_num, HU.out.1, HU.out.2.1, HU.out.2.2⟩
      case measure => simp [intOf]; omega
    · obtain rfl : m = 32 := by omega
      rw [fillP_end] at hpg
      rw [show ((32 : Nat) : Int) = 32 from rfl]
      have HN5 := Lib.hid hnd
      have HB5 := Lib.hid hbl
      have HP5 := Lib.hid hpg
      clear hnd hbl hpg hm hlt
      obtain ⟨kk, hkk⟩ : ∃ kk, kk = keepN a1 := ⟨_, rfl⟩
      rw [← hkk] at HCT
      have HKK := Lib.hid (And.intro hkk (show kk ≤ 32 by rw [hkk]; exact keepN_le _))
      clear hkk
      go_upto_block 2 with fail
      go_cut [11] (fun _ wx => CE K kk base g wb w wx)
      case first =>
        go_wp2_with fail
        go_loopw [11, 12] (fun i _ wx => CR K M kk base g wb w i wx) (fun i _ _ => 24 - (intOf i).toNat)
        case atStart => exact CR.of 0 N1 (by omega) (by omega) rfl (.inl ⟨HCT.out, by omega⟩) HN5.out HB5.out HP5.out
        case round =>
          clear HN5 HB5 HP5 HCT
          obtain ⟨m, N, h16, hKM, rfl, hst, hnd, hbl, hpg⟩ := hrel
          have HPg := Lib.hid (range_blk hpg)
          by_cases hlt : m < K + 1 + M
          · have hI : (m : Int) < (K : Int) + 1 + (M : Int) := by omega
            obtain ⟨d, hd⟩ : ∃ d, d = m % 2 := ⟨_, rfl⟩
            obtain ⟨q, hq⟩ : ∃ q, q = m / 2 := ⟨_, rfl⟩
            have e2 : (m : Int) % 2 = (d : Int) := by omega
            have eq : (m : Int) / 2 = (q : Int) := by omega
            have hd2 : d < 2 := by omega
            have hq8 : q ≤ 8 := by omega
            have HN6 := Lib.hid hnd
            have HB6 := Lib.hid hbl
            have hp_6 := hpg
            clear hnd hbl hpg
            rcases hst with ⟨hct, hmK⟩ | ⟨hcx, hmK⟩
            · have HBD := Lib.hid (show N.ops ≤ 1000000 ∧ N.broken ≤ 1000000 from ⟨by rw [hct.ops]; omega, by rw [hct.broken]; omega⟩)
              have hq7 : ¬ (7 : Int) < (q : Int) := by omega
              by_cases hmk : m < K
              · obtain ⟨pe, ht⟩ := hct.prog hmk hK HKK.out.2 pC_ok.1
                rw [← hd, ← hq] at pe ht
                have HPE := Lib.hid pe
                have HT := Lib.hid ht
                have hmkI : (m : Int) < (K : Int) := by omega
                have dm : decide ((m : Int) < (K : Int)) = true := decide_eq_true hmkI
                clear hct pe ht hd hq
                go_wp2_with (first | (refine want_build 32 _ rfl [(0, .int .i64 _), (1, .int .i64 _), (2, .int .i64 _)] rfl _ (ad_dbp _ _ _) (by rfl) ?_) | (refine wpList_load_mid rfl 34 (.tmp 9) rfl wb 0 rfl (nats .u8 pC) _ HPg.out Tryz.underlying34 rfl (pgInfo pC_ok.1) ?_))
                refine (program_any (show NandIn _ _ _ 0 N from HN6.out) ⟨d, 1, q⟩ (ad_wf (by omega) (by omega) (by omega)) pC pC_ok.1 pC_ok.2 HBD.out.1 HBD.out.2).mono ?_
                rw [HPE.out]
                rintro e w7 ⟨rfl, hn7, hf7⟩
                have HN7 := Lib.hid hn7
                have HB7 := Lib.hid (hf7.below HB6.out HLB.out (Nat.le_refl _))
                have hp_7 := hf7.blk hp_6 rfl
                clear hn7 hf7 HN6 HB6 hp_6
                go_wp2_with fail
                go_roundw
                case rel => exact CR.of (m + 1) _ (by omega) (by omega) (by go_num) (.inl ⟨HT.out, by omega⟩) HN7.out HB7.out hp_7
                case measure => simp [intOf]; omega
              · obtain rfl : m = K := by omega
                obtain ⟨pe, ht⟩ := hct.cut hK HKK.out.2 pC_ok.1
                rw [← hd, ← hq] at pe ht
                have HPE := Lib.hid pe
                have HT := Lib.hid ht
                clear hct pe ht hd hq
                go_wp2_with (first | (refine want_build 32 _ rfl [(0, .int .i64 _), (1, .int .i64 _), (2, .int .i64 _)] rfl _ (ad_dbp _ _ _) (by rfl) ?_) | (refine wpList_load_mid rfl 34 (.tmp 9) rfl wb 0 rfl (nats .u8 pC) _ HPg.out Tryz.underlying34 rfl (pgInfo pC_ok.1) ?_))
                refine (program_any (show NandIn _ _ _ 0 N from HN6.out) ⟨d, 1, q⟩ (ad_wf (by omega) (by omega) (by omega)) pC pC_ok.1 pC_ok.2 HBD.out.1 HBD.out.2).mono ?_
                rw [HPE.out]
                rintro e w7 ⟨rfl, hn7, hf7⟩
                have HN7 := Lib.hid hn7
                have HB7 := Lib.hid (hf7.below HB6.out HLB.out (Nat.le_refl _))
                have hp_7 := hf7.blk hp_6 rfl
                clear hn7 hf7 HN6 HB6 hp_6
                go_wp2_with fail
                go_roundw
                case rel => exact CR.of (m + 1) _ (by omega) (by omega) (by go_num) (.inr ⟨HT.out, by omega⟩) HN7.out HB7.out hp_7
                case measure => simp [intOf]; omega
            · have HBD := Lib.hid (show N.ops ≤ 1000000 ∧ N.broken ≤ 1000000 from ⟨by rw [hcx.ops]; omega, by rw [hcx.broken]; omega⟩)
              obtain ⟨pe, pn⟩ := off_prog hcx.off ⟨d, 1, q⟩ pC
              have HPE := Lib.hid pe
              have HPN := Lib.hid pn
              have HT := Lib.hid hcx
              have hmkI : ¬ (m : Int) < (K : Int) := by omega
              have hmkJ : (K : Int) ≤ (m : Int) := by omega
              clear hcx pe pn hd hq
              by_cases hq7 : q ≤ 7
              · have hq7I : ¬ (7 : Int) < (q : Int) := by omega
                go_wp2_with (first | (refine want_build 32 _ rfl [(0, .int .i64 _), (1, .int .i64 _), (2, .int .i64 _)] rfl _ (ad_dbp _ _ _) (by rfl) ?_) | (refine wpList_load_mid rfl 34 (.tmp 9) rfl wb 0 rfl (nats .u8 pC) _ HPg.out Tryz.underlying34 rfl (pgInfo pC_ok.1) ?_))
                refine (program_any (show NandIn _ _ _ 0 N from HN6.out) ⟨d, 1, q⟩ (ad_wf (by omega) (by omega) (by omega)) pC pC_ok.1 pC_ok.2 HBD.out.1 HBD.out.2).mono ?_
                rw [HPE.out]
                rintro e w7 ⟨rfl, hn7, hf7⟩
                have HN7 := Lib.hid hn7
                have HB7 := Lib.hid (hf7.below HB6.out HLB.out (Nat.le_refl _))
                have hp_7 := hf7.blk hp_6 rfl
                clear hn7 hf7 HN6 HB6 hp_6
                rw [HPN.out] at HN7
                go_wp2_with fail
                go_roundw
                case rel => exact CR.of (m + 1) N (by omega) (by omega) (by go_num) (.inr ⟨HT.out, by omega⟩) HN7.out HB7.out hp_7
                case measure => simp [intOf]; omega
              · have hq7I : (7 : Int) < (q : Int) := by omega
                go_wp2_with (first | (refine want_build 32 _ rfl [(0, .int .i64 _), (1, .int .i64 _), (2, .int .i64 _)] rfl _ (ad_dbp _ _ _) (by rfl) ?_) | (refine wpList_load_mid rfl 34 (.tmp 9) rfl wb 0 rfl (nats .u8 pC) _ HPg.out Tryz.underlying34 rfl (pgInfo pC_ok.1) ?_))
                refine (program_any (show NandIn _ _ _ 0 N from HN6.out) ⟨d, 1, q⟩ (ad_wf (by omega) (by omega) (by omega)) pC pC_ok.1 pC_ok.2 HBD.out.1 HBD.out.2).mono ?_
                rw [HPE.out]
                rintro e w7 ⟨rfl, hn7, hf7⟩
                have HN7 := Lib.hid hn7
                have HB7 := Lib.hid (hf7.below HB6.out HLB.out (Nat.le_refl _))
                have hp_7 := hf7.blk hp_6 rfl
                clear hn7 hf7 HN6 HB6 hp_6
                rw [HPN.out] at HN7
                have HFin := Lib.hid (show CE K kk base g wb w w7 from ⟨N, HT.out, HN7.out, HB7.out, hp_7⟩)
                clear HN7 HB7 hp_7 HPN HPE HT HBD
                go_wp2_with fail
                go_meet
                exact HFin.out
          · have HFin := Lib.hid (show CE K kk base g wb w wr from ⟨N, by rcases hst with ⟨h, h'⟩ | ⟨h, -⟩; (exact absurd h' (by omega)); exact h, hnd, hbl, hpg⟩)
            have hI : ¬ (m : Int) < (K : Int) + 1 + (M : Int) := by omega
            clear hst hnd hbl hpg HPg
            go_wp2_with fail
            go_meet
            exact HFin.out
      case rest =>
        clear HN5 HB5 HP5 HCT
        obtain ⟨N, hcx, hnd, hbl, hpg⟩ := hcut
        obtain ⟨w9, rfl⟩ : ∃ x : World, x = wc := ⟨_, rfl⟩
        have HCX := Lib.hid hcx
        have HN9 := Lib.hid hnd
        have HB9 := Lib.hid hbl
        have hp_9 := hpg
        clear hcx hnd hbl hpg
        go_wp2_with fail
        refine (on_in (show NandIn _ _ _ 0 (N) from HN9.out)).mono ?_
        rintro e w10 ⟨rfl, hn10, hf10⟩
        replace hn10 : NandIn w10 base g (0) (N.on) := by rw [show (N.on) = ((N).on) from rfl]; exact hn10
        have HN10 := Lib.hid hn10
        have HB10 := Lib.hid (hf10.below HB9.out HLB.out (Nat.le_refl _))
        have hp_10 := hf10.blk hp_9 rfl
        clear hn10 hf10 HN9 HB9 hp_9
        have hkb := HKK.out.2
        go_upto_region 22 with fail
        go_cut [13] (fun v wx => v = .int .i64 (kk : Int) ∧ wx = w10)
        case first =>
          have HK1 := Lib.hid (show max 0 (min a1 32) = (kk : Int) by rw [HKK.out.1]; unfold keepN; omega)
          go_wp2_with fail
          go_meet
          exact ⟨by rw [← HK1.out], rfl⟩
        case rest =>
          obtain ⟨rfl, rfl⟩ := hcut
          obtain ⟨w10, rfl⟩ : ∃ x : World, x = wc := ⟨_, rfl⟩
          obtain ⟨d, hd⟩ : ∃ d, d = K % 2 := ⟨_, rfl⟩
          obtain ⟨q, hq⟩ : ∃ q, q = K / 2 := ⟨_, rfl⟩
          have hrd := HCX.out.read hK
          rw [← hd, ← hq] at hrd
          have e2 : (K : Int) % 2 = (d : Int) := by omega
          have eq : (K : Int) / 2 = (q : Int) := by omega
          obtain ⟨d3, hd3⟩ : ∃ d, d = (K + 1) % 2 := ⟨_, rfl⟩
          obtain ⟨q3, hq3⟩ : ∃ q, q = (K + 1) / 2 := ⟨_, rfl⟩
          have hln := HCX.out.len
          rw [← hd3, ← hq3] at hln
          have e3 : ((K : Int) + 1) % 2 = (d3 : Int) := by omega
          have eq3 : ((K : Int) + 1) / 2 = (q3 : Int) := by omega
          have hd2 : d < 2 := by omega
          have hq8 : q ≤ 6 := by omega
          have hd32 : d3 < 2 := by omega
          have HRD := Lib.hid hrd
          have HLN := Lib.hid hln
          have HGE := Lib.hid (show (N.on).D = 3 ∧ (N.on).B = 8 from ⟨HCX.out.fine.geo.1, HCX.out.fine.geo.2.1⟩)
          have HOP := Lib.hid (show (((N.on).ops : Nat) : Int) = (K : Int) + 1 by rw [show (N.on).ops = N.ops from rfl, HCX.out.ops]; omega)
          have HXL := Lib.hid (show (tornTo pC kk 32).length = 32 from tornTo_length pC_ok.1 (by omega) (by omega))
          have HXA := Lib.hid (show ∀ i, i < kk → (tornTo pC kk 32)[i]? = pC[i]? from fun i hi => torn_low pC_ok.1 hkb hi)
          have HXB := Lib.hid (show ∀ i, kk ≤ i → i < 32 → (tornTo pC kk 32)[i]? = some 255 from fun i h1 h2 => torn_high pC_ok.1 h1 h2)
          generalize tornTo pC kk 32 = X at *
          clear hd hq hrd hd3 hq3 hln HCX
          go_wp2_with (first | (refine want_build 32 _ rfl [(0, .int .i64 _), (1, .int .i64 _), (2, .int .i64 _)] rfl _ (ad_dbp _ _ _) (by rfl) ?_))
          refine (read_in (show NandIn _ _ _ 0 (N.on) from HN10.out) ⟨d, 1, q⟩ (ad_wf (by omega) (by omega) (by omega))).mono ?_
          rw [HRD.out.1, HRD.out.2]
          rintro e w11 ⟨rfl, hb11⟩
          have HN11 := Lib.hid (HN10.out.below hb11)
          have HB11 := Lib.hid (HB10.out.trans (hb11.mono HB10.out.size))
          have hp_11 := blk_below hp_10 hb11
          clear hb11 HN10 HB10 hp_10
          go_wp2_with (first | (refine wpList_put_row rfl 34 (.tmp 14) (.tmp 97) rfl _ (nats .u8 X) rfl rfl 34 _ (heap_new' _ _ _ rfl) (pgInfo HXL.out) (by rw [nats_length, HXL.out]; rfl) (one_nats _ _) ?_; intro w12 hU12; have h12 := hU12.at_; have hb12 := hU12.below (alloc_low _ _) (Nat.le_refl _); clear hU12))
          have HN12 := Lib.hid (HN11.out.below hb12)
          have HB12 := Lib.hid (HB11.out.trans (hb12.mono HB11.out.size))
          have hp_12 := blk_below hp_11 hb12
          clear hb12 HN11 HB11 hp_11
          obtain ⟨xb, hxb⟩ : ∃ x, x = w11.heap.size := ⟨_, rfl⟩
          rw [← hxb] at h12 ⊢
          clear hxb
          refine (ops_in (show NandIn _ _ _ 0 (N.on) from HN12.out)).mono ?_
          rw [HOP.out]
          rintro e wq ⟨rfl, rfl⟩
          have hx_12 := h12
          clear h12 HOP HRD
          go_wp2_with fail
          go_loopw [16, 108] (fun _ i wr => ∃ m : Nat, m ≤ 32 ∧ i = .int .i64 m ∧ NandIn wr base g 0 N.on ∧ Below w.heap.size w wr ∧ wr.heap[wb]? = some (.cells (nats .u8 pC).toArray 34 (0, 0)) ∧ wr.heap[xb]? = some (.cells (nats .u8 X).toArray 34 (0, 0))) (fun _ i _ => 32 - (intOf i).toNat)
          case atStart => exact ⟨0, by omega, rfl, HN12.out, HB12.out, hp_12, hx_12⟩
          case round =>
            clear HN12 HB12 hp_12 hx_12
            obtain ⟨m, hm, rfl, hnd, hbl, hpg, hxg⟩ := hrel
            by_cases hlt : m < 32
            · have hI : (m : Int) < 32 := by omega
              have HNm := Lib.hid hnd
              have HBm := Lib.hid hbl
              have HPm := Lib.hid hpg
              have HXm := Lib.hid hxg
              by_cases hmk : m < kk
              · have HMK := Lib.hid (show decide (m < kk) = true ∧ decide ((m : Int) < (kk : Int)) = true ∧ decide (kk ≤ m) = false ∧ decide ((kk : Int) ≤ (m : Int)) = false from ⟨by simpa using hmk, by simpa using hmk, by simp; omega, by simp; omega⟩)
                obtain ⟨z, hz⟩ : ∃ z, pC[m]? = some z := ⟨_, List.getElem?_eq_getElem (by rw [pC_ok.1]; exact hlt)⟩
                have hzx := HXA.out m hmk
                rw [hz] at hzx
                have hcp : wr.cell? ⟨wb, m, none⟩ = some (.int .u8 (z : Int)) := by rw [blk_cell hpg, List.getElem?_toArray, nats, List.getElem?_map, hz]; rfl
                have hcx : wr.cell? ⟨xb, m, none⟩ = some (.int .u8 (z : Int)) := by rw [blk_cell hxg, List.getElem?_toArray, nats, List.getElem?_map, hzx]; rfl
                clear hz hzx hnd hbl hpg hxg hmk
                go_upto_region 29 with fail
                refine wp_region_puts_g (by kernel_rfl) (by kernel_rfl) (X := Unit) (fun _ => [(some 111, .int .i64 (m : Int)), (some 112, .int .i64 (kk : Int)), (some 113, .bool true), (some 114, .bool true), (some 115, .int .i64 (m : Int)), (some 116, .pointer (some ⟨xb, m, none⟩)), (some 117, .int .u8 (z : Int)), (some 118, .int .i64 (m : Int)), (some 119, .pointer (some ⟨wb, m, none⟩)), (some 120, .int .u8 (z : Int)), (some 121, .bool false), (some 122, .bool false), (some 123, .bool false), (some 124, .int .i64 (m : Int)), (some 125, .int .i64 (kk : Int)), (some 126, .bool false), (some 127, .bool false), (some 128, undef), (some 129, undef), (some 130, undef), (some 131, undef), (some 132, .bool false), (some 133, .bool false)])
                  (fun _ L w' => w'.cell? ⟨xb, m, none⟩ = some (.int .u8 (z : Int)) ∧ w'.cell? ⟨wb, m, none⟩ = some (.int .u8 (z : Int)) ∧ Below wr.heap.size wr w') (fun _ => rfl) (by kernel_rfl) ⟨(), fun _ _ => ⟨hcx, hcp, (Below.refl _ wr).drew⟩⟩ ?_ ?_
                · refine ⟨?_, ?_, ?_, ?_, ?_, ?_, ?_, ?_, ?_, ?_, ?_, ?_, ?_, ?_, ?_, ?_, ?_, ?_, ?_, ?_, ?_, ?_, ?_, trivial⟩
                  · intro _ L w' hL hpre hJ a ha
                    obtain ⟨jx, jp, jb⟩ := hJ
                    simp [Region.binds] at hpre
                    refine .inl ⟨wanted_none rfl, ?_⟩
                    exact wp_move' (.tmp 16) (.inl rfl) (.int .i64 (m : Int)) (by rw [ha, eval_puts_out rfl]; rfl) ⟨(), _, rfl, rfl, jx, jp, jb⟩
                  · intro _ L w' hL hpre hJ a ha
                    obtain ⟨jx, jp, jb⟩ := hJ
                    simp [Region.binds] at hpre
                    refine .inl ⟨wanted_none rfl, ?_⟩
                    exact wp_move' (.tmp 13) (.inl rfl) (.int .i64 (kk : Int)) (by rw [ha, eval_puts_out rfl]; rfl) ⟨(), _, rfl, rfl, jx, jp, jb⟩
                  · intro _ L w' hL hpre hJ a ha
                    obtain ⟨jx, jp, jb⟩ := hJ
                    simp [Region.binds] at hpre
                    refine .inl ⟨wanted_none rfl, ?_⟩
                    have e111 : a.eval (.tmp 111) = .int .i64 (m : Int) := by rw [ha]; exact eval_puts_in (i := 0) rfl (by simp [hpre]) (by simp) rfl
                    have e112 : a.eval (.tmp 112) = .int .i64 (kk : Int) := by rw [ha]; exact eval_puts_in (i := 1) rfl (by simp [hpre]) (by simp) rfl
                    clear ha
                    obtain ⟨hq1, hq2, -, -⟩ := HMK.out
                    have jx' := Lib.hid jx
                    have jp' := Lib.hid jp
                    have jb' := Lib.hid jb
                    clear jx jp jb
                    refine wp_intro fun K HK => ?_
                    unfold Oper.wp
                    simp only [execOp, e111, e112]
                    go_simp
                    exact HK.out _ _ ⟨(), _, rfl, rfl, jx'.out, jp'.out, jb'.out⟩
                  · intro _ L w' hL hpre hJ a ha
                    obtain ⟨jx, jp, jb⟩ := hJ
                    simp [Region.binds] at hpre
                    refine .inl ⟨wanted_none rfl, ?_⟩
                    exact wp_move' (.tmp 113) (.inl rfl) (.bool true) (by rw [ha]; exact eval_puts_in (i := 2) rfl (by simp [hpre]) (by simp) rfl) ⟨(), _, rfl, rfl, jx, jp, jb⟩
                  · intro _ L w' hL hpre hJ a ha
                    obtain ⟨jx, jp, jb⟩ := hJ
                    simp [Region.binds] at hpre
                    refine .inl ⟨wanted_yes (g := 3) (t := 114) (b := true) rfl rfl (by rw [ha]; exact eval_puts_in (i := 3) rfl (by simp [hpre]) (by simp) rfl), ?_⟩
                    exact wp_move' (.tmp 16) (.inl rfl) (.int .i64 (m : Int)) (by rw [ha, eval_puts_out rfl]; rfl) ⟨(), _, rfl, rfl, jx, jp, jb⟩
                  · intro _ L w' hL hpre hJ a ha
                    obtain ⟨jx, jp, jb⟩ := hJ
                    simp [Region.binds] at hpre
                    refine .inl ⟨wanted_yes (g := 3) (t := 114) (b := true) rfl rfl (by rw [ha]; exact eval_puts_in (i := 3) rfl (by simp [hpre]) (by simp) rfl), ?_⟩
                    have e14 : a.eval (.tmp 14) = .pointer (some ⟨xb, 0, none⟩) := by rw [ha, eval_puts_out rfl]; rfl
                    have e115 : a.eval (.tmp 115) = .int .i64 (m : Int) := by rw [ha]; exact eval_puts_in (i := 4) rfl (by simp [hpre]) (by simp) rfl
                    clear ha
                    have jx' := Lib.hid jx
                    have jp' := Lib.hid jp
                    have jb' := Lib.hid jb
                    clear jx jp jb
                    refine wp_intro fun K HK => ?_
                    unfold Oper.wp
                    simp only [execOp, e14, e115]
                    go_simp
                    exact HK.out _ _ ⟨(), _, rfl, rfl, jx'.out, jp'.out, jb'.out⟩
                  · intro _ L w' hL hpre hJ a ha
                    obtain ⟨jx, jp, jb⟩ := hJ
                    simp [Region.binds] at hpre
                    refine .inl ⟨wanted_yes (g := 3) (t := 114) (b := true) rfl rfl (by rw [ha]; exact eval_puts_in (i := 3) rfl (by simp [hpre]) (by simp) rfl), ?_⟩
                    have e116 : a.eval (.tmp 116) = .pointer (some ⟨xb, m, none⟩) := by rw [ha]; exact eval_puts_in (i := 5) rfl (by simp [hpre]) (by simp) rfl
                    clear ha
                    have jc := jx
                    have jx' := Lib.hid jx
                    have jp' := Lib.hid jp
                    have jb' := Lib.hid jb
                    clear jx jp jb
                    refine wp_intro fun K HK => ?_
                    unfold Oper.wp
                    simp only [execOp, e116]
                    go_simp
                    exact HK.out _ _ ⟨(), _, rfl, rfl, jx'.out, jp'.out, jb'.out⟩
                  · intro _ L w' hL hpre hJ a ha
                    obtain ⟨jx, jp, jb⟩ := hJ
                    simp [Region.binds] at hpre
                    refine .inl ⟨wanted_yes (g := 3) (t := 114) (b := true) rfl rfl (by rw [ha]; exact eval_puts_in (i := 3) rfl (by simp [hpre]) (by simp) rfl), ?_⟩
                    exact wp_move' (.tmp 16) (.inl rfl) (.int .i64 (m : Int)) (by rw [ha, eval_puts_out rfl]; rfl) ⟨(), _, rfl, rfl, jx, jp, jb⟩
                  · intro _ L w' hL hpre hJ a ha
                    obtain ⟨jx, jp, jb⟩ := hJ
                    simp [Region.binds] at hpre
                    refine .inl ⟨wanted_yes (g := 3) (t := 114) (b := true) rfl rfl (by rw [ha]; exact eval_puts_in (i := 3) rfl (by simp [hpre]) (by simp) rfl), ?_⟩
                    have e9 : a.eval (.tmp 9) = .pointer (some ⟨wb, 0, none⟩) := by rw [ha, eval_puts_out rfl]; rfl
                    have e118 : a.eval (.tmp 118) = .int .i64 (m : Int) := by rw [ha]; exact eval_puts_in (i := 7) rfl (by simp [hpre]) (by simp) rfl
                    clear ha
                    have jx' := Lib.hid jx
                    have jp' := Lib.hid jp
                    have jb' := Lib.hid jb
                    clear jx jp jb
                    refine wp_intro fun K HK => ?_
                    unfold Oper.wp
                    simp only [execOp, e9, e118]
                    go_simp
                    exact HK.out _ _ ⟨(), _, rfl, rfl, jx'.out, jp'.out, jb'.out⟩
                  · intro _ L w' hL hpre hJ a ha
                    obtain ⟨jx, jp, jb⟩ := hJ
                    simp [Region.binds] at hpre
                    refine .inl ⟨wanted_yes (g := 3) (t := 114) (b := true) rfl rfl (by rw [ha]; exact eval_puts_in (i := 3) rfl (by simp [hpre]) (by simp) rfl), ?_⟩
                    have e119 : a.eval (.tmp 119) = .pointer (some ⟨wb, m, none⟩) := by rw [ha]; exact eval_puts_in (i := 8) rfl (by simp [hpre]) (by simp) rfl
                    clear ha
                    have jc := jp
                    have jx' := Lib.hid jx
                    have jp' := Lib.hid jp
                    have jb' := Lib.hid jb
                    clear jx jp jb
                    refine wp_intro fun K HK => ?_
                    unfold Oper.wp
                    simp only [execOp, e119]
                    go_simp
                    exact HK.out _ _ ⟨(), _, rfl, rfl, jx'.out, jp'.out, jb'.out⟩
                  · intro _ L w' hL hpre hJ a ha
                    obtain ⟨jx, jp, jb⟩ := hJ
                    simp [Region.binds] at hpre
                    refine .inl ⟨wanted_yes (g := 3) (t := 114) (b := true) rfl rfl (by rw [ha]; exact eval_puts_in (i := 3) rfl (by simp [hpre]) (by simp) rfl), ?_⟩
                    have e117 : a.eval (.tmp 117) = .int .u8 (z : Int) := by rw [ha]; exact eval_puts_in (i := 6) rfl (by simp [hpre]) (by simp) rfl
                    have e120 : a.eval (.tmp 120) = .int .u8 (z : Int) := by rw [ha]; exact eval_puts_in (i := 9) rfl (by simp [hpre]) (by simp) rfl
                    clear ha
                    have jx' := Lib.hid jx
                    have jp' := Lib.hid jp
                    have jb' := Lib.hid jb
                    clear jx jp jb
                    refine wp_intro fun K HK => ?_
                    unfold Oper.wp
                    simp only [execOp, e117, e120]
                    go_simp
                    exact HK.out _ _ ⟨(), _, rfl, rfl, jx'.out, jp'.out, jb'.out⟩
                  · intro _ L w' hL hpre hJ a ha
                    obtain ⟨jx, jp, jb⟩ := hJ
                    simp [Region.binds] at hpre
                    refine .inl ⟨wanted_none rfl, ?_⟩
                    have e114 : a.eval (.tmp 114) = .bool true := by rw [ha]; exact eval_puts_in (i := 3) rfl (by simp [hpre]) (by simp) rfl
                    have e121 : a.eval (.tmp 121) = .bool false := by rw [ha]; exact eval_puts_in (i := 10) rfl (by simp [hpre]) (by simp) rfl
                    clear ha
                    have jx' := Lib.hid jx
                    have jp' := Lib.hid jp
                    have jb' := Lib.hid jb
                    clear jx jp jb
                    refine wp_intro fun K HK => ?_
                    unfold Oper.wp
                    simp only [execOp, e114, e121]
                    go_simp
                    exact HK.out _ _ ⟨(), _, rfl, rfl, jx'.out, jp'.out, jb'.out⟩
                  · intro _ L w' hL hpre hJ a ha
                    obtain ⟨jx, jp, jb⟩ := hJ
                    simp [Region.binds] at hpre
                    refine .inl ⟨wanted_none rfl, ?_⟩
                    exact wp_move' (.tmp 122) (.inl rfl) (.bool false) (by rw [ha]; exact eval_puts_in (i := 11) rfl (by simp [hpre]) (by simp) rfl) ⟨(), _, rfl, rfl, jx, jp, jb⟩
                  · intro _ L w' hL hpre hJ a ha
                    obtain ⟨jx, jp, jb⟩ := hJ
                    simp [Region.binds] at hpre
                    refine .inl ⟨wanted_yes (g := 12) (t := 123) (b := false) rfl rfl (by rw [ha]; exact eval_puts_in (i := 12) rfl (by simp [hpre]) (by simp) rfl), ?_⟩
                    exact wp_move' (.tmp 16) (.inl rfl) (.int .i64 (m : Int)) (by rw [ha, eval_puts_out rfl]; rfl) ⟨(), _, rfl, rfl, jx, jp, jb⟩
                  · intro _ L w' hL hpre hJ a ha
                    obtain ⟨jx, jp, jb⟩ := hJ
                    simp [Region.binds] at hpre
                    refine .inl ⟨wanted_yes (g := 12) (t := 123) (b := false) rfl rfl (by rw [ha]; exact eval_puts_in (i := 12) rfl (by simp [hpre]) (by simp) rfl), ?_⟩
                    exact wp_move' (.tmp 13) (.inl rfl) (.int .i64 (kk : Int)) (by rw [ha, eval_puts_out rfl]; rfl) ⟨(), _, rfl, rfl, jx, jp, jb⟩
                  · intro _ L w' hL hpre hJ a ha
                    obtain ⟨jx, jp, jb⟩ := hJ
                    simp [Region.binds] at hpre
                    refine .inl ⟨wanted_yes (g := 12) (t := 123) (b := false) rfl rfl (by rw [ha]; exact eval_puts_in (i := 12) rfl (by simp [hpre]) (by simp) rfl), ?_⟩
                    have e124 : a.eval (.tmp 124) = .int .i64 (m : Int) := by rw [ha]; exact eval_puts_in (i := 13) rfl (by simp [hpre]) (by simp) rfl
                    have e125 : a.eval (.tmp 125) = .int .i64 (kk : Int) := by rw [ha]; exact eval_puts_in (i := 14) rfl (by simp [hpre]) (by simp) rfl
                    clear ha
                    obtain ⟨-, -, hq1, hq2⟩ := HMK.out
                    have jx' := Lib.hid jx
                    have jp' := Lib.hid jp
                    have jb' := Lib.hid jb
                    clear jx jp jb
                    refine wp_intro fun K HK => ?_
                    unfold Oper.wp
                    simp only [execOp, e124, e125]
                    go_simp
                    exact HK.out _ _ ⟨(), _, rfl, rfl, jx'.out, jp'.out, jb'.out⟩
                  · intro _ L w' hL hpre hJ a ha
                    obtain ⟨jx, jp, jb⟩ := hJ
                    simp [Region.binds] at hpre
                    refine .inl ⟨wanted_yes (g := 12) (t := 123) (b := false) rfl rfl (by rw [ha]; exact eval_puts_in (i := 12) rfl (by simp [hpre]) (by simp) rfl), ?_⟩
                    exact wp_move' (.tmp 126) (.inl rfl) (.bool false) (by rw [ha]; exact eval_puts_in (i := 15) rfl (by simp [hpre]) (by simp) rfl) ⟨(), _, rfl, rfl, jx, jp, jb⟩
                  · intro _ L w' hL hpre hJ a ha
                    obtain ⟨jx, jp, jb⟩ := hJ
                    simp [Region.binds] at hpre
                    exact .inr ⟨wanted_no (g := 16) (t := 127) (b := true) rfl rfl (by rw [ha]; exact eval_puts_in (i := 16) rfl (by simp [hpre]) (by simp) rfl), (), rfl, jx, jp, jb⟩
                  · intro _ L w' hL hpre hJ a ha
                    obtain ⟨jx, jp, jb⟩ := hJ
                    simp [Region.binds] at hpre
                    exact .inr ⟨wanted_no (g := 16) (t := 127) (b := true) rfl rfl (by rw [ha]; exact eval_puts_in (i := 16) rfl (by simp [hpre]) (by simp) rfl), (), rfl, jx, jp, jb⟩
                  · intro _ L w' hL hpre hJ a ha
                    obtain ⟨jx, jp, jb⟩ := hJ
                    simp [Region.binds] at hpre
                    exact .inr ⟨wanted_no (g := 16) (t := 127) (b := true) rfl rfl (by rw [ha]; exact eval_puts_in (i := 16) rfl (by simp [hpre]) (by simp) rfl), (), rfl, jx, jp, jb⟩
                  · intro _ L w' hL hpre hJ a ha
                    obtain ⟨jx, jp, jb⟩ := hJ
                    simp [Region.binds] at hpre
                    exact .inr ⟨wanted_no (g := 16) (t := 127) (b := true) rfl rfl (by rw [ha]; exact eval_puts_in (i := 16) rfl (by simp [hpre]) (by simp) rfl), (), rfl, jx, jp, jb⟩
                  · intro _ L w' hL hpre hJ a ha
                    obtain ⟨jx, jp, jb⟩ := hJ
                    simp [Region.binds] at hpre
                    refine .inl ⟨wanted_yes (g := 12) (t := 123) (b := false) rfl rfl (by rw [ha]; exact eval_puts_in (i := 12) rfl (by simp [hpre]) (by simp) rfl), ?_⟩
                    have e127 : a.eval (.tmp 127) = .bool false := by rw [ha]; exact eval_puts_in (i := 16) rfl (by simp [hpre]) (by simp) rfl
                    clear ha
                    have jx' := Lib.hid jx
                    have jp' := Lib.hid jp
                    have jb' := Lib.hid jb
                    clear jx jp jb
                    refine wp_intro fun K HK => ?_
                    unfold Oper.wp
                    simp only [execOp, e127]
                    go_simp
                    exact HK.out _ _ ⟨(), _, rfl, rfl, jx'.out, jp'.out, jb'.out⟩
                  · intro _ L w' hL hpre hJ a ha
                    obtain ⟨jx, jp, jb⟩ := hJ
                    simp [Region.binds] at hpre
                    refine .inl ⟨wanted_none rfl, ?_⟩
                    have e123 : a.eval (.tmp 123) = .bool false := by rw [ha]; exact eval_puts_in (i := 12) rfl (by simp [hpre]) (by simp) rfl
                    have e132 : a.eval (.tmp 132) = .bool false := by rw [ha]; exact eval_puts_in (i := 21) rfl (by simp [hpre]) (by simp) rfl
                    clear ha
                    have jx' := Lib.hid jx
                    have jp' := Lib.hid jp
                    have jb' := Lib.hid jb
                    clear jx jp jb
                    refine wp_intro fun K HK => ?_
                    unfold Oper.wp
                    simp only [execOp, e123, e132]
                    go_simp
                    exact HK.out _ _ ⟨(), _, rfl, rfl, jx'.out, jp'.out, jb'.out⟩
                · intro _ L w' hL hJ
                  obtain ⟨jx, jp, jb⟩ := hJ
                  clear hL
                  simp only [List.foldl_cons, List.foldl_nil]
                  have HBx := Lib.hid jb
                  clear jx jp jb
                  go_simp
                  go_wp2_with fail
                  go_roundw
                  case rel => exact ⟨m + 1, by omega, by go_num, HNm.out.below HBx.out, HBm.out.trans (HBx.out.mono HBm.out.size), blk_below HPm.out HBx.out, blk_below HXm.out HBx.out⟩
                  case measure => simp [intOf]; omega
              · have HMK := Lib.hid (show decide (m < kk) = false ∧ decide ((m : Int) < (kk : Int)) = false ∧ decide (kk ≤ m) = true ∧ decide ((kk : Int) ≤ (m : Int)) = true from ⟨by simp; omega, by simp; omega, by simp; omega, by simp; omega⟩)
                have hzx := HXB.out m (by omega) hlt
                have hcx : wr.cell? ⟨xb, m, none⟩ = some (.int .u8 255) := by rw [blk_cell hxg, List.getElem?_toArray, nats, List.getElem?_map, hzx]; rfl
                clear hzx hnd hbl hpg hxg hmk
                go_upto_region 29 with fail
                refine wp_region_puts_g (by kernel_rfl) (by kernel_rfl) (X := Unit) (fun _ => [(some 111, .int .i64 (m : Int)), (some 112, .int .i64 (kk : Int)), (some 113, .bool false), (some 114, .bool false), (some 115, undef), (some 116, undef), (some 117, undef), (some 118, undef), (some 119, undef), (some 120, undef), (some 121, undef), (some 122, .bool false), (some 123, .bool false), (some 124, .int .i64 (m : Int)), (some 125, .int .i64 (kk : Int)), (some 126, .bool true), (some 127, .bool true), (some 128, .int .i64 (m : Int)), (some 129, .pointer (some ⟨xb, m, none⟩)), (some 130, .int .u8 255), (some 131, .bool false), (some 132, .bool false), (some 133, .bool false)])
                  (fun _ L w' => w'.cell? ⟨xb, m, none⟩ = some (.int .u8 255) ∧ Below wr.heap.size wr w') (fun _ => rfl) (by kernel_rfl) ⟨(), fun _ _ => ⟨hcx, (Below.refl _ wr).drew⟩⟩ ?_ ?_
                · refine ⟨?_, ?_, ?_, ?_, ?_, ?_, ?_, ?_, ?_, ?_, ?_, ?_, ?_, ?_, ?_, ?_, ?_, ?_, ?_, ?_, ?_, ?_, ?_, trivial⟩
                  · intro _ L w' hL hpre hJ a ha
                    obtain ⟨jx, jb⟩ := hJ
                    simp [Region.binds] at hpre
                    refine .inl ⟨wanted_none rfl, ?_⟩
                    exact wp_move' (.tmp 16) (.inl rfl) (.int .i64 (m : Int)) (by rw [ha, eval_puts_out rfl]; rfl) ⟨(), _, rfl, rfl, jx, jb⟩
                  · intro _ L w' hL hpre hJ a ha
                    obtain ⟨jx, jb⟩ := hJ
                    simp [Region.binds] at hpre
                    refine .inl ⟨wanted_none rfl, ?_⟩
                    exact wp_move' (.tmp 13) (.inl rfl) (.int .i64 (kk : Int)) (by rw [ha, eval_puts_out rfl]; rfl) ⟨(), _, rfl, rfl, jx, jb⟩
                  · intro _ L w' hL hpre hJ a ha
                    obtain ⟨jx, jb⟩ := hJ
                    simp [Region.binds] at hpre
                    refine .inl ⟨wanted_none rfl, ?_⟩
                    have e111 : a.eval (.tmp 111) = .int .i64 (m : Int) := by rw [ha]; exact eval_puts_in (i := 0) rfl (by simp [hpre]) (by simp) rfl
                    have e112 : a.eval (.tmp 112) = .int .i64 (kk : Int) := by rw [ha]; exact eval_puts_in (i := 1) rfl (by simp [hpre]) (by simp) rfl
                    clear ha
                    obtain ⟨hq1, hq2, -, -⟩ := HMK.out
                    have jx' := Lib.hid jx
                    have jb' := Lib.hid jb
                    clear jx jb
                    refine wp_intro fun K HK => ?_
                    unfold Oper.wp
                    simp only [execOp, e111, e112]
                    go_simp
                    exact HK.out _ _ ⟨(), _, rfl, rfl, jx'.out, jb'.out⟩
                  · intro _ L w' hL hpre hJ a ha
                    obtain ⟨jx, jb⟩ := hJ
                    simp [Region.binds] at hpre
                    refine .inl ⟨wanted_none rfl, ?_⟩
                    exact wp_move' (.tmp 113) (.inl rfl) (.bool false) (by rw [ha]; exact eval_puts_in (i := 2) rfl (by simp [hpre]) (by simp) rfl) ⟨(), _, rfl, rfl, jx, jb⟩
                  · intro _ L w' hL hpre hJ a ha
                    obtain ⟨jx, jb⟩ := hJ
                    simp [Region.binds] at hpre
                    exact .inr ⟨wanted_no (g := 3) (t := 114) (b := true) rfl rfl (by rw [ha]; exact eval_puts_in (i := 3) rfl (by simp [hpre]) (by simp) rfl), (), rfl, jx, jb⟩
                  · intro _ L w' hL hpre hJ a ha
                    obtain ⟨jx, jb⟩ := hJ
                    simp [Region.binds] at hpre
                    exact .inr ⟨wanted_no (g := 3) (t := 114) (b := true) rfl rfl (by rw [ha]; exact eval_puts_in (i := 3) rfl (by simp [hpre]) (by simp) rfl), (), rfl, jx, jb⟩
                  · intro _ L w' hL hpre hJ a ha
                    obtain ⟨jx, jb⟩ := hJ
                    simp [Region.binds] at hpre
                    exact .inr ⟨wanted_no (g := 3) (t := 114) (b := true) rfl rfl (by rw [ha]; exact eval_puts_in (i := 3) rfl (by simp [hpre]) (by simp) rfl), (), rfl, jx, jb⟩
                  · intro _ L w' hL hpre hJ a ha
                    obtain ⟨jx, jb⟩ := hJ
                    simp [Region.binds] at hpre
                    exact .inr ⟨wanted_no (g := 3) (t := 114) (b := true) rfl rfl (by rw [ha]; exact eval_puts_in (i := 3) rfl (by simp [hpre]) (by simp) rfl), (), rfl, jx, jb⟩
                  · intro _ L w' hL hpre hJ a ha
                    obtain ⟨jx, jb⟩ := hJ
                    simp [Region.binds] at hpre
                    exact .inr ⟨wanted_no (g := 3) (t := 114) (b := true) rfl rfl (by rw [ha]; exact eval_puts_in (i := 3) rfl (by simp [hpre]) (by simp) rfl), (), rfl, jx, jb⟩
                  · intro _ L w' hL hpre hJ a ha
                    obtain ⟨jx, jb⟩ := hJ
                    simp [Region.binds] at hpre
                    exact .inr ⟨wanted_no (g := 3) (t := 114) (b := true) rfl rfl (by rw [ha]; exact eval_puts_in (i := 3) rfl (by simp [hpre]) (by simp) rfl), (), rfl, jx, jb⟩
                  · intro _ L w' hL hpre hJ a ha
                    obtain ⟨jx, jb⟩ := hJ
                    simp [Region.binds] at hpre
                    exact .inr ⟨wanted_no (g := 3) (t := 114) (b := true) rfl rfl (by rw [ha]; exact eval_puts_in (i := 3) rfl (by simp [hpre]) (by simp) rfl), (), rfl, jx, jb⟩
                  · intro _ L w' hL hpre hJ a ha
                    obtain ⟨jx, jb⟩ := hJ
                    simp [Region.binds] at hpre
                    refine .inl ⟨wanted_none rfl, ?_⟩
                    have e114 : a.eval (.tmp 114) = .bool false := by rw [ha]; exact eval_puts_in (i := 3) rfl (by simp [hpre]) (by simp) rfl
                    clear ha
                    have jx' := Lib.hid jx
                    have jb' := Lib.hid jb
                    clear jx jb
                    refine wp_intro fun K HK => ?_
                    unfold Oper.wp
                    simp only [execOp, e114]
                    go_simp
                    exact HK.out _ _ ⟨(), _, rfl, rfl, jx'.out, jb'.out⟩
                  · intro _ L w' hL hpre hJ a ha
                    obtain ⟨jx, jb⟩ := hJ
                    simp [Region.binds] at hpre
                    refine .inl ⟨wanted_none rfl, ?_⟩
                    exact wp_move' (.tmp 122) (.inl rfl) (.bool false) (by rw [ha]; exact eval_puts_in (i := 11) rfl (by simp [hpre]) (by simp) rfl) ⟨(), _, rfl, rfl, jx, jb⟩
                  · intro _ L w' hL hpre hJ a ha
                    obtain ⟨jx, jb⟩ := hJ
                    simp [Region.binds] at hpre
                    refine .inl ⟨wanted_yes (g := 12) (t := 123) (b := false) rfl rfl (by rw [ha]; exact eval_puts_in (i := 12) rfl (by simp [hpre]) (by simp) rfl), ?_⟩
                    exact wp_move' (.tmp 16) (.inl rfl) (.int .i64 (m : Int)) (by rw [ha, eval_puts_out rfl]; rfl) ⟨(), _, rfl, rfl, jx, jb⟩
                  · intro _ L w' hL hpre hJ a ha
                    obtain ⟨jx, jb⟩ := hJ
                    simp [Region.binds] at hpre
                    refine .inl ⟨wanted_yes (g := 12) (t := 123) (b := false) rfl rfl (by rw [ha]; exact eval_puts_in (i := 12) rfl (by simp [hpre]) (by simp) rfl), ?_⟩
                    exact wp_move' (.tmp 13) (.inl rfl) (.int .i64 (kk : Int)) (by rw [ha, eval_puts_out rfl]; rfl) ⟨(), _, rfl, rfl, jx, jb⟩
                  · intro _ L w' hL hpre hJ a ha
                    obtain ⟨jx, jb⟩ := hJ
                    simp [Region.binds] at hpre
                    refine .inl ⟨wanted_yes (g := 12) (t := 123) (b := false) rfl rfl (by rw [ha]; exact eval_puts_in (i := 12) rfl (by simp [hpre]) (by simp) rfl), ?_⟩
                    have e124 : a.eval (.tmp 124) = .int .i64 (m : Int) := by rw [ha]; exact eval_puts_in (i := 13) rfl (by simp [hpre]) (by simp) rfl
                    have e125 : a.eval (.tmp 125) = .int .i64 (kk : Int) := by rw [ha]; exact eval_puts_in (i := 14) rfl (by simp [hpre]) (by simp) rfl
                    clear ha
                    obtain ⟨-, -, hq1, hq2⟩ := HMK.out
                    have jx' := Lib.hid jx
                    have jb' := Lib.hid jb
                    clear jx jb
                    refine wp_intro fun K HK => ?_
                    unfold Oper.wp
                    simp only [execOp, e124, e125]
                    go_simp
                    exact HK.out _ _ ⟨(), _, rfl, rfl, jx'.out, jb'.out⟩
                  · intro _ L w' hL hpre hJ a ha
                    obtain ⟨jx, jb⟩ := hJ
                    simp [Region.binds] at hpre
                    refine .inl ⟨wanted_yes (g := 12) (t := 123) (b := false) rfl rfl (by rw [ha]; exact eval_puts_in (i := 12) rfl (by simp [hpre]) (by simp) rfl), ?_⟩
                    exact wp_move' (.tmp 126) (.inl rfl) (.bool true) (by rw [ha]; exact eval_puts_in (i := 15) rfl (by simp [hpre]) (by simp) rfl) ⟨(), _, rfl, rfl, jx, jb⟩
                  · intro _ L w' hL hpre hJ a ha
                    obtain ⟨jx, jb⟩ := hJ
                    simp [Region.binds] at hpre
                    refine .inl ⟨wanted_yes (g := 16) (t := 127) (b := true) rfl rfl (by rw [ha]; exact eval_puts_in (i := 16) rfl (by simp [hpre]) (by simp) rfl), ?_⟩
                    exact wp_move' (.tmp 16) (.inl rfl) (.int .i64 (m : Int)) (by rw [ha, eval_puts_out rfl]; rfl) ⟨(), _, rfl, rfl, jx, jb⟩
                  · intro _ L w' hL hpre hJ a ha
                    obtain ⟨jx, jb⟩ := hJ
                    simp [Region.binds] at hpre
                    refine .inl ⟨wanted_yes (g := 16) (t := 127) (b := true) rfl rfl (by rw [ha]; exact eval_puts_in (i := 16) rfl (by simp [hpre]) (by simp) rfl), ?_⟩
                    have e14 : a.eval (.tmp 14) = .pointer (some ⟨xb, 0, none⟩) := by rw [ha, eval_puts_out rfl]; rfl
                    have e128 : a.eval (.tmp 128) = .int .i64 (m : Int) := by rw [ha]; exact eval_puts_in (i := 17) rfl (by simp [hpre]) (by simp) rfl
                    clear ha
                    have jx' := Lib.hid jx
                    have jb' := Lib.hid jb
                    clear jx jb
                    refine wp_intro fun K HK => ?_
                    unfold Oper.wp
                    simp only [execOp, e14, e128]
                    go_simp
                    exact HK.out _ _ ⟨(), _, rfl, rfl, jx'.out, jb'.out⟩
                  · intro _ L w' hL hpre hJ a ha
                    obtain ⟨jx, jb⟩ := hJ
                    simp [Region.binds] at hpre
                    refine .inl ⟨wanted_yes (g := 16) (t := 127) (b := true) rfl rfl (by rw [ha]; exact eval_puts_in (i := 16) rfl (by simp [hpre]) (by simp) rfl), ?_⟩
                    have e129 : a.eval (.tmp 129) = .pointer (some ⟨xb, m, none⟩) := by rw [ha]; exact eval_puts_in (i := 18) rfl (by simp [hpre]) (by simp) rfl
                    clear ha
                    have jc := jx
                    have jx' := Lib.hid jx
                    have jb' := Lib.hid jb
                    clear jx jb
                    refine wp_intro fun K HK => ?_
                    unfold Oper.wp
                    simp only [execOp, e129]
                    go_simp
                    exact HK.out _ _ ⟨(), _, rfl, rfl, jx'.out, jb'.out⟩
                  · intro _ L w' hL hpre hJ a ha
                    obtain ⟨jx, jb⟩ := hJ
                    simp [Region.binds] at hpre
                    refine .inl ⟨wanted_yes (g := 16) (t := 127) (b := true) rfl rfl (by rw [ha]; exact eval_puts_in (i := 16) rfl (by simp [hpre]) (by simp) rfl), ?_⟩
                    have e130 : a.eval (.tmp 130) = .int .u8 255 := by rw [ha]; exact eval_puts_in (i := 19) rfl (by simp [hpre]) (by simp) rfl
                    clear ha
                    have jx' := Lib.hid jx
                    have jb' := Lib.hid jb
                    clear jx jb
                    refine wp_intro fun K HK => ?_
                    unfold Oper.wp
                    simp only [execOp, e130]
                    go_simp
                    exact HK.out _ _ ⟨(), _, rfl, rfl, jx'.out, jb'.out⟩
                  · intro _ L w' hL hpre hJ a ha
                    obtain ⟨jx, jb⟩ := hJ
                    simp [Region.binds] at hpre
                    refine .inl ⟨wanted_yes (g := 12) (t := 123) (b := false) rfl rfl (by rw [ha]; exact eval_puts_in (i := 12) rfl (by simp [hpre]) (by simp) rfl), ?_⟩
                    have e127 : a.eval (.tmp 127) = .bool true := by rw [ha]; exact eval_puts_in (i := 16) rfl (by simp [hpre]) (by simp) rfl
                    have e131 : a.eval (.tmp 131) = .bool false := by rw [ha]; exact eval_puts_in (i := 20) rfl (by simp [hpre]) (by simp) rfl
                    clear ha
                    have jx' := Lib.hid jx
                    have jb' := Lib.hid jb
                    clear jx jb
                    refine wp_intro fun K HK => ?_
                    unfold Oper.wp
                    simp only [execOp, e127, e131]
                    go_simp
                    exact HK.out _ _ ⟨(), _, rfl, rfl, jx'.out, jb'.out⟩
                  · intro _ L w' hL hpre hJ a ha
                    obtain ⟨jx, jb⟩ := hJ
                    simp [Region.binds] at hpre
                    refine .inl ⟨wanted_none rfl, ?_⟩
                    have e123 : a.eval (.tmp 123) = .bool false := by rw [ha]; exact eval_puts_in (i := 12) rfl (by simp [hpre]) (by simp) rfl
                    have e132 : a.eval (.tmp 132) = .bool false := by rw [ha]; exact eval_puts_in (i := 21) rfl (by simp [hpre]) (by simp) rfl
                    clear ha
                    have jx' := Lib.hid jx
                    have jb' := Lib.hid jb
                    clear jx jb
                    refine wp_intro fun K HK => ?_
                    unfold Oper.wp
                    simp only [execOp, e123, e132]
                    go_simp
                    exact HK.out _ _ ⟨(), _, rfl, rfl, jx'.out, jb'.out⟩
                · intro _ L w' hL hJ
                  obtain ⟨jx, jb⟩ := hJ
                  clear hL
                  simp only [List.foldl_cons, List.foldl_nil]
                  have HBx := Lib.hid jb
                  clear jx jb
                  go_simp
                  go_wp2_with fail
                  go_roundw
                  case rel => exact ⟨m + 1, by omega, by go_num, HNm.out.below HBx.out, HBm.out.trans (HBx.out.mono HBm.out.size), blk_below HPm.out HBx.out, blk_below HXm.out HBx.out⟩
                  case measure => simp [intOf]; omega
            · obtain rfl : m = 32 := by omega
              have HNm := Lib.hid hnd
              have HBm := Lib.hid hbl
              clear hnd hbl hpg hxg hm hlt
              go_wp2_with fail
              refine (show Calls _ _ #[.pointer (some ⟨g, 0, none⟩), .int .i64 (d3 : Int), .int .i64 1] _ _ from next_in (show NandIn _ _ _ 0 (N.on) from HNm.out) d3 1 (by rw [HGE.out.1]; omega) (by rw [HGE.out.2]; omega)).mono ?_
              rw [HLN.out]
              rintro e w13 ⟨rfl, hb13⟩
              have HBe := Lib.hid (HBm.out.trans (hb13.mono HBm.out.size))
              clear hb13
              go_wp2_with fail
              go_ret
              exact ⟨rfl, HBe.out⟩
end Go.Proofs.YtnfigkoefmldiaaGreat.nandCut
