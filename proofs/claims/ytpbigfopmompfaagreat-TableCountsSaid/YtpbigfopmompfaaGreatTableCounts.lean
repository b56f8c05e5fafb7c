import Derived.Test.YtpbigfopmompfaaGreatBegun13
import Derived.Test.YtpbigfopmompfaaGreatBunU
import Derived.Deep.DeepCutAuto
import Derived.Deep.QuietTactic
import Derived.BigQuiet
import Derived.IntWalk
/- Of all that stands each is counted in just one superblock. -/
namespace Go.Proofs.YtpbigfopmompfaaGreat.tableCounts
open Go.RowKit
set_option linter.unusedVariables false
structure Std (T : tab.Tb) : Prop where
 log : T.logical = 30
 blk : ∀ p ∈ T.f, 0 ≤ p.2.b ∧ p.2.b < 16
theorem Std.put {T : tab.Tb} (h : Std T) (l s r b row slot m : Int) (hb : 0 ≤ b ∧ b < 16) : Std (T.putT l s r b row slot m) := by
 unfold tab.Tb.putT
 split
 · refine ⟨h.log, fun p hp => ?_⟩
   unfold tab.putE at hp
   rcases List.mem_cons.1 hp with rfl | hp
   · exact hb
   · exact h.blk p (tab.mem_delE.1 hp).1
 · exact h
set_option maxRecDepth 100000 in
set_option maxHeartbeats 8000000 in
theorem walk (A : Option Addr) (n c : Nat) (w : World) (w0 : IsRows (List.replicate 4 (Kd.int .i64) ++ List.replicate 16 (Kd.int .u8) ++ List.replicate 7 (Kd.int .i64)) w A n c) : Calls Tryz.prog 6 #[.slice A n c] w fun e w' => e = .returned (.bool true) ∧ Below w.heap.size w w' := by
 obtain ⟨l, hr, hwf, hnc, hcm⟩ := open_op7s w0
 unfold maxLen at hcm
 have HRD := Lib.hid hr
 have HWF := Lib.hid hwf
 clear w0 hr hwf
 go_enter Tryz.func6, Tryz.ntmps6
 go_wp2_with fail
 refine (begun13.begun13_any w).mono ?_
 rintro e w1 ⟨rfl, hb1⟩
 have HB1 := Lib.hid hb1
 clear hb1
 go_wp2_with fail
 have hN : Calls Tryz.prog 15 #[.int .i64 30] w1 _ := tab.new_any w1 30 (by decide)
 refine hN.mono ?_
 rintro e w2 ⟨g, mb, cb, rfl, ht, hg1, hg2, hg3, hb2⟩
 have HB2 := Lib.hid (HB1.out.trans (hb2.mono HB1.out.size))
 have HLO := Lib.hid (show ∀ k, tab.TabF g mb cb k → w.heap.size ≤ k from fun k hk => by have := HB1.out.size; rcases hk with rfl | rfl | rfl <;> omega)
 have HT2 := Lib.hid ht
 clear hN ht hg1 hg2 hg3 hb2 HB1
 go_wp2_with fail
 go_loopw [5, 6] (fun vi _ wr => ∃ i : Nat, i ≤ n ∧ i ≤ 50 ∧ vi = .int .i64 i ∧ (∃ T, tab.TabAt wr g mb cb (3 * i) T ∧ Std T) ∧ Below w.heap.size w wr) (fun vi _ _ => n - (intOf vi).toNat)
 case atStart => exact ⟨0, by omega, by omega, rfl, ⟨_, HT2.out, rfl, fun p hp => by cases hp⟩, HB2.out⟩
 case round =>
  obtain ⟨i, hi, hi50, rfl, ⟨T, hT, hS⟩, hb⟩ := hrel
  have HB := Lib.hid hb
  have HT := Lib.hid hT
  have HS := Lib.hid hS
  clear hb hT hS HB2 HT2
  have fin : i = n ∨ i = 50 → ∀ (K : World → Prop), True := fun _ _ => trivial
  by_cases hgo : i < n ∧ i < 50
  · obtain ⟨hlt, hl50⟩ := hgo
    have hxi : i < l.length := by have := HRD.out.1; simp at this; omega
    obtain ⟨x, hx⟩ : ∃ x, l[i]? = some x := ⟨_, List.getElem?_eq_getElem hxi⟩
    have hxg : x.good := HWF.out x (List.mem_of_getElem? hx)
    obtain ⟨pb, po, hA, hpb, hrg⟩ := rds_range (HRD.out.below HB.out (Nat.le_refl _)) hlt (r := x.v) (by simp [hx])
    subst hA
    have HX := Lib.hid hxg
    have iX := opInfo hxg
    have HLX := Lib.hid (show 27 = x.v.length from hxg.len.symm)
    have hb20 := norm_wrap x.p.d 16 (by decide) (by decide)
    obtain ⟨bb, hbb⟩ : ∃ bb, bb = x.p.d % 16 := ⟨_, rfl⟩
    rw [← hbb] at hb20
    have hbb0 : 0 ≤ bb ∧ bb < 16 := by omega
    obtain ⟨hbb0, hbb1⟩ := hbb0
    clear hbb hx hxi fin hxg
    go_upto_region 9 with (first | (refine wpList_load_mid rfl 52 (.tmp 29) rfl pb (po + i * 27) rfl x.v _ hrg Tryz.underlying52 rfl iX ?_) | (refine wpList_put_row rfl 52 (.tmp 6) (.tmp 30) rfl wr.heap.size x.v rfl rfl 52 _ (heap_new' wr _ _ rfl) iX ?_ (one_op x) ?_; exact HLX.out; intro w5 hU5; have ho5 := hU5.at_; have hl5 := hU5.below (nand.alloc_low wr _) (Nat.le_refl _); clear hU5 hrg iX HLX))
    have HO5 := Lib.hid ho5
    have HB5 := Lib.hid (HB.out.trans (hl5.mono HB.out.size))
    have HT5 := Lib.hid (HT.out.below hl5)
    have HNO := Lib.hid (show ¬ tab.TabF g mb cb wr.heap.size from fun h => by have h2 := HT.out.lt; rcases h with h | h | h <;> omega)
    have hOB : w.heap.size ≤ wr.heap.size := HB.out.size
    have co := op_b HX.out HO5.out
    have fo : w5.frozen? ⟨wr.heap.size, 20, none⟩ = false := blk_frozen HO5.out 20
    clear ho5 hl5 HT HB
    generalize wr.heap.size = OB at *
    go_upto_region 10 with fail
    have ho6 := heap_set2 (i := 20) HO5.out (.int .i64 bb)
    rw [List.setIfInBounds_toArray, Op7.setB HX.out] at ho6
    have hb6 := HB5.out.setCell (p := ⟨OB, 20, none⟩) hOB (.int .i64 bb)
    have ht6 := HT5.out.same fun k hk => Below.heap_setCell w5 ⟨OB, 20, none⟩ (.int .i64 bb) k (fun e => HNO.out (by have e' : k = OB := e; rw [← e']; exact hk))
    clear co fo HO5 HB5 HT5 hb20
    generalize w5.setCell ⟨OB, 20, none⟩ (.int .i64 bb) = w6 at *
    have hbw := begun13.wf0 (x := bb) ⟨hbb0, by omega⟩
    have hy : Op7.good { x with p := ⟨bb, x.p.b, x.p.p⟩ } := ⟨HX.out.e, HX.out.ew, ⟨hbw, HX.out.p.2.1, HX.out.p.2.2⟩, HX.out.k, HX.out.m, HX.out.di, HX.out.bl, HX.out.n⟩
    have re := op_e ho6
    have rp := op_p hy ho6
    have cm := (op_m hy ho6).1
    have iE := enInfo HX.out.e.1 x.e.l x.e.s x.e.r
    have HP := Lib.hid (tab.put_any ht6 x.e.l x.e.s x.e.r bb x.p.b x.p.p x.m x.e.d HX.out.e.1 HX.out.ew.1 HX.out.ew.2.1 hbw (by omega))
    have HB6 := Lib.hid hb6
    have HS6 := Lib.hid (HS.out.put x.e.l x.e.s x.e.r bb x.p.b x.p.p x.m ⟨hbb0, hbb1⟩)
    clear ho6 hy ht6 hb6 hbw hbb0 hbb1 HS
    go_wp2_with (first | (refine wpList_load_mid rfl 29 (.tmp 40) rfl OB 1 rfl x.e.v _ re Tryz.underlying29 rfl iE ?_) | (refine wpList_load_mid rfl 31 (.tmp 42) rfl OB 20 rfl [.int .i64 bb, .int .i64 x.p.b, .int .i64 x.p.p] _ rp Tryz.underlying31 rfl (by kernel_rfl) ?_))
    refine HP.out.mono ?_
    rintro e w7 ⟨rfl, ht7, hk7⟩
    have HT7 := Lib.hid ht7
    have HB7 := Lib.hid (HB6.out.trans (hk7.below HB6.out.size HLO.out))
    clear ht7 hk7 re rp cm iE
    go_wp2_with fail
    go_roundw
    case rel => exact ⟨i + 1, by omega, by omega, by go_num, ⟨_, HT7.out, HS6.out⟩, HB7.out⟩
    case measure => simp [intOf]; omega
  · have hex : ¬ i < n ∨ (i < n ∧ ¬ i < 50) := by omega
    clear hgo fin
    have HF : Hid (∀ wz, Below wr.heap.size wr wz → Below w.heap.size w wz) := Lib.hid fun wz h => HB.out.trans (h.mono HB.out.size)
    obtain ⟨wt, rfl⟩ : ∃ wo : World, wo = wr := ⟨_, rfl⟩
    rcases hex with hge | ⟨hlt, hge⟩
    all_goals
     go_wp2_with fail
     go_loopw [7, 8, 9, 10, 11, 12] (fun vn vb _ _ _ _ wx => ∃ j : Nat, j ≤ 16 ∧ vb = .int .i64 j ∧ vn = .int .i64 (tab.sumC T.f j) ∧ Below wt.heap.size wt wx) (fun _ vb _ _ _ _ _ => 16 - (intOf vb).toNat)
     case atStart => exact ⟨0, by omega, rfl, rfl, Below.refl _ wt⟩
     case round =>
      obtain ⟨j, hj, rfl, rfl, hbx⟩ := hrel
      have HBX := Lib.hid hbx
      clear hbx
      by_cases hj16 : j < 16
      · have HIN := Lib.hid (tab.in_any (HT.out.below HBX.out) (j : Int) (begun13.wf0 ⟨by omega, by omega⟩))
        go_wp2_with fail
        refine HIN.out.mono ?_
        rintro e w8 ⟨v, rfl, hown, hb8⟩
        have hokT := HT.out.ok
        have hml := hokT.inL_length (j : Int)
        obtain ⟨L, hL⟩ : ∃ L, L = T.inL (j : Int) := ⟨_, rfl⟩
        rw [← hL] at hown hml
        obtain ⟨m, hm⟩ : ∃ m, m = L.length := ⟨_, rfl⟩
        rw [← hm] at hown hml
        obtain ⟨A2, c2, rfl⟩ := pick.len_nats hown
        have HRw := Lib.hid (Rd.of_own hown)
        have hlen : m ≤ 65536 := by
         have h1 := tab.inTo_len T.f (j : Int) T.logical
         have h2 : L.length = (tab.inTo T.f (j : Int) T.logical).length := by rw [hL]; rfl
         have := hokT.log; omega
        have HL := Lib.hid hL
        have HM := Lib.hid hm
        have hsum : (tab.sumC T.f j : Int) + (m : Int) = (tab.sumC T.f (j + 1) : Int) := by
         rw [hml]; show _ = ((tab.sumC T.f j + tab.cntE T.f j : Nat) : Int); omega
        have hs1 : tab.sumC T.f j ≤ T.f.length ∧ tab.sumC T.f (j + 1) ≤ T.f.length := by
         have hb0 := fun p hp => (HS.out.blk p hp).1
         rw [tab.sumC_eq hb0, tab.sumC_eq hb0]
         exact ⟨List.length_filter_le _ _, List.length_filter_le _ _⟩
        have hfl : T.f.length ≤ 100000 := by have := hokT.len_le; have := hokT.log; omega
        have HB8 := Lib.hid (HBX.out.trans (hb8.mono HBX.out.size))
        have hcn := tab.count_any (HT.out.below HB8.out) (j : Int) (begun13.wf0 ⟨by omega, by omega⟩)
        rw [← hml] at hcn
        have HCN := Lib.hid hcn
        obtain ⟨S0, hS0⟩ : ∃ S0, S0 = tab.sumC T.f j := ⟨_, rfl⟩
        obtain ⟨S1, hS1⟩ : ∃ S1, S1 = tab.sumC T.f (j + 1) := ⟨_, rfl⟩
        rw [← hS0, ← hS1] at hsum hs1
        rw [← hS0]
        have HS1 := Lib.hid hS1
        have hbd : S0 ≤ 100000 ∧ S1 ≤ 100000 := by omega
        obtain ⟨hbd0, hbd1⟩ := hbd
        have hnq : ((m : Int) != (m : Int)) = false := by simp
        clear hokT hml hL hm hs1 hfl hown hb8 hcn hS0 hS1 HIN HBX
        go_wp2_with fail
        refine HCN.out.mono ?_
        rintro e w9 ⟨rfl, rfl⟩
        go_wp2_with fail
        obtain ⟨w9, rfl⟩ : ∃ wo : World, wo = w8 := ⟨_, rfl⟩
        go_loopw [10, 11, 12] (fun vi _ _ wx => ∃ q : Nat, q ≤ m ∧ vi = .int .i64 q ∧ Below w9.heap.size w9 wx) (fun vi _ _ _ => m - (intOf vi).toNat)
        case atStart => exact ⟨0, by omega, rfl, Below.refl _ _⟩
        case round =>
         obtain ⟨q, hq, rfl, hbq⟩ := hrel
         have HBQ := Lib.hid hbq
         clear hbq
         by_cases hqm : q < m
         · have hql : q < L.length := by have := HM.out; omega
           obtain ⟨y, hy⟩ : ∃ y, L[q]? = some y := ⟨_, List.getElem?_eq_getElem hql⟩
           have hyL : y ∈ T.inL (j : Int) := by rw [← HL.out]; exact List.mem_of_getElem? hy
           obtain ⟨hy1, a, hga, hab⟩ := tab.inL_mem hyL
           have hy6 : y ≤ 65536 := by have := HT.out.ok.log; omega
           obtain ⟨b2, o2, hA, hb2, hc⟩ := (HRw.out.below HBQ.out (Nat.le_refl _)).at_ hqm
           have hc1 : q = 0 ∨ ∃ p z, q = p + 1 ∧ z < y ∧ wr.cell? ⟨b2, o2 + p, none⟩ = some (.int .i64 (z : Int)) := by
            cases q with
            | zero => exact .inl rfl
            | succ p =>
             have hz : p < L.length := by omega
             refine .inr ⟨p, L[p], rfl, ?_, ?_⟩
             · have hs := tab.inL_sorted T (j : Int)
               rw [← HL.out] at hs
               have hyv : L[p + 1] = y := by rw [List.getElem?_eq_getElem hql] at hy; exact Option.some.inj hy
               have := List.pairwise_iff_getElem.1 hs p (p + 1) hz hql (by omega)
               omega
             · obtain ⟨b3, o3, hA3, hb3, hc3⟩ := (HRw.out.below HBQ.out (Nat.le_refl _)).at_ (show p < m by omega)
               rw [hA] at hA3
               cases hA3
               rw [hc3, nats, List.getElem?_map, List.getElem?_eq_getElem hz]; rfl
           rw [nats, List.getElem?_map, hy] at hc
           have hcq : wr.cell? ⟨b2, o2 + q, none⟩ = some (.int .i64 (y : Int)) := hc
           subst hA
           have HC1 := Lib.hid hc1
           have HCQ := Lib.hid hcq
           have hgt := tab.get_any (HT.out.below (HB8.out.trans (HBQ.out.mono HB8.out.size))) (y : Int) (by unfold wfI; simp [Lit.wf, IntKind.min, IntKind.max, IntKind.bits, IntKind.signed]; omega)
           rw [hga] at hgt
           have HGT := Lib.hid hgt
           have HAB := Lib.hid hab
           clear hc hc1 hgt hga hyL hy hab HCN
           go_wp2_with fail
           refine HGT.out.mono ?_
           rintro e w10 ⟨rfl, hb10⟩
           go_upto_region 22 with (first | (refine wpList_put_row rfl 33 (.tmp 11) (.tmp 73) rfl w10.heap.size a.v rfl rfl 33 _ (heap_new' w10 _ _ rfl) tab.atInfo rfl (tab.one_at _) ?_; intro w11 hU11; have hx11 := hU11.at_; have hl11 := hb10.trans ((hU11.below (nand.alloc_low w10 _) (Nat.le_refl _)).mono hb10.size); clear hU11))
           have HL11 := Lib.hid hl11
           have cb0 : w11.cell? ⟨w10.heap.size, 0, none⟩ = some (.int .i64 (j : Int)) := by rw [blk_cell hx11, ← HAB.out]; rfl
           have cq : w11.cell? ⟨b2, o2 + q, none⟩ = some (.int .i64 (y : Int)) := nand.blk_belowc HCQ.out hl11
           have hjj : ((j : Int) != (j : Int)) = false := by simp
           have HF2 := Lib.hid (show Below w9.heap.size w9 w11 from HBQ.out.trans (hl11.mono HBQ.out.size))
           rcases HC1.out with hq0 | ⟨p, z, rfl, hzy, hcz⟩
           · subst hq0
             clear hcq hx11 hl11 hb10 HC1 HCQ
             have hd0 : decide ((0 : Nat) < 0) = false := rfl
             go_quiet (fail)
             go_wp2_with fail
             go_roundw
             case rel => exact ⟨0 + 1, by omega, by go_num, below_drewN HF2.out _⟩
             case measure => simp [intOf]; omega
           · have cz : w11.cell? ⟨b2, o2 + p, none⟩ = some (.int .i64 (z : Int)) := nand.blk_belowc hcz hl11
             have hd0 : decide (0 < p + 1) = true := by simp
             have hd1 : decide (y ≤ z) = false := by simp; omega
             have hzz : z ≤ 65536 := by omega
             have hsb : IntKind.i64.wrap (((p + 1 : Nat) : Int) - 1) = (p : Int) := by rw [show ((p + 1 : Nat) : Int) - 1 = (p : Int) by omega]; exact IntWalk.i64_in _ (by omega)
             have hp63 : p < m := by omega
             clear hcq hx11 hl11 hb10 HC1 HCQ hcz hzy
             go_quiet (fail)
             go_wp2_with fail
             go_roundw
             case rel => exact ⟨p + 1 + 1, by omega, by go_num, below_drewN HF2.out _⟩
             case measure => simp [intOf]; omega
         · obtain rfl : q = m := by omega
           clear HCN HRw
           go_wp2_with fail
           go_roundw
           case rel => exact ⟨j + 1, by omega, by go_num, by rw [HS1.out], HB8.out.trans (HBQ.out.mono HB8.out.size)⟩
           case measure => simp [intOf]; omega
      · obtain rfl : j = 16 := by omega
        have hlen := tab.len_any (HT.out.below HBX.out)
        have hsa := tab.sumC_all (B := 16) HS.out.blk
        rw [hsa]
        have hfl : T.f.length ≤ 100000 := by have := HT.out.ok.len_le; have := HT.out.ok.log; omega
        have HLN := Lib.hid hlen
        have hqq : ((T.f.length : Int) == (T.f.length : Int)) = true := by simp
        generalize T.f.length = F at *
        clear hlen hsa
        go_wp2_with fail
        refine HLN.out.mono ?_
        rintro e w9 ⟨rfl, rfl⟩
        go_wp2_with fail
        go_ret
        exact ⟨rfl, HF.out _ HBX.out⟩
end Go.Proofs.YtpbigfopmompfaaGreat.tableCounts
