import Derived.Test.YtpbigfopmompfaaGreatTallies2
import Derived.Test.YtpbigfopmompfaaGreatBunU
import Derived.Deep.DeepCutAuto
import Derived.Deep.QuietTactic
import Derived.BigQuiet
import Derived.IntWalk
/- What is bad is bad for ever, what is dead is dead for ever; wear never falls. -/
namespace Go.Proofs.YtpbigfopmompfaaGreat.tallyEver
open Go.RowKit
open Go.Proofs.YtpbigfopmompfaaGreat.tal
set_option linter.unusedVariables false
def mkV (Y : Ty) (k : Nat) : List Value := (List.range k).map fun (b : Nat) => .int .i64 ((Y.mask (b : Int) : Nat) : Int)
def wkV (Y : Ty) (k : Nat) : List Value := (List.range k).map fun (b : Nat) => .int .i64 (Y.wear (b : Int))
theorem mkV_succ (Y : Ty) (k : Nat) : mkV Y (k + 1) = mkV Y k ++ [.int .i64 ((Y.mask (k : Int) : Nat) : Int)] := by simp [mkV, List.range_succ]
theorem wkV_succ (Y : Ty) (k : Nat) : wkV Y (k + 1) = wkV Y k ++ [.int .i64 (Y.wear (k : Int))] := by simp [wkV, List.range_succ]
def Dis (v u : Value) : Prop := ∀ g, v.ownBlock = some g → u.ownBlock ≠ some g
theorem own_lt {w : World} {base n C : Nat} {e : TypeId} {v : Value} {xs : List Value} (h : w.ownsRow base e C v n xs) {k : Nat} (hk : v.ownBlock = some k) : k < w.heap.size ∧ base ≤ k := by
 obtain ⟨cur, h1, h2⟩ := nand.own_blk h hk
 exact ⟨lt_of_cells h1, h2⟩
theorem own_grown {w w' : World} {base n C : Nat} {e : TypeId} {v u : Value} {xs : List Value} (h : w.ownsRow base e C v n xs) (hg : w.grownBy w' u.ownBlock) (hd : ∀ g, v.ownBlock = some g → u.ownBlock ≠ some g) : w'.ownsRow base e C v n xs :=
 nand.own_same h fun k hk => hg.block k (own_lt h hk).1 fun e => hd k hk e.symm
structure Rows2 (ws : World) (v12 v13 : Value) (Y : Ty) (B : Nat) (w : World) : Prop where
 a : w.ownsRow ws.heap.size 3 1 v12 B (mkV Y B)
 b : w.ownsRow ws.heap.size 3 1 v13 B (wkV Y B)
theorem Rows2.keep {ws w w' : World} {v12 v13 : Value} {Y : Ty} {B : Nat} {S : Nat → Prop} (h : Rows2 ws v12 v13 Y B w) (hk : Keep S w w') (hS : ∀ k, S k → k < ws.heap.size) : Rows2 ws v12 v13 Y B w' :=
 ⟨own_keep h.a hk fun k hb hs => by have := (own_lt h.a hb).2; have := hS k hs; omega, own_keep h.b hk fun k hb hs => by have := (own_lt h.b hb).2; have := hS k hs; omega⟩
theorem Rows2.below {ws w w' : World} {v12 v13 : Value} {Y : Ty} {B : Nat} (h : Rows2 ws v12 v13 Y B w) (hb : Below w.heap.size w w') : Rows2 ws v12 v13 Y B w' := ⟨own_below h.a hb, own_below h.b hb⟩
set_option maxRecDepth 100000 in
set_option maxHeartbeats 8000000 in
theorem walk0 (a b c : Int) (A : Option Addr) (n cp : Nat) (A1 : Option Addr) (n1 cp1 : Nat) (w : World) (h0 : IsRows (List.replicate 4 (Kd.int .i64) ++ List.replicate 16 (Kd.int .u8) ++ List.replicate 7 (Kd.int .i64)) w A n cp) (h1 : IsRows (List.replicate 4 (Kd.int .i64) ++ List.replicate 16 (Kd.int .u8) ++ List.replicate 7 (Kd.int .i64)) w A1 n1 cp1) : Calls Tryz.prog 12 #[.agg #[.int .i64 a, .int .i64 b, .int .i64 c], .slice A n cp, .slice A1 n1 cp1] w fun e w' => e = .returned (.bool true) ∧ Below w.heap.size w w' := by
 obtain ⟨l, hr, hwf, hnc, hcm⟩ := open_op7s h0
 obtain ⟨l1, hr1, hwf1, hnc1, hcm1⟩ := open_op7s h1
 obtain ⟨D, hD⟩ : ∃ D : Nat, (D : Int) = 3 + a % 4 := ⟨(3 + a % 4).toNat, by omega⟩
 obtain ⟨B, hB⟩ : ∃ B : Nat, (B : Int) = 8 + b % 9 := ⟨(8 + b % 9).toNat, by omega⟩
 obtain ⟨P, hP⟩ : ∃ P : Nat, (P : Int) = 2 + c % 7 := ⟨(2 + c % 7).toNat, by omega⟩
 have hb0 := nand.alloc_low w (.cells #[.int .i64 a, .int .i64 b, .int .i64 c] 39)
 have he := heap_new' w (.cells #[.int .i64 a, .int .i64 b, .int .i64 c] 39) _ rfl
 have HB0 := Lib.hid hb0
 have HE0 := Lib.hid he
 have HTL := Lib.hid (fun (wx : World) (hx : Below w.heap.size w wx) => tls.tallies_any a b c A n cp l wx (by
  have h1 := hr.below hx (Nat.le_refl _)
  exact h1.mono hx.size) hwf hnc hcm D B P hD hB hP)
 have hB16 : B ≤ 16 ∧ 8 ≤ B := by omega
 obtain ⟨hB16, hB8⟩ := hB16
 have HR1 := Lib.hid hr1
 have HW1 := Lib.hid hwf1
 unfold maxLen at hcm1
 clear hD hB hP hb0 he hr hwf h0 h1 hcm hr1 hwf1
 go_enter Tryz.func12, Tryz.ntmps12
 go_upto_region 1 with fail
 change Code.wp _ _ _ _ (w.alloc (.cells #[.int .i64 a, .int .i64 b, .int .i64 c] 39))
 generalize w.alloc (.cells #[.int .i64 a, .int .i64 b, .int .i64 c] 39) = wa at *
 go_wp2_with fail
 refine (begun13.begun13_any wa).mono ?_
 rintro e w1 ⟨rfl, hb1⟩
 have he1 := blk_below HE0.out hb1
 have HB1 := Lib.hid (HB0.out.trans (hb1.mono HB0.out.size))
 have hrow := range_blk (cs := [.int .i64 a, .int .i64 b, .int .i64 c]) he1
 clear hb1 he1
 go_wp2_with (first | (refine wpList_load_mid rfl 39 (.tmp 3) rfl w.heap.size 0 rfl [.int .i64 a, .int .i64 b, .int .i64 c] _ hrow Tryz.underlying39 rfl nand.geoInfo ?_))
 refine (HTL.out _ HB1.out).mono ?_
 rintro e ws ⟨gt, lb, WB, g, mb, cb, tb, rb, GB, rfl, hs⟩
 obtain ⟨Y, hY⟩ : ∃ Y, Y = tls.run (tal.Ty.new D B P) (l.take 50) := ⟨_, rfl⟩
 rw [← hY] at hs
 have HTA := Lib.hid hs.ta
 have HB2 := Lib.hid (HB1.out.trans (hs.below.mono HB1.out.size))
 have HLO := Lib.hid (show ∀ k, tal.TalF gt lb k → w.heap.size ≤ k ∧ k < ws.heap.size from fun k hk => ⟨Nat.le_trans HB1.out.size (hs.new k (.inl hk)), by have := hs.ta.lt; rcases hk with rfl | rfl <;> omega⟩)
 have HWB := Lib.hid hs.ref
 have HNW := Lib.hid (show ¬ tal.TalF gt lb WB from tls.tal_ne hs.ta hs.ref (by decide))
 have HYB := Lib.hid hs.dim.2.1
 clear hs hrow hY HTL HE0 HB0
 go_wp2_with fail
 go_loopw [12, 13, 14] (fun v12 v13 v14 wr => ∃ k : Nat, k ≤ B ∧ v14 = .int .i64 k ∧ wr.ownsRow ws.heap.size 3 1 v12 k (mkV Y k) ∧ wr.ownsRow ws.heap.size 3 1 v13 k (wkV Y k) ∧ Dis v12 v13 ∧ Below ws.heap.size ws wr) (fun _ _ v14 _ => B - (intOf v14).toNat)
 case atStart => exact ⟨0, by omega, rfl, World.ownsRow_nil _ _ _ _, World.ownsRow_nil _ _ _ _, (fun g h => by simp [Value.ownBlock] at h), Below.refl _ ws⟩
 case round =>
  obtain ⟨k, hk, rfl, ho1, ho2, hdis, hbx⟩ := hrel
  have HO1 := Lib.hid ho1
  have HO2 := Lib.hid ho2
  have HDI := Lib.hid hdis
  have HBX := Lib.hid hbx
  have cB : wr.cell? ⟨WB, 1, none⟩ = some (.int .i64 (B : Int)) := by
   rw [blk_cell (blk_below HWB.out hbx), List.getElem?_toArray, ← HYB.out]; rfl
  clear ho1 ho2 hdis hbx
  by_cases hkB : k < B
  · have HM := Lib.hid (tal.mask_any (HTA.out.below HBX.out) (k : Int))
    go_wp2_with fail
    refine HM.out.mono ?_
    rintro e w5 ⟨rfl, nq, hw5⟩
    have hb5 : Below wr.heap.size wr w5 := by rw [hw5]; exact below_drewN (Below.refl _ _) _
    have ho5 := own_below HO1.out hb5
    have ho5' := Lib.hid (own_below HO2.out hb5)
    have hbb := HBX.out.trans (hb5.mono HBX.out.size)
    have hs5 := hbb.size
    clear hw5 hb5 HM cB HO1 HO2 HBX
    go_wp2_with (first | (at_builtin; go_must (refine wpList_append1 rfl (.tmp 38) (.tmp 42) 53 rfl 3 _ _ Tryz.underlying53 intInfo rfl ho5 hbb rfl rfl rfl (by unfold maxLen; omega) (by omega) hs5 (Nat.le_refl _) ?_)))
    intro v8 w8 hown8 hb8 hgr8 hk8
    have ho2 : w8.ownsRow ws.heap.size 3 1 u13 k (wkV Y k) := own_grown (ho5'.out.alloc _) hgr8 (fun g hg h => HDI.out g h hg)
    have hta8 := HTA.out.below hb8
    have HWr := Lib.hid (tal.wear_any hta8 (k : Int))
    have HO8 := Lib.hid hown8
    have HO2 := Lib.hid ho2
    have HB8 := Lib.hid hb8
    have HG8 := Lib.hid hgr8
    have HK8 := Lib.hid hk8
    clear hown8 ho2 hb8 hgr8 hk8 hta8
    go_wp2_with fail
    refine HWr.out.mono ?_
    rintro e w9 ⟨rfl, rfl⟩
    have ho2 := HO2.out
    have hb8 := HB8.out
    have hs8 := hb8.size
    clear ho5 hbb hs5
    go_wp2_with (first | (at_builtin; go_must (refine wpList_append1 rfl (.tmp 44) (.tmp 48) 53 rfl 3 _ _ Tryz.underlying53 intInfo rfl ho2 hb8 rfl rfl rfl (by unfold maxLen; omega) (by omega) hs8 (Nat.le_refl _) ?_)))
    intro v10 w10 hown10 hb10 hgr10 hk10
    have hdis8 : Dis v8 u13 := fun g h1 h2 => by
     rcases HK8.out with e | ⟨j, hj, hjs⟩
     · rw [e] at h1; exact HDI.out g h1 h2
     · rw [hj] at h1
       cases h1
       have := (own_lt ho5'.out h2).1
       omega
    have ho8' : w10.ownsRow ws.heap.size 3 1 v8 (k + 1) (mkV Y (k + 1)) := by
     rw [mkV_succ]
     exact own_grown (HO8.out.alloc _) hgr10 hdis8
    have hdis10 : Dis v8 v10 := fun g h1 h2 => by
     rcases hk10 with e | ⟨j, hj, hjs⟩
     · rw [e] at h2; exact hdis8 g h1 h2
     · rw [hj] at h2
       cases h2
       have := (own_lt HO8.out h1).1
       omega
    have HR := Lib.hid (show w10.ownsRow ws.heap.size 3 1 v8 (k + 1) (mkV Y (k + 1)) ∧ w10.ownsRow ws.heap.size 3 1 v10 (k + 1) (wkV Y (k + 1)) ∧ Dis v8 v10 ∧ Below ws.heap.size ws w10 from ⟨ho8', by rw [wkV_succ]; exact hown10, hdis10, hb10⟩)
    clear hown10 hb10 hgr10 hk10 ho8' hdis10 hdis8 ho2 hb8 hs8
    go_wp2_with fail
    go_roundw
    case rel => exact ⟨k + 1, by omega, by go_num, HR.out⟩
    case measure => simp [intOf]; omega
  · obtain rfl : k = B := by omega
    have HTA2 := Lib.hid (HTA.out.below HBX.out)
    have HRW := Lib.hid (show Rows2 ws u12 u13 Y k wr from ⟨HO1.out, HO2.out⟩)
    have HWB2 := Lib.hid (blk_below HWB.out HBX.out)
    have HB3 := Lib.hid (HB2.out.trans (HBX.out.mono HB2.out.size))
    clear HO1 HO2 HDI
    obtain ⟨wt, rfl⟩ : ∃ wo : World, wo = wr := ⟨_, rfl⟩
    go_wp2_with fail
    go_loopw [15, 16] (fun vi _ wr => ∃ i : Nat, i ≤ n1 ∧ i ≤ 30 ∧ vi = .int .i64 i ∧ (∃ Y', TalAt wr gt lb Y' ∧ Grow Y Y') ∧ Rows2 ws u12 u13 Y k wr ∧ wr.heap[WB]? = some (.cells (tls.refV Y).toArray 71 (0, 0)) ∧ Below w.heap.size w wr) (fun vi _ _ => n1 - (intOf vi).toNat)
    case atStart => exact ⟨0, by omega, by omega, rfl, ⟨_, HTA2.out, Grow.refl _⟩, HRW.out, HWB2.out, HB3.out⟩
    case round =>
     obtain ⟨i, hi, hi30, rfl, ⟨Y', hta, hgr⟩, hrw, hwb, hbw⟩ := hrel
     have HTA3 := Lib.hid hta
     have HGR := Lib.hid hgr
     have HRW3 := Lib.hid hrw
     have HWB3 := Lib.hid hwb
     have HB4 := Lib.hid hbw
     clear hta hgr hrw hwb hbw HTA2 HRW HWB2 HB3
     by_cases hgo : i < n1 ∧ i < 30
     · obtain ⟨hlt, hl30⟩ := hgo
       have hxi : i < l1.length := by have := HR1.out.1; simp at this; omega
       obtain ⟨x, hx⟩ : ∃ x, l1[i]? = some x := ⟨_, List.getElem?_eq_getElem hxi⟩
       have hxg : x.good := HW1.out x (List.mem_of_getElem? hx)
       obtain ⟨pb, po, hA, hpb, hrg⟩ := rds_range (HR1.out.below HB4.out (Nat.le_refl _)) hlt (r := x.v) (by simp [hx])
       subst hA
       have HX := Lib.hid hxg
       have iX := opInfo hxg
       have HLX := Lib.hid (show 27 = x.v.length from hxg.len.symm)
       clear hx hxi hxg
       go_upto_region 14 with (first | (refine wpList_load_mid rfl 52 (.tmp 62) rfl pb (po + i * 27) rfl x.v _ hrg Tryz.underlying52 rfl iX ?_) | (refine wpList_put_row rfl 52 (.tmp 16) (.tmp 63) rfl wr.heap.size x.v rfl rfl 52 _ (heap_new' wr _ _ rfl) iX ?_ (one_op x) ?_; exact HLX.out; intro w6 hU6; have ho6 := hU6.at_; have hl6 := hU6.below (nand.alloc_low wr _) (Nat.le_refl _); clear hU6 hrg iX HLX))
       have hta6 := HTA3.out.below hl6
       have HTA6 := Lib.hid hta6
       have HO6 := Lib.hid ho6
       have FIN := Lib.hid (show ∀ w7, TalAt w7 gt lb (stepE Y' x) → Keep (TalF gt lb) w6 w7 → ∃ i_1 : Nat, i_1 ≤ n1 ∧ i_1 ≤ 30 ∧ Value.int .i64 ((i : Int) + 1) = .int .i64 i_1 ∧ (∃ Y', TalAt w7 gt lb Y' ∧ Grow Y Y') ∧ Rows2 ws u12 u13 Y k w7 ∧ w7.heap[WB]? = some (.cells (tls.refV Y).toArray 71 (0, 0)) ∧ Below w.heap.size w w7 from fun w7 hy hk =>
        ⟨i + 1, by omega, by omega, by go_num, ⟨_, hy, HGR.out.trans (Grow.step _ _)⟩, (HRW3.out.below hl6).keep hk (fun j hj => (HLO.out j hj).2), blk_keep (blk_below HWB3.out hl6) hk HNW.out, (HB4.out.trans (hl6.mono HB4.out.size)).trans (hk.below (Nat.le_trans HB4.out.size hl6.size) fun j hj => (HLO.out j hj).1)⟩)
       obtain ⟨OB, hOB⟩ : ∃ OB, OB = wr.heap.size := ⟨_, rfl⟩
       rw [← hOB] at HO6 ⊢
       clear hl6 ho6 hta6 hOB HTA3 HRW3 HWB3 HB4 HGR
       have ck := op_k HO6.out
       obtain ⟨cm, cd, cbl, cn⟩ := op_m HX.out HO6.out
       by_cases q1 : x.k = 1
       · have r1 : (x.k == (1 : Int)) = true := by rw [q1]; rfl
         have HSt := Lib.hid (show stepE Y' x = Y'.wore x.bl x.n by unfold stepE; simp [q1])
         have HWO := Lib.hid (tal.wore_any HTA6.out x.bl x.n)
         clear q1
         go_wp2_with fail
         refine HWO.out.mono ?_
         rintro e w7 ⟨rfl, hy7, hk7⟩
         rw [← HSt.out] at hy7
         have HFI := Lib.hid (FIN.out w7 hy7 hk7)
         clear hy7 hk7 HWO cm cd cbl cn ck
         go_wp2_with fail
         go_roundw
         case rel => exact HFI.out
         case measure => simp [intOf]; omega
       by_cases q2 : x.k = 2
       · have r1 : (x.k == (1 : Int)) = false := by rw [q2]; rfl
         have r2 : (x.k == (2 : Int)) = true := by rw [q2]; rfl
         have HSt := Lib.hid (show stepE Y' x = Y'.badN x.di x.bl by unfold stepE; simp [q2])
         have HWO := Lib.hid (tal.bad_any HTA6.out x.di x.bl)
         clear q2
         go_wp2_with fail
         refine HWO.out.mono ?_
         rintro e w7 ⟨rfl, hy7, hk7⟩
         rw [← HSt.out] at hy7
         have HFI := Lib.hid (FIN.out w7 hy7 hk7)
         clear hy7 hk7 HWO cm cd cbl cn ck
         go_wp2_with fail
         go_roundw
         case rel => exact HFI.out
         case measure => simp [intOf]; omega
       by_cases q3 : x.k = 3
       · have r1 : (x.k == (1 : Int)) = false := by rw [q3]; rfl
         have r2 : (x.k == (2 : Int)) = false := by rw [q3]; rfl
         have r3 : (x.k == (3 : Int)) = true := by rw [q3]; rfl
         have HSt := Lib.hid (show stepE Y' x = Y'.deadN x.di by unfold stepE; simp [q3])
         have HWO := Lib.hid (tal.dead_any HTA6.out x.di)
         clear q3
         go_wp2_with fail
         refine HWO.out.mono ?_
         rintro e w7 ⟨rfl, hy7, hk7⟩
         rw [← HSt.out] at hy7
         have HFI := Lib.hid (FIN.out w7 hy7 hk7)
         clear hy7 hk7 HWO cm cd cbl cn ck
         go_wp2_with fail
         go_roundw
         case rel => exact HFI.out
         case measure => simp [intOf]; omega
       have r1 : (x.k == (1 : Int)) = false := by simpa using q1
       have r2 : (x.k == (2 : Int)) = false := by simpa using q2
       have r3 : (x.k == (3 : Int)) = false := by simpa using q3
       have HSt := Lib.hid (show stepE Y' x = Y'.clean x.bl (decide (0 < x.n)) by unfold stepE; simp [q1, q2, q3])
       have HWO := Lib.hid (tal.clean_any HTA6.out x.bl (decide (0 < x.n)))
       clear q1 q2 q3
       go_wp2_with fail
       refine HWO.out.mono ?_
       rintro e w7 ⟨rfl, hy7, hk7⟩
       rw [← HSt.out] at hy7
       have HFI := Lib.hid (FIN.out w7 hy7 hk7)
       clear hy7 hk7 HWO cm cd cbl cn ck
       go_wp2_with fail
       go_roundw
       case rel => exact HFI.out
       case measure => simp [intOf]; omega
     · have hex : ¬ i < n1 ∨ (i < n1 ∧ ¬ i < 30) := by omega
       obtain ⟨wq, rfl⟩ : ∃ wo : World, wo = wr := ⟨_, rfl⟩
       clear hgo
       rcases hex with hge | ⟨hlt, hge⟩
       all_goals
        obtain ⟨A12, c12, rfl⟩ := pick.len_nats HRW3.out.a
        obtain ⟨A13, c13, rfl⟩ := pick.len_nats HRW3.out.b
        have HRa := Lib.hid (Rd.of_own HRW3.out.a)
        have HRb := Lib.hid (Rd.of_own HRW3.out.b)
        have HWQ := Lib.hid (show ∀ wz, Below wq.heap.size wq wz → Below w.heap.size w wz from fun wz h => HB4.out.trans (h.mono HB4.out.size))
        clear HRW3 HB4
        go_wp2_with fail
        go_loopw [17] (fun vi wr => ∃ j : Nat, j ≤ k ∧ vi = .int .i64 j ∧ Below wq.heap.size wq wr) (fun vi _ => k - (intOf vi).toNat)
        case atStart => exact ⟨0, by omega, rfl, Below.refl _ _⟩
        case round =>
         obtain ⟨j, hj, rfl, hbj⟩ := hrel
         have cB : wr.cell? ⟨WB, 1, none⟩ = some (.int .i64 (k : Int)) := by
          rw [blk_cell (blk_below HWB3.out hbj), List.getElem?_toArray, ← HYB.out]; rfl
         have HBJ := Lib.hid hbj
         by_cases hjk : j < k
         · have hta := HTA3.out.below hbj
           have hlaw := HGR.out.law HTA.out.ok HTA3.out.ok (k := j) (by rw [HYB.out]; exact hjk)
           have hM := andN_bits _ (HTA3.out.ok.mask (j : Int)) _ (HTA.out.ok.mask (j : Int))
           have hA := andN_bits _ (HTA3.out.ok.mask (j : Int)) _ HTA3.out.ok.alive
           rw [hlaw.1] at hM
           rw [hlaw.2.2] at hA
           have hW := hlaw.2.1
           obtain ⟨b2, o2, hA2, -, hc2⟩ := (HRa.out.below hbj (Nat.le_refl _)).at_ hjk
           obtain ⟨b3, o3, hA3, -, hc3⟩ := (HRb.out.below hbj (Nat.le_refl _)).at_ hjk
           subst hA2 hA3
           have hg2 : (mkV Y k)[j]? = some (.int .i64 ((Y.mask (j : Int) : Nat) : Int)) := by simp [mkV, hjk]
           have hg3 : (wkV Y k)[j]? = some (.int .i64 (Y.wear (j : Int))) := by simp [wkV, hjk]
           rw [hg2] at hc2
           rw [hg3] at hc3
           have HMk := Lib.hid (fun n => tal.mask_any (tal.drewN_at hta n) (j : Int))
           have HWr := Lib.hid (fun n => tal.wear_any (tal.drewN_at hta n) (j : Int))
           have HAl := Lib.hid (fun n => tal.alive_any (tal.drewN_at hta n))
           generalize Y'.mask (j : Int) = M' at *
           generalize Y.mask (j : Int) = M at *
           generalize Y'.alive = A' at *
           generalize Y'.wear (j : Int) = W' at *
           generalize Y.wear (j : Int) = W0 at *
           have hlw : ¬ W' < W0 := by omega
           clear hg2 hg3 hlaw hta hbj hW
           go_upto_region 25 with fail
           go_quiet (first | (go_at_call 32; exact Calls.quiet_of (HMk.out _)) | (go_at_call 33; exact Calls.quiet_of (HAl.out _)) | (go_at_call 23; exact Calls.quiet_of_same ((HWr.out _).mono fun _ _ h => ⟨h.1, h.2.symm⟩)))
           go_wp2_with fail
           go_roundw
           case rel => exact ⟨j + 1, by omega, by go_num, below_drewN HBJ.out _⟩
           case measure => simp [intOf]; omega
         · obtain rfl : j = k := by omega
           clear hbj
           go_wp2_with fail
           go_ret
           exact ⟨rfl, HWQ.out _ HBJ.out⟩
theorem walk (a0 : List Value) (A : Option Addr) (n c : Nat) (A2 : Option Addr) (n2 c2 : Nat) (w : World) (w0 : okAll (List.replicate 3 (Kd.int .i64)) a0 = true) (w1 : IsRows (List.replicate 4 (Kd.int .i64) ++ List.replicate 16 (Kd.int .u8) ++ List.replicate 7 (Kd.int .i64)) w A n c) (w2 : IsRows (List.replicate 4 (Kd.int .i64) ++ List.replicate 16 (Kd.int .u8) ++ List.replicate 7 (Kd.int .i64)) w A2 n2 c2) : Calls Tryz.prog 12 #[.agg a0.toArray, .slice A n c, .slice A2 n2 c2] w fun e w' => e = .returned (.bool true) ∧ Below w.heap.size w w' := by
 obtain ⟨x, y, v, rfl⟩ := pickHeld.open_geo3 w0
 exact walk0 x y v A n c A2 n2 c2 w w1 w2
end Go.Proofs.YtpbigfopmompfaaGreat.tallyEver
