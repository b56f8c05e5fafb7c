import Derived.Test.YtnfigkoefmldiaaGreatBunR
import Derived.Test.YtnfigkoefmldiaaGreatClean2
/- NandEraseCut: power goes within an erase: nothing of the block can be read, nothing programmed, till it is erased again; no condition. -/
namespace Go.Proofs.YtnfigkoefmldiaaGreat.nandEraseCut
open Go.RowKit
open Go.Proofs.YtnfigkoefmldiaaGreat.nand
set_option linter.unusedVariables false
structure Ec (N : Nd) (r : Nat) : Prop where
  fine : Fine N 3 8 4
  blk : (N.blk 1 0).cells.length = r ∧ (N.blk 1 0).worn = 0 ∧ (N.blk 1 0).fails = false ∧ (N.blk 1 0).met = false
  ops : N.ops = r
  broken : N.broken = 0
theorem Ec.start : Ec (Nd.new 3 8 4) 0 := ⟨Fine.new 3 8 4, ⟨rfl, rfl, rfl, rfl⟩, rfl, rfl⟩
theorem Ec.prog {N : Nd} {r : Nat} (h : Ec N r) (hr : r < 4) (pg : List Nat) : N.programE ⟨1, 0, r⟩ pg = 0 ∧ Ec (N.programN ⟨1, 0, r⟩ pg) (r + 1) := by
  obtain ⟨e, n⟩ := h.fine.prog (d := 1) (b := 0) (p := r) (by omega) (by omega) hr h.blk.2.2.2 h.blk.1 pg
  refine ⟨e, n.clean, ?_, by rw [show (N.programN ⟨1, 0, r⟩ pg).ops = _ from n.ops, h.ops], by rw [show (N.programN ⟨1, 0, r⟩ pg).broken = _ from n.broken, h.broken]⟩
  rw [show ((N.programN ⟨1, 0, r⟩ pg).blk 1 0) = _ from n.at_]
  exact ⟨by simp [moreC, h.blk.1], h.blk.2⟩
/-- What holds behind the cut. -/
structure Bk (N : Nd) (q : Nat) : Prop where
  fine : Fine N 3 8 4
  blk : (N.blk 1 0).cells.length = 4 ∧ (N.blk 1 0).worn = 0 ∧ (N.blk 1 0).fails = false ∧ (N.blk 1 0).met = false
  lost : ∀ c ∈ (N.blk 1 0).cells, c.lost = true
  ops : N.ops ≤ 10
  broken : N.broken = 0
theorem Ec.cut {N : Nd} {r : Nat} (h : Ec N r) (hr : r ≤ 4) (keep : Int) : (N.cutAt 0 keep).eraseE 1 0 = 9 ∧ ((N.cutAt 0 keep).eraseN 1 0).off = true ∧ Bk (((N.cutAt 0 keep).eraseN 1 0).on) 0 ∧ (N.cutAt 0 keep).ops = N.ops ∧ (N.cutAt 0 keep).blk = N.blk := by
  obtain ⟨e, o, n, k1, k2⟩ := h.fine.cutErase (d := 1) (b := 0) (by omega) (by omega) (by omega) keep
  obtain ⟨c1, c2⟩ := cut_cells (x := N.blk 1 0) (P := 4) (by rw [h.blk.1]; exact hr)
  have ha : (((N.cutAt 0 keep).eraseN 1 0).on).blk 1 0 = (N.blk 1 0).cut 4 := n.at_
  refine ⟨e, o, ⟨n.clean, ?_, ?_, ?_, ?_⟩, k1, k2⟩
  · rw [ha]; exact ⟨c1, h.blk.2⟩
  · rw [ha]; exact c2
  · rw [show (((N.cutAt 0 keep).eraseN 1 0).on).ops = _ from n.ops, h.ops]; omega
  · rw [show (((N.cutAt 0 keep).eraseN 1 0).on).broken = _ from n.broken, h.broken]
theorem Bk.read {N : Nd} {q : Nat} (h : Bk N q) {p : Nat} (hp : p < 4) : N.readE ⟨1, 0, p⟩ = 6 := by
  obtain ⟨c, hc⟩ : ∃ c, (N.blk 1 0).cells[p]? = some c := ⟨_, List.getElem?_eq_getElem (by rw [h.blk.1]; exact hp)⟩
  exact h.fine.readLost (d := 1) (b := 0) (by omega) (by omega) hp hc (h.lost c (List.mem_of_getElem? hc))
theorem Bk.last {N : Nd} {q : Nat} (h : Bk N q) (pg : List Nat) : N.eraseE 1 0 = 0 ∧ (N.eraseN 1 0).programE ⟨1, 0, 0⟩ pg = 0 ∧ (N.eraseN 1 0).ops ≤ 1000000 ∧ (N.eraseN 1 0).broken ≤ 1000000 := by
  obtain ⟨e, n⟩ := h.fine.erase (d := 1) (b := 0) (by omega) (by omega) (by omega) h.blk.2.2.1
  have ha : (N.eraseN 1 0).blk 1 0 = _ := n.at_
  obtain ⟨e2, -⟩ := n.clean.prog (d := 1) (b := 0) (p := 0) (by omega) (by omega) (by omega) (by rw [show ((N.eraseN ((1 : Nat) : Int) ((0 : Nat) : Int)).blk 1 0) = _ from ha]; exact h.blk.2.2.2) (by rw [show ((N.eraseN ((1 : Nat) : Int) ((0 : Nat) : Int)).blk 1 0) = _ from ha]; rfl) pg
  exact ⟨e, e2, by rw [show (N.eraseN 1 0).ops = _ from n.ops]; have := h.ops; omega, by rw [show (N.eraseN 1 0).broken = _ from n.broken, h.broken]; omega⟩
set_option maxRecDepth 100000 in
set_option maxHeartbeats 8000000 in
theorem walk (a0 a1 : Int) (w : World) (w0 : (Lit.int .i64 a0).wf = true) (w1 : (Lit.int .i64 a1).wf = true) :
    Calls Tryz.prog 12 #[.int .i64 a0, .int .i64 a1] w fun e w' => e = .returned (.bool true) ∧ Below w.heap.size w w' := by
  clear w0 w1
  obtain ⟨n, hn, hn5⟩ := mod_norm (x := a0) (show (0 : Int) < 5 by decide) (by decide)
  replace hn5 : n < 5 := by omega
  go_enter Tryz.func12, Tryz.ntmps12
  go_wp2_with fail
  refine (begun7_any _).mono ?_
  rintro e w1 ⟨rfl, hb1⟩
  have HB1 := Lib.hid hb1
  clear hb1
  go_wp2_with fail
  refine (made_any w1).mono ?_
  rintro e w2 ⟨g, rfl, hn2, hb2⟩
  obtain ⟨base, hbase⟩ : ∃ base, base = w1.heap.size := ⟨_, rfl⟩
  rw [← hbase] at hn2
  have HLB := Lib.hid (show w.heap.size ≤ base by rw [hbase]; exact HB1.out.size)
  have HN2 := Lib.hid hn2
  have HB2 := Lib.hid (HB1.out.trans (hb2.mono HB1.out.size))
  clear hn2 hb2 HB1 hbase
  go_wp2_with fail
  go_loopw [7] (fun i wr => ∃ (r : Nat) (N : Nd), r ≤ n ∧ i = .int .i64 r ∧ Ec N r ∧ NandIn wr base g 0 N ∧ Below w.heap.size w wr) (fun i _ => n - (intOf i).toNat)
  case atStart => exact ⟨0, _, by omega, rfl, Ec.start, HN2.out, HB2.out⟩
  case round =>
    clear HN2 HB2
    obtain ⟨r, N, hr, rfl, hec, hnd, hbl⟩ := hrel
    by_cases hlt : r < n
    · have hI1 : (r : Int) < (n : Int) := by omega
      have hI2 : (r : Int) < 4 := by omega
      obtain ⟨pe, he2⟩ := hec.prog (by omega) (pg1 5)
      have HPE := Lib.hid pe
      have HE2 := Lib.hid he2
      have HBD := Lib.hid (show N.ops ≤ 1000000 ∧ N.broken ≤ 1000000 from ⟨by rw [hec.ops]; omega, by rw [hec.broken]; omega⟩)
      have HN5 := Lib.hid hnd
      have HB5 := Lib.hid hbl
      clear hec hnd hbl pe he2
      go_wp2_with (first | (refine want_build 32 _ rfl [(0, .int .i64 _), (2, .int .i64 _)] rfl _ (ad_dp _ _) (by rfl) ?_) | (refine want_build 34 _ rfl [(0, .int .u8 _)] rfl _ (built_pg1 5) (by rfl) ?_))
      refine (program_any (show NandIn _ _ _ 0 (N) from HN5.out) ⟨1, 0, r⟩ (ad_wf (by omega) (by omega) (by omega)) (pg1 5) (pg1_ok (by decide)).1 (pg1_ok (by decide)).2 HBD.out.1 HBD.out.2).mono ?_
      rw [HPE.out]
      rintro e w6 ⟨rfl, hn6, hf6⟩
      replace hn6 : NandIn w6 base g (0) (N.programN ⟨1, 0, r⟩ (pg1 5)) := by rw [show (N.programN ⟨1, 0, r⟩ (pg1 5)) = ((N).programN ⟨1, 0, r⟩ (pg1 5)) from rfl]; exact hn6
      have HN6 := Lib.hid hn6
      have HB6 := Lib.hid (hf6.below HB5.out HLB.out (Nat.le_refl _))
      clear hn6 hf6 HN5 HB5 
      go_wp2_with fail
      go_roundw
      case rel => exact ⟨r + 1, _, by omega, by go_num, HE2.out, HN6.out, HB6.out⟩
      case measure => simp [intOf]; omega
    · obtain rfl : r = n := by omega
      obtain ⟨pe, po, hbk, k1, k2⟩ := hec.cut (by omega) a1
      have HPE := Lib.hid pe
      have HPO := Lib.hid (show (!((N.cutAt 0 a1).eraseN 1 0).off) = false by rw [po]; rfl)
      have HBK := Lib.hid hbk
      have HBD := Lib.hid (show (N.cutAt 0 a1).ops ≤ 1000000 ∧ ((N.cutAt 0 a1).blk 1 0).worn ≤ 1000000 from ⟨by rw [k1, hec.ops]; omega, by rw [k2, hec.blk.2.1]; omega⟩)
      have HN5 := Lib.hid hnd
      have HB5 := Lib.hid hbl
      clear hec hnd hbl pe po hbk k1 k2
      go_wp2_with fail
      refine (cut_in (show NandIn _ _ _ 0 (N) from HN5.out) 0 a1 (by omega)).mono ?_
      rintro e w6 ⟨rfl, hn6, hf6⟩
      replace hn6 : NandIn w6 base g (0) (N.cutAt 0 a1) := by rw [show (N.cutAt 0 a1) = ((N).cutAt 0 a1) from rfl]; exact hn6
      have HN6 := Lib.hid hn6
      have HB6 := Lib.hid (hf6.below HB5.out HLB.out (Nat.le_refl _))
      clear hn6 hf6 HN5 HB5 
      go_wp2_with fail
      refine (erase_any (show NandIn _ _ _ 0 (N.cutAt 0 a1) from HN6.out) 1 0 ⟨rfl, rfl, rfl⟩ HBD.out.1 HBD.out.2 (by omega)).mono ?_
      rw [HPE.out]
      rintro e w7 ⟨rfl, hn7, hf7⟩
      have HN7 := Lib.hid hn7
      have HB7 := Lib.hid (hf7.below HB6.out HLB.out (Nat.le_refl _))
      clear hn7 hf7 HN6 HB6 
      go_wp2_with fail
      refine (power_in (show NandIn _ _ _ 0 ((N.cutAt 0 a1).eraseN 1 0) from HN7.out)).mono ?_
      rw [HPO.out]
      rintro e wq ⟨rfl, rfl⟩
      go_wp2_with fail
      refine (on_in (show NandIn _ _ _ 0 ((N.cutAt 0 a1).eraseN 1 0) from HN7.out)).mono ?_
      rintro e w8 ⟨rfl, hn8, hf8⟩
      have HN8 := Lib.hid hn8
      have HB8 := Lib.hid (hf8.below HB7.out HLB.out (Nat.le_refl _))
      clear hn8 hf8 HN7 HB7 
      generalize ((N.cutAt 0 a1).eraseN 1 0).on = M at *
      clear HPE HPO HBD
      go_wp2_with fail
      go_loopw [8, 9, 10] (fun i _ _ wx => ∃ (p : Nat), p ≤ 4 ∧ i = .int .i64 p ∧ NandIn wx base g 0 M ∧ Below w.heap.size w wx) (fun i _ _ _ => 4 - (intOf i).toNat)
      case atStart => exact ⟨0, by omega, rfl, HN8.out, HB8.out⟩
      case round =>
        clear HN8 HB8
        obtain ⟨p, hp, rfl, hnd, hbl⟩ := hrel
        by_cases hlp : p < 4
        · have hI3 : (p : Int) < 4 := by omega
          have HRE := Lib.hid (HBK.out.read hlp)
          have HLN := Lib.hid (readP_length hnd.ok ⟨1, 0, p⟩)
          have HN5 := Lib.hid hnd
          have HB5 := Lib.hid hbl
          clear hnd hbl
          go_wp2_with (first | (refine want_build 32 _ rfl [(0, .int .i64 _), (2, .int .i64 _)] rfl _ (ad_dp _ _) (by rfl) ?_))
          refine (read_in (show NandIn _ _ _ 0 (M) from HN5.out) ⟨1, 0, p⟩ (ad_wf (by omega) (by omega) (by omega))).mono ?_
          rw [HRE.out]
          rintro e w6 ⟨rfl, hb6⟩
          have HN6 := Lib.hid (HN5.out.below hb6)
          have HB6 := Lib.hid (HB5.out.trans (hb6.mono HB5.out.size))
          clear hb6 HN5 HB5 
          generalize M.readP ⟨1, 0, p⟩ = rp at *
          go_upto_if 57 with (first | (refine wpList_put_row rfl 34 (.tmp 9) (.tmp 54) rfl _ (nats .u8 rp) rfl rfl 34 _ (heap_new' _ _ _ rfl) (pgInfo HLN.out) (by rw [nats_length, HLN.out]; rfl) (one_nats _ _) ?_; intro w7 hU7; have h7 := hU7.at_; have hb7 := hU7.below (alloc_low _ _) (Nat.le_refl _); clear hU7))
          have HN7 := Lib.hid (HN6.out.below hb7)
          have HB7 := Lib.hid (HB6.out.trans (hb7.mono HB6.out.size))
          clear hb7 HN6 HB6 
          clear h7
          go_wp2_with fail
          go_roundw
          case rel => exact ⟨p + 1, by omega, by go_num, HN7.out, HB7.out⟩
          case measure => simp [intOf]; omega
        · obtain rfl : p = 4 := by omega
          obtain ⟨e1, e2, e3, e4⟩ := HBK.out.last zero32
          have HE := Lib.hid (And.intro e1 (And.intro e2 (And.intro e3 e4)))
          have HL := Lib.hid (show ((M.blk 1 0).cells.length : Int) = 4 by rw [HBK.out.blk.1]; rfl)
          have HW := Lib.hid (show ((M.blk 1 0).worn : Int) = 0 by rw [HBK.out.blk.2.1]; rfl)
          have HG := Lib.hid (show 1 < M.D ∧ 0 < M.B from ⟨by rw [HBK.out.fine.geo.1]; omega, by rw [HBK.out.fine.geo.2.1]; omega⟩)
          have HBD := Lib.hid (show M.ops ≤ 1000000 ∧ (M.blk 1 0).worn ≤ 1000000 from ⟨by have := HBK.out.ops; omega, by rw [HBK.out.blk.2.1]; omega⟩)
          have HN5 := Lib.hid hnd
          have HB5 := Lib.hid hbl
          clear hnd hbl e1 e2 e3 e4
          go_wp2_with fail
          refine (show Calls _ _ #[.pointer (some ⟨g, 0, none⟩), .int .i64 1, .int .i64 0] _ _ from next_in (show NandIn _ _ _ 0 M from HN5.out) 1 0 HG.out.1 HG.out.2).mono ?_
          rw [HL.out]
          rintro e w8 ⟨rfl, hb8⟩
          have HN8 := Lib.hid (HN5.out.below hb8)
          have HB8 := Lib.hid (HB5.out.trans (hb8.mono HB5.out.size))
          clear hb8 HN5 HB5 
          go_wp2_with fail
          refine (show Calls _ _ #[.pointer (some ⟨g, 0, none⟩), .int .i64 1, .int .i64 0] _ _ from worn_in (show NandIn _ _ _ 0 M from HN8.out) 1 0 HG.out.1 HG.out.2).mono ?_
          rw [HW.out]
          rintro e w9 ⟨rfl, hb9⟩
          have HN9 := Lib.hid (HN8.out.below hb9)
          have HB9 := Lib.hid (HB8.out.trans (hb9.mono HB8.out.size))
          clear hb9 HN8 HB8 
          go_wp2_with fail
          refine (erase_any (show NandIn _ _ _ 0 (M) from HN9.out) 1 0 ⟨rfl, rfl, rfl⟩ HBD.out.1 HBD.out.2 (by omega)).mono ?_
          rw [HE.out.1]
          rintro e w10 ⟨rfl, hn10, hf10⟩
          replace hn10 : NandIn w10 base g (0) (M.eraseN 1 0) := by rw [show (M.eraseN 1 0) = ((M).eraseN 1 0) from rfl]; exact hn10
          have HN10 := Lib.hid hn10
          have HB10 := Lib.hid (hf10.below HB9.out HLB.out (Nat.le_refl _))
          clear hn10 hf10 HN9 HB9 
          go_wp2_with (first | (refine want_build 32 _ rfl [(0, .int .i64 _)] rfl _ (ad_d _) (by rfl) ?_) | (refine want_build 34 _ rfl [] rfl _ built_pz (by rfl) ?_))
          refine (program_any (show NandIn _ _ _ 0 (M.eraseN 1 0) from HN10.out) ⟨1, 0, 0⟩ ⟨rfl, rfl, rfl⟩ zero32 zero32_ok.1 zero32_ok.2 HE.out.2.2.1 HE.out.2.2.2).mono ?_
          rw [HE.out.2.1]
          rintro e w11 ⟨rfl, hn11, hf11⟩
          have HN11 := Lib.hid hn11
          have HB11 := Lib.hid (hf11.below HB10.out HLB.out (Nat.le_refl _))
          clear hn11 hf11 HN10 HB10 
          go_wp2_with fail
          go_ret
          exact ⟨rfl, HB11.out⟩
end Go.Proofs.YtnfigkoefmldiaaGreat.nandEraseCut
