import Derived.Test.YtnfigkoefmldiaaGreatBunR
import Derived.Test.YtnfigkoefmldiaaGreatClean3
/- NandBad: a block whose erase failed is never erased nor programmed any more; what it has is read still; no condition. -/
namespace Go.Proofs.YtnfigkoefmldiaaGreat.nandBad
open Go.RowKit
open Go.Proofs.YtnfigkoefmldiaaGreat.nand
set_option linter.unusedVariables false
/-- The pages that stand in the block. -/
def cs (n : Nat) : List Cel := (List.range n).map fun i => ⟨pg1 (i + 1), false, false⟩
theorem cs_succ (n : Nat) : cs (n + 1) = cs n ++ [⟨pg1 (n + 1), false, false⟩] := by simp [cs, List.range_succ]
theorem cs_len (n : Nat) : (cs n).length = n := by simp [cs]
theorem cs_at {n i : Nat} (h : i < n) : (cs n)[i]? = some ⟨pg1 (i + 1), false, false⟩ := by simp [cs, h]
structure Ba (N : Nd) (r : Nat) : Prop where
  fine : Fine N 3 8 4
  blk : N.blk 2 0 = ⟨cs r, 0, false, false⟩
  one : (N.blk 2 1).fails = false ∧ (N.blk 2 1).worn = 0
  ops : N.ops = r
  broken : N.broken = 0
theorem Ba.start : Ba (Nd.new 3 8 4) 0 := ⟨Fine.new 3 8 4, rfl, ⟨rfl, rfl⟩, rfl, rfl⟩
theorem Ba.prog {N : Nd} {r : Nat} (h : Ba N r) (hr : r < 4) : N.programE ⟨2, 0, r⟩ (pg1 (r + 1)) = 0 ∧ Ba (N.programN ⟨2, 0, r⟩ (pg1 (r + 1))) (r + 1) := by
  obtain ⟨e, n⟩ := h.fine.prog (d := 2) (b := 0) (p := r) (by omega) (by omega) hr (by rw [h.blk]) (by rw [h.blk]; exact cs_len r) (pg1 (r + 1))
  refine ⟨e, n.clean, ?_, ?_, by rw [show (N.programN ⟨2, 0, r⟩ (pg1 (r + 1))).ops = _ from n.ops, h.ops], by rw [show (N.programN ⟨2, 0, r⟩ (pg1 (r + 1))).broken = _ from n.broken, h.broken]⟩
  · rw [show ((N.programN ⟨2, 0, r⟩ (pg1 (r + 1))).blk 2 0) = _ from n.at_, h.blk, cs_succ]; rfl
  · rw [show ((N.programN ⟨2, 0, r⟩ (pg1 (r + 1))).blk 2 1) = _ from n.other (by omega)]; exact h.one
def fE : Flt := ⟨0, 2, 2, 0, 0, 0, 0⟩
theorem fE_wf : fE.wf := ⟨rfl, rfl, ⟨rfl, rfl, rfl⟩, rfl, rfl⟩
/-- Behind the erases that failed. -/
structure Bb (N : Nd) (r : Nat) (f m : Bool) : Prop where
  fine : Fine N 3 8 4
  blk : N.blk 2 0 = ⟨cs r, 0, f, m⟩
  one : (N.blk 2 1).fails = false ∧ (N.blk 2 1).worn = 0
  ops : N.ops ≤ 10
  broken : N.broken = 0
theorem Ba.fault {N : Nd} {r : Nat} (h : Ba N r) (hr : r ≤ 4) : N.faultB fE = true ∧ Bb (N.faultN fE) r true false ∧ (N.faultN fE).ops = N.ops := by
  obtain ⟨e, n⟩ := h.fine.fErase (d := 2) (b := 0) (by omega) (by omega) (by omega)
  refine ⟨e, ⟨n.clean, ?_, ?_, ?_, ?_⟩, n.ops⟩
  · rw [show ((N.faultN fE).blk 2 0) = _ from n.at_, h.blk]
  · rw [show ((N.faultN fE).blk 2 1) = _ from n.other (by omega)]; exact h.one
  · rw [show (N.faultN fE).ops = _ from n.ops, h.ops]; omega
  · rw [show (N.faultN fE).broken = _ from n.broken, h.broken]
theorem Bb.erase {N : Nd} {r : Nat} {m : Bool} (h : Bb N r true m) (ho : N.ops ≤ 8) : N.eraseE 2 0 = 7 ∧ Bb (N.eraseN 2 0) r true true ∧ (N.eraseN 2 0).ops = N.ops + 1 := by
  obtain ⟨e, n⟩ := h.fine.eraseFail (d := 2) (b := 0) (by omega) (by omega) (by omega) (by rw [h.blk])
  refine ⟨e, ⟨n.clean, ?_, ?_, ?_, ?_⟩, n.ops⟩
  · rw [show ((N.eraseN 2 0).blk 2 0) = _ from n.at_, h.blk]
  · rw [show ((N.eraseN 2 0).blk 2 1) = _ from n.other (by omega)]; exact h.one
  · rw [show (N.eraseN 2 0).ops = _ from n.ops]; omega
  · rw [show (N.eraseN 2 0).broken = _ from n.broken, h.broken]
theorem Bb.read {N : Nd} {r i : Nat} {f m : Bool} (h : Bb N r f m) (hr : r ≤ 4) (hi : i < r) : N.readP ⟨2, 0, i⟩ = pg1 (i + 1) ∧ N.readE ⟨2, 0, i⟩ = 0 := by
  have := h.fine.readE (d := 2) (b := 0) (p := i) (c := ⟨pg1 (i + 1), false, false⟩) (by omega) (by omega) (by omega) (by rw [h.blk]; exact cs_at hi) rfl
  exact ⟨this.2, this.1⟩
theorem Bb.last {N : Nd} {r : Nat} (h : Bb N r true true) (hr : r < 4) (pg : List Nat) : N.programE ⟨2, 0, r⟩ pg = 7 ∧ (N.programN ⟨2, 0, r⟩ pg).readE ⟨2, 0, r⟩ = 6 ∧ ((N.programN ⟨2, 0, r⟩ pg).blk 2 0).worn = 0 ∧ (N.programN ⟨2, 0, r⟩ pg).eraseE 2 1 = 0 ∧ (N.programN ⟨2, 0, r⟩ pg).ops ≤ 1000000 ∧ ((N.programN ⟨2, 0, r⟩ pg).blk 2 1).worn ≤ 1000000 ∧ Fine (N.programN ⟨2, 0, r⟩ pg) 3 8 4 := by
  obtain ⟨e, n⟩ := h.fine.progMet (d := 2) (b := 0) (p := r) (by omega) (by omega) hr (by rw [h.blk]) (by rw [h.blk]; exact cs_len r) pg
  have ha : (N.programN ⟨2, 0, r⟩ pg).blk 2 0 = _ := n.at_
  have h1 : (N.programN ⟨2, 0, r⟩ pg).blk 2 1 = N.blk 2 1 := n.other (by omega)
  obtain ⟨e2, -⟩ := n.clean.erase (d := 2) (b := 1) (by omega) (by omega) (by omega) (by rw [show ((N.programN ⟨((2 : Nat) : Int), ((0 : Nat) : Int), (r : Int)⟩ pg).blk 2 1) = _ from h1]; exact h.one.1)
  refine ⟨e, ?_, ?_, e2, ?_, ?_, n.clean⟩
  · exact n.clean.readLost (d := 2) (b := 0) (p := r) (c := ⟨pg, true, false⟩) (by omega) (by omega) hr (by rw [show ((N.programN ⟨((2 : Nat) : Int), ((0 : Nat) : Int), (r : Int)⟩ pg).blk 2 0) = _ from ha, h.blk]; simp [moreC, cs_len]) rfl
  · rw [ha, h.blk]; rfl
  · rw [show (N.programN ⟨2, 0, r⟩ pg).ops = _ from n.ops]; have := h.ops; omega
  · rw [h1, h.one.2]; omega
theorem neq_pg (x : Nat) (hx : x < 256) (w : World) : (binOp .neq 34 (.agg (nats .u8 (pg1 x)).toArray) (.agg (nats .u8 (pg1 x)).toArray)).run Tryz.prog w = .ok (.bool false) w := by
  rw [neq_page w (pg1 x) (pg1 x) (pg1_ok hx).2 (pg1_ok hx).2 (pg1_ok hx).1 (pg1_ok hx).1]; simp
set_option maxRecDepth 100000 in
set_option maxHeartbeats 8000000 in
theorem walk (a0 : Int) (w : World) (w0 : (Lit.int .i64 a0).wf = true) :
    Calls Tryz.prog 10 #[.int .i64 a0] w fun e w' => e = .returned (.bool true) ∧ Below w.heap.size w w' := by
  clear w0
  obtain ⟨n, hn, hn4⟩ := mod_norm (x := a0) (show (0 : Int) < 4 by decide) (by decide)
  replace hn4 : n < 4 := by omega
  go_enter Tryz.func10, Tryz.ntmps10
  go_wp2_with fail
  refine (begun7_any _).mono ?_
  rintro e w1 ⟨rfl, hb1⟩
  have HB1 := Lib.hid hb1
  clear hb1
  go_wp2_with fail
  refine (made_any w1).mono ?_
  rintro e w2 ⟨g, rfl, hn2, hb2⟩
  obtain ⟨base, hbase⟩ : ∃ base, base = w1.heap.size := ⟨_, rfl⟩
  rw [← hbase] at hn2
  have HLB := Lib.hid (show w.heap.size ≤ base by rw [hbase]; exact HB1.out.size)
  have HN2 := Lib.hid hn2
  have HB2 := Lib.hid (HB1.out.trans (hb2.mono HB1.out.size))
  clear hn2 hb2 HB1 hbase
  go_wp2_with fail
  go_loopw [5] (fun i wr => ∃ (r : Nat) (N : Nd), r ≤ n ∧ i = .int .i64 r ∧ Ba N r ∧ NandIn wr base g 0 N ∧ Below w.heap.size w wr) (fun i _ => n - (intOf i).toNat)
  case atStart => exact ⟨0, _, by omega, rfl, Ba.start, HN2.out, HB2.out⟩
  case round =>
    clear HN2 HB2
    obtain ⟨r, N, hr, rfl, hba, hnd, hbl⟩ := hrel
    by_cases hlt : r < n
    · have hI1 : (r : Int) < (n : Int) := by omega
      have h256 : IntKind.u8.wrap ((r : Int) + 1) = ((r + 1 : Nat) : Int) := by rw [wrap_u8]; omega
      obtain ⟨pe, he2⟩ := hba.prog (by omega)
      have HPE := Lib.hid pe
      have HE2 := Lib.hid he2
      have HBD := Lib.hid (show N.ops ≤ 1000000 ∧ N.broken ≤ 1000000 from ⟨by rw [hba.ops]; omega, by rw [hba.broken]; omega⟩)
      have HN5 := Lib.hid hnd
      have HB5 := Lib.hid hbl
      clear hba hnd hbl pe he2
      go_wp2_with (first | (refine want_build 32 _ rfl [(0, .int .i64 _), (2, .int .i64 _)] rfl _ (ad_dp _ _) (by rfl) ?_) | (refine want_build 34 _ rfl [(0, .int .u8 _)] rfl _ (built_pg1 (r + 1)) (by rfl) ?_))
      refine (program_any (show NandIn _ _ _ 0 (N) from HN5.out) ⟨2, 0, r⟩ (ad_wf (by omega) (by omega) (by omega)) (pg1 (r + 1)) (pg1_ok (by omega)).1 (pg1_ok (by omega)).2 HBD.out.1 HBD.out.2).mono ?_
      rw [HPE.out]
      rintro e w6 ⟨rfl, hn6, hf6⟩
      replace hn6 : NandIn w6 base g (0) (N.programN ⟨2, 0, r⟩ (pg1 (r + 1))) := by rw [show (N.programN ⟨2, 0, r⟩ (pg1 (r + 1))) = ((N).programN ⟨2, 0, r⟩ (pg1 (r + 1))) from rfl]; exact hn6
      have HN6 := Lib.hid hn6
      have HB6 := Lib.hid (hf6.below HB5.out HLB.out (Nat.le_refl _))
      clear hn6 hf6 HN5 HB5 
      clear h256
      go_wp2_with fail
      go_roundw
      case rel => exact ⟨r + 1, _, by omega, by go_num, HE2.out, HN6.out, HB6.out⟩
      case measure => simp [intOf]; omega
    · obtain rfl : r = n := by omega
      obtain ⟨pf, hb1, ho1⟩ := hba.fault (by omega)
      rw [hba.ops] at ho1
      obtain ⟨pe1, hb2, ho2⟩ := hb1.erase (by omega)
      obtain ⟨pe2, hb3, ho3⟩ := hb2.erase (by omega)
      have HPE := Lib.hid (And.intro pf (And.intro pe1 pe2))
      have HB3 := Lib.hid hb3
      have HBD := Lib.hid (show ((N.faultN fE).ops ≤ 1000000 ∧ ((N.faultN fE).blk 2 0).worn ≤ 1000000) ∧ (((N.faultN fE).eraseN 2 0).ops ≤ 1000000 ∧ (((N.faultN fE).eraseN 2 0).blk 2 0).worn ≤ 1000000) from ⟨⟨by omega, by rw [hb1.blk]; exact Nat.zero_le _⟩, by omega, by rw [hb2.blk]; exact Nat.zero_le _⟩)
      have HN5 := Lib.hid hnd
      have HB5 := Lib.hid hbl
      clear hba hnd hbl pf hb1 ho1 pe1 hb2 ho2 pe2 hb3 ho3
      go_wp2_with (first | (refine want_build 32 _ rfl [(0, .int .i64 _)] rfl _ (ad_d _) (by rfl) ?_) | (refine want_build 44 _ rfl [(1, .int .i64 _), (2, .agg _)] rfl _ (flt_ka 2 _ _ _) (by rfl) ?_))
      refine (fault_in (show NandIn _ _ _ 0 (N) from HN5.out) fE fE_wf (by omega)).mono ?_
      rw [HPE.out.1]
      rintro e w6 ⟨rfl, hn6, hf6⟩
      replace hn6 : NandIn w6 base g (1) (N.faultN fE) := by rw [show (N.faultN fE) = ((N).faultN fE) from rfl]; exact hn6
      have HN6 := Lib.hid hn6
      have HB6 := Lib.hid (hf6.below HB5.out HLB.out (Nat.le_refl _))
      clear hn6 hf6 HN5 HB5 
      go_wp2_with fail
      refine (erase_any (show NandIn _ _ _ 1 (N.faultN fE) from HN6.out) 2 0 ⟨rfl, rfl, rfl⟩ HBD.out.1.1 HBD.out.1.2 (by omega)).mono ?_
      rw [HPE.out.2.1]
      rintro e w7 ⟨rfl, hn7, hf7⟩
      have HN7 := Lib.hid hn7
      have HB7 := Lib.hid (hf7.below HB6.out HLB.out (Nat.le_refl _))
      clear hn7 hf7 HN6 HB6 
      go_wp2_with fail
      refine (erase_any (show NandIn _ _ _ 1 ((N.faultN fE).eraseN 2 0) from HN7.out) 2 0 ⟨rfl, rfl, rfl⟩ HBD.out.2.1 HBD.out.2.2 (by omega)).mono ?_
      rw [HPE.out.2.2]
      rintro e w8 ⟨rfl, hn8, hf8⟩
      have HN8 := Lib.hid hn8
      have HB8 := Lib.hid (hf8.below HB7.out HLB.out (Nat.le_refl _))
      clear hn8 hf8 HN7 HB7 
      generalize ((N.faultN fE).eraseN 2 0).eraseN 2 0 = M at *
      clear HPE HBD
      go_wp2_with fail
      go_loopw [8, 9, 10] (fun i _ _ wx => ∃ (p : Nat), p ≤ r ∧ i = .int .i64 p ∧ NandIn wx base g 1 M ∧ Below w.heap.size w wx) (fun i _ _ _ => r - (intOf i).toNat)
      case atStart => exact ⟨0, by omega, rfl, HN8.out, HB8.out⟩
      case round =>
        clear HN8 HB8
        obtain ⟨p, hp, rfl, hnd, hbl⟩ := hrel
        by_cases hlp : p < r
        · have hI3 : (p : Int) < (r : Int) := by omega
          obtain ⟨f1, f2⟩ := HB3.out.read (by omega) hlp
          have HRD := Lib.hid (And.intro f1 f2)
          have HN5 := Lib.hid hnd
          have HB5 := Lib.hid hbl
          have h256 : IntKind.u8.wrap ((p : Int) + 1) = ((p + 1 : Nat) : Int) := by rw [wrap_u8]; omega
          clear hnd hbl f1 f2
          go_wp2_with (first | (refine want_build 32 _ rfl [(0, .int .i64 _), (2, .int .i64 _)] rfl _ (ad_dp _ _) (by rfl) ?_))
          refine (read_in (show NandIn _ _ _ 1 (M) from HN5.out) ⟨2, 0, p⟩ (ad_wf (by omega) (by omega) (by omega))).mono ?_
          rw [HRD.out.1, HRD.out.2]
          rintro e w6 ⟨rfl, hb6⟩
          have HN6 := Lib.hid (HN5.out.below hb6)
          have HB6 := Lib.hid (HB5.out.trans (hb6.mono HB5.out.size))
          clear hb6 HN5 HB5 
          obtain ⟨xb, hxb⟩ : ∃ xb, xb = w6.heap.size := ⟨_, rfl⟩
          go_upto_region 16 with (first | (refine wpList_put_row rfl 34 (.tmp 9) (.tmp 53) rfl _ (nats .u8 (pg1 (p + 1))) rfl rfl 34 _ (heap_new' _ _ _ rfl) (pgInfo rfl) rfl (one_nats _ _) ?_; intro w7 hU7; have h7 := hU7.at_; have hb7 := hU7.below (alloc_low _ _) (Nat.le_refl _); clear hU7))
          rw [← hxb] at h7 ⊢
          have HN7 := Lib.hid (HN6.out.below hb7)
          have HB7 := Lib.hid (HB6.out.trans (hb7.mono HB6.out.size))
          clear hb7 HN6 HB6 
          have hx_7 := h7
          clear h7 hxb
          go_simp
          have hne := neq_pg (p + 1) (by omega)
          go_wp2_with (first | (refine want_page (.tmp 9) rfl xb 0 rfl (by rfl) (range_blk (cs := nats .u8 (pg1 (p + 1))) hx_7) (pgInfo rfl) ?_) | (refine want_build 34 _ rfl [(0, .int .u8 _)] rfl _ (built_pg1 (p + 1)) (by rfl) ?_))
          clear h256 hne
          go_roundw
          case rel => exact ⟨p + 1, by omega, by go_num, HN7.out, HB7.out⟩
          case measure => simp [intOf]; omega
        · obtain rfl : p = r := by omega
          obtain ⟨e1, e2, e3, e4, e5, e6, e7⟩ := HB3.out.last (by omega) zero32
          have HE := Lib.hid (And.intro e1 (And.intro e2 (And.intro (show (((M.programN ⟨2, 0, p⟩ zero32).blk 2 0).worn : Int) = 0 by rw [e3]; rfl) (And.intro e4 (And.intro e5 e6)))))
          have HG := Lib.hid (show 2 < (M.programN ⟨2, 0, p⟩ zero32).D ∧ 0 < (M.programN ⟨2, 0, p⟩ zero32).B from ⟨by rw [e7.geo.1]; omega, by rw [e7.geo.2.1]; omega⟩)
          have HBD := Lib.hid (show M.ops ≤ 1000000 ∧ M.broken ≤ 1000000 from ⟨by have := HB3.out.ops; omega, by rw [HB3.out.broken]; omega⟩)
          have HN5 := Lib.hid hnd
          have HB5 := Lib.hid hbl
          clear hnd hbl e1 e2 e3 e4 e5 e6 e7
          go_wp2_with (first | (refine want_build 32 _ rfl [(0, .int .i64 _), (2, .int .i64 _)] rfl _ (ad_dp _ _) (by rfl) ?_) | (refine want_build 34 _ rfl [] rfl _ built_pz (by rfl) ?_))
          refine (program_any (show NandIn _ _ _ 1 (M) from HN5.out) ⟨2, 0, p⟩ (ad_wf (by omega) (by omega) (by omega)) zero32 zero32_ok.1 zero32_ok.2 HBD.out.1 HBD.out.2).mono ?_
          rw [HE.out.1]
          rintro e w6 ⟨rfl, hn6, hf6⟩
          replace hn6 : NandIn w6 base g (1) (M.programN ⟨2, 0, p⟩ zero32) := by rw [show (M.programN ⟨2, 0, p⟩ zero32) = ((M).programN ⟨2, 0, p⟩ zero32) from rfl]; exact hn6
          have HN6 := Lib.hid hn6
          have HB6 := Lib.hid (hf6.below HB5.out HLB.out (Nat.le_refl _))
          clear hn6 hf6 HN5 HB5 
          have HLN := Lib.hid (readP_length HN6.out.ok ⟨2, 0, p⟩)
          go_wp2_with (first | (refine want_build 32 _ rfl [(0, .int .i64 _), (2, .int .i64 _)] rfl _ (ad_dp _ _) (by rfl) ?_))
          refine (read_in (show NandIn _ _ _ 1 (M.programN ⟨2, 0, p⟩ zero32) from HN6.out) ⟨2, 0, p⟩ (ad_wf (by omega) (by omega) (by omega))).mono ?_
          rw [HE.out.2.1]
          rintro e w7 ⟨rfl, hb7⟩
          have HN7 := Lib.hid (HN6.out.below hb7)
          have HB7 := Lib.hid (HB6.out.trans (hb7.mono HB6.out.size))
          clear hb7 HN6 HB6 
          generalize (M.programN ⟨2, 0, p⟩ zero32).readP ⟨2, 0, p⟩ = rp at *
          go_upto_region 20 with (first | (refine wpList_put_row rfl 34 (.tmp 12) (.tmp 75) rfl _ (nats .u8 rp) rfl rfl 34 _ (heap_new' _ _ _ rfl) (pgInfo HLN.out) (by rw [nats_length, HLN.out]; rfl) (one_nats _ _) ?_; intro w8 hU8; have h8 := hU8.at_; have hb8 := hU8.below (alloc_low _ _) (Nat.le_refl _); clear hU8))
          have HN8 := Lib.hid (HN7.out.below hb8)
          have HB8 := Lib.hid (HB7.out.trans (hb8.mono HB7.out.size))
          clear hb8 HN7 HB7 
          clear h8
          go_simp
          go_wp2_with fail
          refine (show Calls _ _ #[.pointer (some ⟨g, 0, none⟩), .int .i64 2, .int .i64 0] _ _ from worn_in (show NandIn _ _ _ 1 (M.programN ⟨2, 0, p⟩ zero32) from HN8.out) 2 0 HG.out.1 HG.out.2).mono ?_
          rw [HE.out.2.2.1]
          rintro e w9 ⟨rfl, hb9⟩
          have HN9 := Lib.hid (HN8.out.below hb9)
          have HB9 := Lib.hid (HB8.out.trans (hb9.mono HB8.out.size))
          clear hb9 HN8 HB8 
          go_wp2_with fail
          refine (erase_any (show NandIn _ _ _ 1 (M.programN ⟨2, 0, p⟩ zero32) from HN9.out) 2 1 ⟨rfl, rfl, rfl⟩ HE.out.2.2.2.2.1 HE.out.2.2.2.2.2 (by omega)).mono ?_
          rw [HE.out.2.2.2.1]
          rintro e w10 ⟨rfl, hn10, hf10⟩
          have HN10 := Lib.hid hn10
          have HB10 := Lib.hid (hf10.below HB9.out HLB.out (Nat.le_refl _))
          clear hn10 hf10 HN9 HB9 
          go_wp2_with fail
          go_ret
          exact ⟨rfl, HB10.out⟩
end Go.Proofs.YtnfigkoefmldiaaGreat.nandBad
