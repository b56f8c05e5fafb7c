import Derived.Test.YtnfigkoefmldiaaGreatBunR
import Derived.Test.YtnfigkoefmldiaaGreatClean2
/- NandTurn: a byte that is turned is turned; not twice, till its block is erased; no condition. -/
namespace Go.Proofs.YtnfigkoefmldiaaGreat.nandTurn
open Go.RowKit
open Go.Proofs.YtnfigkoefmldiaaGreat.nand
set_option linter.unusedVariables false
def pB : List Nat := 1 :: 2 :: 3 :: List.replicate 29 0
theorem pB_ok : pB.length = 32 ∧ ∀ y ∈ pB, y < 256 := ⟨by decide, by decide⟩
theorem built_pB : Tryz.prog.built 34 [(0, .int .u8 1), (1, .int .u8 2), (2, .int .u8 3)] = some (nats .u8 pB).toArray := by kernel_rfl
def fT (n : Nat) (x : Int) : Flt := ⟨0, 5, 0, 0, 0, n, x⟩
structure Tn (N : Nd) (l : List Cel) (q : Nat) : Prop where
  fine : Fine N 3 8 4
  blk : (N.blk 0 0).cells = l ∧ (N.blk 0 0).met = false ∧ (N.blk 0 0).fails = false ∧ (N.blk 0 0).worn ≤ q
  ops : N.ops ≤ q
  broken : N.broken = 0
theorem Tn.start : Tn (Nd.new 3 8 4) [] 0 := ⟨Fine.new 3 8 4, ⟨rfl, rfl, rfl, Nat.le_refl _⟩, Nat.le_refl _, rfl⟩
theorem fT_in {N : Nd} (h : Fine N 3 8 4) (n : Nat) (x : Int) : N.inG (fT n x).a = true := by
  obtain ⟨g1, g2, g3⟩ := h.geo
  simp [Nd.inG, Flt.a, fT, g1, g2, g3]
theorem Tn.bad {n : Int} (x : Int) (hn : n < 0 ∨ 32 ≤ n) : (Nd.new 3 8 4).faultB ⟨0, 5, 0, 0, 0, n, x⟩ = false := by
  have hin : (Nd.new 3 8 4).inG (Flt.mk 0 5 0 0 0 n x).a = true := by simp [Nd.inG, Flt.a, Nd.new]
  exact ((fault_plain (f := ⟨0, 5, 0, 0, 0, n, x⟩) (d := 0) (b := 0) (q := 0) hin rfl rfl rfl).k5 rfl hn).1
theorem Tn.early {N : Nd} {q n : Nat} (h : Tn N [] q) (hn : n < 32) (x : Int) : N.faultB (fT n x) = true ∧ N.faultN (fT n x) = N :=
  (fault_plain (f := fT n x) (d := 0) (b := 0) (q := 0) (fT_in h.fine n x) rfl rfl rfl).k5a rfl (by simp [fT]) (by simp [fT]; omega) (by rw [h.blk.1]; exact Nat.le_refl _)
theorem Tn.prog {N : Nd} {q : Nat} (h : Tn N [] q) : N.programE ⟨0, 0, 0⟩ pB = 0 ∧ Tn (N.programN ⟨0, 0, 0⟩ pB) [⟨pB, false, false⟩] (q + 1) := by
  obtain ⟨e, n⟩ := h.fine.prog (d := 0) (b := 0) (p := 0) (by omega) (by omega) (by omega) h.blk.2.1 (by rw [h.blk.1]; rfl) pB
  refine ⟨e, n.clean, ?_, ?_, ?_⟩
  · rw [show ((N.programN ⟨0, 0, 0⟩ pB).blk 0 0) = _ from n.at_]
    exact ⟨by simp [moreC, h.blk.1], h.blk.2.1, h.blk.2.2.1, by have := h.blk.2.2.2; simp only [moreC]; omega⟩
  · rw [show (N.programN ⟨0, 0, 0⟩ pB).ops = _ from n.ops]; have := h.ops; omega
  · rw [show (N.programN ⟨0, 0, 0⟩ pB).broken = _ from n.broken, h.broken]
theorem Tn.turn {N : Nd} {q n : Nat} {p : List Nat} (h : Tn N [⟨p, false, false⟩] q) (hn : n < 32) (x : Int) : N.faultB (fT n x) = true ∧ Tn (N.faultN (fT n x)) [⟨nand.flip p n x, false, true⟩] q := by
  have hc : (N.blk 0 0).cells[0]? = some ⟨p, false, false⟩ := by rw [h.blk.1]; rfl
  obtain ⟨e, k⟩ := (fault_plain (f := fT n x) (d := 0) (b := 0) (q := 0) (fT_in h.fine n x) rfl rfl rfl).k5d ⟨p, false, false⟩ rfl (by simp [fT]) (by simp [fT]; omega) hc rfl rfl
  refine ⟨e, ?_⟩
  rw [k]
  exact ⟨⟨h.fine.geo, h.fine.off, h.fine.cuts, h.fine.dead, h.fine.plan⟩, by rw [upd_at]; exact ⟨by simp [h.blk.1, fT], h.blk.2.1, h.blk.2.2.1, h.blk.2.2.2⟩, h.ops, h.broken⟩
theorem Tn.twice {N : Nd} {q n : Nat} {p : List Nat} (h : Tn N [⟨p, false, true⟩] q) (hn : n < 32) (x : Int) : N.faultB (fT n x) = false ∧ N.faultN (fT n x) = N := by
  have hc : (N.blk 0 0).cells[0]? = some ⟨p, false, true⟩ := by rw [h.blk.1]; rfl
  exact (fault_plain (f := fT n x) (d := 0) (b := 0) (q := 0) (fT_in h.fine n x) rfl rfl rfl).k5b ⟨p, false, true⟩ rfl (by simp [fT]) (by simp [fT]; omega) hc rfl
theorem Tn.read {N : Nd} {q : Nat} {p : List Nat} {t : Bool} (h : Tn N [⟨p, false, t⟩] q) : N.readP ⟨0, 0, 0⟩ = p ∧ N.readE ⟨0, 0, 0⟩ = 0 := by
  have := h.fine.readE (d := 0) (b := 0) (p := 0) (c := ⟨p, false, t⟩) (by omega) (by omega) (by omega) (by rw [h.blk.1]; rfl) rfl
  exact ⟨this.2, this.1⟩
theorem Tn.erase {N : Nd} {q : Nat} {l : List Cel} (h : Tn N l q) : N.eraseE 0 0 = 0 ∧ Tn (N.eraseN 0 0) [] (q + 1) := by
  obtain ⟨e, n⟩ := h.fine.erase (d := 0) (b := 0) (by omega) (by omega) (by omega) h.blk.2.2.1
  refine ⟨e, n.clean, ?_, ?_, ?_⟩
  · rw [show ((N.eraseN 0 0).blk 0 0) = _ from n.at_]; exact ⟨rfl, h.blk.2.1, h.blk.2.2.1, by have := h.blk.2.2.2; simp only; omega⟩
  · rw [show (N.eraseN 0 0).ops = _ from n.ops]; have := h.ops; omega
  · rw [show (N.eraseN 0 0).broken = _ from n.broken, h.broken]
theorem eql_fl (n : Nat) (x : Int) (w : World) : (binOp .eql 34 (.agg (nats .u8 (nand.flip pB n x)).toArray) (.agg (nats .u8 (nand.flip pB n x)).toArray)).run Tryz.prog w = .ok (.bool true) w := by
  have h := flip_ok (n := n) (x := x) pB_ok
  rw [eql_page w _ _ h.2 h.2 h.1 h.1]; simp
theorem built_fT (n x : Int) : Tryz.prog.built 44 [(1, .int .i64 5), (3, .int .i64 n), (4, .int .i64 x)] = some (Flt.mk 0 5 0 0 0 n x).v.toArray := by kernel_rfl
/-- A byte of a page in memory is turned. -/
theorem turn_mem {w : World} {wb n : Nat} {x : Int} (h : w.heap[wb]? = some (.cells (nats .u8 pB).toArray 34 (0, 0))) (hn : n < 32) :
    ∃ y xb : Nat, w.cell? ⟨wb, n, none⟩ = some (.int .u8 (y : Int)) ∧ w.frozen? ⟨wb, n, none⟩ = false ∧ bits .and .i64 x 255 = (xb : Int) ∧ IntKind.u8.wrap (xb : Int) = (xb : Int) ∧ bits .xor .u8 (y : Int) (xb : Int) = ((y ^^^ xb : Nat) : Int) ∧
      Upd wb (.cells (nats .u8 (nand.flip pB n x)).toArray 34 (0, 0)) w (w.setCell ⟨wb, n, none⟩ (.int .u8 ((y ^^^ xb : Nat) : Int))) := by
  obtain ⟨y, hy⟩ : ∃ y, pB[n]? = some y := ⟨_, List.getElem?_eq_getElem (by rw [pB_ok.1]; exact hn)⟩
  have hy256 := pB_ok.2 y (List.mem_of_getElem? hy)
  have hxb : (x % 256).toNat < 256 := by omega
  refine ⟨y, (x % 256).toNat, ?_, blk_frozen h n, ?_, ?_, u8_xor _ _ hy256 hxb, ?_⟩
  · rw [blk_cell h, List.getElem?_toArray, nats, List.getElem?_map, hy]; rfl
  · rw [and255]; omega
  · rw [wrap_u8]; omega
  · have U := upd_setCell (i := n) h (.int .u8 ((y ^^^ (x % 256).toNat : Nat) : Int))
    have e : (nats .u8 pB).set n (.int .u8 ((y ^^^ (x % 256).toNat : Nat) : Int)) = nats .u8 (nand.flip pB n x) := by unfold nand.flip; rw [modify_set _ hy]; simp [nats, List.map_set]
    rw [e] at U
    exact U
set_option maxRecDepth 100000 in
set_option maxHeartbeats 8000000 in
theorem walk (a0 a1 a2 : Int) (w : World) (w0 : (Lit.int .i64 a0).wf = true) (w1 : (Lit.int .i64 a1).wf = true) (w2 : (Lit.int .i64 a2).wf = true) :
    Calls Tryz.prog 11 #[.int .i64 a0, .int .i64 a1, .int .i64 a2] w fun e w' => e = .returned (.bool true) ∧ Below w.heap.size w w' := by
  go_enter Tryz.func11, Tryz.ntmps11
  go_wp2_with fail
  refine (begun7_any _).mono ?_
  rintro e u1 ⟨rfl, hb1⟩
  have HB1 := Lib.hid hb1
  clear hb1
  by_cases hbad : a0 < 0 ∨ 31 < a0
  · have HF := Lib.hid (Tn.bad 1 (show a0 < 0 ∨ 32 ≤ a0 by omega))
    have HW := Lib.hid (show (Flt.mk 0 5 0 0 0 a0 1).wf from ⟨rfl, rfl, ⟨rfl, rfl, rfl⟩, w0, rfl⟩)
    clear w0 w1 w2
    rcases hbad with h | h
    all_goals
      go_wp2_with fail
      refine (made_any u1).mono ?_
      rintro e u2 ⟨g, rfl, hn2, hb2⟩
      have HN2 := Lib.hid hn2
      have HB2 := Lib.hid (HB1.out.trans (hb2.mono HB1.out.size))
      have HL := Lib.hid (Nat.le_trans HB1.out.size (Nat.le_refl u1.heap.size))
      clear hn2 hb2
      go_wp2_with (first | (refine want_build 44 _ rfl [(1, .int .i64 _), (3, .int .i64 _), (4, .int .i64 _)] rfl _ (built_fT _ _) (by rfl) ?_))
      refine (fault_in HN2.out ⟨0, 5, 0, 0, 0, a0, 1⟩ HW.out (by omega)).mono ?_
      rw [HF.out]
      rintro e u3 ⟨rfl, hn3, hf3⟩
      have HB3 := Lib.hid (hf3.below HB2.out HL.out (Nat.le_refl _))
      clear hn3 hf3
      go_wp2_with fail
      go_ret
      exact ⟨rfl, HB3.out⟩
  obtain ⟨n, rfl⟩ := Int.eq_ofNat_of_zero_le (show 0 ≤ a0 by omega)
  have hn32 : n < 32 := by omega
  have HWA := Lib.hid (And.intro (show (fT n a1).wf from ⟨rfl, rfl, ⟨rfl, rfl, rfl⟩, w0, w1⟩) (show (fT n a2).wf from ⟨rfl, rfl, ⟨rfl, rfl, rfl⟩, w0, w2⟩))
  clear hbad w0 w1 w2
  have q1 : decide ((n : Int) < 0) = false := by simp
  have q2 : decide (31 < (n : Int)) = false := by simp; omega
  have hnI : (n : Int) < 32 := by omega
  go_wp2_with fail
  refine (made_any u1).mono ?_
  rintro e u2 ⟨g, rfl, hn2, hb2⟩
  clear q1 q2
  obtain ⟨base, hbase⟩ : ∃ base, base = u1.heap.size := ⟨_, rfl⟩
  rw [← hbase] at hn2
  have HLB := Lib.hid (show w.heap.size ≤ base by rw [hbase]; exact HB1.out.size)
  have HN2 := Lib.hid hn2
  have HB2 := Lib.hid (HB1.out.trans (hb2.mono HB1.out.size))
  clear hn2 hb2 HB1 hbase
  have HFB0 := Lib.hid HB2.out.size
  obtain ⟨w2, hw2⟩ : ∃ w2 : World, w2 = u2 := ⟨_, rfl⟩
  subst hw2
  obtain ⟨fb, hfb⟩ : ∃ fb, fb = w2.heap.size := ⟨_, rfl⟩
  have HFB := Lib.hid (show w.heap.size ≤ fb by rw [hfb]; exact HFB0.out)
  clear HFB0
  go_upto_region 8 with (first | (refine want_build 44 _ rfl [(1, .int .i64 _), (3, .int .i64 _), (4, .int .i64 _)] rfl _ (built_fT _ _) (by rfl) ?_) | (refine wpList_put_row rfl 44 (.tmp 9) (.tmp 37) rfl _ (Flt.v (fT n a1)) rfl rfl 44 _ (heap_new' _ _ _ rfl) fltInfo rfl (one_flt _) ?_; intro w3 hU3; have h3 := hU3.at_; have hb3 := hU3.below (alloc_low _ _) (Nat.le_refl _); clear hU3))
  rw [← hfb] at h3 ⊢
  have HN3 := Lib.hid (HN2.out.below hb3)
  have HB3 := Lib.hid (HB2.out.trans (hb3.mono HB2.out.size))
  clear hb3 HN2 HB2 
  have hf_3 := h3
  clear h3 hfb
  go_simp
  obtain ⟨e1, n1⟩ := Tn.start.early hn32 a1
  obtain ⟨e2, t2⟩ := Tn.start.prog
  have HE := Lib.hid (And.intro e1 (And.intro n1 e2))
  have HT2 := Lib.hid t2
  clear e1 n1 e2 t2
  go_wp2_with (first | (refine wpList_load_mid rfl 44 (.tmp 9) rfl fb 0 rfl (Flt.v (fT n a1)) _ (range_blk hf_3) Tryz.underlying44 rfl fltInfo ?_))
  refine (fault_in (show NandIn _ _ _ 0 (Nd.new 3 8 4) from HN3.out) (fT n a1) HWA.out.1 (by omega)).mono ?_
  rw [HE.out.1, HE.out.2.1]
  rintro e w4 ⟨rfl, hn4, hf4⟩
  have HN4 := Lib.hid hn4
  have HB4 := Lib.hid (hf4.below HB3.out HLB.out (Nat.le_refl _))
  have hf_4 := hf4.blk hf_3 rfl
  clear hn4 hf4 HN3 HB3 hf_3
  go_wp2_with (first | (refine want_build 32 _ rfl [] rfl _ ad_0 (by rfl) ?_) | (refine want_build 34 _ rfl [(0, .int .u8 _), (1, .int .u8 _), (2, .int .u8 _)] rfl _ built_pB (by rfl) ?_))
  refine (program_any (show NandIn _ _ _ 1 (Nd.new 3 8 4) from HN4.out) ⟨0, 0, 0⟩ ⟨rfl, rfl, rfl⟩ pB pB_ok.1 pB_ok.2 (by decide) (by decide)).mono ?_
  rw [HE.out.2.2]
  rintro e w5 ⟨rfl, hn5, hf5⟩
  have HN5 := Lib.hid hn5
  have HB5 := Lib.hid (hf5.below HB4.out HLB.out (Nat.le_refl _))
  have hf_5 := hf5.blk hf_4 rfl
  clear hn5 hf5 HN4 HB4 hf_4
  generalize (Nd.new 3 8 4).programN ⟨0, 0, 0⟩ pB = N1 at *
  obtain ⟨e1, t1⟩ := HT2.out.turn hn32 a1
  obtain ⟨e2, n2⟩ := t1.twice hn32 a2
  obtain ⟨r1, r2⟩ := t1.read
  obtain ⟨e3, t3⟩ := t1.erase
  obtain ⟨e4, t4⟩ := t3.prog
  obtain ⟨e5, t5⟩ := t4.turn hn32 a2
  obtain ⟨r3, r4⟩ := t5.read
  have HF1 := Lib.hid (And.intro e1 (And.intro e2 n2))
  have HR1 := Lib.hid (And.intro r1 r2)
  have HF3 := Lib.hid (And.intro e3 (And.intro e4 e5))
  have HR3 := Lib.hid (And.intro r3 r4)
  have HBD := Lib.hid (show ((N1.faultN (fT n a1)).ops ≤ 1000000 ∧ ((N1.faultN (fT n a1)).blk 0 0).worn ≤ 1000000) ∧ (((N1.faultN (fT n a1)).eraseN 0 0).ops ≤ 1000000 ∧ ((N1.faultN (fT n a1)).eraseN 0 0).broken ≤ 1000000) from ⟨⟨by have := t1.ops; omega, by have := t1.blk.2.2.2; omega⟩, by have := t3.ops; omega, by rw [t3.broken]; omega⟩)
  clear e1 t1 e2 n2 r1 r2 e3 t3 e4 t4 e5 t5 r3 r4 HT2 HE
  go_wp2_with (first | (refine wpList_load_mid rfl 44 (.tmp 9) rfl fb 0 rfl (Flt.v (fT n a1)) _ (range_blk hf_5) Tryz.underlying44 rfl fltInfo ?_))
  refine (fault_in (show NandIn _ _ _ 1 (N1) from HN5.out) (fT n a1) HWA.out.1 (by omega)).mono ?_
  rw [HF1.out.1]
  rintro e w6 ⟨rfl, hn6, hf6⟩
  replace hn6 : NandIn w6 base g (2) (N1.faultN (fT n a1)) := by rw [show (N1.faultN (fT n a1)) = ((N1).faultN (fT n a1)) from rfl]; exact hn6
  have HN6 := Lib.hid hn6
  have HB6 := Lib.hid (hf6.below HB5.out HLB.out (Nat.le_refl _))
  have hf_6 := hf6.blk hf_5 rfl
  clear hn6 hf6 HN5 HB5 hf_5
  have hU := upd_setCell (i := 6) (cs := (fT n a1).v) hf_6 (.int .i64 a2)
  have cx := flt_c6 hf_6
  have fx := blk_frozen hf_6 6
  have hNu := Lib.hid (HN6.out.other (upd_grown hU) hf_6 rfl)
  have hBu := Lib.hid (hU.below HB6.out (show w.heap.size ≤ fb from HFB.out))
  have hfu := hU.at_
  clear HN6 HB6 hf_6 hU
  go_upto_region 12 with fail
  clear cx fx
  generalize w6.setCell ⟨fb, 6, none⟩ (.int .i64 a2) = w7 at *
  have HN7 := hNu
  have HB7 := hBu
  have hf_7 : w7.heap[fb]? = some (.cells (fT n a2).v.toArray 44 (0, 0)) := hfu
  clear hNu hBu hfu
  go_wp2_with (first | (refine wpList_load_mid rfl 44 (.tmp 9) rfl fb 0 rfl (Flt.v (fT n a2)) _ (range_blk hf_7) Tryz.underlying44 rfl fltInfo ?_))
  refine (fault_in (show NandIn _ _ _ 2 (N1.faultN (fT n a1)) from HN7.out) (fT n a2) HWA.out.2 (by omega)).mono ?_
  rw [HF1.out.2.1, HF1.out.2.2]
  rintro e w8 ⟨rfl, hn8, hf8⟩
  have HN8 := Lib.hid hn8
  have HB8 := Lib.hid (hf8.below HB7.out HLB.out (Nat.le_refl _))
  have hf_8 := hf8.blk hf_7 rfl
  clear hn8 hf8 HN7 HB7 hf_7
  go_wp2_with (first | (refine want_build 32 _ rfl [] rfl _ ad_0 (by rfl) ?_))
  refine (read_in (show NandIn _ _ _ 3 (N1.faultN (fT n a1)) from HN8.out) ⟨0, 0, 0⟩ ⟨rfl, rfl, rfl⟩).mono ?_
  rw [HR1.out.1, HR1.out.2]
  rintro e w9 ⟨rfl, hb9⟩
  have HN9 := Lib.hid (HN8.out.below hb9)
  have HB9 := Lib.hid (HB8.out.trans (hb9.mono HB8.out.size))
  have hf_9 := blk_below hf_8 hb9
  clear hb9 HN8 HB8 hf_8
  obtain ⟨xb, hxb⟩ : ∃ b, b = w9.heap.size := ⟨_, rfl⟩
  go_upto_region 14 with (first | (refine wpList_put_row rfl 34 (.tmp 13) (.tmp 57) rfl _ (nats .u8 (nand.flip pB n a1)) rfl rfl 34 _ (heap_new' _ _ _ rfl) (pgInfo (flip_ok (n := n) (x := a1) pB_ok).1) (by rw [nats_length, (flip_ok (n := n) (x := a1) pB_ok).1]; rfl) (one_nats _ _) ?_; intro w10 hU10; have h10 := hU10.at_; have hb10 := hU10.below (alloc_low _ _) (Nat.le_refl _); clear hU10))
  rw [← hxb] at h10 ⊢
  have HN10 := Lib.hid (HN9.out.below hb10)
  have HB10 := Lib.hid (HB9.out.trans (hb10.mono HB9.out.size))
  have hf_10 := blk_below hf_9 hb10
  clear hb10 HN9 HB9 hf_9
  have hx_10 := h10
  clear h10 hxb
  go_simp
  obtain ⟨xwb, hxwb⟩ : ∃ b, b = w10.heap.size := ⟨_, rfl⟩
  have HSBxw := Lib.hid (show w.heap.size ≤ xwb by rw [hxwb]; exact HB10.out.size)
  have HNEfxw := Lib.hid (show fb ≠ xwb by rw [hxwb]; exact Nat.ne_of_lt (lt_of_cells hf_10))
  have HNExxw := Lib.hid (show xb ≠ xwb by rw [hxwb]; exact Nat.ne_of_lt (lt_of_cells hx_10))
  go_upto_region 15 with (first | (refine want_build 34 _ rfl [(0, .int .u8 _), (1, .int .u8 _), (2, .int .u8 _)] rfl _ built_pB (by rfl) ?_) | (refine wpList_put_row rfl 34 (.tmp 15) (.tmp 59) rfl _ (nats .u8 pB) rfl rfl 34 _ (heap_new' _ _ _ rfl) (pgInfo rfl) rfl (one_nats _ _) ?_; intro w11 hU11; have h11 := hU11.at_; have hb11 := hU11.below (alloc_low _ _) (Nat.le_refl _); clear hU11))
  rw [← hxwb] at h11 ⊢
  have HN11 := Lib.hid (HN10.out.below hb11)
  have HB11 := Lib.hid (HB10.out.trans (hb11.mono HB10.out.size))
  have hf_11 := blk_below hf_10 hb11
  have hx_11 := blk_below hx_10 hb11
  clear hb11 HN10 HB10 hf_10 hx_10
  have hxw_11 := h11
  clear h11 hxwb
  go_simp
  obtain ⟨y, xe, cy, fy, ha, hwr, hx, hU⟩ := turn_mem (x := a1) hxw_11 hn32
  have HN12 := Lib.hid (HN11.out.other (upd_grown hU) hxw_11 rfl)
  have HB12 := Lib.hid (hU.below HB11.out HSBxw.out)
  have hf_12 := hU.old hf_11 (HNEfxw.out)
  have hx_12 := hU.old hx_11 (HNExxw.out)
  have hxw_12 := hU.at_
  clear HN11 HB11 hU hf_11 hx_11 hxw_11
  go_upto_region 16 with fail
  clear cy fy ha hwr hx
  generalize w11.setCell ⟨xwb, n, none⟩ (.int .u8 ((y ^^^ xe : Nat) : Int)) = w12 at *
  go_wp2_with fail
  refine (erase_any (show NandIn _ _ _ 3 (N1.faultN (fT n a1)) from HN12.out) 0 0 ⟨rfl, rfl, rfl⟩ HBD.out.1.1 HBD.out.1.2 (by omega)).mono ?_
  rw [HF3.out.1]
  rintro e w13 ⟨rfl, hn13, hf13⟩
  have HN13 := Lib.hid hn13
  have HB13 := Lib.hid (hf13.below HB12.out HLB.out (Nat.le_refl _))
  have hf_13 := hf13.blk hf_12 rfl
  have hx_13 := hf13.blk hx_12 rfl
  have hxw_13 := hf13.blk hxw_12 rfl
  clear hn13 hf13 HN12 HB12 hf_12 hx_12 hxw_12
  go_wp2_with (first | (refine want_build 32 _ rfl [] rfl _ ad_0 (by rfl) ?_) | (refine want_build 34 _ rfl [(0, .int .u8 _), (1, .int .u8 _), (2, .int .u8 _)] rfl _ built_pB (by rfl) ?_))
  refine (program_any (show NandIn _ _ _ 3 ((N1.faultN (fT n a1)).eraseN 0 0) from HN13.out) ⟨0, 0, 0⟩ ⟨rfl, rfl, rfl⟩ pB pB_ok.1 pB_ok.2 HBD.out.2.1 HBD.out.2.2).mono ?_
  rw [HF3.out.2.1]
  rintro e w14 ⟨rfl, hn14, hf14⟩
  have HN14 := Lib.hid hn14
  have HB14 := Lib.hid (hf14.below HB13.out HLB.out (Nat.le_refl _))
  have hf_14 := hf14.blk hf_13 rfl
  have hx_14 := hf14.blk hx_13 rfl
  have hxw_14 := hf14.blk hxw_13 rfl
  clear hn14 hf14 HN13 HB13 hf_13 hx_13 hxw_13
  go_wp2_with (first | (refine wpList_load_mid rfl 44 (.tmp 9) rfl fb 0 rfl (Flt.v (fT n a2)) _ (range_blk hf_14) Tryz.underlying44 rfl fltInfo ?_))
  refine (fault_in (show NandIn _ _ _ 3 (((N1.faultN (fT n a1)).eraseN 0 0).programN ⟨0, 0, 0⟩ pB) from HN14.out) (fT n a2) HWA.out.2 (by omega)).mono ?_
  rw [HF3.out.2.2]
  rintro e w15 ⟨rfl, hn15, hf15⟩
  have HN15 := Lib.hid hn15
  have HB15 := Lib.hid (hf15.below HB14.out HLB.out (Nat.le_refl _))
  have hf_15 := hf15.blk hf_14 rfl
  have hx_15 := hf15.blk hx_14 rfl
  have hxw_15 := hf15.blk hxw_14 rfl
  clear hn15 hf15 HN14 HB14 hf_14 hx_14 hxw_14
  go_wp2_with (first | (refine want_build 32 _ rfl [] rfl _ ad_0 (by rfl) ?_))
  refine (read_in (show NandIn _ _ _ 4 ((((N1.faultN (fT n a1)).eraseN 0 0).programN ⟨0, 0, 0⟩ pB).faultN (fT n a2)) from HN15.out) ⟨0, 0, 0⟩ ⟨rfl, rfl, rfl⟩).mono ?_
  rw [HR3.out.1, HR3.out.2]
  rintro e w16 ⟨rfl, hb16⟩
  have HN16 := Lib.hid (HN15.out.below hb16)
  have HB16 := Lib.hid (HB15.out.trans (hb16.mono HB15.out.size))
  have hf_16 := blk_below hf_15 hb16
  have hx_16 := blk_below hx_15 hb16
  have hxw_16 := blk_below hxw_15 hb16
  clear hb16 HN15 HB15 hf_15 hx_15 hxw_15
  obtain ⟨zb, hzb⟩ : ∃ b, b = w16.heap.size := ⟨_, rfl⟩
  go_upto_region 20 with (first | (refine wpList_put_row rfl 34 (.tmp 17) (.tmp 81) rfl _ (nats .u8 (nand.flip pB n a2)) rfl rfl 34 _ (heap_new' _ _ _ rfl) (pgInfo (flip_ok (n := n) (x := a2) pB_ok).1) (by rw [nats_length, (flip_ok (n := n) (x := a2) pB_ok).1]; rfl) (one_nats _ _) ?_; intro w17 hU17; have h17 := hU17.at_; have hb17 := hU17.below (alloc_low _ _) (Nat.le_refl _); clear hU17))
  rw [← hzb] at h17 ⊢
  have HN17 := Lib.hid (HN16.out.below hb17)
  have HB17 := Lib.hid (HB16.out.trans (hb17.mono HB16.out.size))
  have hf_17 := blk_below hf_16 hb17
  have hx_17 := blk_below hx_16 hb17
  have hxw_17 := blk_below hxw_16 hb17
  clear hb17 HN16 HB16 hf_16 hx_16 hxw_16
  have hz_17 := h17
  clear h17 hzb
  go_simp
  obtain ⟨zwb, hzwb⟩ : ∃ b, b = w17.heap.size := ⟨_, rfl⟩
  have HSBzw := Lib.hid (show w.heap.size ≤ zwb by rw [hzwb]; exact HB17.out.size)
  have HNEfzw := Lib.hid (show fb ≠ zwb by rw [hzwb]; exact Nat.ne_of_lt (lt_of_cells hf_17))
  have HNExzw := Lib.hid (show xb ≠ zwb by rw [hzwb]; exact Nat.ne_of_lt (lt_of_cells hx_17))
  have HNExwzw := Lib.hid (show xwb ≠ zwb by rw [hzwb]; exact Nat.ne_of_lt (lt_of_cells hxw_17))
  have HNEzzw := Lib.hid (show zb ≠ zwb by rw [hzwb]; exact Nat.ne_of_lt (lt_of_cells hz_17))
  go_upto_region 21 with (first | (refine want_build 34 _ rfl [(0, .int .u8 _), (1, .int .u8 _), (2, .int .u8 _)] rfl _ built_pB (by rfl) ?_) | (refine wpList_put_row rfl 34 (.tmp 19) (.tmp 83) rfl _ (nats .u8 pB) rfl rfl 34 _ (heap_new' _ _ _ rfl) (pgInfo rfl) rfl (one_nats _ _) ?_; intro w18 hU18; have h18 := hU18.at_; have hb18 := hU18.below (alloc_low _ _) (Nat.le_refl _); clear hU18))
  rw [← hzwb] at h18 ⊢
  have HN18 := Lib.hid (HN17.out.below hb18)
  have HB18 := Lib.hid (HB17.out.trans (hb18.mono HB17.out.size))
  have hf_18 := blk_below hf_17 hb18
  have hx_18 := blk_below hx_17 hb18
  have hxw_18 := blk_below hxw_17 hb18
  have hz_18 := blk_below hz_17 hb18
  clear hb18 HN17 HB17 hf_17 hx_17 hxw_17 hz_17
  have hzw_18 := h18
  clear h18 hzwb
  go_simp
  obtain ⟨y, xe, cy, fy, ha, hwr, hx, hU⟩ := turn_mem (x := a2) hzw_18 hn32
  have HN19 := Lib.hid (HN18.out.other (upd_grown hU) hzw_18 rfl)
  have HB19 := Lib.hid (hU.below HB18.out HSBzw.out)
  have hf_19 := hU.old hf_18 (HNEfzw.out)
  have hx_19 := hU.old hx_18 (HNExzw.out)
  have hxw_19 := hU.old hxw_18 (HNExwzw.out)
  have hz_19 := hU.old hz_18 (HNEzzw.out)
  have hzw_19 := hU.at_
  clear HN18 HB18 hU hf_18 hx_18 hxw_18 hz_18 hzw_18
  go_upto_region 22 with fail
  clear cy fy ha hwr hx
  generalize w18.setCell ⟨zwb, n, none⟩ (.int .u8 ((y ^^^ xe : Nat) : Int)) = w19 at *
  have heq1 := eql_fl n a1
  have heq2 := eql_fl n a2
  go_wp2_with (first | (refine want_page (.tmp 13) rfl xb 0 rfl (by rfl) (range_blk (cs := nats .u8 (nand.flip pB n a1)) hx_19) (pgInfo (flip_ok (n := n) (x := a1) pB_ok).1) ?_) | (refine want_page (.tmp 15) rfl xwb 0 rfl (by rfl) (range_blk (cs := nats .u8 (nand.flip pB n a1)) hxw_19) (pgInfo (flip_ok (n := n) (x := a1) pB_ok).1) ?_) | (refine want_page (.tmp 17) rfl zb 0 rfl (by rfl) (range_blk (cs := nats .u8 (nand.flip pB n a2)) hz_19) (pgInfo (flip_ok (n := n) (x := a2) pB_ok).1) ?_) | (refine want_page (.tmp 19) rfl zwb 0 rfl (by rfl) (range_blk (cs := nats .u8 (nand.flip pB n a2)) hzw_19) (pgInfo (flip_ok (n := n) (x := a2) pB_ok).1) ?_))
  go_ret
  exact ⟨rfl, HB19.out⟩
end Go.Proofs.YtnfigkoefmldiaaGreat.nandTurn
