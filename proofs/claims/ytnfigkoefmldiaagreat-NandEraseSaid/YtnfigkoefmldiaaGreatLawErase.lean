import Derived.Test.YtnfigkoefmldiaaGreatBunR
import Derived.Test.YtnfigkoefmldiaaGreatClean
/- NandErase: an erase makes a block as new, and wears it by one; others stay; no condition. -/
namespace Go.Proofs.YtnfigkoefmldiaaGreat.nandErase
open Go.RowKit
open Go.Proofs.YtnfigkoefmldiaaGreat.nand
set_option linter.unusedVariables false
/-- What stands in the erases: one block has r pages, was erased t times; the other stands. -/
structure St (N : Nd) (t r q : Nat) : Prop where
  clean : Fine N 3 8 4
  len : (N.blk 1 3).cells.length = r
  worn : (N.blk 1 3).worn = t
  good : (N.blk 1 3).met = false ∧ (N.blk 1 3).fails = false
  other : N.blk 1 2 = ⟨[⟨pg1 9, false, false⟩], 0, false, false⟩
  third : (N.blk 0 3).worn = 0
  ops : N.ops ≤ q
  broken : N.broken = 0
theorem St.start : (Nd.new 3 8 4).programE ⟨1, 2, 0⟩ (pg1 9) = 0 ∧ St ((Nd.new 3 8 4).programN ⟨1, 2, 0⟩ (pg1 9)) 0 0 1 := by
  obtain ⟨e, n⟩ := (Fine.new 3 8 4).prog (d := 1) (b := 2) (p := 0) (by omega) (by omega) (by omega) rfl rfl (pg1 9)
  refine ⟨e, n.clean, ?_, ?_, ?_, ?_, ?_, ?_, ?_⟩
  · exact (congrArg (fun x => x.cells.length) (n.other (i := 1) (j := 3) (by omega)))
  · exact (congrArg (fun x => x.worn) (n.other (i := 1) (j := 3) (by omega)))
  · exact ⟨congrArg (fun x => x.met) (n.other (i := 1) (j := 3) (by omega)), congrArg (fun x => x.fails) (n.other (i := 1) (j := 3) (by omega))⟩
  · exact n.at_
  · exact (congrArg (fun x => x.worn) (n.other (i := 0) (j := 3) (by omega)))
  · rw [show ((Nd.new 3 8 4).programN ⟨1, 2, 0⟩ (pg1 9)).ops = _ from n.ops]; exact Nat.le_refl _
  · exact n.broken
theorem St.prog {N : Nd} {t r q : Nat} (h : St N t r q) (hr : r < 4) (pg : List Nat) : N.programE ⟨1, 3, r⟩ pg = 0 ∧ St (N.programN ⟨1, 3, r⟩ pg) t (r + 1) (q + 1) := by
  obtain ⟨e, n⟩ := h.clean.prog (d := 1) (b := 3) (p := r) (by omega) (by omega) (by omega) h.good.1 h.len pg
  refine ⟨e, n.clean, ?_, ?_, ?_, ?_, ?_, ?_, ?_⟩
  · rw [show ((N.programN ⟨1, 3, r⟩ pg).blk 1 3) = _ from n.at_]; simp [moreC, h.len]
  · rw [show ((N.programN ⟨1, 3, r⟩ pg).blk 1 3) = _ from n.at_]; exact h.worn
  · rw [show ((N.programN ⟨1, 3, r⟩ pg).blk 1 3) = _ from n.at_]; exact h.good
  · rw [show ((N.programN ⟨1, 3, r⟩ pg).blk 1 2) = _ from n.other (by omega)]; exact h.other
  · rw [show ((N.programN ⟨1, 3, r⟩ pg).blk 0 3) = _ from n.other (by omega)]; exact h.third
  · rw [show (N.programN ⟨1, 3, r⟩ pg).ops = _ from n.ops]; have := h.ops; omega
  · rw [show (N.programN ⟨1, 3, r⟩ pg).broken = _ from n.broken]; exact h.broken
theorem St.erase {N : Nd} {t r q : Nat} (h : St N t r q) : N.eraseE 1 3 = 0 ∧ St (N.eraseN 1 3) (t + 1) 0 (q + 1) := by
  obtain ⟨e, n⟩ := h.clean.erase (d := 1) (b := 3) (by omega) (by omega) (by omega) h.good.2
  refine ⟨e, n.clean, ?_, ?_, ?_, ?_, ?_, ?_, ?_⟩
  · rw [show ((N.eraseN 1 3).blk 1 3) = _ from n.at_]; rfl
  · rw [show ((N.eraseN 1 3).blk 1 3) = _ from n.at_]; simp [h.worn]
  · rw [show ((N.eraseN 1 3).blk 1 3) = _ from n.at_]; exact h.good
  · rw [show ((N.eraseN 1 3).blk 1 2) = _ from n.other (by omega)]; exact h.other
  · rw [show ((N.eraseN 1 3).blk 0 3) = _ from n.other (by omega)]; exact h.third
  · rw [show (N.eraseN 1 3).ops = _ from n.ops]; have := h.ops; omega
  · rw [show (N.eraseN 1 3).broken = _ from n.broken]; exact h.broken
theorem St.read {N : Nd} {t r q : Nat} (h : St N t r q) : N.readP ⟨1, 2, 0⟩ = pg1 9 ∧ N.readE ⟨1, 2, 0⟩ = 0 := by
  have := h.clean.readE (d := 1) (b := 2) (p := 0) (c := ⟨pg1 9, false, false⟩) (by omega) (by omega) (by omega) (by rw [h.other]; rfl) rfl
  exact ⟨this.2, this.1⟩
theorem eql_pg9 (w : World) : (binOp .eql 34 (.agg (nats .u8 (pg1 9)).toArray) (.agg (nats .u8 (pg1 9)).toArray)).run Tryz.prog w = .ok (.bool true) w := by rw [eql_page w (pg1 9) (pg1 9) (pg1_ok (by decide)).2 (pg1_ok (by decide)).2 rfl rfl]; rfl
set_option maxRecDepth 100000 in
set_option maxHeartbeats 8000000 in
theorem walk (a0 a1 : Int) (w : World) (w0 : (Lit.int .i64 a0).wf = true) (w1 : (Lit.int .i64 a1).wf = true) :
    Calls Tryz.prog 8 #[.int .i64 a0, .int .i64 a1] w fun e w' => e = .returned (.bool true) ∧ Below w.heap.size w w' := by
  clear w0 w1
  obtain ⟨n, hn, hn5⟩ := mod_norm (x := a0) (show (0 : Int) < 5 by decide) (by decide)
  obtain ⟨tt, ht, ht7⟩ := mod_norm (x := a1) (show (0 : Int) < 7 by decide) (by decide)
  replace hn5 : n < 5 := by omega
  replace ht7 : tt < 7 := by omega
  go_enter Tryz.func8, Tryz.ntmps8
  go_wp2_with fail
  refine (begun7_any _).mono ?_
  rintro e w1 ⟨rfl, hb1⟩
  have HB1 := Lib.hid hb1
  clear hb1
  go_wp2_with fail
  refine (made_any w1).mono ?_
  rintro e w2 ⟨g, rfl, hn2, hb2⟩
  obtain ⟨base, hbase⟩ : ∃ base, base = w1.heap.size := ⟨_, rfl⟩
  rw [← hbase] at hn2
  have HLB := Lib.hid (show w.heap.size ≤ base by rw [hbase]; exact HB1.out.size)
  have HN2 := Lib.hid hn2
  have HB2 := Lib.hid (HB1.out.trans (hb2.mono HB1.out.size))
  clear hn2 hb2 HB1 hbase
  obtain ⟨ob, hob⟩ : ∃ ob, ob = w2.heap.size := ⟨_, rfl⟩
  go_wp2_with (first | (refine want_build 32 _ rfl [(0, .int .i64 _), (1, .int .i64 _)] rfl _ (ad_db _ _) (by rfl) ?_) | (refine wpList_put_row rfl 32 (.tmp 7) (.tmp 24) rfl _ (Ad.v ⟨1, 2, 0⟩) rfl rfl 32 _ (heap_new' _ _ _ rfl) aInfo rfl (one_ad _) ?_; intro w3 hU3; have h3 := hU3.at_; have hb3 := hU3.below (alloc_low _ _) (Nat.le_refl _); clear hU3) | (refine wpList_load_mid rfl 32 (.tmp 7) rfl w2.heap.size 0 rfl (Ad.v ⟨1, 2, 0⟩) _ (range_blk h3) Tryz.underlying32 rfl aInfo ?_) | (refine want_build 34 _ rfl [(0, .int .u8 _)] rfl _ (built_pg1 9) (by rfl) ?_))
  rw [← hob] at h3 ⊢
  have HN3 := Lib.hid (HN2.out.below hb3)
  have HB3 := Lib.hid (HB2.out.trans (hb3.mono HB2.out.size))
  clear hb3 HN2 HB2 
  have ha_3 := h3
  clear h3 hob
  obtain ⟨pe0, hS0⟩ := St.start
  go_wp2_with fail
  refine (program_any (show NandIn _ _ _ 0 (Nd.new 3 8 4) from HN3.out) ⟨1, 2, 0⟩ ⟨rfl, rfl, rfl⟩ (pg1 9) (pg1_ok (by decide)).1 (pg1_ok (by decide)).2 (by decide) (by decide)).mono ?_
  rw [pe0]
  rintro e w4 ⟨rfl, hn4, hf4⟩
  have HN4 := Lib.hid hn4
  have HB4 := Lib.hid (hf4.below HB3.out HLB.out (Nat.le_refl _))
  have ha_4 := hf4.blk ha_3 rfl
  clear hn4 hf4 HN3 HB3 ha_3
  have HS0 := Lib.hid hS0
  clear hS0 pe0
  generalize (Nd.new 3 8 4).programN ⟨1, 2, 0⟩ (pg1 9) = Nf at *
  go_wp2_with fail
  go_loopw [8, 9] (fun i _ wr => ∃ (t : Nat) (N : Nd), t ≤ tt ∧ i = .int .i64 t ∧ St N t 0 (1 + 6 * t) ∧ NandIn wr base g 0 N ∧ Below w.heap.size w wr ∧ wr.heap[ob]? = some (.cells (Ad.v ⟨1, 2, 0⟩).toArray 32 (0, 0))) (fun i _ _ => tt - (intOf i).toNat)
  case atStart => exact ⟨0, Nf, by omega, rfl, HS0.out, HN4.out, HB4.out, ha_4⟩
  case round =>
    clear HS0 HN4 HB4 ha_4
    obtain ⟨t, N, hle, rfl, hst, hnd, hbl, ha_5⟩ := hrel
    have HST := Lib.hid hst
    have HN5 := Lib.hid hnd
    have HB5 := Lib.hid hbl
    clear hst hnd hbl
    by_cases hlt : t < tt
    · have hltI : (t : Int) < (tt : Int) := by omega
      have h256 : IntKind.u8.wrap (t : Int) = (t : Int) := by rw [wrap_u8]; omega
      go_wp2_with fail
      go_loopw [9] (fun i wr => ∃ (r : Nat) (N : Nd), r ≤ n ∧ i = .int .i64 r ∧ St N t r (1 + 6 * t + r) ∧ NandIn wr base g 0 N ∧ Below w.heap.size w wr ∧ wr.heap[ob]? = some (.cells (Ad.v ⟨1, 2, 0⟩).toArray 32 (0, 0))) (fun i _ => n - (intOf i).toNat)
      case atStart => exact ⟨0, N, by omega, rfl, HST.out, HN5.out, HB5.out, ha_5⟩
      case round =>
        clear HST HN5 HB5 ha_5
        obtain ⟨r, N, hrn, rfl, hst, hnd, hbl, ha_5⟩ := hrel
        by_cases hlr : r < n
        · have hlrI : (r : Int) < (n : Int) := by omega
          obtain ⟨pe, hst2⟩ := hst.prog (by omega) (pg1 t)
          have HBD := Lib.hid (show N.ops ≤ 1000000 ∧ N.broken ≤ 1000000 from ⟨by have := hst.ops; omega, by rw [hst.broken]; omega⟩)
          have HST := Lib.hid hst2
          have HPE := Lib.hid pe
          have HN5 := Lib.hid hnd
          have HB5 := Lib.hid hbl
          clear hst hst2 hnd hbl pe
          go_wp2_with (first | (refine want_build 32 _ rfl [(0, .int .i64 _), (1, .int .i64 _), (2, .int .i64 _)] rfl _ (ad_dbp _ _ _) (by rfl) ?_) | (refine want_build 34 _ rfl [(0, .int .u8 _)] rfl _ (built_pg1 t) (by rfl) ?_))
          refine (program_any (show NandIn _ _ _ 0 (N) from HN5.out) ⟨1, 3, r⟩ (ad_wf (by omega) (by omega) (by omega)) (pg1 t) (pg1_ok (by omega)).1 (pg1_ok (by omega)).2 HBD.out.1 HBD.out.2).mono ?_
          rw [HPE.out]
          rintro e w6 ⟨rfl, hn6, hf6⟩
          replace hn6 : NandIn w6 base g (0) (N.programN ⟨1, 3, r⟩ (pg1 t)) := by rw [show (N.programN ⟨1, 3, r⟩ (pg1 t)) = ((N).programN ⟨1, 3, r⟩ (pg1 t)) from rfl]; exact hn6
          have HN6 := Lib.hid hn6
          have HB6 := Lib.hid (hf6.below HB5.out HLB.out (Nat.le_refl _))
          have ha_6 := hf6.blk ha_5 rfl
          clear hn6 hf6 HN5 HB5 ha_5
          go_wp2_with fail
          go_roundw
          case rel => exact ⟨r + 1, _, by omega, by go_num, HST.out, HN6.out, HB6.out, ha_6⟩
          case measure => simp [intOf]; omega
        · obtain rfl : r = n := by omega
          obtain ⟨pe, hst2⟩ := hst.erase
          have HBD := Lib.hid (show N.ops ≤ 1000000 ∧ (N.blk 1 3).worn ≤ 1000000 from ⟨by have := hst.ops; omega, by rw [hst.worn]; omega⟩)
          have HST := Lib.hid hst2
          have HPE := Lib.hid pe
          have HN5 := Lib.hid hnd
          have HB5 := Lib.hid hbl
          clear hst hst2 hnd hbl pe
          go_wp2_with fail
          refine (erase_any (show NandIn _ _ _ 0 (N) from HN5.out) 1 3 ⟨rfl, rfl, rfl⟩ HBD.out.1 HBD.out.2 (by omega)).mono ?_
          rw [HPE.out]
          rintro e w6 ⟨rfl, hn6, hf6⟩
          replace hn6 : NandIn w6 base g (0) (N.eraseN 1 3) := by rw [show (N.eraseN 1 3) = ((N).eraseN 1 3) from rfl]; exact hn6
          have HN6 := Lib.hid hn6
          have HB6 := Lib.hid (hf6.below HB5.out HLB.out (Nat.le_refl _))
          have ha_6 := hf6.blk ha_5 rfl
          clear hn6 hf6 HN5 HB5 ha_5
          have HG := Lib.hid (show 1 < (N.eraseN 1 3).D ∧ 3 < (N.eraseN 1 3).B from ⟨by rw [HST.out.clean.geo.1]; omega, by rw [HST.out.clean.geo.2.1]; omega⟩)
          have HL := Lib.hid (show (((N.eraseN 1 3).blk 1 3).cells.length : Int) = 0 by rw [HST.out.len]; rfl)
          have HW := Lib.hid (show (((N.eraseN 1 3).blk 1 3).worn : Int) = (t : Int) + 1 by rw [HST.out.worn]; omega)
          generalize N.eraseN 1 3 = N2 at *
          go_wp2_with fail
          refine (show Calls _ _ #[.pointer (some ⟨g, 0, none⟩), .int .i64 1, .int .i64 3] _ _ from next_in (show NandIn _ _ _ 0 N2 from HN6.out) 1 3 HG.out.1 HG.out.2).mono ?_
          rw [HL.out]
          rintro e w7 ⟨rfl, hb7⟩
          have HN7 := Lib.hid (HN6.out.below hb7)
          have HB7 := Lib.hid (HB6.out.trans (hb7.mono HB6.out.size))
          have ha_7 := blk_below ha_6 hb7
          clear hb7 HN6 HB6 ha_6
          go_wp2_with fail
          refine (show Calls _ _ #[.pointer (some ⟨g, 0, none⟩), .int .i64 1, .int .i64 3] _ _ from worn_in (show NandIn _ _ _ 0 N2 from HN7.out) 1 3 HG.out.1 HG.out.2).mono ?_
          rw [HW.out]
          rintro e w8 ⟨rfl, hb8⟩
          have HN8 := Lib.hid (HN7.out.below hb8)
          have HB8 := Lib.hid (HB7.out.trans (hb8.mono HB7.out.size))
          have ha_8 := blk_below ha_7 hb8
          clear hb8 HN7 HB7 ha_7
          go_wp2_with fail
          go_roundw
          case rel => exact ⟨t + 1, N2, by omega, by go_num, by have := HST.out; rw [show 1 + 6 * (t + 1) = 1 + 6 * t + 6 by omega]; exact { this with ops := by have := this.ops; omega }, HN8.out, HB8.out, ha_8⟩
          case measure =>
            clear h256
            simp only [intOf]
            omega
    · obtain rfl : t = tt := by omega
      obtain ⟨fp, fe⟩ := HST.out.read
      have HRF := Lib.hid (And.intro fp fe)
      clear fp fe
      go_wp2_with (first | (refine wpList_load_mid rfl 32 (.tmp 7) rfl ob 0 rfl (Ad.v ⟨1, 2, 0⟩) _ (range_blk ha_5) Tryz.underlying32 rfl aInfo ?_))
      refine (read_in (show NandIn _ _ _ 0 (N) from HN5.out) ⟨1, 2, 0⟩ ⟨rfl, rfl, rfl⟩).mono ?_
      rw [HRF.out.1, HRF.out.2]
      rintro e w6 ⟨rfl, hb6⟩
      have HN6 := Lib.hid (HN5.out.below hb6)
      have HB6 := Lib.hid (HB5.out.trans (hb6.mono HB5.out.size))
      have ha_6 := blk_below ha_5 hb6
      clear hb6 HN5 HB5 ha_5
      obtain ⟨xb, hxb⟩ : ∃ xb, xb = w6.heap.size := ⟨_, rfl⟩
      go_upto_region 19 with (first | (refine wpList_put_row rfl 34 (.tmp 10) (.tmp 70) rfl _ (nats .u8 (pg1 9)) rfl rfl 34 _ (heap_new' _ _ _ rfl) (pgInfo rfl) rfl (one_nats _ _) ?_; intro w7 hU7; have h7 := hU7.at_; have hb7 := hU7.below (alloc_low _ _) (Nat.le_refl _); clear hU7))
      rw [← hxb] at h7 ⊢
      have HN7 := Lib.hid (HN6.out.below hb7)
      have HB7 := Lib.hid (HB6.out.trans (hb7.mono HB6.out.size))
      have ha_7 := blk_below ha_6 hb7
      clear hb7 HN6 HB6 ha_6
      have hx_7 := h7
      clear h7 hxb
      go_simp
      have heq := eql_pg9
      have HG := Lib.hid (show (1 < N.D ∧ 2 < N.B) ∧ (0 < N.D ∧ 3 < N.B) from ⟨⟨by rw [HST.out.clean.geo.1]; omega, by rw [HST.out.clean.geo.2.1]; omega⟩, by rw [HST.out.clean.geo.1]; omega, by rw [HST.out.clean.geo.2.1]; omega⟩)
      have HL := Lib.hid (show ((N.blk 1 2).worn : Int) = 0 by rw [HST.out.other]; rfl)
      have HW := Lib.hid (show ((N.blk 0 3).worn : Int) = 0 by rw [HST.out.third]; rfl)
      go_wp2_with (first | (refine want_page (.tmp 10) rfl xb 0 rfl (by rfl) (range_blk (cs := nats .u8 (pg1 9)) hx_7) (pgInfo rfl) ?_) | (refine want_build 34 _ rfl [(0, .int .u8 _)] rfl _ (built_pg1 9) (by rfl) ?_))
      refine (show Calls _ _ #[.pointer (some ⟨g, 0, none⟩), .int .i64 1, .int .i64 2] _ _ from worn_in (show NandIn _ _ _ 0 N from HN7.out) 1 2 HG.out.1.1 HG.out.1.2).mono ?_
      rw [HL.out]
      rintro e w8 ⟨rfl, hb8⟩
      have HN8 := Lib.hid (HN7.out.below hb8)
      have HB8 := Lib.hid (HB7.out.trans (hb8.mono HB7.out.size))
      have ha_8 := blk_below ha_7 hb8
      have hx_8 := blk_below hx_7 hb8
      clear hb8 HN7 HB7 ha_7 hx_7
      go_wp2_with fail
      refine (show Calls _ _ #[.pointer (some ⟨g, 0, none⟩), .int .i64 0, .int .i64 3] _ _ from worn_in (show NandIn _ _ _ 0 N from HN8.out) 0 3 HG.out.2.1 HG.out.2.2).mono ?_
      rw [HW.out]
      rintro e w9 ⟨rfl, hb9⟩
      have HN9 := Lib.hid (HN8.out.below hb9)
      have HB9 := Lib.hid (HB8.out.trans (hb9.mono HB8.out.size))
      have ha_9 := blk_below ha_8 hb9
      have hx_9 := blk_below hx_8 hb9
      clear hb9 HN8 HB8 ha_8 hx_8
      go_wp2_with fail
      go_ret
      exact ⟨rfl, HB9.out⟩
end Go.Proofs.YtnfigkoefmldiaaGreat.nandErase
