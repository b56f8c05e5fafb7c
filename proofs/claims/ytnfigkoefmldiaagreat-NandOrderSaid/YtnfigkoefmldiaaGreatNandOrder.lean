import Derived.Test.YtnfigkoefmldiaaGreatBunR
import Derived.Test.YtnfigkoefmldiaaGreatClean
/- NandOrder: pages of a block are programmed in their order, each once, until it is erased; another order is told, and changes nothing; no condition. -/
namespace Go.Proofs.YtnfigkoefmldiaaGreat.nandOrder
open Go.RowKit
open Go.Proofs.YtnfigkoefmldiaaGreat.nand
set_option linter.unusedVariables false
structure Or (N : Nd) (r q k : Nat) : Prop where
  fine : Fine N 3 8 4
  len : (N.blk 1 3).cells.length = r
  le : r ≤ 4
  good : (N.blk 1 3).met = false ∧ (N.blk 1 3).fails = false
  worn : (N.blk 1 3).worn ≤ k
  ops : N.ops ≤ k
  broken : N.broken = q
  qk : q ≤ k
  zero : (N.blk 0 3).cells.length = 0
theorem Or.start : Or (Nd.new 3 8 4) 0 0 0 := ⟨Fine.new 3 8 4, rfl, by omega, ⟨rfl, rfl⟩, Nat.le_refl _, Nat.le_refl _, rfl, by omega, rfl⟩
theorem Or.of {N N' : Nd} {r q k r' q' k' o b : Nat} {x : Blk} (h : Or N r q k) (n : Nxt N N' 3 8 4 1 3 x o b) (hx : x.cells.length = r') (hr : r' ≤ 4) (hg : x.met = false ∧ x.fails = false) (hw : x.worn ≤ k') (ho : o ≤ 1) (hk : k' = k + 1) (hq : q' = q + b) (hqk : q' ≤ k') : Or N' r' q' k' := by
  refine ⟨n.clean, ?_, hr, ?_, ?_, ?_, ?_, hqk, ?_⟩
  · rw [show (N'.blk 1 3) = _ from n.at_]; exact hx
  · rw [show (N'.blk 1 3) = _ from n.at_]; exact hg
  · rw [show (N'.blk 1 3) = _ from n.at_]; exact hw
  · rw [n.ops]; have := h.ops; omega
  · rw [n.broken, h.broken, hq]
  · rw [show (N'.blk 0 3) = _ from n.other (by omega)]; exact h.zero
theorem Or.erase {N : Nd} {r q k : Nat} (h : Or N r q k) : N.eraseE 1 3 = 0 ∧ Or (N.eraseN 1 3) 0 q (k + 1) := by
  obtain ⟨e, n⟩ := h.fine.erase (d := 1) (b := 3) (by omega) (by omega) (by omega) h.good.2
  exact ⟨e, h.of n rfl (by omega) h.good (by have := h.worn; simp only; omega) (by omega) rfl rfl (by have := h.qk; omega)⟩
theorem Or.prog {N : Nd} {r q k : Nat} (h : Or N r q k) (hr : r < 4) (pg : List Nat) : N.programE ⟨1, 3, r⟩ pg = 0 ∧ Or (N.programN ⟨1, 3, r⟩ pg) (r + 1) q (k + 1) := by
  obtain ⟨e, n⟩ := h.fine.prog (d := 1) (b := 3) (p := r) (by omega) (by omega) hr h.good.1 h.len pg
  exact ⟨e, h.of n (by simp [moreC, h.len]) (by omega) h.good (by have := h.worn; simp only [moreC]; omega) (by omega) rfl rfl (by have := h.qk; omega)⟩
theorem Or.order {N : Nd} {r q k p : Nat} (h : Or N r q k) (hp : p < 4) (hne : p ≠ r) (pg : List Nat) : N.programE ⟨1, 3, p⟩ pg = 4 ∧ Or (N.programN ⟨1, 3, p⟩ pg) r (q + 1) (k + 1) := by
  obtain ⟨e, n⟩ := h.fine.order (d := 1) (b := 3) (p := p) (by omega) (by omega) hp (by rw [h.len]; omega) pg
  exact ⟨e, h.of n h.len h.le h.good (by have := h.worn; omega) (by omega) rfl rfl (by have := h.qk; omega)⟩
theorem Or.range {N : Nd} {r q k : Nat} (h : Or N r q k) (pg : List Nat) : N.programE ⟨1, 3, 4⟩ pg = 3 ∧ N.programN ⟨1, 3, 4⟩ pg = N ∧ Or N r q (k + 1) := by
  obtain ⟨e, n⟩ := h.fine.range (d := 1) (b := 3) (p := 4) (by omega) pg
  exact ⟨e, n, ⟨h.fine, h.len, h.le, h.good, by have := h.worn; omega, by have := h.ops; omega, h.broken, by have := h.qk; omega, h.zero⟩⟩
set_option maxRecDepth 100000 in
set_option maxHeartbeats 8000000 in
theorem walk (A : Option Addr) (n c : Nat) (z : List Int) (w : World) (w0 : IsRow .i64 w A n c z) :
    Calls Tryz.prog 3 #[.slice A n c] w fun e w' => e = .returned (.bool true) ∧ Below w.heap.size w w' := by
  obtain ⟨hr, hnc, hcm, hlen, hwf⟩ := w0.rd
  generalize z.take n = l at hr hlen
  clear w0 hwf
  unfold maxLen at hcm
  have HRD := Lib.hid hr
  have HLN := Lib.hid hlen
  clear hr hlen
  go_enter Tryz.func3, Tryz.ntmps3
  go_wp2_with fail
  refine (begun7_any _).mono ?_
  rintro e w1 ⟨rfl, hb1⟩
  have HB1 := Lib.hid hb1
  clear hb1
  go_wp2_with (first | (refine want_build 25 _ rfl [(0, .int .i64 _), (1, .int .i64 _), (2, .int .i64 _)] rfl _ (built_g3 3 8 4) (by rfl) ?_) | (refine wpList_put_row rfl 25 (.tmp 4) (.tmp 14) rfl _ [.int .i64 3, .int .i64 8, .int .i64 4] rfl rfl 25 _ (heap_new' _ _ _ rfl) geoInfo rfl (by simp [Value.oneCell']) ?_; intro w2 hU2; have hg2 := range_blk (cs := [.int .i64 3, .int .i64 8, .int .i64 4]) hU2.at_; have hb2 := hU2.below (alloc_low _ _) (Nat.le_refl _); clear hU2) | (refine wpList_load_mid rfl 25 (.tmp 4) rfl w1.heap.size 0 rfl [.int .i64 3, .int .i64 8, .int .i64 4] _ hg2 Tryz.underlying25 rfl geoInfo ?_))
  have HB2 := Lib.hid (HB1.out.trans (hb2.mono HB1.out.size))
  clear hb2 hg2 HB1
  refine (show Calls _ _ #[.agg #[.int .i64 3, .int .i64 8, .int .i64 4]] _ _ from new_any w2 3 8 4 (by decide)).mono ?_
  rintro e w3 ⟨g, rfl, hn3, hb3⟩
  obtain ⟨base, hbase⟩ : ∃ base, base = w2.heap.size := ⟨_, rfl⟩
  rw [← hbase] at hn3
  have HLB := Lib.hid (show w.heap.size ≤ base by rw [hbase]; exact HB2.out.size)
  have HN3 := Lib.hid hn3
  have HB3 := Lib.hid (HB2.out.trans (hb3.mono HB2.out.size))
  clear hn3 hb3 HB2 hbase
  go_wp2_with fail
  go_loopw [6, 7, 8, 9, 10, 52, 57] (fun nx bk i _ _ _ _ wr => ∃ (k r q : Nat) (N : Nd), k ≤ n ∧ k ≤ 40 ∧ i = .int .i64 k ∧ nx = .int .i64 r ∧ bk = .int .i64 q ∧ Or N r q k ∧ NandIn wr base g 0 N ∧ Below w.heap.size w wr) (fun _ _ i _ _ _ _ _ => 40 - (intOf i).toNat)
  case atStart => exact ⟨0, 0, 0, _, by omega, by omega, rfl, rfl, rfl, Or.start, HN3.out, HB3.out⟩
  case round =>
    clear HN3 HB3
    obtain ⟨k, r, q, N, hkn, hk40, rfl, rfl, rfl, hor, hnd, hbl⟩ := hrel
    by_cases hlt : k < n ∧ k < 40
    · obtain ⟨hl1, hl2⟩ := hlt
      have hI1 : (k : Int) < (n : Int) := by omega
      have hI2 : (k : Int) < 40 := by omega
      obtain ⟨b, o, eA, hb2, hc⟩ := (HRD.out.below hbl (Nat.le_refl _)).at_ hl1
      rw [ints_at' _ l k (by rw [HLN.out]; exact hl1)] at hc
      subst eA
      generalize l[k]'(by rw [HLN.out]; exact hl1) = x at hc
      have hT1 := Int.lt_tmod_of_pos x (show (0 : Int) < 6 by decide)
      have hT2 := Int.tmod_lt_of_pos x (show (0 : Int) < 6 by decide)
      generalize hT : x.tmod 6 = T at *
      have HT := Lib.hid hT
      have h256 : IntKind.u8.wrap (k : Int) = (k : Int) := by rw [wrap_u8]; omega
      have HBD := Lib.hid (show (N.ops ≤ 1000000 ∧ N.broken ≤ 1000000) ∧ (N.blk 1 3).worn ≤ 1000000 from ⟨⟨by have := hor.ops; omega, by rw [hor.broken]; have := hor.qk; omega⟩, by have := hor.worn; omega⟩)
      have HN5 := Lib.hid hnd
      have HB5 := Lib.hid hbl
      have HOR := Lib.hid hor
      have hr4 := hor.le
      have hqk := hor.qk
      clear hnd hbl hor
      by_cases c1 : T < 0
      · clear h256
        obtain ⟨pe, ho2⟩ := HOR.out.erase
        have HPE := Lib.hid pe
        have HO2 := Lib.hid ho2
        clear pe ho2
        go_wp2_with fail
        refine (erase_any (show NandIn _ _ _ 0 (N) from HN5.out) 1 3 ⟨rfl, rfl, rfl⟩ HBD.out.1.1 HBD.out.2 (by omega)).mono ?_
        rw [HPE.out]
        rintro e w6 ⟨rfl, hn6, hf6⟩
        replace hn6 : NandIn w6 base g (0) (N.eraseN 1 3) := by rw [show (N.eraseN 1 3) = ((N).eraseN 1 3) from rfl]; exact hn6
        have HN6 := Lib.hid hn6
        have HB6 := Lib.hid (hf6.below HB5.out HLB.out (Nat.le_refl _))
        clear hn6 hf6 HN5 HB5 
        go_wp2_with fail
        go_roundw
        case rel => exact ⟨k + 1, 0, q, _, by omega, by omega, by go_num, rfl, rfl, HO2.out, HN6.out, HB6.out⟩
        case measure => simp [intOf]; omega
      · by_cases c2 : T = 5
        · subst c2
          clear h256
          obtain ⟨pe, ho2⟩ := HOR.out.erase
          have HPE := Lib.hid pe
          have HO2 := Lib.hid ho2
          clear pe ho2
          go_wp2_with fail
          refine (erase_any (show NandIn _ _ _ 0 (N) from HN5.out) 1 3 ⟨rfl, rfl, rfl⟩ HBD.out.1.1 HBD.out.2 (by omega)).mono ?_
          rw [HPE.out]
          rintro e w6 ⟨rfl, hn6, hf6⟩
          replace hn6 : NandIn w6 base g (0) (N.eraseN 1 3) := by rw [show (N.eraseN 1 3) = ((N).eraseN 1 3) from rfl]; exact hn6
          have HN6 := Lib.hid hn6
          have HB6 := Lib.hid (hf6.below HB5.out HLB.out (Nat.le_refl _))
          clear hn6 hf6 HN5 HB5 
          go_wp2_with fail
          go_roundw
          case rel => exact ⟨k + 1, 0, q, _, by omega, by omega, by go_num, rfl, rfl, HO2.out, HN6.out, HB6.out⟩
          case measure => simp [intOf]; omega
        · by_cases c3 : T = 4
          · subst c3
            obtain ⟨pe, pn, ho2⟩ := HOR.out.range (pg1 k)
            have HPE := Lib.hid pe
            have HPN := Lib.hid pn
            have HO2 := Lib.hid ho2
            clear pe pn ho2
            go_wp2_with (first | (refine want_build 32 _ rfl [(0, .int .i64 _), (1, .int .i64 _), (2, .int .i64 _)] rfl _ (ad_dbp _ _ _) (by rfl) ?_) | (refine want_build 34 _ rfl [(0, .int .u8 _)] rfl _ (built_pg1 k) (by rfl) ?_))
            refine (program_any (show NandIn _ _ _ 0 (N) from HN5.out) ⟨1, 3, 4⟩ (ad_wf (by omega) (by omega) (by omega)) (pg1 k) (pg1_ok (by omega)).1 (pg1_ok (by omega)).2 HBD.out.1.1 HBD.out.1.2).mono ?_
            rw [HPE.out]
            rintro e w6 ⟨rfl, hn6, hf6⟩
            replace hn6 : NandIn w6 base g (0) (N.programN ⟨1, 3, 4⟩ (pg1 k)) := by rw [show (N.programN ⟨1, 3, 4⟩ (pg1 k)) = ((N).programN ⟨1, 3, 4⟩ (pg1 k)) from rfl]; exact hn6
            have HN6 := Lib.hid hn6
            have HB6 := Lib.hid (hf6.below HB5.out HLB.out (Nat.le_refl _))
            clear hn6 hf6 HN5 HB5 
            rw [HPN.out] at HN6
            go_wp2_with fail
            go_roundw
            case rel => exact ⟨k + 1, r, q, _, by omega, by omega, by go_num, by go_num, by go_num, HO2.out, HN6.out, HB6.out⟩
            case measure => simp [intOf]; omega
          · obtain ⟨p, rfl⟩ := Int.eq_ofNat_of_zero_le (show 0 ≤ T by omega)
            have hp4 : p < 4 := by omega
            have d5 : ((p : Int) == 5) = false := by simp; omega
            have d4 : ((p : Int) == 4) = false := by simp; omega
            have d0 : decide ((p : Int) < 0) = false := by simp
            by_cases c4 : p = r
            · subst c4
              have dq : ((p : Int) != (p : Int)) = false := by simp
              obtain ⟨pe, ho2⟩ := HOR.out.prog hp4 (pg1 k)
              have HPE := Lib.hid pe
              have HO2 := Lib.hid ho2
              clear pe ho2
              go_wp2_with (first | (refine want_build 32 _ rfl [(0, .int .i64 _), (1, .int .i64 _), (2, .int .i64 _)] rfl _ (ad_dbp _ _ _) (by rfl) ?_) | (refine want_build 34 _ rfl [(0, .int .u8 _)] rfl _ (built_pg1 k) (by rfl) ?_))
              refine (program_any (show NandIn _ _ _ 0 (N) from HN5.out) ⟨1, 3, p⟩ (ad_wf (by omega) (by omega) (by omega)) (pg1 k) (pg1_ok (by omega)).1 (pg1_ok (by omega)).2 HBD.out.1.1 HBD.out.1.2).mono ?_
              rw [HPE.out]
              rintro e w6 ⟨rfl, hn6, hf6⟩
              replace hn6 : NandIn w6 base g (0) (N.programN ⟨1, 3, p⟩ (pg1 k)) := by rw [show (N.programN ⟨1, 3, p⟩ (pg1 k)) = ((N).programN ⟨1, 3, p⟩ (pg1 k)) from rfl]; exact hn6
              have HN6 := Lib.hid hn6
              have HB6 := Lib.hid (hf6.below HB5.out HLB.out (Nat.le_refl _))
              clear hn6 hf6 HN5 HB5 
              go_wp2_with fail
              go_roundw
              case rel => exact ⟨k + 1, p + 1, q, _, by omega, by omega, by go_num, by go_num, by go_num, HO2.out, HN6.out, HB6.out⟩
              case measure => simp [intOf]; omega
            · have dq : ((p : Int) != (r : Int)) = true := by simp; omega
              obtain ⟨pe, ho2⟩ := HOR.out.order hp4 c4 (pg1 k)
              have HPE := Lib.hid pe
              have HO2 := Lib.hid ho2
              clear pe ho2
              go_wp2_with (first | (refine want_build 32 _ rfl [(0, .int .i64 _), (1, .int .i64 _), (2, .int .i64 _)] rfl _ (ad_dbp _ _ _) (by rfl) ?_) | (refine want_build 34 _ rfl [(0, .int .u8 _)] rfl _ (built_pg1 k) (by rfl) ?_))
              refine (program_any (show NandIn _ _ _ 0 (N) from HN5.out) ⟨1, 3, p⟩ (ad_wf (by omega) (by omega) (by omega)) (pg1 k) (pg1_ok (by omega)).1 (pg1_ok (by omega)).2 HBD.out.1.1 HBD.out.1.2).mono ?_
              rw [HPE.out]
              rintro e w6 ⟨rfl, hn6, hf6⟩
              replace hn6 : NandIn w6 base g (0) (N.programN ⟨1, 3, p⟩ (pg1 k)) := by rw [show (N.programN ⟨1, 3, p⟩ (pg1 k)) = ((N).programN ⟨1, 3, p⟩ (pg1 k)) from rfl]; exact hn6
              have HN6 := Lib.hid hn6
              have HB6 := Lib.hid (hf6.below HB5.out HLB.out (Nat.le_refl _))
              clear hn6 hf6 HN5 HB5 
              go_wp2_with fail
              go_roundw
              case rel => exact ⟨k + 1, r, q + 1, _, by omega, by omega, by go_num, by go_num, by go_num, HO2.out, HN6.out, HB6.out⟩
              case measure => simp [intOf]; omega
    · have HN5 := Lib.hid hnd
      have HB5 := Lib.hid hbl
      have HQ := Lib.hid (show (N.broken : Int) = (q : Int) by rw [hor.broken])
      have HL := Lib.hid (show ((N.blk 1 3).cells.length : Int) = (r : Int) by rw [hor.len])
      have HZ := Lib.hid (show ((N.blk 0 3).cells.length : Int) = 0 by rw [hor.zero]; rfl)
      have HG := Lib.hid (show (1 < N.D ∧ 3 < N.B) ∧ (0 < N.D ∧ 3 < N.B) from ⟨⟨by rw [hor.fine.geo.1]; omega, by rw [hor.fine.geo.2.1]; omega⟩, by rw [hor.fine.geo.1]; omega, by rw [hor.fine.geo.2.1]; omega⟩)
      clear hnd hbl hor
      by_cases hc : k = n
      · subst hc
        go_wp2_with fail
        refine (broken_in (show NandIn _ _ _ 0 N from HN5.out)).mono ?_
        rw [HQ.out]
        rintro e wq ⟨rfl, rfl⟩
        go_wp2_with fail
        refine (show Calls _ _ #[.pointer (some ⟨g, 0, none⟩), .int .i64 1, .int .i64 3] _ _ from next_in (show NandIn _ _ _ 0 N from HN5.out) 1 3 HG.out.1.1 HG.out.1.2).mono ?_
        rw [HL.out]
        rintro e w8 ⟨rfl, hb8⟩
        have HN8 := Lib.hid (HN5.out.below hb8)
        have HB8 := Lib.hid (HB5.out.trans (hb8.mono HB5.out.size))
        clear hb8 HN5 HB5 
        go_wp2_with fail
        refine (show Calls _ _ #[.pointer (some ⟨g, 0, none⟩), .int .i64 0, .int .i64 3] _ _ from next_in (show NandIn _ _ _ 0 N from HN8.out) 0 3 HG.out.2.1 HG.out.2.2).mono ?_
        rw [HZ.out]
        rintro e w9 ⟨rfl, hb9⟩
        have HN9 := Lib.hid (HN8.out.below hb9)
        have HB9 := Lib.hid (HB8.out.trans (hb9.mono HB8.out.size))
        clear hb9 HN8 HB8 
        go_wp2_with fail
        go_ret
        exact ⟨rfl, HB9.out⟩
      · obtain rfl : k = 40 := by omega
        have hI1 : (40 : Int) < (n : Int) := by omega
        rw [show ((40 : Nat) : Int) = 40 from rfl]
        go_wp2_with fail
        refine (broken_in (show NandIn _ _ _ 0 N from HN5.out)).mono ?_
        rw [HQ.out]
        rintro e wq ⟨rfl, rfl⟩
        go_wp2_with fail
        refine (show Calls _ _ #[.pointer (some ⟨g, 0, none⟩), .int .i64 1, .int .i64 3] _ _ from next_in (show NandIn _ _ _ 0 N from HN5.out) 1 3 HG.out.1.1 HG.out.1.2).mono ?_
        rw [HL.out]
        rintro e w8 ⟨rfl, hb8⟩
        have HN8 := Lib.hid (HN5.out.below hb8)
        have HB8 := Lib.hid (HB5.out.trans (hb8.mono HB5.out.size))
        clear hb8 HN5 HB5 
        go_wp2_with fail
        refine (show Calls _ _ #[.pointer (some ⟨g, 0, none⟩), .int .i64 0, .int .i64 3] _ _ from next_in (show NandIn _ _ _ 0 N from HN8.out) 0 3 HG.out.2.1 HG.out.2.2).mono ?_
        rw [HZ.out]
        rintro e w9 ⟨rfl, hb9⟩
        have HN9 := Lib.hid (HN8.out.below hb9)
        have HB9 := Lib.hid (HB8.out.trans (hb9.mono HB8.out.size))
        clear hb9 HN8 HB8 
        go_wp2_with fail
        go_ret
        exact ⟨rfl, HB9.out⟩
end Go.Proofs.YtnfigkoefmldiaaGreat.nandOrder
