import Derived.Test.YtnfigkoefmldiaaGreatBunR
import Derived.Test.YtnfigkoefmldiaaGreatClean2
/- NandProgram: a program's fault is met once: the page can't be read, the next one can be programmed; no condition. -/
namespace Go.Proofs.YtnfigkoefmldiaaGreat.nandProgram
open Go.RowKit
open Go.Proofs.YtnfigkoefmldiaaGreat.nand
set_option linter.unusedVariables false
structure Pm (N : Nd) (page i : Nat) : Prop where
  geo : N.D = 3 ∧ N.B = 8 ∧ N.P = 4
  off : N.off = false
  cuts : N.cuts = false
  dead : N.dead = List.replicate 3 false
  plan : N.plan = if i ≤ page then [(⟨0, 1, page⟩, .bool true)] else []
  keep : N.keep = 0
  blk : (N.blk 0 1).cells.length = i ∧ (N.blk 0 1).met = false ∧ (N.blk 0 1).fails = false ∧ (N.blk 0 1).worn = 0
  ops : N.ops = i
  broken : N.broken = 0
def fP (page : Nat) : Flt := ⟨0, 1, 0, 1, page, 0, 0⟩
theorem fP_wf {page : Nat} (h : page < 3) : (fP page).wf := ⟨rfl, rfl, ad_wf (d := 0) (b := 1) (p := (page : Int)) (by omega) (by omega) (by omega), rfl, rfl⟩
theorem Pm.start {page : Nat} (hp : page < 3) : (Nd.new 3 8 4).faultB (fP page) = true ∧ Pm ((Nd.new 3 8 4).faultN (fP page)) page 0 := by
  have hin : (Nd.new 3 8 4).inG (fP page).a = true := by simp [Nd.inG, Flt.a, fP, Nd.new]; omega
  obtain ⟨e, n⟩ := (fault_plain (f := fP page) (d := 0) (b := 1) (q := page) hin rfl rfl rfl).k1 rfl
  refine ⟨e, ?_⟩
  rw [n]
  exact ⟨⟨rfl, rfl, rfl⟩, rfl, rfl, rfl, by rw [if_pos (Nat.zero_le _)]; rfl, rfl, ⟨rfl, rfl, rfl, rfl⟩, rfl, rfl⟩
theorem Pm.prog {N : Nd} {page i : Nat} (h : Pm N page i) (hi : i < 4) {pg : List Nat} (hpg : pg.length = 32) :
    N.programE ⟨0, 1, i⟩ pg = (bif i == page then 7 else 0) ∧ Pm (N.programN ⟨0, 1, i⟩ pg) page (i + 1) ∧ (N.programN ⟨0, 1, i⟩ pg).readE ⟨0, 1, i⟩ = (bif i == page then 6 else 0) := by
  have hr : N.refuses ⟨0, 1, i⟩ = 0 := ref0 (d := 0) (b := 1) (p := i) h.geo h.off h.dead (by omega) (by omega) hi
  have hc : N.cutB = false := by simp [Nd.cutB, h.cuts]
  have hcN : N.cutN = { N with ops := N.ops + 1 } := by simp [Nd.cutN, h.cuts]
  obtain ⟨pe, pn⟩ := (prog_plain (d := 0) (b := 1) (q := i) (p := pg) hr rfl rfl rfl (by rw [h.keep]; omega) hpg).l3 h.blk.1.symm hc
  have hh : hasF N.plan ⟨0, 1, i⟩ = (i == page) := by
    rw [h.plan]
    by_cases e : i ≤ page
    · rw [if_pos e]
      by_cases e2 : i = page
      · subst e2; simp [hasF]
      · have e3 : (i == page) = false := by simpa using e2
        have e4 : ¬ ((i : Int) = (page : Int)) := by omega
        rw [e3]; simp [hasF, e4]
    · rw [if_neg e]
      simp [hasF]; omega
  have hd : delF N.plan ⟨0, 1, i⟩ = if i + 1 ≤ page then [(⟨0, 1, page⟩, .bool true)] else [] := by
    rw [h.plan]
    by_cases e : i ≤ page
    · rw [if_pos e]
      by_cases e2 : i = page
      · subst e2
        rw [if_neg (by omega)]
        simp [delF]
      · rw [if_pos (by omega)]
        have : ¬ (page = i) := fun e3 => e2 e3.symm
        simp [delF]
        omega
    · rw [if_neg e, if_neg (by omega)]; rfl
  rw [hh, h.blk.2.1, Bool.or_false] at pe pn
  have hN : N.programN ⟨0, 1, i⟩ pg = ({ N with ops := N.ops + 1, plan := delF N.plan ⟨0, 1, i⟩ } : Nd).upd 0 1 (moreC (N.blk 0 1) ⟨pg, i == page, false⟩) := by rw [pn, hcN]
  have hP : Pm (N.programN ⟨0, 1, i⟩ pg) page (i + 1) := by
    rw [hN]
    exact ⟨h.geo, h.off, h.cuts, h.dead, hd, h.keep, by rw [upd_at]; exact ⟨by simp [moreC, h.blk.1], h.blk.2⟩, by rw [show (({ N with ops := N.ops + 1, plan := delF N.plan ⟨0, 1, i⟩ } : Nd).upd 0 1 (moreC (N.blk 0 1) ⟨pg, i == page, false⟩)).ops = N.ops + 1 from rfl, h.ops], h.broken⟩
  refine ⟨pe, hP, ?_⟩
  have hr2 : (N.programN ⟨0, 1, i⟩ pg).refuses ⟨0, 1, i⟩ = 0 := ref0 (d := 0) (b := 1) (p := i) hP.geo hP.off hP.dead (by omega) (by omega) hi
  have hat : (N.programN ⟨0, 1, i⟩ pg).at ⟨0, 1, i⟩ = moreC (N.blk 0 1) ⟨pg, i == page, false⟩ := by rw [hN]; exact upd_at _ _ _ _
  have hcell : (moreC (N.blk 0 1) ⟨pg, i == page, false⟩).cells[i]? = some ⟨pg, i == page, false⟩ := by simp [moreC, h.blk.1]
  cases hb : (i == page) with
  | true => rw [hb] at hat hcell; simp [Nd.readE, hr2, hat, hcell]
  | false => rw [hb] at hat hcell; simp [Nd.readE, hr2, hat, hcell]
structure Pz (N : Nd) (i : Nat) : Prop where
  fine : Fine N 3 8 4
  blk : (N.blk 0 1).cells.length = i ∧ (N.blk 0 1).met = false
  ops : N.ops ≤ 10 + i
  broken : N.broken = 0
theorem Pm.erase {N : Nd} {page : Nat} (h : Pm N page (page + 2)) (hp : page < 3) : Pz (N.eraseN 0 1) 0 := by
  have hf : Fine N 3 8 4 := ⟨h.geo, h.off, h.cuts, h.dead, by rw [h.plan, if_neg (by omega)]⟩
  obtain ⟨e, n⟩ := hf.erase (d := 0) (b := 1) (by omega) (by omega) (by omega) h.blk.2.2.1
  refine ⟨n.clean, ?_, ?_, ?_⟩
  · rw [show ((N.eraseN 0 1).blk 0 1) = _ from n.at_]; exact ⟨rfl, h.blk.2.1⟩
  · rw [show (N.eraseN 0 1).ops = _ from n.ops, h.ops]; omega
  · rw [show (N.eraseN 0 1).broken = _ from n.broken, h.broken]
theorem Pz.prog {N : Nd} {i : Nat} (h : Pz N i) (hi : i < 4) (pg : List Nat) : N.programE ⟨0, 1, i⟩ pg = 0 ∧ Pz (N.programN ⟨0, 1, i⟩ pg) (i + 1) := by
  obtain ⟨e, n⟩ := h.fine.prog (d := 0) (b := 1) (p := i) (by omega) (by omega) hi h.blk.2 h.blk.1 pg
  refine ⟨e, n.clean, ?_, ?_, ?_⟩
  · rw [show ((N.programN ⟨0, 1, i⟩ pg).blk 0 1) = _ from n.at_]; exact ⟨by simp [moreC, h.blk.1], h.blk.2⟩
  · rw [show (N.programN ⟨0, 1, i⟩ pg).ops = _ from n.ops]; have := h.ops; omega
  · rw [show (N.programN ⟨0, 1, i⟩ pg).broken = _ from n.broken, h.broken]
set_option maxRecDepth 100000 in
set_option maxHeartbeats 8000000 in
theorem walk (a0 : Int) (a1 : Bool) (w : World) (w0 : (Lit.int .i64 a0).wf = true) :
    Calls Tryz.prog 9 #[.int .i64 a0, .bool a1] w fun e w' => e = .returned (.bool true) ∧ Below w.heap.size w w' := by
  clear w0
  obtain ⟨n, hn, hn3⟩ := mod_norm (x := a0) (show (0 : Int) < 3 by decide) (by decide)
  replace hn3 : n < 3 := by omega
  obtain ⟨pf, hst⟩ := Pm.start hn3
  have HPF := Lib.hid pf
  have HST := Lib.hid hst
  clear pf hst
  go_enter Tryz.func9, Tryz.ntmps9
  go_wp2_with fail
  refine (begun7_any _).mono ?_
  rintro e w1 ⟨rfl, hb1⟩
  have HB1 := Lib.hid hb1
  clear hb1
  go_wp2_with fail
  refine (made_any w1).mono ?_
  rintro e w2 ⟨g, rfl, hn2, hb2⟩
  obtain ⟨base, hbase⟩ : ∃ base, base = w1.heap.size := ⟨_, rfl⟩
  rw [← hbase] at hn2
  have HLB := Lib.hid (show w.heap.size ≤ base by rw [hbase]; exact HB1.out.size)
  have HN2 := Lib.hid hn2
  have HB2 := Lib.hid (HB1.out.trans (hb2.mono HB1.out.size))
  clear hn2 hb2 HB1 hbase
  go_wp2_with (first | (refine want_build 32 _ rfl [(1, .int .i64 _), (2, .int .i64 _)] rfl _ (ad_bp _ _) (by rfl) ?_) | (refine want_build 44 _ rfl [(1, .int .i64 _), (2, .agg _)] rfl _ (flt_ka 1 _ _ _) (by rfl) ?_))
  refine (fault_in (show NandIn _ _ _ 0 (Nd.new 3 8 4) from HN2.out) (fP n) (fP_wf hn3) (by omega)).mono ?_
  rw [HPF.out]
  rintro e w3 ⟨rfl, hn3, hf3⟩
  have HN3 := Lib.hid hn3
  have HB3 := Lib.hid (hf3.below HB2.out HLB.out (Nat.le_refl _))
  clear hn3 hf3 HN2 HB2 
  generalize (Nd.new 3 8 4).faultN (fP n) = Nf at *
  go_wp2_with fail
  go_loopw [7, 8, 9, 10] (fun i _ _ _ wr => ∃ (r : Nat) (N : Nd), r ≤ n + 2 ∧ i = .int .i64 r ∧ Pm N n r ∧ NandIn wr base g 1 N ∧ Below w.heap.size w wr) (fun i _ _ _ _ => n + 2 - (intOf i).toNat)
  case atStart => exact ⟨0, _, by omega, rfl, HST.out, HN3.out, HB3.out⟩
  case round =>
    clear HN3 HB3 HST HPF
    obtain ⟨r, N, hr, rfl, hpm, hnd, hbl⟩ := hrel
    by_cases hlt : r < n + 2
    · have hI1 : (r : Int) ≤ (n : Int) + 1 := by omega
      have h256 : IntKind.u8.wrap (r : Int) = (r : Int) := by rw [wrap_u8]; omega
      obtain ⟨pe, hp2, re⟩ := hpm.prog (by omega) (pg1_ok (x := r) (by omega)).1
      have HBD := Lib.hid (show N.ops ≤ 1000000 ∧ N.broken ≤ 1000000 from ⟨by rw [hpm.ops]; omega, by rw [hpm.broken]; omega⟩)
      have HN5 := Lib.hid hnd
      have HB5 := Lib.hid hbl
      have HP2 := Lib.hid hp2
      clear hpm hnd hbl hp2
      by_cases hq : r = n
      · have hrn : (r == n) = true := by simpa using hq
        have dq : ((r : Int) != (n : Int)) = false := by simp; omega
        have HPE := Lib.hid (show N.programE ⟨0, 1, r⟩ (pg1 r) = 7 by rw [pe, hrn]; rfl)
        have HRE := Lib.hid (show (N.programN ⟨0, 1, r⟩ (pg1 r)).readE ⟨0, 1, r⟩ = 6 by rw [re, hrn]; rfl)
        clear pe re hrn hq
        go_wp2_with (first | (refine want_build 32 _ rfl [(1, .int .i64 _), (2, .int .i64 _)] rfl _ (ad_bp _ _) (by rfl) ?_) | (refine want_build 34 _ rfl [(0, .int .u8 _)] rfl _ (built_pg1 r) (by rfl) ?_))
        refine (program_any (show NandIn _ _ _ 1 (N) from HN5.out) ⟨0, 1, r⟩ (ad_wf (by omega) (by omega) (by omega)) (pg1 r) (pg1_ok (by omega)).1 (pg1_ok (by omega)).2 HBD.out.1 HBD.out.2).mono ?_
        rw [HPE.out]
        rintro e w6 ⟨rfl, hn6, hf6⟩
        replace hn6 : NandIn w6 base g (1) (N.programN ⟨0, 1, r⟩ (pg1 r)) := by rw [show (N.programN ⟨0, 1, r⟩ (pg1 r)) = ((N).programN ⟨0, 1, r⟩ (pg1 r)) from rfl]; exact hn6
        have HN6 := Lib.hid hn6
        have HB6 := Lib.hid (hf6.below HB5.out HLB.out (Nat.le_refl _))
        clear hn6 hf6 HN5 HB5 
        have HLN := Lib.hid (readP_length HN6.out.ok ⟨0, 1, r⟩)
        clear h256
        go_wp2_with (first | (refine want_build 32 _ rfl [(1, .int .i64 _), (2, .int .i64 _)] rfl _ (ad_bp _ _) (by rfl) ?_))
        refine (read_in (show NandIn _ _ _ 1 (N.programN ⟨0, 1, r⟩ (pg1 r)) from HN6.out) ⟨0, 1, r⟩ (ad_wf (by omega) (by omega) (by omega))).mono ?_
        rw [HRE.out]
        rintro e w7 ⟨rfl, hb7⟩
        have HN7 := Lib.hid (HN6.out.below hb7)
        have HB7 := Lib.hid (HB6.out.trans (hb7.mono HB6.out.size))
        clear hb7 HN6 HB6 
        generalize hrp : (N.programN ⟨0, 1, r⟩ (pg1 r)).readP ⟨0, 1, r⟩ = rp at *
        clear hrp
        go_upto_region 13 with (first | (refine wpList_put_row rfl 34 (.tmp 9) (.tmp 44) rfl _ (nats .u8 rp) rfl rfl 34 _ (heap_new' _ _ _ rfl) (pgInfo HLN.out) (by rw [nats_length, HLN.out]; rfl) (one_nats _ _) ?_; intro w8 hU8; have h8 := hU8.at_; have hb8 := hU8.below (alloc_low _ _) (Nat.le_refl _); clear hU8))
        have HN8 := Lib.hid (HN7.out.below hb8)
        have HB8 := Lib.hid (HB7.out.trans (hb8.mono HB7.out.size))
        clear hb8 HN7 HB7 
        clear h8
        go_simp
        go_wp2_with fail
        go_roundw
        case rel => exact ⟨r + 1, _, by omega, by go_num, HP2.out, HN8.out, HB8.out⟩
        case measure => simp [intOf]; omega
      · have hrn : (r == n) = false := by simpa using hq
        have dq : ((r : Int) != (n : Int)) = true := by simp; omega
        have HPE := Lib.hid (show N.programE ⟨0, 1, r⟩ (pg1 r) = 0 by rw [pe, hrn]; rfl)
        have HRE := Lib.hid (show (N.programN ⟨0, 1, r⟩ (pg1 r)).readE ⟨0, 1, r⟩ = 0 by rw [re, hrn]; rfl)
        clear pe re hrn hq
        go_wp2_with (first | (refine want_build 32 _ rfl [(1, .int .i64 _), (2, .int .i64 _)] rfl _ (ad_bp _ _) (by rfl) ?_) | (refine want_build 34 _ rfl [(0, .int .u8 _)] rfl _ (built_pg1 r) (by rfl) ?_))
        refine (program_any (show NandIn _ _ _ 1 (N) from HN5.out) ⟨0, 1, r⟩ (ad_wf (by omega) (by omega) (by omega)) (pg1 r) (pg1_ok (by omega)).1 (pg1_ok (by omega)).2 HBD.out.1 HBD.out.2).mono ?_
        rw [HPE.out]
        rintro e w6 ⟨rfl, hn6, hf6⟩
        replace hn6 : NandIn w6 base g (1) (N.programN ⟨0, 1, r⟩ (pg1 r)) := by rw [show (N.programN ⟨0, 1, r⟩ (pg1 r)) = ((N).programN ⟨0, 1, r⟩ (pg1 r)) from rfl]; exact hn6
        have HN6 := Lib.hid hn6
        have HB6 := Lib.hid (hf6.below HB5.out HLB.out (Nat.le_refl _))
        clear hn6 hf6 HN5 HB5 
        have HLN := Lib.hid (readP_length HN6.out.ok ⟨0, 1, r⟩)
        clear h256
        go_wp2_with (first | (refine want_build 32 _ rfl [(1, .int .i64 _), (2, .int .i64 _)] rfl _ (ad_bp _ _) (by rfl) ?_))
        refine (read_in (show NandIn _ _ _ 1 (N.programN ⟨0, 1, r⟩ (pg1 r)) from HN6.out) ⟨0, 1, r⟩ (ad_wf (by omega) (by omega) (by omega))).mono ?_
        rw [HRE.out]
        rintro e w7 ⟨rfl, hb7⟩
        have HN7 := Lib.hid (HN6.out.below hb7)
        have HB7 := Lib.hid (HB6.out.trans (hb7.mono HB6.out.size))
        clear hb7 HN6 HB6 
        generalize hrp : (N.programN ⟨0, 1, r⟩ (pg1 r)).readP ⟨0, 1, r⟩ = rp at *
        clear hrp
        go_upto_region 13 with (first | (refine wpList_put_row rfl 34 (.tmp 9) (.tmp 44) rfl _ (nats .u8 rp) rfl rfl 34 _ (heap_new' _ _ _ rfl) (pgInfo HLN.out) (by rw [nats_length, HLN.out]; rfl) (one_nats _ _) ?_; intro w8 hU8; have h8 := hU8.at_; have hb8 := hU8.below (alloc_low _ _) (Nat.le_refl _); clear hU8))
        have HN8 := Lib.hid (HN7.out.below hb8)
        have HB8 := Lib.hid (HB7.out.trans (hb8.mono HB7.out.size))
        clear hb8 HN7 HB7 
        clear h8
        go_simp
        go_wp2_with fail
        go_roundw
        case rel => exact ⟨r + 1, _, by omega, by go_num, HP2.out, HN8.out, HB8.out⟩
        case measure => simp [intOf]; omega
    · obtain rfl : r = n + 2 := by omega
      have hIx : ¬ (((n + 2 : Nat) : Int) ≤ (n : Int) + 1) := by omega
      have HO := Lib.hid (show (N.ops : Int) = (n : Int) + 2 by rw [hpm.ops]; omega)
      have HZ := Lib.hid (hpm.erase hn3)
      have HBD := Lib.hid (show N.ops ≤ 1000000 ∧ (N.blk 0 1).worn ≤ 1000000 from ⟨by rw [hpm.ops]; omega, by rw [hpm.blk.2.2.2]; omega⟩)
      have HN5 := Lib.hid hnd
      have HB5 := Lib.hid hbl
      clear hpm hnd hbl
      cases a1 with
      | false =>
        go_wp2_with fail
        refine (ops_in (show NandIn _ _ _ 1 N from HN5.out)).mono ?_
        rw [HO.out]
        rintro e wq ⟨rfl, rfl⟩
        go_wp2_with fail
        go_ret
        exact ⟨rfl, HB5.out⟩
      | true =>
        go_wp2_with fail
        refine (erase_any (show NandIn _ _ _ 1 N from HN5.out) 0 1 ⟨rfl, rfl, rfl⟩ HBD.out.1 HBD.out.2 (by omega)).mono ?_
        generalize N.eraseE 0 1 = ee
        rintro e w6 ⟨rfl, hn6, hf6⟩
        have HN6 := Lib.hid hn6
        have HB6 := Lib.hid (hf6.below HB5.out HLB.out (Nat.le_refl _))
        clear hn6 hf6 HN5 HB5 
        generalize N.eraseN 0 1 = M0 at *
        go_wp2_with fail
        go_loopw [11] (fun i wx => ∃ (p : Nat) (M : Nd), p ≤ n + 1 ∧ i = .int .i64 p ∧ Pz M p ∧ NandIn wx base g 1 M ∧ Below w.heap.size w wx) (fun i _ => n + 1 - (intOf i).toNat)
        case atStart => exact ⟨0, M0, by omega, rfl, HZ.out, HN6.out, HB6.out⟩
        case round =>
          clear HN6 HB6 HZ HO HBD
          obtain ⟨p, M, hp, rfl, hz, hnd, hbl⟩ := hrel
          by_cases hlp : p < n + 1
          · have hI3 : (p : Int) ≤ (n : Int) := by omega
            obtain ⟨pe, hz2⟩ := hz.prog (by omega) zero32
            have HPE := Lib.hid pe
            have HZ2 := Lib.hid hz2
            have HBD := Lib.hid (show M.ops ≤ 1000000 ∧ M.broken ≤ 1000000 from ⟨by have := hz.ops; omega, by rw [hz.broken]; omega⟩)
            have HN5 := Lib.hid hnd
            have HB5 := Lib.hid hbl
            clear hz hz2 pe hnd hbl
            go_wp2_with (first | (refine want_build 32 _ rfl [(1, .int .i64 _), (2, .int .i64 _)] rfl _ (ad_bp _ _) (by rfl) ?_) | (refine want_build 34 _ rfl [] rfl _ built_pz (by rfl) ?_))
            refine (program_any (show NandIn _ _ _ 1 (M) from HN5.out) ⟨0, 1, p⟩ (ad_wf (by omega) (by omega) (by omega)) zero32 zero32_ok.1 zero32_ok.2 HBD.out.1 HBD.out.2).mono ?_
            rw [HPE.out]
            rintro e w6 ⟨rfl, hn6, hf6⟩
            replace hn6 : NandIn w6 base g (1) (M.programN ⟨0, 1, p⟩ zero32) := by rw [show (M.programN ⟨0, 1, p⟩ zero32) = ((M).programN ⟨0, 1, p⟩ zero32) from rfl]; exact hn6
            have HN6 := Lib.hid hn6
            have HB6 := Lib.hid (hf6.below HB5.out HLB.out (Nat.le_refl _))
            clear hn6 hf6 HN5 HB5 
            go_wp2_with fail
            go_roundw
            case rel => exact ⟨p + 1, _, by omega, by go_num, HZ2.out, HN6.out, HB6.out⟩
            case measure => simp [intOf]; omega
          · obtain rfl : p = n + 1 := by omega
            have hIy : ¬ (((n + 1 : Nat) : Int) ≤ (n : Int)) := by omega
            go_wp2_with fail
            go_ret
            exact ⟨rfl, hbl⟩
end Go.Proofs.YtnfigkoefmldiaaGreat.nandProgram
