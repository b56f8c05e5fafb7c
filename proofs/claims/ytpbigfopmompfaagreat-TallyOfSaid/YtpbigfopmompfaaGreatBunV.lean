import Derived.Test.YtpbigfopmompfaaGreatBunS
import Derived.Test.YtpbigfopmompfaaGreatBunL
import Derived.Test.YtpbigfopmompfaaGreatClean
/- What a claim's proof leans on: TalOf, OfLaw, OfPlain. -/
namespace Go.Proofs.YtpbigfopmompfaaGreat.dev
open Go.RowKit
open Go.Proofs.YtpbigfopmompfaaGreat.nand (Nd NandIn)
open Go.Proofs.YtpbigfopmompfaaGreat.tal (Ty TalAt TalF)
set_option linter.unusedVariables false
def ofDead (N : Nd) (k : Nat) (Y : Ty) : Ty := (List.range k).foldl (fun Y (d : Nat) => if N.dead.getD d false then Y.deadN d else Y) Y
def ofStep (N : Nd) (b : Nat) (Y : Ty) (d : Nat) : Ty :=
 if hasB ((Y.wore b ((N.blk d b).worn : Int)).mask b : Int) d && decide (0 < (N.blk d b).cells.length) then (Y.wore b ((N.blk d b).worn : Int)).clean b false else Y.wore b ((N.blk d b).worn : Int)
def ofDies (N : Nd) (b k : Nat) (Y : Ty) : Ty := (List.range k).foldl (ofStep N b) Y
def ofBlocks (N : Nd) (k : Nat) (Y : Ty) : Ty := (List.range k).foldl (fun Y b => ofDies N b N.D Y) Y
def tallyOf (N : Nd) : Ty := ofBlocks N N.B (ofDead N N.D (Ty.new N.D N.B N.P))
set_option maxRecDepth 10000 in
theorem ofDead_succ (N : Nd) (k : Nat) (Y : Ty) : ofDead N (k + 1) Y = if N.dead.getD k false then (ofDead N k Y).deadN k else ofDead N k Y := by
 unfold ofDead; rw [List.range_succ, List.foldl_append]; rfl
set_option maxRecDepth 10000 in
theorem ofDies_succ (N : Nd) (b k : Nat) (Y : Ty) : ofDies N b (k + 1) Y = ofStep N b (ofDies N b k Y) k := by
 unfold ofDies; rw [List.range_succ, List.foldl_append]; rfl
set_option maxRecDepth 10000 in
theorem ofBlocks_succ (N : Nd) (k : Nat) (Y : Ty) : ofBlocks N (k + 1) Y = ofDies N k N.D (ofBlocks N k Y) := by
 unfold ofBlocks; rw [List.range_succ, List.foldl_append]; rfl
def Dim (Y Z : Ty) : Prop := Y.D = Z.D ∧ Y.B = Z.B ∧ Y.P = Z.P
theorem Dim.refl (Y : Ty) : Dim Y Y := ⟨rfl, rfl, rfl⟩
theorem Dim.trans {X Y Z : Ty} (h : Dim X Y) (h' : Dim Y Z) : Dim X Z := ⟨h.1.trans h'.1, h.2.1.trans h'.2.1, h.2.2.trans h'.2.2⟩
theorem dim_upd (Y : Ty) (b : Int) (f : tal.Sb → tal.Sb) : Dim (Y.upd b f) Y := by unfold Ty.upd; split <;> exact ⟨rfl, rfl, rfl⟩
theorem dim_dead (Y : Ty) (d : Int) : Dim (Y.deadN d) Y := by unfold Ty.deadN; split <;> exact ⟨rfl, rfl, rfl⟩
theorem dim_fold {α : Type} (f : Ty → α → Ty) (hf : ∀ Y a, Dim (f Y a) Y) : ∀ (l : List α) (Y : Ty), Dim (l.foldl f Y) Y
 | [], Y => Dim.refl Y
 | a :: l, Y => (dim_fold f hf l (f Y a)).trans (hf Y a)
theorem dim_ofDead (N : Nd) (k : Nat) (Y : Ty) : Dim (ofDead N k Y) Y := dim_fold _ (fun Y d => by
 show Dim (if _ then _ else _) _
 split
 · exact dim_dead _ _
 · exact Dim.refl _) _ _
theorem dim_step (N : Nd) (b : Nat) (Y : Ty) (d : Nat) : Dim (ofStep N b Y d) Y := by
 unfold ofStep
 split
 · exact (dim_upd _ _ _).trans (dim_upd _ _ _)
 · exact dim_upd _ _ _
theorem dim_ofDies (N : Nd) (b k : Nat) (Y : Ty) : Dim (ofDies N b k Y) Y := dim_fold _ (dim_step N b) _ _
theorem dim_ofBlocks (N : Nd) (k : Nat) (Y : Ty) : Dim (ofBlocks N k Y) Y := dim_fold _ (fun Y b => dim_ofDies N b N.D Y) _ _
theorem geo_nd {w : World} {base g m : Nat} {N : Nd} (h : NandIn w base g m N) : Calls Tryz.prog 83 #[.pointer (some ⟨g, 0, none⟩)] w fun e w' => e = .returned (.agg #[.int .i64 (N.D : Int), .int .i64 (N.B : Int), .int .i64 (N.P : Int)]) ∧ Below w.heap.size w w' := by
 obtain ⟨Y, -, h⟩ := h
 exact nand.geo_any h
theorem dead_nd {w : World} {base g m : Nat} {N : Nd} (h : NandIn w base g m N) (d : Nat) (hd : d < N.D) : Calls Tryz.prog 84 #[.pointer (some ⟨g, 0, none⟩), .int .i64 (d : Int)] w fun e w' => e = .returned (.bool (N.dead.getD d false)) ∧ w = w' := by
 obtain ⟨Y, -, h⟩ := h
 exact nand.dead_any h (d : Int) (by omega) (by omega)
theorem below_keep {w0 w w' : World} {B : Nat} {S : Nat → Prop} (hb : Below B w0 w) (hk : Keep S w w') (hS : ∀ k, S k → B ≤ k) (hB : B ≤ w0.heap.size) : Below B w0 w' :=
 hb.trans ⟨hk.os, hk.tape, hk.output, hk.size, fun k hk' => hk.block k (by have := hb.size; omega) (fun hs => by have := hS k hs; omega)⟩
section
variable {w : World} {base g m : Nat} {N : Nd}
set_option maxRecDepth 100000 in
set_option maxHeartbeats 8000000 in
theorem of_any (h : NandIn w base g m N) : Calls Tryz.prog 49 #[.pointer (some ⟨g, 0, none⟩)] w fun e w' => ∃ tg tlb, e = .returned (.pointer (some ⟨tg, 0, none⟩)) ∧ TalAt w' tg tlb (tallyOf N) ∧ w.heap.size ≤ tg ∧ w.heap.size ≤ tlb ∧ Below w.heap.size w w' := by
 have hnn := tal.nonnil_eql
 have HG := Lib.hid (geo_nd h)
 have HN := Lib.hid h
 have hge := h.ok.geo
 have HNW := Lib.hid (fun W => tal.new_any W N.D N.B N.P hge)
 have HE := Lib.hid (show tallyOf N = ofBlocks N N.B (ofDead N N.D (Ty.new N.D N.B N.P)) from rfl)
 have HD0 := Lib.hid (show (Ty.new N.D N.B N.P).D = N.D ∧ (Ty.new N.D N.B N.P).B = N.B from ⟨rfl, rfl⟩)
 obtain ⟨Y0, hY0⟩ : ∃ Y0, Y0 = Ty.new N.D N.B N.P := ⟨_, rfl⟩
 obtain ⟨D, hD⟩ : ∃ D, D = N.D := ⟨_, rfl⟩
 obtain ⟨B, hB⟩ : ∃ B, B = N.B := ⟨_, rfl⟩
 rw [← hY0] at HNW HE HD0
 rw [← hD] at hge HG HNW HE HD0
 rw [← hB] at hge HG HNW HE HD0
 have HDe := Lib.hid hD
 have HBe := Lib.hid hB
 clear h hY0 hD hB
 go_enter Tryz.func49, Tryz.ntmps49
 go_wp2_with fail
 refine HG.out.mono ?_
 rintro e w1 ⟨rfl, hb1⟩
 go_wp2_with fail
 refine (HNW.out _).mono ?_
 rintro e w2 ⟨tg, tlb, rfl, ht, hg2, hl2, hb2⟩
 have hs1 := hb1.size
 have HX := Lib.hid (show w.heap.size ≤ tg ∧ w.heap.size ≤ tlb by omega)
 have hbel2 := hb1.trans (hb2.mono hs1)
 have c0 := ht.c0
 rw [HD0.out.1] at c0
 have HT := Lib.hid ht
 have HB := Lib.hid hbel2
 clear hb1 hb2 hg2 hl2 ht hs1 hbel2
 go_wp2_with fail
 clear c0
 go_loopw [17] (fun i wr => ∃ k : Nat, k ≤ D ∧ i = .int .i64 k ∧ TalAt wr tg tlb (ofDead N k Y0) ∧ Below w.heap.size w wr) (fun i _ => D - (intOf i).toNat)
 case atStart => exact ⟨0, by omega, rfl, HT.out, HB.out⟩
 case round =>
  obtain ⟨k, hk, rfl, ht, hbel⟩ := hrel
  by_cases hlt : k < D
  · have HS := Lib.hid (ofDead_succ N k Y0)
    have HDd := Lib.hid (dead_nd (HN.out.below hbel) k (by rw [← HDe.out]; exact hlt))
    have HT := Lib.hid ht
    have HB := Lib.hid hbel
    clear ht hbel
    cases hd : N.dead.getD k false with
    | false =>
     rw [hd] at HDd HS
     clear hd
     go_wp2_with fail
     refine HDd.out.mono ?_
     rintro e w3 ⟨rfl, rfl⟩
     go_wp2_with fail
     go_roundw
     case rel => exact ⟨k + 1, by omega, by go_num, by rw [HS.out]; exact HT.out, HB.out⟩
     case measure => simp [intOf]; omega
    | true =>
     rw [hd] at HDd HS
     clear hd
     go_wp2_with fail
     refine HDd.out.mono ?_
     rintro e w3 ⟨rfl, rfl⟩
     have HC := Lib.hid (tal.dead_any HT.out (k : Int))
     go_wp2_with fail
     refine HC.out.mono ?_
     rintro e w4 ⟨rfl, ht4, hk4⟩
     have HT4 := Lib.hid ht4
     have HB4 := Lib.hid (below_keep HB.out hk4 (fun j hj => by rcases hj with rfl | rfl; exact HX.out.1; exact HX.out.2) (Nat.le_refl _))
     clear ht4 hk4
     go_wp2_with fail
     go_roundw
     case rel => exact ⟨k + 1, by omega, by go_num, by rw [HS.out]; exact HT4.out, HB4.out⟩
     case measure => simp [intOf]; omega
  · obtain rfl : k = D := by omega
    have HDm := Lib.hid (show (ofDead N k Y0).D = k ∧ (ofDead N k Y0).B = B from ⟨(dim_ofDead N k Y0).1.trans HD0.out.1, (dim_ofDead N k Y0).2.1.trans HD0.out.2⟩)
    obtain ⟨Y1, hY1⟩ : ∃ Y1, Y1 = ofDead N k Y0 := ⟨_, rfl⟩
    rw [← hY1] at ht HDm HE
    have c3 := ht.c3
    rw [HDm.out.2] at c3
    have HT := Lib.hid ht
    have HB := Lib.hid hbel
    clear ht hbel hY1 hlt hk
    go_wp2_with fail
    clear c3
    go_loopw [32] (fun i wr => ∃ b : Nat, b ≤ B ∧ i = .int .i64 b ∧ TalAt wr tg tlb (ofBlocks N b Y1) ∧ Below w.heap.size w wr) (fun i _ => B - (intOf i).toNat)
    case atStart => exact ⟨0, by omega, rfl, HT.out, HB.out⟩
    case round =>
     obtain ⟨b, hb, rfl, ht, hbel⟩ := hrel
     by_cases hlt : b < B
     · have HS := Lib.hid (ofBlocks_succ N b Y1)
       have HDm2 := Lib.hid ((dim_ofBlocks N b Y1).1.trans HDm.out.1)
       obtain ⟨Y2, hY2⟩ : ∃ Y2, Y2 = ofBlocks N b Y1 := ⟨_, rfl⟩
       rw [← hY2] at ht HS HDm2
       have c0 := ht.c0
       rw [HDm2.out] at c0
       have HT := Lib.hid ht
       have HB := Lib.hid hbel
       clear ht hbel hY2
       go_wp2_with fail
       clear c0
       go_loopw [40] (fun i wr => ∃ d : Nat, d ≤ k ∧ i = .int .i64 d ∧ TalAt wr tg tlb (ofDies N b d Y2) ∧ Below w.heap.size w wr) (fun i _ => k - (intOf i).toNat)
       case atStart => exact ⟨0, by omega, rfl, HT.out, HB.out⟩
       case round =>
        obtain ⟨d, hd, rfl, ht, hbel⟩ := hrel
        by_cases hdt : d < k
        · have HS2 := Lib.hid (ofDies_succ N b d Y2)
          obtain ⟨Y3, hY3⟩ : ∃ Y3, Y3 = ofDies N b d Y2 := ⟨_, rfl⟩
          rw [← hY3] at ht HS2
          have HW := Lib.hid (nand.worn_in (HN.out.below hbel) d b (by rw [← HDe.out]; exact hdt) (by rw [← HBe.out]; exact hlt))
          obtain ⟨wn, hwn⟩ : ∃ wn, wn = (N.blk d b).worn := ⟨_, rfl⟩
          unfold ofStep at HS2
          rw [← hwn] at HW HS2
          have HT := Lib.hid ht
          have HB := Lib.hid hbel
          clear ht hbel hY3 hwn
          go_wp2_with fail
          refine HW.out.mono ?_
          rintro e w3 ⟨rfl, hb3⟩
          have HC := Lib.hid (tal.wore_any (HT.out.below hb3) (b : Int) (wn : Int))
          have HB3 := Lib.hid (HB.out.trans (hb3.mono HB.out.size))
          clear hb3
          go_wp2_with fail
          refine HC.out.mono ?_
          rintro e w4 ⟨rfl, ht4, hk4⟩
          have HB4 := Lib.hid (below_keep HB3.out hk4 (fun j hj => by rcases hj with rfl | rfl; exact HX.out.1; exact HX.out.2) (Nat.le_refl _))
          have HT4 := Lib.hid ht4
          obtain ⟨Y4, hY4⟩ : ∃ Y4, Y4 = Y3.wore (b : Int) (wn : Int) := ⟨_, rfl⟩
          rw [← hY4] at HT4 HS2
          have HM := Lib.hid (tal.mask_any HT4.out (b : Int))
          obtain ⟨mk, hmk⟩ : ∃ mk, mk = Y4.mask (b : Int) := ⟨_, rfl⟩
          rw [← hmk] at HM HS2
          obtain ⟨cn, hcn⟩ : ∃ cn, cn = (N.blk d b).cells.length := ⟨_, rfl⟩
          have HNx := Lib.hid (fun W (hW : Below w.heap.size w W) => nand.next_in (HN.out.below hW) d b (by rw [← HDe.out]; exact hdt) (by rw [← HBe.out]; exact hlt))
          rw [← hcn] at HNx HS2
          clear ht4 hk4 hY4 hmk hcn
          go_wp2_with fail
          refine HM.out.mono ?_
          rintro e w5 ⟨rfl, n5, rfl⟩
          have HT5 := Lib.hid (tal.drewN_at HT4.out n5)
          have HB5 := Lib.hid (below_drewN HB4.out n5)
          cases hh : hasB (mk : Int) (d : Int) with
          | false =>
           have HH := Lib.hid (fun W => has_any (mk : Int) (d : Int) W)
           rw [hh] at HH HS2
           clear hh
           go_wp2_with fail
           refine (HH.out _).mono ?_
           rintro e w6 ⟨rfl, rfl⟩
           go_wp2_with fail
           go_roundw
           case rel => exact ⟨d + 1, by omega, by go_num, by rw [HS2.out]; exact HT5.out, HB5.out⟩
           case measure => simp [intOf]; omega
          | true =>
           have HH := Lib.hid (fun W => has_any (mk : Int) (d : Int) W)
           rw [hh] at HH HS2
           clear hh
           go_wp2_with fail
           refine (HH.out _).mono ?_
           rintro e w6 ⟨rfl, rfl⟩
           have HN6 := Lib.hid (HNx.out _ HB5.out)
           go_wp2_with fail
           refine HN6.out.mono ?_
           rintro e w7 ⟨rfl, hb7⟩
           have HT7 := Lib.hid (HT5.out.below hb7)
           have HB7 := Lib.hid (HB5.out.trans (hb7.mono HB5.out.size))
           clear hb7
           by_cases hc : 0 < cn
           · rw [decide_eq_true hc] at HS2
             have HC7 := Lib.hid (tal.clean_any HT7.out (b : Int) false)
             have hcI : (0 : Int) < (cn : Int) := by omega
             go_wp2_with fail
             refine HC7.out.mono ?_
             rintro e w8 ⟨rfl, ht8, hk8⟩
             have HT8 := Lib.hid ht8
             have HB8 := Lib.hid (below_keep HB7.out hk8 (fun j hj => by rcases hj with rfl | rfl; exact HX.out.1; exact HX.out.2) (Nat.le_refl _))
             clear ht8 hk8
             go_wp2_with fail
             go_roundw
             case rel => exact ⟨d + 1, by omega, by go_num, by rw [HS2.out]; exact HT8.out, HB8.out⟩
             case measure => simp [intOf]; omega
           · rw [decide_eq_false hc] at HS2
             obtain rfl : cn = 0 := by omega
             go_wp2_with fail
             go_roundw
             case rel => exact ⟨d + 1, by omega, by go_num, by rw [HS2.out]; exact HT7.out, HB7.out⟩
             case measure => simp [intOf]; omega
        · obtain rfl : d = k := by omega
          have HT := Lib.hid ht
          have HB := Lib.hid hbel
          clear ht hbel
          go_wp2_with fail
          go_roundw
          case rel => exact ⟨b + 1, by omega, by go_num, by rw [HS.out, ← HDe.out]; exact HT.out, HB.out⟩
          case measure => simp [intOf]; omega
     · obtain rfl : b = B := by omega
       have HT := Lib.hid ht
       have HB := Lib.hid hbel
       clear ht hbel
       go_wp2_with fail
       go_ret
       exact ⟨_, _, rfl, by rw [HE.out]; exact HT.out, HX.out.1, HX.out.2, HB.out⟩
end
end Go.Proofs.YtpbigfopmompfaaGreat.dev
namespace Go.Proofs.YtpbigfopmompfaaGreat.dev
open Go.RowKit
open Go.Proofs.YtpbigfopmompfaaGreat.nand (Nd)
open Go.Proofs.YtpbigfopmompfaaGreat.tal (Ty Sb orN andN)
set_option linter.unusedVariables false
def sbStep (N : Nd) (b mk : Nat) (s : Sb) (d : Nat) : Sb := ⟨max s.wear ((N.blk d b).worn : Int), s.bad, s.used || (hasB (mk : Int) (d : Int) && decide (0 < (N.blk d b).cells.length)), s.held⟩
def sbTo (N : Nd) (b mk : Nat) (s : Sb) (k : Nat) : Sb := (List.range k).foldl (sbStep N b mk) s
theorem sbTo_succ (N : Nd) (b mk : Nat) (s : Sb) (k : Nat) : sbTo N b mk s (k + 1) = sbStep N b mk (sbTo N b mk s k) k := by
 unfold sbTo; rw [List.range_succ, List.foldl_append, List.foldl_cons, List.foldl_nil]
theorem sbTo_bad (N : Nd) (b mk : Nat) (s : Sb) : ∀ k, (sbTo N b mk s k).bad = s.bad ∧ (sbTo N b mk s k).held = s.held
 | 0 => ⟨rfl, rfl⟩
 | k + 1 => by rw [sbTo_succ]; exact sbTo_bad N b mk s k
def putS (Y : Ty) (b : Nat) (s : Sb) : Ty := { Y with sb := Y.sb.set b s }
theorem mask_put {Y : Ty} {b : Nat} {s s' : Sb} (h : Y.sb[b]? = some s) (hb : s'.bad = s.bad) : (putS Y b s').mask (b : Int) = Y.mask (b : Int) := by
 have hl := (List.getElem?_eq_some_iff.1 h).1
 have h2 : (putS Y b s').sb[b]? = some s' := by simp [putS, hl]
 unfold Ty.mask
 rw [tal.get_in h, tal.get_in h2]
 show andN (putS Y b s').alive s'.bad = _
 rw [hb]; rfl
theorem ofStep_put {N : Nd} {b : Nat} {Y : Ty} {s : Sb} (h : Y.sb[b]? = some s) (d : Nat) : ofStep N b Y d = putS Y b (sbStep N b (Y.mask (b : Int)) s d) := by
 have hl := (List.getElem?_eq_some_iff.1 h).1
 have hw : Y.wore (b : Int) ((N.blk d b).worn : Int) = putS Y b { s with wear := max s.wear ((N.blk d b).worn : Int) } := by unfold Ty.wore; rw [tal.upd_in h]; rfl
 have hm : (putS Y b { s with wear := max s.wear ((N.blk d b).worn : Int) }).mask (b : Int) = Y.mask (b : Int) := mask_put h rfl
 unfold ofStep
 rw [hw, hm]
 cases hc : hasB (Y.mask (b : Int) : Int) (d : Int) && decide (0 < (N.blk d b).cells.length) with
 | false =>
  rw [if_neg (by simp)]
  unfold sbStep
  rw [hc, Bool.or_false]
 | true =>
  have h2 : (putS Y b { s with wear := max s.wear ((N.blk d b).worn : Int) }).sb[b]? = some { s with wear := max s.wear ((N.blk d b).worn : Int) } := by simp [putS, hl]
  rw [if_pos rfl]
  unfold Ty.clean
  rw [tal.upd_in h2]
  unfold sbStep putS
  rw [hc, Bool.or_true]
  simp
theorem ofDies_put {N : Nd} {b : Nat} {Y : Ty} {s : Sb} (h : Y.sb[b]? = some s) : ∀ k, ofDies N b k Y = putS Y b (sbTo N b (Y.mask (b : Int)) s k)
 | 0 => by
  have hl := (List.getElem?_eq_some_iff.1 h)
  show Y = putS Y b s
  unfold putS
  rw [← hl.2, List.set_getElem_self]
 | k + 1 => by
  have hl := (List.getElem?_eq_some_iff.1 h).1
  have h2 : (putS Y b (sbTo N b (Y.mask (b : Int)) s k)).sb[b]? = some (sbTo N b (Y.mask (b : Int)) s k) := by simp [putS, hl]
  rw [ofDies_succ, ofDies_put h k, ofStep_put h2, mask_put h (sbTo_bad _ _ _ _ k).1, sbTo_succ]
  unfold putS
  simp
theorem ofDead_dead (N : Nd) (Y : Ty) : ∀ k, k ≤ Y.D → (ofDead N k Y).dead = (List.range k).foldl (fun m d => if N.dead.getD d false then m ||| 2 ^ d else m) Y.dead ∧ (ofDead N k Y).sb = Y.sb
 | 0, _ => ⟨rfl, rfl⟩
 | k + 1, h => by
  obtain ⟨h1, h2⟩ := ofDead_dead N Y k (by omega)
  rw [ofDead_succ, List.range_succ, List.foldl_append, List.foldl_cons, List.foldl_nil]
  have hd : (ofDead N k Y).dieB (k : Int) = true := by
   unfold Ty.dieB
   rw [(dim_ofDead N k Y).1]
   simp; omega
  split
  · unfold Ty.deadN
    rw [hd, if_pos rfl]
    refine ⟨?_, h2⟩
    show orN _ _ = _
    rw [h1]; rfl
  · exact ⟨h1, h2⟩
theorem mask_same {Y Z : Ty} (hD : Y.D = Z.D) (hd : Y.dead = Z.dead) {b : Nat} {s : Sb} (h : Y.sb[b]? = some s) : Y.mask (b : Int) = andN Z.alive s.bad := by
 unfold Ty.mask
 rw [tal.get_in h]
 show andN Y.alive s.bad = _
 unfold Ty.alive
 rw [hD, hd]
theorem ofBlocks_sb (N : Nd) (Y : Ty) (hY : ∀ s ∈ Y.sb, s = Sb.none) : ∀ k, k ≤ Y.sb.length → (ofBlocks N k Y).dead = Y.dead ∧ (ofBlocks N k Y).sb.length = Y.sb.length ∧ ∀ b, b < Y.sb.length → (ofBlocks N k Y).sb[b]? = some (if b < k then sbTo N b (andN Y.alive 0) Sb.none N.D else Sb.none)
 | 0, _ => ⟨rfl, rfl, fun b hb => by
  rw [if_neg (by omega)]
  show Y.sb[b]? = _
  rw [List.getElem?_eq_getElem hb, hY _ (List.getElem_mem hb)]⟩
 | k + 1, h => by
  obtain ⟨h1, h2, h3⟩ := ofBlocks_sb N Y hY k (by omega)
  have hk := h3 k (by omega)
  rw [if_neg (by omega)] at hk
  rw [ofBlocks_succ, ofDies_put hk]
  refine ⟨h1, by simp [putS, h2], fun b hb => ?_⟩
  rw [mask_same (dim_ofBlocks N k Y).1 h1 hk]
  show ((ofBlocks N k Y).sb.set k _)[b]? = _
  rw [List.getElem?_set]
  by_cases e : k = b
  · subst e
    rw [if_pos rfl, if_pos (by omega), if_pos (by omega)]; rfl
  · rw [if_neg e, h3 b hb]
    by_cases e2 : b < k
    · rw [if_pos e2, if_pos (by omega)]
    · rw [if_neg e2, if_neg (by omega)]
def deadM (l : List Bool) (k : Nat) : Nat := (List.range k).foldl (fun m d => if l.getD d false then m ||| 2 ^ d else m) 0
theorem andN_zero : ∀ a : Nat, a < 64 → andN a 0 = a := by decide +kernel
theorem deadM_lt (l : List Bool) : ∀ k, k ≤ 6 → deadM l k < 64
 | 0, _ => by show (0 : Nat) < 64; decide
 | k + 1, h => by
  have := deadM_lt l k (by omega)
  unfold deadM at this ⊢
  rw [List.range_succ, List.foldl_append, List.foldl_cons, List.foldl_nil]
  split
  · exact (tal.with_or _ this k (by omega)).2
  · exact this
def aliveM (N : Nd) : Nat := andN (2 ^ N.D - 1) (deadM N.dead N.D)
theorem aliveM_lt {N : Nd} (h : N.D ≤ 6) : aliveM N < 64 := tal.andN_lt _ (tal.all_dies _ h).2 _ (deadM_lt _ _ h)
theorem tallyOf_law (N : Nd) (hD : N.D ≤ 6) : Dim (tallyOf N) (Ty.new N.D N.B N.P) ∧ (tallyOf N).dead = deadM N.dead N.D ∧ (tallyOf N).alive = aliveM N ∧ (tallyOf N).sb.length = N.B ∧ ∀ b, b < N.B → (tallyOf N).sb[b]? = some (sbTo N b (aliveM N) Sb.none N.D) := by
 have hn : (Ty.new N.D N.B N.P).sb = List.replicate N.B Sb.none := rfl
 obtain ⟨h1, h2⟩ := ofDead_dead N (Ty.new N.D N.B N.P) N.D (Nat.le_refl _)
 obtain ⟨h3, h4, h5⟩ := ofBlocks_sb N (ofDead N N.D (Ty.new N.D N.B N.P)) (fun s hs => by rw [h2, hn] at hs; exact List.eq_of_mem_replicate hs) N.B (by rw [h2, hn]; simp)
 rw [h2, hn, List.length_replicate] at h4 h5
 have hdim : Dim (tallyOf N) (Ty.new N.D N.B N.P) := (dim_ofBlocks _ _ _).trans (dim_ofDead _ _ _)
 have hd : (tallyOf N).dead = deadM N.dead N.D := h3.trans h1
 have ha : (ofDead N N.D (Ty.new N.D N.B N.P)).alive = aliveM N := by
  unfold Ty.alive
  rw [(dim_ofDead N N.D _).1, h1]; rfl
 refine ⟨hdim, hd, ?_, h4, fun b hb => ?_⟩
 · unfold Ty.alive
   rw [hdim.1, hd]; rfl
 · have := h5 b hb
   rw [if_pos hb, ha, andN_zero _ (aliveM_lt hD)] at this
   exact this
theorem sbTo_wear (N : Nd) (b mk : Nat) : ∀ k, (sbTo N b mk Sb.none k).wear = (((List.range k).foldl (fun m d => max m (N.blk d b).worn) 0 : Nat) : Int)
 | 0 => rfl
 | k + 1 => by
  rw [sbTo_succ, List.range_succ, List.foldl_append, List.foldl_cons, List.foldl_nil]
  show max (sbTo N b mk Sb.none k).wear _ = _
  rw [sbTo_wear N b mk k]
  omega
theorem sbTo_used (N : Nd) (b mk : Nat) : ∀ k, (sbTo N b mk Sb.none k).used = true ↔ ∃ d, d < k ∧ hasB (mk : Int) (d : Int) = true ∧ 0 < (N.blk d b).cells.length
 | 0 => ⟨fun h => (by cases h), fun ⟨d, h, _⟩ => (by omega)⟩
 | k + 1 => by
  rw [sbTo_succ]
  show ((sbTo N b mk Sb.none k).used || _) = true ↔ _
  rw [Bool.or_eq_true, sbTo_used N b mk k, Bool.and_eq_true, decide_eq_true_eq]
  constructor
  · rintro (⟨d, h1, h2⟩ | h)
    · exact ⟨d, by omega, h2⟩
    · exact ⟨k, by omega, h⟩
  · rintro ⟨d, h1, h2⟩
    by_cases e : d = k
    · subst e; exact .inr h2
    · exact .inl ⟨d, by omega, h2⟩
end Go.Proofs.YtpbigfopmompfaaGreat.dev
namespace Go.Proofs.YtpbigfopmompfaaGreat.tallyOf
open Go.RowKit
open Go.Proofs.YtpbigfopmompfaaGreat.nand
open Go.Proofs.YtpbigfopmompfaaGreat.dev
open Go.Proofs.YtpbigfopmompfaaGreat.tal (Ty Sb andN)
set_option linter.unusedVariables false
def bump (c : Nat → Nat → Nat) (d b : Nat) : Nat → Nat → Nat := fun i j => if i = d ∧ j = b then c i j + 1 else c i j
def flN (D B P : Nat) (c : Nat → Nat → Nat) (k : Nat) : Nd := { Nd.new D B P with blk := fun d b => ⟨[], c d b, false, false⟩, ops := k }
theorem fl_refuses {D B P : Nat} {c : Nat → Nat → Nat} {k d b : Nat} (hP : 0 < P) (hd : d < D) (hb : b < B) : (flN D B P c k).refuses (key (d : Int) (b : Int)) = 0 := by
 have h1 : (flN D B P c k).inG (key (d : Int) (b : Int)) = true := by
  simp [Nd.inG, flN, Nd.new, key]; omega
 have h2 : (flN D B P c k).dead.getD (key (d : Int) (b : Int)).d.toNat false = false := by
  simp [flN, Nd.new, key, List.getD, hd]
 unfold Nd.refuses
 rw [h1, h2]
 rfl
theorem fl_erase {D B P : Nat} {c : Nat → Nat → Nat} {k d b : Nat} (hP : 0 < P) (hd : d < D) (hb : b < B) : (flN D B P c k).eraseE d b = 0 ∧ (flN D B P c k).eraseN d b = flN D B P (bump c d b) (k + 1) := by
 have hr := fl_refuses (c := c) (k := k) hP hd hb
 constructor
 · unfold Nd.eraseE
   rw [hr]; rfl
 · unfold Nd.eraseN
   rw [hr, if_neg (by simp), show (flN D B P c k).cutB = false from rfl, if_neg (by simp), show ((flN D B P c k).at (key d b)).fails = false from rfl, if_neg (by simp)]
   unfold flN Nd.put Nd.upd Nd.cutN bump
   simp [Nd.new, Nd.at, key]
   funext i j
   by_cases e : i = d ∧ j = b
   · rw [if_pos e, if_pos e, e.1, e.2]
   · rw [if_neg e, if_neg e]
def mx (c : Nat → Nat → Nat) (b k : Nat) : Nat := (List.range k).foldl (fun m d => max m (c d b)) 0
theorem mx_succ (c : Nat → Nat → Nat) (b k : Nat) : mx c b (k + 1) = max (mx c b k) (c k b) := by
 unfold mx; rw [List.range_succ, List.foldl_append, List.foldl_cons, List.foldl_nil]
theorem mx_bump (c : Nat → Nat → Nat) (d b j : Nat) : ∀ k, d < k → mx (bump c d b) j k = if j = b then max (mx c j k) (c d b + 1) else mx c j k
 | 0, h => by omega
 | k + 1, h => by
  rw [mx_succ, mx_succ]
  by_cases e : d < k
  · rw [mx_bump c d b j k e]
    unfold bump
    rw [if_neg (show ¬ (k = d ∧ j = b) by omega)]
    split <;> omega
  · obtain rfl : d = k := by omega
    have : ∀ n, n ≤ d → mx (bump c d b) j n = mx c j n := by
     intro n
     induction n with
     | zero => intro _; rfl
     | succ n ih =>
      intro hn
      rw [mx_succ, mx_succ, ih (by omega)]
      unfold bump
      rw [if_neg (by omega)]
    rw [this d (Nat.le_refl _)]
    unfold bump
    by_cases e2 : j = b
    · subst e2
      rw [if_pos ⟨rfl, rfl⟩, if_pos rfl]; omega
    · rw [if_neg (by omega), if_neg e2]
theorem mx_more (c : Nat → Nat → Nat) (b : Nat) {D : Nat} (h : ∀ d, D ≤ d → c d b = 0) : ∀ k, D ≤ k → mx c b k = mx c b D
 | 0, hk => by
  obtain rfl : D = 0 := by omega
  rfl
 | k + 1, hk => by
  by_cases e : D ≤ k
  · rw [mx_succ, mx_more c b h k e, h k e]; omega
  · obtain rfl : D = k + 1 := by omega
    rfl
def pr (D B : Nat) (e : Int) : Nat × Nat := ((e % (D : Int)).toNat, (e.tdiv 7 % (B : Int)).toNat)
def cntL (D B : Nat) (l : List Int) : Nat → Nat → Nat := l.foldl (fun c e => bump c (pr D B e).1 (pr D B e).2) fun _ _ => 0
theorem cntL_snoc (D B : Nat) (l : List Int) (e : Int) : cntL D B (l ++ [e]) = bump (cntL D B l) (pr D B e).1 (pr D B e).2 := by
 unfold cntL; rw [List.foldl_append]; rfl
theorem pr_lt {D B : Nat} (hD : 0 < D) (hB : 0 < B) (e : Int) : (pr D B e).1 < D ∧ (pr D B e).2 < B := by
 have h1 := Int.emod_nonneg e (show (D : Int) ≠ 0 by omega)
 have h2 := Int.emod_lt_of_pos e (show (0 : Int) < D by omega)
 have h3 := Int.emod_nonneg (e.tdiv 7) (show (B : Int) ≠ 0 by omega)
 have h4 := Int.emod_lt_of_pos (e.tdiv 7) (show (0 : Int) < B by omega)
 unfold pr
 constructor <;> simp only <;> omega
theorem cntL_out {D B : Nat} (hD : 0 < D) (hB : 0 < B) {d b : Nat} (h : D ≤ d) : ∀ (l : List Int) (c : Nat → Nat → Nat), c d b = 0 → l.foldl (fun c e => bump c (pr D B e).1 (pr D B e).2) c d b = 0
 | [], c, h0 => h0
 | e :: l, c, h0 => by
  rw [List.foldl_cons]
  refine cntL_out hD hB h l _ ?_
  unfold bump
  rw [if_neg (by have := (pr_lt hD hB e).1; omega)]
  exact h0
theorem cntL_le (D B : Nat) (d b : Nat) : ∀ (l : List Int) (c : Nat → Nat → Nat), l.foldl (fun c e => bump c (pr D B e).1 (pr D B e).2) c d b ≤ c d b + l.length
 | [], c => Nat.le_refl _
 | e :: l, c => by
  rw [List.foldl_cons, List.length_cons]
  refine Nat.le_trans (cntL_le D B d b l _) ?_
  unfold bump
  split <;> omega
theorem mod_twice {x D : Int} (hD : 0 < D) : (x.tmod D + D).tmod D = x % D := by
 have h1 := Int.emod_nonneg x (show D ≠ 0 by omega)
 have h2 := Int.emod_lt_of_pos x hD
 rcases Int.lt_or_le x 0 with h | h
 · have h3 : x.tmod D = -((-x) % D) := by
    rw [show x = -(-x) by omega, Int.neg_tmod, Int.tmod_eq_emod_of_nonneg (show 0 ≤ -x by omega)]
    simp
   have h4 := Int.emod_nonneg (-x) (show D ≠ 0 by omega)
   have h5 := Int.emod_lt_of_pos (-x) hD
   rw [h3, Int.tmod_eq_emod_of_nonneg (by omega)]
   have e1 : (-(-x % D) + D) % D = (-(-x)) % D := by
    rw [Int.add_emod_right]
    have e2 := Int.emod_add_mul_ediv (-x) D
    rw [show -(-x % D) = -(-x) + D * (-x / D) by omega, Int.add_mul_emod_self_left]
   rw [e1]; simp
 · rw [Int.tmod_eq_emod_of_nonneg h, Int.tmod_eq_emod_of_nonneg (by omega), Int.add_emod_right, Int.emod_emod_of_dvd _ (Int.dvd_refl D)]
end Go.Proofs.YtpbigfopmompfaaGreat.tallyOf
