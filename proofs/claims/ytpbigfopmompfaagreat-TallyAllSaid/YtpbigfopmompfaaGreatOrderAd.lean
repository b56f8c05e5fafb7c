import Derived.Test.YtpbigfopmompfaaGreatBunH
import Derived.Test.YtpbigfopmompfaaGreatSortAd
import Derived.Test.YtpbigfopmompfaaGreatBunN
/- How places stand. -/
namespace Go.Proofs.YtpbigfopmompfaaGreat
open Go.RowKit
set_option linter.unusedVariables false
def cmpI (x y : Int) : Int := if x < y then -1 else if y < x then 1 else 0
theorem cmp_any (x y : Int) (w : World) : Calls Tryz.prog 56 #[.int .i64 x, .int .i64 y] w fun e w' => e = .returned (.int .i64 (cmpI x y)) ∧ w = w' := by
 unfold cmpI
 by_cases h1 : x < y
 · rw [if_pos h1]
   go_enter Tryz.func56, Tryz.ntmps56
   go_wp2
   go_ret
   exact ⟨rfl, rfl⟩
 · rw [if_neg h1]
   by_cases h2 : y < x
   · rw [if_pos h2]
     go_enter Tryz.func56, Tryz.ntmps56
     go_wp2
     go_ret
     exact ⟨rfl, rfl⟩
   · rw [if_neg h2]
     go_enter Tryz.func56, Tryz.ntmps56
     go_wp2
     go_ret
     exact ⟨rfl, rfl⟩
def orI : List Int → Int
 | [] => 0
 | x :: r => if x = 0 then orI r else x
def ordA (a b : Ad) : Int := orI [cmpI a.d b.d, cmpI a.b b.b, cmpI a.p b.p]
set_option maxRecDepth 100000 in
theorem or_any (g : Nat) (x y z : Int) (w : World) (h : w.heap[g]? = some (.cells #[.int .i64 x, .int .i64 y, .int .i64 z] 3 (0, 0))) :
 Calls Tryz.prog 61 #[.slice (some ⟨g, 0, none⟩) 3 3] w fun e w' => e = .returned (.int .i64 (orI [x, y, z])) ∧ w = w' := by
 have c0 : w.cell? ⟨g, 0, none⟩ = some (.int .i64 x) := by rw [zaf h]; rfl
 have c1 : w.cell? ⟨g, 1, none⟩ = some (.int .i64 y) := by rw [zaf h]; rfl
 have c2 : w.cell? ⟨g, 2, none⟩ = some (.int .i64 z) := by rw [zaf h]; rfl
 unfold orI orI orI orI
 clear h
 go_enter Tryz.func61, Tryz.ntmps61
 go_wp2_with fail
 go_loop [8] (fun i => ∃ k : Nat, k ≤ 3 ∧ i = .int .i64 k ∧ (0 < k → x = 0) ∧ (1 < k → y = 0) ∧ (2 < k → z = 0)) (fun i => 3 - (intOf i).toNat)
 case atStart => exact ⟨0, by omega, rfl, by omega, by omega, by omega⟩
 case round =>
  obtain ⟨k, hk, rfl, h0, h1, h2⟩ := hrel; rcases (show k = 0 ∨ k = 1 ∨ k = 2 ∨ k = 3 by omega) with rfl | rfl | rfl | rfl
  · by_cases hx : x = 0
    · subst hx
      go_wp2
      go_round
      case rel => exact ⟨1, by omega, rfl, by simp, by omega, by omega⟩
      case measure => simp [intOf]
    · clear h0 h1 h2
      go_wp2
      go_ret
      exact ⟨by first | rfl | (rw [if_neg hx]; rfl) | (simp; rfl), rfl⟩
  · obtain rfl := h0 (by omega)
    by_cases hx : y = 0
    · subst hx
      go_wp2
      go_round
      case rel => exact ⟨2, by omega, rfl, by simp, by simp, by omega⟩
      case measure => simp [intOf]
    · clear h0 h1 h2
      go_wp2
      go_ret
      exact ⟨by first | rfl | (rw [if_neg hx]; rfl) | (simp; rfl), rfl⟩
  · obtain rfl := h0 (by omega)
    obtain rfl := h1 (by omega); by_cases hx : z = 0
    · subst hx
      go_wp2
      go_round
      case rel => exact ⟨3, by omega, rfl, by simp, by simp, by simp⟩
      case measure => simp [intOf]
    · clear h0 h1 h2
      go_wp2
      go_ret
      exact ⟨by first | rfl | (rw [if_neg hx]; rfl) | (simp; rfl), rfl⟩
  · obtain rfl := h0 (by omega)
    obtain rfl := h1 (by omega); obtain rfl := h2 (by omega); clear h0 h1 h2; go_wp2
    go_ret
    exact ⟨by first | rfl | (simp; rfl), rfl⟩
open Go.Shelf Go.Lib Go.Sort
set_option maxRecDepth 100000 in
set_option maxHeartbeats 4000000 in
theorem order_any (x y : Ad) (w : World) : Calls Tryz.prog 125 #[.agg x.v.toArray, .agg y.v.toArray] w fun e w' => e = .returned (.int .i64 (ordA x y)) ∧ ∃ q os', w' = grow (w.drewN q) os' := by
 have ha := zbi w (.cells x.v.toArray 85) (.cells y.v.toArray 85)
 have hb := zak (w.alloc (.cells x.v.toArray 85)) (.cells y.v.toArray 85) (w.heap.size + 1) (by simp)
 have hbel := below2 w (.cells x.v.toArray 85) (.cells y.v.toArray 85)
 have hw : ∃ os, (w.alloc (.cells x.v.toArray 85)).alloc (.cells y.v.toArray 85) = grow w os := ⟨_, by rw [alloc_eq_grow, alloc_eq_grow, grow_grow]⟩
 obtain ⟨os, hos⟩ := hw
 have HOS := Lib.hid hos
 clear hos
 go_enter Tryz.func125, Tryz.ntmps125
 go_upto_region 1 with fail
 generalize hw1 : (w.alloc (.cells x.v.toArray 85)).alloc (.cells y.v.toArray 85) = w1 at *
 clear hw1
 refine zan (by kernel_rfl) (by kernel_rfl) (X := Unit) (fun _ => [(some 5, .pointer (some ⟨w.heap.size, 0, none⟩)), (some 6, .int .i64 x.d), (some 7, .pointer (some ⟨(w.heap.size + 1), 0, none⟩)), (some 8, .int .i64 y.d), (some 9, .int .i64 (cmpI x.d y.d)), (some 10, .pointer (some ⟨w.heap.size, 1, none⟩)), (some 11, .int .i64 x.b), (some 12, .pointer (some ⟨(w.heap.size + 1), 1, none⟩)), (some 13, .int .i64 y.b), (some 14, .int .i64 (cmpI x.b y.b)), (some 15, .pointer (some ⟨w.heap.size, 2, none⟩)), (some 16, .int .i64 x.p), (some 17, .pointer (some ⟨(w.heap.size + 1), 2, none⟩)), (some 18, .int .i64 y.p), (some 19, .int .i64 (cmpI x.p y.p)), (some 20, .slice (some ⟨w1.heap.size, 0, none⟩) 3 3), (some 21, .int .i64 (ordA x y)), (some 4, .int .i64 (ordA x y))])
  (fun _ L w' => w'.heap[w.heap.size]? = some (.cells x.v.toArray 85 (0, 0)) ∧ w'.heap[(w.heap.size + 1)]? = some (.cells y.v.toArray 85 (0, 0)) ∧ w' = (bif L 15 then w1.drew.alloc (.cells #[.int .i64 (cmpI x.d y.d), .int .i64 (cmpI x.b y.b), .int .i64 (cmpI x.p y.p)] 3) else w1.drew) ∧ Below w.heap.size w w') (fun _ => rfl) (by kernel_rfl) ⟨(), fun L hL => ⟨ha, hb, by simp only [hL, cond_false], hbel.drew⟩⟩ ?_ ?_
 · refine ⟨?_, ?_, ?_, ?_, ?_, ?_, ?_, ?_, ?_, ?_, ?_, ?_, ?_, ?_, ?_, ?_, ?_, ?_, trivial⟩
   · intro _ L w' hL hpre hJ a ha
     obtain ⟨ja, jc, jw, jb⟩ := hJ; simp [Region.binds] at hpre; refine .inl ⟨zaa rfl, ?_⟩; have e2 : a.eval (.tmp 2) = .pointer (some ⟨w.heap.size, 0, none⟩) := by rw [ha, zac rfl]; rfl
     clear ha; have ja' := Lib.hid ja; have jc' := Lib.hid jc; have jw' := Lib.hid jw; have jb' := Lib.hid jb; clear ja jc jw jb; refine zab fun K HK => ?_; unfold Oper.wp; simp only [execOp, e2]; go_simp; exact HK.out _ _ ⟨(), _, rfl, rfl, ja'.out, jc'.out, jw'.out, jb'.out⟩
   · intro _ L w' hL hpre hJ a ha
     obtain ⟨ja, jc, jw, jb⟩ := hJ; simp [Region.binds] at hpre; refine .inl ⟨zaa rfl, ?_⟩; have e5 : a.eval (.tmp 5) = .pointer (some ⟨w.heap.size, 0, none⟩) := evP ha 0 rfl (by simp [hpre]) (by simp) rfl; obtain ⟨a0, a1, a2⟩ := ad_at ja; have HJ := Lib.hid (And.intro ja (And.intro jc (And.intro jw jb))); clear ha ja jc jw jb; refine zab fun K HK => ?_; unfold Oper.wp; simp only [execOp, e5]; go_simp; exact HK.out _ _ ⟨(), _, rfl, rfl, HJ.out⟩
   · intro _ L w' hL hpre hJ a ha
     obtain ⟨ja, jc, jw, jb⟩ := hJ; simp [Region.binds] at hpre; refine .inl ⟨zaa rfl, ?_⟩; have e3 : a.eval (.tmp 3) = .pointer (some ⟨(w.heap.size + 1), 0, none⟩) := by rw [ha, zac rfl]; rfl
     clear ha; have ja' := Lib.hid ja; have jc' := Lib.hid jc; have jw' := Lib.hid jw; have jb' := Lib.hid jb; clear ja jc jw jb; refine zab fun K HK => ?_; unfold Oper.wp; simp only [execOp, e3]; go_simp; exact HK.out _ _ ⟨(), _, rfl, rfl, ja'.out, jc'.out, jw'.out, jb'.out⟩
   · intro _ L w' hL hpre hJ a ha
     obtain ⟨ja, jc, jw, jb⟩ := hJ; simp [Region.binds] at hpre; refine .inl ⟨zaa rfl, ?_⟩; have e7 : a.eval (.tmp 7) = .pointer (some ⟨(w.heap.size + 1), 0, none⟩) := evP ha 2 rfl (by simp [hpre]) (by simp) rfl; obtain ⟨a0, a1, a2⟩ := ad_at jc; have HJ := Lib.hid (And.intro ja (And.intro jc (And.intro jw jb))); clear ha ja jc jw jb; refine zab fun K HK => ?_; unfold Oper.wp; simp only [execOp, e7]; go_simp; exact HK.out _ _ ⟨(), _, rfl, rfl, HJ.out⟩
   · intro _ L w' hL hpre hJ a ha
     obtain ⟨ja, jc, jw, jb⟩ := hJ; simp [Region.binds] at hpre; refine .inl ⟨zaa rfl, ?_⟩; have e6 : a.eval (.tmp 6) = .int .i64 x.d := evP ha 1 rfl (by simp [hpre]) (by simp) rfl; have e8 : a.eval (.tmp 8) = .int .i64 y.d := evP ha 3 rfl (by simp [hpre]) (by simp) rfl; have HJ := Lib.hid (And.intro ja (And.intro jc (And.intro jw jb))); clear ha ja jc jw jb; refine zab fun K HK => ?_; unfold Oper.wp; simp only [execOp, resolve, List.map_toArray, List.map_cons, List.map_nil, e6, e8]; go_simp; refine (cmp_any _ _ _).mono ?_; rintro e w'' ⟨rfl, rfl⟩; exact HK.out _ _ ⟨(), _, rfl, rfl, HJ.out⟩
   · intro _ L w' hL hpre hJ a ha
     obtain ⟨ja, jc, jw, jb⟩ := hJ; simp [Region.binds] at hpre; refine .inl ⟨zaa rfl, ?_⟩; have e2 : a.eval (.tmp 2) = .pointer (some ⟨w.heap.size, 0, none⟩) := by rw [ha, zac rfl]; rfl
     clear ha; have ja' := Lib.hid ja; have jc' := Lib.hid jc; have jw' := Lib.hid jw; have jb' := Lib.hid jb; clear ja jc jw jb; refine zab fun K HK => ?_; unfold Oper.wp; simp only [execOp, e2]; go_simp; exact HK.out _ _ ⟨(), _, rfl, rfl, ja'.out, jc'.out, jw'.out, jb'.out⟩
   · intro _ L w' hL hpre hJ a ha
     obtain ⟨ja, jc, jw, jb⟩ := hJ; simp [Region.binds] at hpre; refine .inl ⟨zaa rfl, ?_⟩; have e10 : a.eval (.tmp 10) = .pointer (some ⟨w.heap.size, 1, none⟩) := evP ha 5 rfl (by simp [hpre]) (by simp) rfl; obtain ⟨a0, a1, a2⟩ := ad_at ja; have HJ := Lib.hid (And.intro ja (And.intro jc (And.intro jw jb))); clear ha ja jc jw jb; refine zab fun K HK => ?_; unfold Oper.wp; simp only [execOp, e10]; go_simp; exact HK.out _ _ ⟨(), _, rfl, rfl, HJ.out⟩
   · intro _ L w' hL hpre hJ a ha
     obtain ⟨ja, jc, jw, jb⟩ := hJ; simp [Region.binds] at hpre; refine .inl ⟨zaa rfl, ?_⟩; have e3 : a.eval (.tmp 3) = .pointer (some ⟨(w.heap.size + 1), 0, none⟩) := by rw [ha, zac rfl]; rfl
     clear ha; have ja' := Lib.hid ja; have jc' := Lib.hid jc; have jw' := Lib.hid jw; have jb' := Lib.hid jb; clear ja jc jw jb; refine zab fun K HK => ?_; unfold Oper.wp; simp only [execOp, e3]; go_simp; exact HK.out _ _ ⟨(), _, rfl, rfl, ja'.out, jc'.out, jw'.out, jb'.out⟩
   · intro _ L w' hL hpre hJ a ha
     obtain ⟨ja, jc, jw, jb⟩ := hJ; simp [Region.binds] at hpre; refine .inl ⟨zaa rfl, ?_⟩; have e12 : a.eval (.tmp 12) = .pointer (some ⟨(w.heap.size + 1), 1, none⟩) := evP ha 7 rfl (by simp [hpre]) (by simp) rfl; obtain ⟨a0, a1, a2⟩ := ad_at jc; have HJ := Lib.hid (And.intro ja (And.intro jc (And.intro jw jb))); clear ha ja jc jw jb; refine zab fun K HK => ?_; unfold Oper.wp; simp only [execOp, e12]; go_simp; exact HK.out _ _ ⟨(), _, rfl, rfl, HJ.out⟩
   · intro _ L w' hL hpre hJ a ha
     obtain ⟨ja, jc, jw, jb⟩ := hJ; simp [Region.binds] at hpre; refine .inl ⟨zaa rfl, ?_⟩; have e11 : a.eval (.tmp 11) = .int .i64 x.b := evP ha 6 rfl (by simp [hpre]) (by simp) rfl; have e13 : a.eval (.tmp 13) = .int .i64 y.b := evP ha 8 rfl (by simp [hpre]) (by simp) rfl; have HJ := Lib.hid (And.intro ja (And.intro jc (And.intro jw jb))); clear ha ja jc jw jb; refine zab fun K HK => ?_; unfold Oper.wp; simp only [execOp, resolve, List.map_toArray, List.map_cons, List.map_nil, e11, e13]; go_simp; refine (cmp_any _ _ _).mono ?_; rintro e w'' ⟨rfl, rfl⟩; exact HK.out _ _ ⟨(), _, rfl, rfl, HJ.out⟩
   · intro _ L w' hL hpre hJ a ha
     obtain ⟨ja, jc, jw, jb⟩ := hJ; simp [Region.binds] at hpre; refine .inl ⟨zaa rfl, ?_⟩; have e2 : a.eval (.tmp 2) = .pointer (some ⟨w.heap.size, 0, none⟩) := by rw [ha, zac rfl]; rfl
     clear ha; have ja' := Lib.hid ja; have jc' := Lib.hid jc; have jw' := Lib.hid jw; have jb' := Lib.hid jb; clear ja jc jw jb; refine zab fun K HK => ?_; unfold Oper.wp; simp only [execOp, e2]; go_simp; exact HK.out _ _ ⟨(), _, rfl, rfl, ja'.out, jc'.out, jw'.out, jb'.out⟩
   · intro _ L w' hL hpre hJ a ha
     obtain ⟨ja, jc, jw, jb⟩ := hJ; simp [Region.binds] at hpre; refine .inl ⟨zaa rfl, ?_⟩; have e15 : a.eval (.tmp 15) = .pointer (some ⟨w.heap.size, 2, none⟩) := evP ha 10 rfl (by simp [hpre]) (by simp) rfl; obtain ⟨a0, a1, a2⟩ := ad_at ja; have HJ := Lib.hid (And.intro ja (And.intro jc (And.intro jw jb))); clear ha ja jc jw jb; refine zab fun K HK => ?_; unfold Oper.wp; simp only [execOp, e15]; go_simp; exact HK.out _ _ ⟨(), _, rfl, rfl, HJ.out⟩
   · intro _ L w' hL hpre hJ a ha
     obtain ⟨ja, jc, jw, jb⟩ := hJ; simp [Region.binds] at hpre; refine .inl ⟨zaa rfl, ?_⟩; have e3 : a.eval (.tmp 3) = .pointer (some ⟨(w.heap.size + 1), 0, none⟩) := by rw [ha, zac rfl]; rfl
     clear ha; have ja' := Lib.hid ja; have jc' := Lib.hid jc; have jw' := Lib.hid jw; have jb' := Lib.hid jb; clear ja jc jw jb; refine zab fun K HK => ?_; unfold Oper.wp; simp only [execOp, e3]; go_simp; exact HK.out _ _ ⟨(), _, rfl, rfl, ja'.out, jc'.out, jw'.out, jb'.out⟩
   · intro _ L w' hL hpre hJ a ha
     obtain ⟨ja, jc, jw, jb⟩ := hJ; simp [Region.binds] at hpre; refine .inl ⟨zaa rfl, ?_⟩; have e17 : a.eval (.tmp 17) = .pointer (some ⟨(w.heap.size + 1), 2, none⟩) := evP ha 12 rfl (by simp [hpre]) (by simp) rfl; obtain ⟨a0, a1, a2⟩ := ad_at jc; have HJ := Lib.hid (And.intro ja (And.intro jc (And.intro jw jb))); clear ha ja jc jw jb; refine zab fun K HK => ?_; unfold Oper.wp; simp only [execOp, e17]; go_simp; exact HK.out _ _ ⟨(), _, rfl, rfl, HJ.out⟩
   · intro _ L w' hL hpre hJ a ha
     obtain ⟨ja, jc, jw, jb⟩ := hJ; simp [Region.binds] at hpre; refine .inl ⟨zaa rfl, ?_⟩; have e16 : a.eval (.tmp 16) = .int .i64 x.p := evP ha 11 rfl (by simp [hpre]) (by simp) rfl; have e18 : a.eval (.tmp 18) = .int .i64 y.p := evP ha 13 rfl (by simp [hpre]) (by simp) rfl; have HJ := Lib.hid (And.intro ja (And.intro jc (And.intro jw jb))); clear ha ja jc jw jb; refine zab fun K HK => ?_; unfold Oper.wp; simp only [execOp, resolve, List.map_toArray, List.map_cons, List.map_nil, e16, e18]; go_simp; refine (cmp_any _ _ _).mono ?_; rintro e w'' ⟨rfl, rfl⟩; exact HK.out _ _ ⟨(), _, rfl, rfl, HJ.out⟩
   · intro _ L w' hL hpre hJ a ha
     obtain ⟨ja, jc, jw, jb⟩ := hJ; simp [Region.binds] at hpre; refine .inl ⟨zaa rfl, ?_⟩; have e9 : a.eval (.tmp 9) = .int .i64 (cmpI x.d y.d) := evP ha 4 rfl (by simp [hpre]) (by simp) rfl; have e14 : a.eval (.tmp 14) = .int .i64 (cmpI x.b y.b) := evP ha 9 rfl (by simp [hpre]) (by simp) rfl; have e19 : a.eval (.tmp 19) = .int .i64 (cmpI x.p y.p) := evP ha 14 rfl (by simp [hpre]) (by simp) rfl; have f9 : a.tmps[9]?.getD undef = .int .i64 (cmpI x.d y.d) := by simpa [Act.eval] using e9
     have f14 : a.tmps[14]?.getD undef = .int .i64 (cmpI x.b y.b) := by simpa [Act.eval] using e14
     have f19 : a.tmps[19]?.getD undef = .int .i64 (cmpI x.p y.p) := by simpa [Act.eval] using e19
     rw [hL] at jw; simp only [cond_false] at jw; subst jw; have HJ := Lib.hid (And.intro (zam ja (.cells #[.int .i64 (cmpI x.d y.d), .int .i64 (cmpI x.b y.b), .int .i64 (cmpI x.p y.p)] 3)) (And.intro (zam jc (.cells #[.int .i64 (cmpI x.d y.d), .int .i64 (cmpI x.b y.b), .int .i64 (cmpI x.p y.p)] 3)) (jb.alloc jb.size (.cells #[.int .i64 (cmpI x.d y.d), .int .i64 (cmpI x.b y.b), .int .i64 (cmpI x.p y.p)] 3)))); clear ha ja jc jb e9 e14 e19; refine zab fun K HK => ?_; unfold Oper.wp; simp only [execOp]; go_simp; exact HK.out _ _ ⟨(), _, rfl, rfl, HJ.out.1, HJ.out.2.1, rfl, HJ.out.2.2⟩
   · intro _ L w' hL hpre hJ a ha
     obtain ⟨ja, jc, jw, jb⟩ := hJ; simp [Region.binds] at hpre; refine .inl ⟨zaa rfl, ?_⟩; have e20 : a.eval (.tmp 20) = .slice (some ⟨w1.heap.size, 0, none⟩) 3 3 := evP ha 15 rfl (by simp [hpre]) (by simp) rfl; have p15 : L 15 = true := by simp [hpre]
     have jw' := jw; rw [p15] at jw'; simp only [cond_true] at jw'; have hz : w'.heap[w1.heap.size]? = some (.cells #[.int .i64 (cmpI x.d y.d), .int .i64 (cmpI x.b y.b), .int .i64 (cmpI x.p y.p)] 3 (0, 0)) := by rw [jw']; exact heap_alloc_new _ _
     have HJ := Lib.hid (And.intro ja (And.intro jc (And.intro jw jb))); clear ha ja jc jw jb jw'; refine zab fun K HK => ?_; unfold Oper.wp; simp only [execOp, resolve, List.map_toArray, List.map_cons, List.map_nil, e20]; go_simp; refine (or_any _ _ _ _ _ hz).mono ?_; rintro e w'' ⟨rfl, rfl⟩; exact HK.out _ _ ⟨(), _, rfl, rfl, HJ.out⟩
   · intro _ L w' hL hpre hJ a ha
     obtain ⟨ja, jc, jw, jb⟩ := hJ; simp [Region.binds] at hpre; refine .inl ⟨zaa rfl, ?_⟩; exact zah (.tmp 21) (.inr rfl) (.int .i64 (ordA x y)) (evP ha 16 rfl (by simp [hpre]) (by simp) rfl) ⟨(), _, rfl, rfl, ja, jc, jw, jb⟩
 · intro _ L w' hL hJ
   obtain ⟨ja, jc, jw, jb⟩ := hJ; have jwL := hL 15 (by decide); clear hL; simp only [List.foldl_cons, List.foldl_nil]; rw [jwL] at jw; simp only [cond_true] at jw; go_simp; go_wp2_with fail
   go_ret
   exact ⟨rfl, 1, _, by rw [HOS.out, alloc_eq_grow, grow_grow]; rfl⟩
end Go.Proofs.YtpbigfopmompfaaGreat
