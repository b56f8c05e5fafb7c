import Derived.Test.YtpbigfopmompfaaGreatBunF
import Derived.Test.YtpbigfopmompfaaGreatBunN
/- What a claim's proof leans on: Back, Back2. -/
namespace Go.Proofs.YtpbigfopmompfaaGreat
open Go.RowKit
def backM (p : Sh) (l : List Sh) : Nat := overM (l ++ [p])
def backE (p : Sh) (l : List Sh) : En := ⟨lpnI (backM p l), seqI (backM p l), roleI (backM p l), overD (l ++ [p])⟩
def backC (p : Sh) (l : List Sh) : Bool := (p.k == 2) && (p.may && (!anyAlien p l && ((l.length : Int) == slotsI p.m - 1)))
def backB (p : Sh) (l : List Sh) : Bool := backC p l && (backE p l).may p.b p.o p.m
def zeroE : List Value := enV 0 0 0 zero16
def backV (p : Sh) (l : List Sh) : List Value := if backB p l then (backE p l).v else zeroE
theorem built_zeroE : Tryz.prog.built 29 [] = some zeroE.toArray := by kernel_rfl
theorem built_back {d : List Nat} (h : d.length = 16) : Tryz.prog.built 29 [(3, .agg (nats .u8 d).toArray)] = some (enV 0 0 0 d).toArray := by
 obtain ⟨d0, d1, d2, d3, d4, d5, d6, d7, d8, d9, d10, d11, d12, d13, d14, d15, rfl⟩ := split16 h
 kernel_rfl
def zeroD : List Value := nats .u8 zero16
theorem dInfo3 : (Tryz.prog.info? 27).map (fun i => (i.zero, i.size, i.bytes)) = some (some (.agg zeroD.toArray), 16, 16) := by kernel_rfl
structure BJ (p : Sh) (l : List Sh) (n : Nat) (A : Option Addr) (B base g0 : Nat) (w0 : World) (v38 v40 v41 v7 : Value) (L : Nat → Bool) (w : World) : Prop where
 h0 : w.heap[g0]? = some (.cells p.v.toArray 153 (0, 0))
 h1 : w.heap[g0 + 1]? = some (.cells zeroE.toArray 29 (0, 0))
 hr : Rds w B A 23 n (shs l)
 hb : Below g0 w0 w
 hs : base ≤ w.heap.size
 f38 : L 1 = true → L 4 = false → OwnRows w base 153 23 v38 n (shs l)
 f40 : L 3 = true → L 4 = false → ∃ g, v40 = .slice (some ⟨g, 0, none⟩) 1 1 ∧ w.heap[g]? = some (.cells p.v.toArray 153 (0, 0))
 f41 : L 4 = true → L 5 = false → OwnRows w base 153 23 v41 (n + 1) (shs (l ++ [p]))
 f7 : L 9 = true → ∃ g, v7 = .pointer (some ⟨g, 0, none⟩) ∧ base ≤ g ∧ (L 10 = false → w.heap[g]? = some (.cells zeroD.toArray 27 (0, 0))) ∧ (L 10 = true → w.heap[g]? = some (.cells (nats .u8 (overD (l ++ [p]))).toArray 27 (0, 0)))
 f10 : L 10 = true → L 9 = true
theorem BJ.below {p : Sh} {l : List Sh} {n : Nat} {A : Option Addr} {B base g0 : Nat} {w0 : World} {v38 v40 v41 v7 : Value} {L : Nat → Bool} {w w' : World} (h : BJ p l n A B base g0 w0 v38 v40 v41 v7 L w) (hb : Below w.heap.size w w') (hB : B ≤ base) : BJ p l n A B base g0 w0 v38 v40 v41 v7 L w' :=
 ⟨zad h.h0 hb, zad h.h1 hb, h.hr.below hb (Nat.le_trans hB h.hs), h.hb.trans (hb.mono (Nat.le_of_lt (zag h.h0))), Nat.le_trans h.hs hb.size, fun a b => (h.f38 a b).below hb, fun a b => by
  obtain ⟨g, e, hg⟩ := h.f40 a b; exact ⟨g, e, zad hg hb⟩, fun a b => (h.f41 a b).below hb, fun a => by
  obtain ⟨g, e, hg, h2, h3⟩ := h.f7 a; exact ⟨g, e, hg, fun x => zad (h2 x) hb, fun x => zad (h3 x) hb⟩, h.f10⟩
theorem BJ.same {p : Sh} {l : List Sh} {n : Nat} {A : Option Addr} {B base g0 : Nat} {w0 : World} {v38 v40 v41 v7 : Value} {L L' : Nat → Bool} {w : World} (h : BJ p l n A B base g0 w0 v38 v40 v41 v7 L w) (h1 : L' 1 = L 1) (h3 : L' 3 = L 3) (h4 : L' 4 = L 4) (h5 : L 5 = true → L' 5 = true) (h9 : L' 9 = L 9) (h10 : L' 10 = L 10) : BJ p l n A B base g0 w0 v38 v40 v41 v7 L' w :=
 ⟨h.h0, h.h1, h.hr, h.hb, h.hs, by rw [h1, h4]; exact h.f38, by rw [h3, h4]; exact h.f40, fun a b => h.f41 (by rw [← h4]; exact a) (by cases e : L 5 with | false => rfl | true => rw [h5 e] at b; cases b), by rw [h9, h10]; exact h.f7, by rw [h9, h10]; exact h.f10⟩
theorem back_eq (p : Sh) (l : List Sh) (hc : backC p l = true) (b : Bool) (h : maySh (overD (l ++ [p])) (roleI (overM (l ++ [p]) : Int)) (lpnI (overM (l ++ [p]) : Int)) (seqI (overM (l ++ [p]) : Int)) 1 p.b p.o p.m = b) :
 backB p l = b ∧ backV p l = if b then enV (lpnI (overM (l ++ [p]) : Int)) (seqI (overM (l ++ [p]) : Int)) (roleI (overM (l ++ [p]) : Int)) (overD (l ++ [p])) else zeroE := by
 have e1 : (backE p l).may p.b p.o p.m = b := h
 have e2 : backB p l = b := by unfold backB; rw [hc, e1, Bool.true_and]
 have e3 : (backE p l).v = enV (lpnI (overM (l ++ [p]) : Int)) (seqI (overM (l ++ [p]) : Int)) (roleI (overM (l ++ [p]) : Int)) (overD (l ++ [p])) := rfl
 refine ⟨e2, ?_⟩
 unfold backV
 rw [e2, e3]
theorem en_sets (l s r x : Int) (d : List Nat) : (enV l s r d).set 0 (.int .i64 x) = enV x s r d ∧ (enV l s r d).set 1 (.int .i64 x) = enV l x r d ∧ (enV l s r d).set 2 (.int .i64 x) = enV l s x d := ⟨rfl, rfl, rfl⟩
theorem shs_snoc (l : List Sh) (p : Sh) : shs l ++ shs [p] = shs (l ++ [p]) := by simp [shs]
set_option maxRecDepth 100000 in
set_option maxHeartbeats 4000000 in
theorem back_main (p : Sh) (l : List Sh) (A : Option Addr) (n c B : Nat) (w : World) (hp : p.ok) (hr : Rds w B A 23 n (shs l)) (hB : B ≤ w.heap.size) (hok : ∀ x ∈ l, x.ok) (hn : n ≤ 1000) (hA : ∀ a, A = some a → a.spot = none) (hc : backC p l = true) :
 Calls Tryz.prog 117 #[.agg p.v.toArray, .slice A n c] w fun e w' => e = .returned (.tuple #[.agg (backV p l).toArray, .bool (backB p l)]) ∧ Below w.heap.size w w' := by
 have hl : l.length = n := by have := hr.1; rwa [shs, List.length_map] at this
 have hc' := hc
 unfold backC at hc'
 simp only [Bool.and_eq_true, Bool.not_eq_true', beq_iff_eq] at hc'
 obtain ⟨hk, hm, ha, hs⟩ := hc'
 rw [hl] at hs
 have t1 : (p.k != 2) = false := by simpa using hk
 have t4 : ((n : Int) != slotsI p.m - 1) = false := by simpa using hs
 have hs7 : 0 ≤ slotsI p.m ∧ slotsI p.m ≤ 7 := by have := countI_le p.m; unfold slotsI; split <;> omega
 obtain ⟨hs0, hs7⟩ := hs7
 have hn6 : n ≤ 6 := by omega
 have HA := Lib.hid ha
 have HM := Lib.hid (show maySh p.d p.r p.l p.s p.k p.b p.o p.m = true from hm)
 have HC := Lib.hid hc
 have HL := Lib.hid hl
 have HP := Lib.hid hp
 have HOk := Lib.hid hok
 have hV := za4 p.d hp.1 p.r p.l p.s p.k p.b p.o p.m
 have hVl := Lib.hid (zba hp.1 p.r p.l p.s p.k p.b p.o p.m)
 have hz0 : Tryz.prog.built 29 [] = some zeroE.toArray := built_zeroE
 clear hk hm ha hs hc hl hok
 have h0 := zbi w (.cells p.v.toArray 153) (.cells zeroE.toArray 29)
 have h1 := zak (w.alloc (.cells p.v.toArray 153)) (.cells zeroE.toArray 29) (w.heap.size + 1) (by simp)
 have hbel := below2 w (.cells p.v.toArray 153) (.cells zeroE.toArray 29)
 have hr1 := hr.below hbel hB
 clear hz0 hr
 go_enter Tryz.func117, Tryz.ntmps117
 go_upto_region 1 with fail
 change Code.wp _ _ _ _ ((w.alloc (.cells p.v.toArray 153)).alloc (.cells zeroE.toArray 29))
 have hsz1 : B ≤ ((w.alloc (.cells p.v.toArray 153)).alloc (.cells zeroE.toArray 29)).heap.size := by simp; omega
 generalize (w.alloc (.cells p.v.toArray 153)).alloc (.cells zeroE.toArray 29) = w1 at *
 go_wp2_with fail
 refine (containsSh p _ _ _ _ _ l _ h0 HP.out hr1 hsz1 HOk.out hn).mono ?_
 rw [HA.out]
 rintro e w2 ⟨rfl, hb2⟩
 have h02 := zad h0 hb2
 have h12 := zad h1 hb2
 have hr2 := hr1.below hb2 hsz1
 have hbel2 := hbel.trans (hb2.mono hbel.size)
 have hsz2 := Nat.le_trans hsz1 hb2.size
 obtain ⟨c16, c17, c18, c19, c20, c21, c22⟩ := za6 HP.out.1 h02
 clear h0 h1 hr1 hbel hsz1 hb2
 go_wp2_with (first | (refine zat 153 (.tmp 2) rfl w.heap.size 0 rfl rfl _ _ (zal h02) Tryz.underlying153 rfl hV ?_))
 refine (zbj _ _ _ _ _ _ _ _ _ HP.out.1 HP.out.2).mono ?_
 rw [HM.out]; rintro e w3 ⟨rfl, hb3⟩
 have h03 := zad h02 hb3
 have h13 := zad h12 hb3
 have hr3 := hr2.below hb3 hsz2
 have hbel3 := hbel2.trans (hb3.mono hbel2.size)
 have hsz3 := Nat.le_trans hsz2 hb3.size
 clear c16 c17 c18 c19 c20 c21 c22 h02 h12 hr2 hbel2 hsz2 hb3
 obtain ⟨c16, c17, c18, c19, c20, c21, c22⟩ := za6 HP.out.1 h03
 go_wp2_with (go_at_call 68; refine (slots_any _ _).mono ?_; rintro e w' ⟨rfl, rfl⟩)
 have hls : (l ++ [p]).length = n + 1 := by rw [List.length_append, HL.out]; rfl
 have hoks : ∀ x ∈ l ++ [p], x.ok := by
  intro x hx; rcases List.mem_append.1 hx with h | h
  · exact HOk.out x h
  · rw [List.mem_singleton] at h; rw [h]; exact HP.out
 have hD16 := zb2 fun y hy => (hoks y hy).1
 have hMlt := overM_lt (l ++ [p])
 have hDV : (Tryz.prog.info? 27).map (·.size) = some (nats .u8 (overD (l ++ [p]))).length := by rw [zaj, hD16]; kernel_rfl
 have hDl : (nats .u8 (overD (l ++ [p]))).length = 16 := by rw [zaj, hD16]
 have g2 := zag h13
 refine wp_region_puts (by kernel_rfl) (by kernel_rfl) (by kernel_rfl) (X := Value × Value × Value × Value) (fun x => [(some 37, .slice A n c), (some 38, x.1), (some 39, .agg p.v.toArray), (some 40, x.2.1), (some 41, x.2.2.1), (some 42, .tuple #[.agg (nats .u8 (overD (l ++ [p]))).toArray, .int .u64 (overM (l ++ [p]) : Int)]), (some 36, .tuple #[.agg (nats .u8 (overD (l ++ [p]))).toArray, .int .u64 (overM (l ++ [p]) : Int)]), (some 43, .agg (nats .u8 (overD (l ++ [p]))).toArray), (some 44, .int .u64 (overM (l ++ [p]) : Int)), (some 7, x.2.2.2), (none, undef), (some 8, .int .u64 (overM (l ++ [p]) : Int))])
  (fun x L w' => BJ p l n A B w3.heap.size w.heap.size w x.1 x.2.1 x.2.2.1 x.2.2.2 L w') (fun _ => rfl) (by kernel_rfl) ?_ ?_ ?_
 · exact ⟨(undef, undef, undef, undef), fun L hL => ⟨h03, h13, hr3, hbel3.drew, Nat.le_refl _, (fun h => by rw [hL] at h; cases h), (fun h => by rw [hL] at h; cases h), (fun h => by rw [hL] at h; cases h), (fun h => by rw [hL] at h; cases h), (fun h => by rw [hL] at h; cases h)⟩⟩
 · refine ⟨?_, ?_, ?_, ?_, ?_, ?_, ?_, ?_, ?_, ?_, ?_, ?_, trivial⟩
   · intro x L w' hL hpre hJ a ha
     refine zah (.tmp 1) (.inl rfl) (.slice A n c) (by rw [ha, zac rfl]; rfl) ⟨x, _, rfl, rfl, hJ.same rfl rfl rfl id rfl rfl⟩
   · intro x L w' hL hpre hJ a ha
     simp [Region.binds] at hpre; have e37 : a.eval (.tmp 37) = .slice A n c := by rw [ha]; exact za2 (i := 0) rfl hpre (by simp) rfl
     clear ha; have HJ := Lib.hid hJ; clear hJ; refine zab fun K HK => ?_; unfold Oper.wp; simp only [execOp, resolve, List.map_toArray, List.map_cons, List.map_nil, e37]; go_simp; refine (cloneSh_any A n c B l w' HJ.out.hr (Nat.le_trans hsz3 HJ.out.hs) hn hA).mono ?_; rintro e w'' ⟨v, rfl, ho, hb⟩; have hJ' := HJ.out.below hb hsz3; exact HK.out _ _ ⟨(v, x.2.1, x.2.2.1, x.2.2.2), v, rfl, rfl, hJ'.h0, hJ'.h1, hJ'.hr, hJ'.hb, hJ'.hs, fun _ _ => ho.lower HJ.out.hs, hJ'.f40, hJ'.f41, hJ'.f7, hJ'.f10⟩
   · intro x L w' hL hpre hJ a ha
     refine wp_load_mid 153 (.tmp 2) rfl w.heap.size 0 (by rw [ha, zac rfl]; rfl) p.v _ (zal hJ.h0) Tryz.underlying153 rfl hV ?_; exact ⟨x, _, rfl, rfl, hJ.same rfl rfl rfl id rfl rfl⟩
   · intro x L w' hL hpre hJ a ha
     simp [Region.binds] at hpre; refine wp_buildOne 164 (.tmp 39) rfl 153 p.v _ 23 72 (by rw [ha]; exact za2 (i := 2) rfl hpre (by simp) rfl) Tryz.underlying164 shInfo3 hVl.out (by decide) (by decide) ?_; have hJ' := hJ.below ((Below.refl _ w').alloc (Nat.le_refl _) (.cells p.v.toArray 153)) hsz3; exact ⟨(x.1, .slice (some ⟨w'.heap.size, 0, none⟩) 1 1, x.2.2.1, x.2.2.2), _, rfl, rfl, hJ'.h0, hJ'.h1, hJ'.hr, hJ'.hb, hJ'.hs, hJ'.f38, fun _ _ => ⟨_, rfl, heap_alloc_new _ _⟩, hJ'.f41, hJ'.f7, hJ'.f10⟩
   · intro x L w' hL hpre hJ a ha
     simp [Region.binds] at hpre; obtain ⟨p1, p3, -⟩ := hpre; have ho := hJ.f38 p1 hL; obtain ⟨g, e40, hg⟩ := hJ.f40 p3 hL; refine zb5 (.tmp 38) (.tmp 40) 164 rfl 153 _ 23 72 Tryz.underlying164 shInfo3 rfl (by decide) ho (Below.refl w3.heap.size w') (by rw [ha]; exact za2 (i := 1) rfl p1 (by simp) rfl) (by rw [ha, za2 (i := 3) rfl p3 (by simp) rfl]; exact e40) (rds_sh HP.out hg) (one_shs _) (by unfold maxLen; omega) (by omega) hJ.hs (Nat.le_refl _) ?_; intro v5 w5 hown5 hbel5 hgr5 _; rw [shs_snoc] at hown5; refine ⟨(x.1, x.2.1, v5, x.2.2.2), v5, rfl, rfl, (hbel5.block _ (by omega)).trans hJ.h0, (hbel5.block _ g2).trans hJ.h1, hJ.hr.below hbel5 hsz3, hJ.hb.trans (hbel5.mono (by omega)), Nat.le_trans hJ.hs hbel5.size, fun _ h => ?_, fun _ h => ?_, fun _ _ => hown5, fun h => ?_, hJ.f10⟩
     · simp [also] at h
     · simp [also] at h
     · obtain ⟨g7, e7, hg7, z1, z2⟩ := hJ.f7 h
       exact ⟨g7, e7, hg7, fun h10 => zbw (z1 h10) hgr5 (fun e => own_ne ho.1 (z1 h10) (by decide) e.symm), fun h10 => zbw (z2 h10) hgr5 (fun e => own_ne ho.1 (z2 h10) (by decide) e.symm)⟩
   · intro x L w' hL hpre hJ a ha
     simp [Region.binds] at hpre; have ho := hJ.f41 hpre hL; obtain ⟨A', c', e', -, -⟩ := ho.slice; have e41 : a.eval (.tmp 41) = .slice A' (n + 1) c' := by rw [ha, za2 (i := 4) rfl hpre (by simp) rfl]; exact e'
     rw [e'] at ho; clear ha; have HJ := Lib.hid hJ; have HR := Lib.hid ho.rds; clear hJ ho e'; refine zab fun K HK => ?_; unfold Oper.wp; simp only [execOp, resolve, List.map_toArray, List.map_cons, List.map_nil, e41]; go_simp; refine (over_any (l ++ [p]) A' (n + 1) c' _ w' HR.out (Nat.le_refl _) hoks (by omega)).mono ?_; rintro e w'' ⟨rfl, hb⟩; have hJ' := HJ.out.below hb hsz3; exact HK.out _ _ ⟨x, _, rfl, rfl, hJ'.same rfl rfl rfl (fun _ => rfl) rfl rfl⟩
   · intro x L w' hL hpre hJ a ha
     simp [Region.binds] at hpre; refine zah (.tmp 42) (.inl rfl) _ (by rw [ha]; exact za2 (i := 5) rfl hpre (by simp) rfl) ⟨x, _, rfl, rfl, hJ.same rfl rfl rfl id rfl rfl⟩
   · intro x L w' hL hpre hJ a ha
     simp [Region.binds] at hpre; refine wp_extract' (.tmp 36) 0 rfl _ (by rw [ha]; exact za2 (i := 6) rfl hpre (by simp) rfl) _ rfl ⟨x, _, rfl, rfl, hJ.same rfl rfl rfl id rfl rfl⟩
   · intro x L w' hL hpre hJ a ha
     simp [Region.binds] at hpre; refine wp_extract' (.tmp 36) 1 rfl _ (by rw [ha]; exact za2 (i := 6) rfl hpre (by simp) rfl) _ rfl ⟨x, _, rfl, rfl, hJ.same rfl rfl rfl id rfl rfl⟩
   · intro x L w' hL hpre hJ a ha
     refine wp_alloc' 27 rfl _ _ _ dInfo3 ?_; have hJ' := hJ.below ((Below.refl _ w').alloc (Nat.le_refl _) (.cells zeroD.toArray 27)) hsz3
     exact ⟨(x.1, x.2.1, x.2.2.1, .pointer (some ⟨w'.heap.size, 0, none⟩)), _, rfl, rfl, hJ'.h0, hJ'.h1, hJ'.hr, hJ'.hb, hJ'.hs, hJ'.f38, hJ'.f40, hJ'.f41, fun _ => ⟨_, rfl, hJ.hs, fun _ => heap_alloc_new _ _, fun h => by
      have h9 := hJ.f10 h; rw [hL] at h9; cases h9⟩, fun _ => rfl⟩
   · intro x L w' hL hpre hJ a ha
     simp [Region.binds] at hpre; have p9 : L 9 = true := by simp [hpre]
     have p7 : L 7 = true := by simp [hpre]
     have p5 : L 5 = true := by simp [hpre]
     have p4 : L 4 = true := by simp [hpre]
     obtain ⟨g7, e7, hg7, z1, -⟩ := hJ.f7 p9; refine wp_put_row' 27 (.tmp 7) (.tmp 43) rfl g7 (nats .u8 (overD (l ++ [p]))) (by rw [ha, za2 (i := 9) rfl p9 (by simp) rfl]; exact e7) (by rw [ha]; exact za2 (i := 7) rfl p7 (by simp) rfl) 27 _ (z1 hL) hDV (by rw [hDl]; rfl) (za1 _ _) ?_; intro w5 hU; exact ⟨x, _, rfl, rfl, hU.old hJ.h0 (by omega), hU.old hJ.h1 (by omega), hJ.hr.upd hU (by omega), hU.below hJ.hb (by omega), by rw [hU.size]; exact hJ.hs, (fun _ h => by have h : L 4 = false := h; rw [p4] at h; cases h), (fun _ h => by have h : L 4 = false := h; rw [p4] at h; cases h), (fun _ h => by have h : L 5 = false := h; rw [p5] at h; cases h), fun _ => ⟨g7, e7, hg7, (fun h => by simp [also] at h), fun _ => hU.at_⟩, fun _ => p9⟩
   · intro x L w' hL hpre hJ a ha
     simp [Region.binds] at hpre; have p8 : L 8 = true := by simp [hpre]
     refine zah (.tmp 44) (.inr rfl) _ (by rw [ha]; exact za2 (i := 8) rfl p8 (by simp) rfl) ⟨x, _, rfl, rfl, hJ.same rfl rfl rfl id rfl rfl⟩
 · intro x L w4 hL hJ
   obtain ⟨g7, e7, hg7, -, z2⟩ := hJ.f7 (hL 9 (by decide)); have h7 := z2 (hL 10 (by decide)); have h04 := hJ.h0; have h14 := hJ.h1; have hbel4 := hJ.hb; obtain ⟨v38, v40, v41, v7⟩ := x; simp only at e7; subst e7; have HD := Lib.hid hD16; have HDo := Lib.hid hoks; clear hJ hL hoks hls hr3 hbel3 h03 h13 c16 c17 c18 c19 c20 c21 c22 hD16; obtain ⟨c16, c17, c18, c19, c20, c21, c22⟩ := za6 HP.out.1 h04; simp only [List.foldl_cons, List.foldl_nil]; go_simp; have HE := Lib.hid (back_eq p l HC.out); have HDb := Lib.hid (overD_lt (fun y hy => (HDo.out y hy).1) (fun y hy => (HDo.out y hy).2)); have hE0 := zbv HD.out 0 0 0; have hE0l := Lib.hid (enV_length HD.out 0 0 0); have hB0 := built_back HD.out; have ne0 : w.heap.size ≠ w4.heap.size := by have := zag h04; omega
   have ne1 : w.heap.size + 1 ≠ w4.heap.size := by have := zag h14; omega
   have hsz := hbel4.size; generalize overD (l ++ [p]) = D at *; generalize overM (l ++ [p]) = M at *; have hE1 := zbv HD.out (lpnI (M : Int)) (seqI (M : Int)) (roleI (M : Int)); have hE1l := Lib.hid (enV_length HD.out (lpnI (M : Int)) (seqI (M : Int)) (roleI (M : Int))); clear z2 hDl; go_wp2_with (first | (refine wpList_load_mid rfl 27 (.tmp 7) rfl g7 0 rfl _ _ (zal h7) Tryz.underlying27 rfl hDV ?_) | (refine zao rfl 29 _ rfl _ rfl _ hB0 ?_) | (refine zai rfl 29 (.tmp 9) (.tmp 46) rfl w4.heap.size (enV 0 0 0 D) rfl rfl 29 _ (zak w4 _ _ rfl) hE0 (by rw [hE0l.out]; rfl) (one_enV _ _ _ _) ?_; intro w5 hU5; have h95 := hU5.at_; have h05 := hU5.old (zam h04 _) ne0; have h15 := hU5.old (zam h14 _) ne1; have hbel5 := hU5.below (hbel4.alloc hsz _) hsz; clear c16 c17 c18 c19 c20 c21 c22))
   refine (of_sherd (M : Int) _ (by omega) (by omega)).mono ?_; rintro e w' ⟨rfl, rfl⟩; have f0 := zar h95 0; have f1 := zar h95 1; have f2 := zar h95 2; obtain ⟨c0, c1, c2, -⟩ := en_cells h95; have U1 := zas (i := 2) h95 (.int .i64 (roleI (M : Int))); have U2 := zas (i := 0) U1.at_ (.int .i64 (lpnI (M : Int))); have U3 := zas (i := 1) U2.at_ (.int .i64 (seqI (M : Int))); have h96 := U3.at_; rw [(en_sets _ _ _ _ _).2.2, (en_sets _ _ _ _ _).1, (en_sets _ _ _ _ _).2.1] at h96; have HF := Lib.hid (And.intro h96 (And.intro (U3.old (U2.old (U1.old h05 ne0) ne0) ne0) (And.intro (U3.old (U2.old (U1.old h15 ne1) ne1) ne1) (U3.below (U2.below (U1.below hbel5 hsz) hsz) hsz)))); clear U1 U2 U3 h96 h95 h05 h15 hbel5 hU5 h04 h14 h7; go_upto_region 7 with fail
   generalize ((w5.setCell ⟨w4.heap.size, 2, none⟩ (.int .i64 (roleI (M : Int)))).setCell ⟨w4.heap.size, 0, none⟩ (.int .i64 (lpnI (M : Int)))).setCell ⟨w4.heap.size, 1, none⟩ (.int .i64 (seqI (M : Int))) = w6 at *; obtain ⟨h96, h06, h16, hbel6⟩ := HF.out; clear f0 f1 f2 c0 c1 c2; obtain ⟨c16, c17, c18, c19, c20, c21, c22⟩ := za6 HP.out.1 h06; have hVo := za4 D HD.out (roleI (M : Int)) (lpnI (M : Int)) (seqI (M : Int)) 1 p.b p.o p.m; have hVol := Lib.hid (zba HD.out (roleI (M : Int)) (lpnI (M : Int)) (seqI (M : Int)) 1 p.b p.o p.m); go_wp2_with (refine wpList_load_mid rfl 29 (.tmp 9) rfl w4.heap.size 0 rfl _ _ (zal h96) Tryz.underlying29 rfl hE1 ?_)
   refine (own_sherd p.b p.o p.m (lpnI (M : Int)) (seqI (M : Int)) (roleI (M : Int)) D _ HD.out HDb.out).mono ?_; cases hmy : maySh D (roleI (M : Int)) (lpnI (M : Int)) (seqI (M : Int)) 1 p.b p.o p.m with
   | false =>
    have E1 := Lib.hid (HE.out false hmy).1; have E2 := Lib.hid (show backV p l = zeroE from (HE.out false hmy).2); have HO := Lib.hid (show ownV D (roleI (M : Int)) (lpnI (M : Int)) (seqI (M : Int)) p.b p.o p.m = zeroV by unfold ownV; rw [hmy]; rfl); rw [HO.out]; clear hmy; rintro e w7 ⟨rfl, hb7⟩; have h17 := zad h16 hb7; have hbel7 := hbel6.trans (hb7.mono hbel6.size); have ne7 : w.heap.size + 1 ≠ w7.heap.size := by have := zag h17; omega
    clear hb7 h06 h16 h96 hbel6 c16 c17 c18 c19 c20 c21 c22; go_wp2_with (first | (refine zai rfl 153 (.tmp 10) (.tmp 65) rfl w7.heap.size zeroV rfl rfl 153 _ (zak w7 _ _ rfl) (za4 _ rfl _ _ _ _ _ _ _) rfl (zbb _ _ _ _ _ _ _ _) ?_; intro w8 hU8; have h18 := hU8.old (zam h17 _) ne7; have hbel8 := hU8.below (hbel7.alloc hbel7.size _) hbel7.size) | (refine zao rfl 29 _ rfl _ rfl _ built_zeroE ?_) | (refine zai rfl 29 (.tmp 4) (.tmp 69) rfl (w.heap.size + 1) zeroE rfl rfl 29 _ h18 (zbv rfl _ _ _) rfl (one_enV _ _ _ _) ?_; intro w9 hU9))
    refine bodyPost_ret (v := .tuple #[.agg zeroE.toArray, .bool false]) ?_ rfl ⟨by rw [E1.out, E2.out], hU9.below hbel8 (by omega)⟩; rw [zav rfl _ _ _ _ _ _ _ rfl hU9.at_ Tryz.underlying29 rfl (zbv rfl _ _ _)]; rfl
   | true =>
    have E1 := Lib.hid (HE.out true hmy).1; have E2 := Lib.hid (show backV p l = enV (lpnI (M : Int)) (seqI (M : Int)) (roleI (M : Int)) D from (HE.out true hmy).2); have HO := Lib.hid (show ownV D (roleI (M : Int)) (lpnI (M : Int)) (seqI (M : Int)) p.b p.o p.m = shV D (roleI (M : Int)) (lpnI (M : Int)) (seqI (M : Int)) 1 p.b p.o p.m by unfold ownV; rw [hmy]; rfl); rw [HO.out]; clear hmy; rintro e w7 ⟨rfl, hb7⟩; have h17 := zad h16 hb7; have h97 := zad h96 hb7; have hbel7 := hbel6.trans (hb7.mono hbel6.size); have ne7 : w.heap.size + 1 ≠ w7.heap.size := by have := zag h17; omega
    have ne9 : w4.heap.size ≠ w7.heap.size := by have := zag h97; omega
    clear hb7 h06 h16 h96 hbel6 c16 c17 c18 c19 c20 c21 c22; go_wp2_with (first | (refine zai rfl 153 (.tmp 10) (.tmp 65) rfl w7.heap.size (shV D (roleI (M : Int)) (lpnI (M : Int)) (seqI (M : Int)) 1 p.b p.o p.m) rfl rfl 153 _ (zak w7 _ _ rfl) hVo (by rw [hVol.out]; rfl) (zbb _ _ _ _ _ _ _ _) ?_; intro w8 hU8; have h18 := hU8.old (zam h17 _) ne7; have h98 := hU8.old (zam h97 _) ne9; have hbel8 := hU8.below (hbel7.alloc hbel7.size _) hbel7.size) | (refine wpList_load_mid rfl 29 (.tmp 9) rfl w4.heap.size 0 rfl _ _ (zal h98) Tryz.underlying29 rfl hE1 ?_) | (refine zai rfl 29 (.tmp 4) (.tmp 70) rfl (w.heap.size + 1) (enV (lpnI (M : Int)) (seqI (M : Int)) (roleI (M : Int)) D) rfl rfl 29 _ h18 hE1 (by rw [hE1l.out]; rfl) (one_enV _ _ _ _) ?_; intro w9 hU9))
    refine bodyPost_ret (v := .tuple #[.agg (enV (lpnI (M : Int)) (seqI (M : Int)) (roleI (M : Int)) D).toArray, .bool true]) ?_ rfl ⟨by rw [E1.out, E2.out], hU9.below hbel8 (by omega)⟩; rw [zav rfl _ _ _ _ _ _ _ rfl hU9.at_ Tryz.underlying29 rfl hE1]; rfl
end Go.Proofs.YtpbigfopmompfaaGreat
namespace Go.Proofs.YtpbigfopmompfaaGreat
open Go.RowKit
set_option maxRecDepth 100000 in
set_option maxHeartbeats 8000000 in
theorem back_none (p : Sh) (l : List Sh) (A : Option Addr) (n c B : Nat) (w : World) (hp : p.ok) (hr : Rds w B A 23 n (shs l)) (hB : B ≤ w.heap.size) (hok : ∀ x ∈ l, x.ok) (hn : n ≤ 1000) (hc : backC p l = false) :
 Calls Tryz.prog 117 #[.agg p.v.toArray, .slice A n c] w fun e w' => e = .returned (.tuple #[.agg (backV p l).toArray, .bool (backB p l)]) ∧ Below w.heap.size w w' := by
 have hl : l.length = n := by have := hr.1; rwa [shs, List.length_map] at this
 have E1 : backB p l = false := by unfold backB; rw [hc]; rfl
 have E2 : backV p l = zeroE := by unfold backV; rw [E1]; rfl
 rw [E1, E2]
 have hs7 : 0 ≤ slotsI p.m ∧ slotsI p.m ≤ 7 := by have := countI_le p.m; unfold slotsI; split <;> omega
 obtain ⟨hs0, hs7⟩ := hs7
 unfold backC at hc
 rw [hl] at hc
 generalize ha : anyAlien p l = a at *
 have HA := Lib.hid ha
 have HP := Lib.hid hp
 have HOk := Lib.hid hok
 have hV := za4 p.d hp.1 p.r p.l p.s p.k p.b p.o p.m
 have h0 := zbi w (.cells p.v.toArray 153) (.cells zeroE.toArray 29)
 have h1 := zak (w.alloc (.cells p.v.toArray 153)) (.cells zeroE.toArray 29) (w.heap.size + 1) (by simp)
 have hbel := below2 w (.cells p.v.toArray 153) (.cells zeroE.toArray 29)
 have hr1 := hr.below hbel hB
 have HCc := Lib.hid hc
 clear ha hl hok hr E1 E2 hc
 go_enter Tryz.func117, Tryz.ntmps117
 go_upto_region 1 with fail
 change Code.wp _ _ _ _ ((w.alloc (.cells p.v.toArray 153)).alloc (.cells zeroE.toArray 29))
 have hsz1 : B ≤ ((w.alloc (.cells p.v.toArray 153)).alloc (.cells zeroE.toArray 29)).heap.size := by simp; omega
 generalize (w.alloc (.cells p.v.toArray 153)).alloc (.cells zeroE.toArray 29) = w1 at *
 go_wp2_with fail
 refine (containsSh p _ _ _ _ _ l _ h0 HP.out hr1 hsz1 HOk.out hn).mono ?_
 rw [HA.out]
 rintro e w2 ⟨rfl, hb2⟩
 have h02 := zad h0 hb2
 have h12 := zad h1 hb2
 have hbel2 := hbel.trans (hb2.mono hbel.size)
 have H02 := Lib.hid h02
 obtain ⟨c16, c17, c18, c19, c20, c21, c22⟩ := za6 HP.out.1 h02
 clear h0 h1 hr1 hbel hsz1 hb2 h02
 by_cases hk : p.k = 2
 · have t1 : (p.k != 2) = false := by simpa using hk
   have k2 : (p.k == 2) = true := by simpa using hk
   cases hm : p.may with
   | false =>
    have HM := Lib.hid (show maySh p.d p.r p.l p.s p.k p.b p.o p.m = false from hm); clear hm hk k2; go_wp2_with (first | (refine zat 153 (.tmp 2) rfl w.heap.size 0 rfl rfl _ _ (zal H02.out) Tryz.underlying153 rfl hV ?_))
    refine (zbj _ _ _ _ _ _ _ _ _ HP.out.1 HP.out.2).mono ?_; rw [HM.out]; rintro e w3 ⟨rfl, hb3⟩; have h13 := zad h12 hb3; have hbel3 := hbel2.trans (hb3.mono hbel2.size); clear c16 c17 c18 c19 c20 c21 c22 hb3 h12 hbel2; go_wp2_with (first | (refine zao rfl 29 _ rfl _ rfl _ built_zeroE ?_) | (refine zai rfl 29 (.tmp 4) (.tmp 35) rfl (w.heap.size + 1) zeroE rfl rfl 29 _ h13 (zbv rfl _ _ _) rfl (one_enV _ _ _ _) ?_; intro w9 hU9))
    refine bodyPost_ret (v := .tuple #[.agg zeroE.toArray, .bool false]) ?_ rfl ⟨rfl, hU9.below hbel3 (by omega)⟩; rw [zav rfl _ _ _ _ _ _ _ rfl hU9.at_ Tryz.underlying29 rfl (zbv rfl _ _ _)]; rfl
   | true =>
    have HM := Lib.hid (show maySh p.d p.r p.l p.s p.k p.b p.o p.m = true from hm); have hc2 := HCc.out; rw [k2, hm, Bool.true_and, Bool.true_and] at hc2; cases a with
    | true =>
     clear hm hk k2 hc2; go_wp2_with (first | (refine zat 153 (.tmp 2) rfl w.heap.size 0 rfl rfl _ _ (zal H02.out) Tryz.underlying153 rfl hV ?_))
     refine (zbj _ _ _ _ _ _ _ _ _ HP.out.1 HP.out.2).mono ?_; rw [HM.out]; rintro e w3 ⟨rfl, hb3⟩; have h13 := zad h12 hb3; have hbel3 := hbel2.trans (hb3.mono hbel2.size); clear c16 c17 c18 c19 c20 c21 c22 hb3 h12 hbel2; go_wp2_with (first | (refine zao rfl 29 _ rfl _ rfl _ built_zeroE ?_) | (refine zai rfl 29 (.tmp 4) (.tmp 35) rfl (w.heap.size + 1) zeroE rfl rfl 29 _ h13 (zbv rfl _ _ _) rfl (one_enV _ _ _ _) ?_; intro w9 hU9))
     refine bodyPost_ret (v := .tuple #[.agg zeroE.toArray, .bool false]) ?_ rfl ⟨rfl, hU9.below hbel3 (by omega)⟩; rw [zav rfl _ _ _ _ _ _ _ rfl hU9.at_ Tryz.underlying29 rfl (zbv rfl _ _ _)]; rfl
    | false =>
     have t4 : ((n : Int) != slotsI p.m - 1) = true := by
      rw [bne_iff_ne]; intro h; rw [h] at hc2; simp at hc2
     clear hm hk k2 hc2; go_wp2_with (first | (refine zat 153 (.tmp 2) rfl w.heap.size 0 rfl rfl _ _ (zal H02.out) Tryz.underlying153 rfl hV ?_))
     refine (zbj _ _ _ _ _ _ _ _ _ HP.out.1 HP.out.2).mono ?_; rw [HM.out]; rintro e w3 ⟨rfl, hb3⟩; have h13 := zad h12 hb3; have hbel3 := hbel2.trans (hb3.mono hbel2.size); have h03 := zad H02.out hb3; clear c16 c17 c18 c19 c20 c21 c22 hb3 h12 hbel2; obtain ⟨c16, c17, c18, c19, c20, c21, c22⟩ := za6 HP.out.1 h03; clear h03; go_wp2_with (first | (go_at_call 68; refine (slots_any _ _).mono ?_; rintro e w' ⟨rfl, rfl⟩) | (refine zao rfl 29 _ rfl _ rfl _ built_zeroE ?_) | (refine zai rfl 29 (.tmp 4) (.tmp 35) rfl (w.heap.size + 1) zeroE rfl rfl 29 _ h13 (zbv rfl _ _ _) rfl (one_enV _ _ _ _) ?_; intro w9 hU9))
     refine bodyPost_ret (v := .tuple #[.agg zeroE.toArray, .bool false]) ?_ rfl ⟨rfl, hU9.below hbel3 (by omega)⟩; rw [zav rfl _ _ _ _ _ _ _ rfl hU9.at_ Tryz.underlying29 rfl (zbv rfl _ _ _)]; rfl
 · have t1 : (p.k != 2) = true := by simpa using hk
   clear hk; go_wp2_with (first | (refine zao rfl 29 _ rfl _ rfl _ built_zeroE ?_) | (refine zai rfl 29 (.tmp 4) (.tmp 35) rfl (w.heap.size + 1) zeroE rfl rfl 29 _ h12 (zbv rfl _ _ _) rfl (one_enV _ _ _ _) ?_; intro w9 hU9))
   refine bodyPost_ret (v := .tuple #[.agg zeroE.toArray, .bool false]) ?_ rfl ⟨rfl, hU9.below hbel2 (by omega)⟩; rw [zav rfl _ _ _ _ _ _ _ rfl hU9.at_ Tryz.underlying29 rfl (zbv rfl _ _ _)]; rfl
theorem back_any (p : Sh) (l : List Sh) (A : Option Addr) (n c B : Nat) (w : World) (hp : p.ok) (hr : Rds w B A 23 n (shs l)) (hB : B ≤ w.heap.size) (hok : ∀ x ∈ l, x.ok) (hn : n ≤ 1000) (hA : ∀ a, A = some a → a.spot = none) :
 Calls Tryz.prog 117 #[.agg p.v.toArray, .slice A n c] w fun e w' => e = .returned (.tuple #[.agg (backV p l).toArray, .bool (backB p l)]) ∧ Below w.heap.size w w' := by
 cases hc : backC p l with
 | true => exact back_main p l A n c B w hp hr hB hok hn hA hc
 | false => exact back_none p l A n c B w hp hr hB hok hn hc
end Go.Proofs.YtpbigfopmompfaaGreat
