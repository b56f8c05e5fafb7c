import Derived.Test.YtpbigfopmompfaaGreatBunU
import Derived.Deep.DeepCutAuto
import Derived.Deep.QuietTactic
import Derived.BigQuiet
/- Both tallies, with some operations done: the walk. -/
namespace Go.Proofs.YtpbigfopmompfaaGreat.tls
open Go.RowKit
open Go.Proofs.YtpbigfopmompfaaGreat.tal
open Go.Proofs.YtpbigfopmompfaaGreat.nand (zax za3 kindO)
set_option linter.unusedVariables false
set_option maxRecDepth 100000 in
set_option maxHeartbeats 16000000 in
theorem tallies_any (a b c : Int) (A : Option Addr) (n cp : Nat) (l : List Op7) (w : World) (hr : Rds w w.heap.size A 27 n (l.map Op7.v)) (hg : ∀ x ∈ l, x.good) (hn : n ≤ cp) (hcp : cp ≤ maxLen) (D B P : Nat) (hD : (D : Int) = 3 + a % 4) (hB : (B : Int) = 8 + b % 9) (hP : (P : Int) = 2 + c % 7) :
 Calls Tryz.prog 39 #[.agg #[.int .i64 a, .int .i64 b, .int .i64 c], .slice A n cp] w (Post w D B P (run (Ty.new D B P) (l.take 50))) := by
 unfold maxLen at hcp
 have HG := Lib.hid (show 3 ≤ D ∧ D ≤ 6 ∧ 8 ≤ B ∧ B ≤ 16 ∧ 2 ≤ P ∧ P ≤ 8 by omega)
 have HGA := Lib.hid (geo_any a b c)
 rw [← hD, ← hB, ← hP] at HGA
 have hb0 := zax w (.cells #[.int .i64 a, .int .i64 b, .int .i64 c] 39)
 have he := zak w (.cells #[.int .i64 a, .int .i64 b, .int .i64 c] 39) _ rfl
 have HB0 := Lib.hid hb0
 have HE0 := Lib.hid he
 have HRD := Lib.hid hr
 have HGD := Lib.hid hg
 have hs0 := hb0.size
 clear hD hB hP hb0 he hr hg
 go_enter Tryz.func39, Tryz.ntmps39
 go_upto_region 1 with fail
 change Code.wp _ _ _ _ (w.alloc (.cells #[.int .i64 a, .int .i64 b, .int .i64 c] 39))
 generalize w.alloc (.cells #[.int .i64 a, .int .i64 b, .int .i64 c] 39) = wa at *
 have c0 : wa.cell? ⟨w.heap.size, 0, none⟩ = some (.int .i64 a) := by rw [zaf HE0.out]; rfl
 have c1 : wa.cell? ⟨w.heap.size, 1, none⟩ = some (.int .i64 b) := by rw [zaf HE0.out]; rfl
 have c2 : wa.cell? ⟨w.heap.size, 2, none⟩ = some (.int .i64 c) := by rw [zaf HE0.out]; rfl
 go_wp2_with fail
 refine (HGA.out _).mono ?_
 rintro e w2 ⟨rfl, hb2⟩
 have he2 := zad HE0.out hb2
 have hB2 := HB0.out.trans (hb2.mono HB0.out.size)
 clear hb2 c0 c1 c2 HGA hs0
 go_upto_region 2 with (first | (refine zai rfl 39 (.tmp 2) (.tmp 22) rfl w.heap.size (tal.geoV D B P) rfl rfl 39 _ he2 nand.geoInfo rfl (fun u hu => by simp [tal.geoV] at hu; rcases hu with rfl | rfl | rfl <;> rfl) ?_; intro w3 hU3; have he3 := hU3.at_; have hB3 := hU3.below hB2 (Nat.le_refl _); clear hU3 he2 hB2))
 have hs3 := hB3.size
 go_simp
 go_cut [8, 9] (fun v8 v9 wx => R2 w D B P v8 v9 wx)
 case first =>
  as_aux_lemma =>
  refine zan (by kernel_rfl) (by kernel_rfl) (X := X5) (fun x => [(some 23, .agg (tal.geoV D B P).toArray), (some 24, .pointer (some ⟨x.gt, 0, none⟩)), (some 25, .agg (tal.geoV D B P).toArray), (some 26, .agg (refV (Ty.new D B P)).toArray), (some 27, .pointer (some ⟨x.WB, 0, none⟩)), (some 8, x.v8), (some 9, x.v9)])
   (fun x L w' => w'.heap[w.heap.size]? = some (.cells (tal.geoV D B P).toArray 39 (0, 0)) ∧ (L 1 = true → TalAt w' x.gt x.lb (Ty.new D B P) ∧ w.heap.size ≤ x.gt ∧ w.heap.size ≤ x.lb) ∧ (L 4 = true → w'.heap[x.WB]? = some (.cells (refV (Ty.new D B P)).toArray 71 (0, 0)) ∧ w.heap.size ≤ x.WB) ∧ (L 5 = true → L 1 = true ∧ x.v8 = .pointer (some ⟨x.gt, 0, none⟩)) ∧ (L 6 = true → L 4 = true ∧ x.v9 = .pointer (some ⟨x.WB, 0, none⟩)) ∧ Below w.heap.size w w')
   (fun _ => rfl) (by kernel_rfl) ⟨⟨0, 0, 0, undef, undef⟩, fun L hL => ⟨he3, (by rw [hL 1]; intro h; cases h), (by rw [hL 4]; intro h; cases h), (by rw [hL 5]; intro h; cases h), (by rw [hL 6]; intro h; cases h), hB3.drew⟩⟩ ?_ ?_
  · refine ⟨?_, ?_, ?_, ?_, ?_, ?_, ?_, trivial⟩
    · intro x L w' hL hpre hJ a ha
      obtain ⟨je, j1, j4, j5, j6, jb⟩ := hJ; simp [Region.binds] at hpre; refine .inl ⟨zaa rfl, ?_⟩; exact wp_load_mid 39 (.tmp 2) rfl w.heap.size 0 (by rw [ha, zac rfl]; rfl) (tal.geoV D B P) _ (zal je) Tryz.underlying39 rfl nand.geoInfo ⟨x, _, rfl, rfl, je, j1, j4, j5, j6, jb⟩
    · intro x L w' hL hpre hJ a ha
      obtain ⟨je, j1, j4, j5, j6, jb⟩ := hJ; simp [Region.binds] at hpre; refine .inl ⟨zaa rfl, ?_⟩; have e23 : a.eval (.tmp 23) = .agg (tal.geoV D B P).toArray := evP ha 0 rfl (by simp [hpre]) (by simp) rfl; have hc := Lib.hid (tal.new_any w' D B P HG.out); have HJ := Lib.hid (And.intro je (And.intro j4 (And.intro j6 jb)))
      have HL5 := Lib.hid (show L 5 = false from by
       cases h : L 5 with
       | false => rfl
       | true => exact absurd (j5 h).1 (by simp [hL]))
      clear ha je j1 j4 j5 j6 jb; refine zab fun K HK => ?_; unfold Oper.wp; simp only [execOp, resolve, List.map_toArray, List.map_cons, List.map_nil, e23]; go_simp; refine hc.out.mono ?_; rintro e w'' ⟨gt, lb, rfl, ht, h1, h2, hb⟩; have hz := HJ.out.2.2.2.size; exact HK.out _ _ ⟨⟨gt, lb, x.WB, x.v8, x.v9⟩, _, rfl, rfl, zad HJ.out.1 hb, (fun _ => ⟨ht, Nat.le_trans hz h1, Nat.le_trans hz h2⟩), (fun h => ⟨zad (HJ.out.2.1 h).1 hb, (HJ.out.2.1 h).2⟩), (fun h => absurd (HL5.out.symm.trans h) (by simp)), HJ.out.2.2.1, HJ.out.2.2.2.trans (hb.mono HJ.out.2.2.2.size)⟩
    · intro x L w' hL hpre hJ a ha
      obtain ⟨je, j1, j4, j5, j6, jb⟩ := hJ; simp [Region.binds] at hpre; refine .inl ⟨zaa rfl, ?_⟩; exact wp_load_mid 39 (.tmp 2) rfl w.heap.size 0 (by rw [ha, zac rfl]; rfl) (tal.geoV D B P) _ (zal je) Tryz.underlying39 rfl nand.geoInfo ⟨x, _, rfl, rfl, je, j1, j4, j5, j6, jb⟩
    · intro x L w' hL hpre hJ a ha
      obtain ⟨je, j1, j4, j5, j6, jb⟩ := hJ; simp [Region.binds] at hpre; refine .inl ⟨zaa rfl, ?_⟩; have e25 : a.eval (.tmp 25) = .agg (tal.geoV D B P).toArray := evP ha 2 rfl (by simp [hpre]) (by simp) rfl; exact wp_build' 71 _ rfl [(0, .agg (tal.geoV D B P).toArray)] (by simp only [List.map_cons, List.map_nil, e25]) _ (built_rt D B P) ⟨x, _, rfl, rfl, je, j1, j4, j5, j6, jb⟩
    · intro x L w' hL hpre hJ a ha
      obtain ⟨je, j1, j4, j5, j6, jb⟩ := hJ; simp [Region.binds] at hpre; refine .inl ⟨zaa rfl, ?_⟩; have e26 : a.eval (.tmp 26) = .agg (refV (Ty.new D B P)).toArray := evP ha 3 rfl (by simp [hpre]) (by simp) rfl
      have HL6 := Lib.hid (show L 6 = false from by
       cases h : L 6 with
       | false => rfl
       | true => exact absurd (j6 h).1 (by simp [hL]))
      refine wp_box' 71 _ rfl _ e26 ?_; exact ⟨⟨x.gt, x.lb, w'.heap.size, x.v8, x.v9⟩, _, rfl, rfl, zam je _, (fun h => ⟨(j1 h).1.below (zax w' _), (j1 h).2⟩), (fun _ => ⟨zak w' _ _ rfl, jb.size⟩), j5, (fun h => absurd (HL6.out.symm.trans h) (by simp)), jb.alloc jb.size _⟩
    · intro x L w' hL hpre hJ a ha
      obtain ⟨je, j1, j4, j5, j6, jb⟩ := hJ; simp [Region.binds] at hpre; refine .inl ⟨zaa rfl, ?_⟩; have p1 : L 1 = true := by simp [hpre]
      have e24 : a.eval (.tmp 24) = .pointer (some ⟨x.gt, 0, none⟩) := by rw [ha]; exact za2 (i := 1) rfl p1 (by simp) rfl
      exact zah (.tmp 24) (.inr rfl) _ e24 ⟨⟨x.gt, x.lb, x.WB, .pointer (some ⟨x.gt, 0, none⟩), x.v9⟩, _, rfl, rfl, je, j1, j4, (fun _ => ⟨p1, rfl⟩), j6, jb⟩
    · intro x L w' hL hpre hJ a ha
      obtain ⟨je, j1, j4, j5, j6, jb⟩ := hJ; simp [Region.binds] at hpre; refine .inl ⟨zaa rfl, ?_⟩; have p4 : L 4 = true := by simp [hpre]
      have e27 : a.eval (.tmp 27) = .pointer (some ⟨x.WB, 0, none⟩) := by rw [ha]; exact za2 (i := 4) rfl p4 (by simp) rfl
      exact zah (.tmp 27) (.inr rfl) _ e27 ⟨⟨x.gt, x.lb, x.WB, x.v8, .pointer (some ⟨x.WB, 0, none⟩)⟩, _, rfl, rfl, je, j1, j4, j5, (fun _ => ⟨p4, rfl⟩), jb⟩
  · intro x L w' hL hJ
    obtain ⟨je, j1, j4, j5, j6, jb⟩ := hJ; have q1 := j1 (hL 1 (by decide)); have q4 := j4 (hL 4 (by decide)); have q5 := (j5 (hL 5 (by decide))).2; have q6 := (j6 (hL 6 (by decide))).2; have HR := Lib.hid (show R2 w D B P x.v8 x.v9 w' from ⟨x.gt, x.lb, x.WB, q5, q6, q1.1, q4.1, je, jb, q1.2.1, q1.2.2, q4.2⟩); clear q1 q4 q5 q6 je j1 j4 j5 j6 jb hL; simp only [List.foldl_cons, List.foldl_nil]; go_simp; go_wp2_with fail
    go_meet
    exact HR.out
 case rest =>
  obtain ⟨gt, lb, WB, rfl, rfl, ht, hwb, hge, hbl, g1, g2, g3⟩ := hcut; have HT := Lib.hid ht; have HWB := Lib.hid hwb; have HGE := Lib.hid hge; have HBL := Lib.hid hbl; clear ht hwb hge hbl he3 hB3 hs3; go_wp2_with fail
  have hN : Calls Tryz.prog 15 #[.int .i64 40] wc _ := tab.new_any wc 40 (by decide); refine hN.mono ?_; rintro e w4 ⟨g, mb, cb, rfl, htb, k1, k2, k3, hb4⟩; have HTB := Lib.hid htb; have HB4 := Lib.hid hb4; clear hN htb hb4; go_wp2_with fail
  refine (rtab.new40 w4).mono ?_; rintro e w5 ⟨tb, rb, rfl, hrt, k4, k5, hb5⟩; have hsz := HBL.out.size; have hsz4 := HB4.out.size; have hbl5 := HB4.out.trans (hb5.mono hsz4)
  have HS := Lib.hid (show Sta w D B P gt lb WB g mb cb tb rb w.heap.size 0 (Ty.new D B P) (Ty.new D B P) w5 from
   ⟨HT.out.below hbl5, ⟨rfl, rfl, rfl⟩, zad HWB.out hbl5, ⟨_, HTB.out.below hb5⟩, ⟨_, _, hrt⟩, zad HGE.out hbl5, HBL.out.trans (hbl5.mono hsz), fun k hk => by
    rcases hk with (rfl | rfl) | rfl | (rfl | rfl | rfl) | (rfl | rfl) <;> omega⟩)
  clear hrt hb5 hbl5 HT HWB HGE HTB HB4 HBL g1 g2 g3 k1 k2 k3 k4 k5 hsz hsz4; go_wp2_with fail
  go_loopw [12, 13, 14, 15] (fun vi _ _ _ wr => ∃ i : Nat, i ≤ n ∧ i ≤ 50 ∧ vi = .int .i64 i ∧ Sta w D B P gt lb WB g mb cb tb rb w.heap.size (3 * i) (run (Ty.new D B P) (l.take i)) (run (Ty.new D B P) (l.take i)) wr) (fun vi _ _ _ _ => n - (intOf vi).toNat)
  case atStart => exact ⟨0, by omega, by omega, rfl, by rw [List.take_zero]; exact HS.out⟩
  case round =>
   obtain ⟨i, hi, hi50, rfl, hs⟩ := hrel; have HST := Lib.hid hs; clear hs HS; by_cases hgo : i < n ∧ i < 50
   · obtain ⟨hlt, hl50⟩ := hgo
     have hxi : i < l.length := by have := HRD.out.1; simp at this; omega
     obtain ⟨x, hx⟩ : ∃ x, l[i]? = some x := ⟨_, List.getElem?_eq_getElem hxi⟩; have hxg : x.good := HGD.out x (List.mem_of_getElem? hx); obtain ⟨pb, po, hA, hpb, hrg⟩ := za8 (HRD.out.below HST.out.below (Nat.le_refl _)) hlt (r := x.v) (by simp [hx]); subst hA; have HX := Lib.hid hxg; have iX := opInfo hxg; have HLX := Lib.hid (show 27 = x.v.length from hxg.len.symm); have HTK := Lib.hid (show l.take (i + 1) = l.take i ++ [x] by rw [List.take_add_one, hx]; rfl); clear hx hxi hxg; obtain ⟨Y, hY⟩ : ∃ Y, Y = run (Ty.new D B P) (l.take i) := ⟨_, rfl⟩; rw [← hY] at HST; have HY := Lib.hid (show run (Ty.new D B P) (l.take (i + 1)) = step Y x by rw [HTK.out, run, List.foldl_append, hY]; rfl); clear hY HTK; go_upto_region 8 with (first | (refine wpList_load_mid rfl 52 (.tmp 42) rfl pb (po + i * 27) rfl x.v _ hrg Tryz.underlying52 rfl iX ?_) | (refine zai rfl 52 (.tmp 13) (.tmp 43) rfl wr.heap.size x.v rfl rfl 52 _ (zak wr _ _ rfl) iX ?_ (one_op x) ?_; exact HLX.out; intro w6 hU6; have ho6 := hU6.at_; have hl6 := hU6.below (zax wr _) (Nat.le_refl _); clear hU6 hrg iX HLX))
     have HS6 := Lib.hid (HST.out.later hl6); have HO6 := Lib.hid ho6; obtain ⟨OB, hOB⟩ : ∃ OB, OB = wr.heap.size := ⟨_, rfl⟩; rw [← hOB] at HO6 ⊢; clear hl6 ho6 HST hOB; obtain ⟨cm, cd, cbl, cn⟩ := op_m HX.out HO6.out; have cg1 : w6.cell? ⟨w.heap.size, 1, none⟩ = some (.int .i64 (B : Int)) := by rw [zaf HS6.out.geo]; rfl
     have cg0 : w6.cell? ⟨w.heap.size, 0, none⟩ = some (.int .i64 (D : Int)) := by rw [zaf HS6.out.geo]; rfl
     have hB16 := HG.out; obtain ⟨ib, hib⟩ : ∃ ib, ib = inB B x.bl := ⟨_, rfl⟩; obtain ⟨id, hid⟩ : ∃ id, id = inB D x.di := ⟨_, rfl⟩; have HIB := Lib.hid hib; have HID := Lib.hid hid; clear hib hid hB16; go_simp; go_cut [14] (fun v wx => v = .bool ib ∧ wx = w6)
     case first =>
      as_aux_lemma =>
      by_cases h0 : 0 ≤ x.bl
      · by_cases h1 : x.bl < (B : Int)
        · have HF := Lib.hid (show ib = true by rw [HIB.out]; simp [inB, h0, h1])
          go_wp2_with fail
          go_meet
          exact ⟨by rw [HF.out], rfl⟩
        · have HF := Lib.hid (show ib = false by rw [HIB.out]; simp [inB, h1])
          go_wp2_with fail
          go_meet
          exact ⟨by rw [HF.out], rfl⟩
      · have HF := Lib.hid (show ib = false by rw [HIB.out]; simp [inB, h0])
        go_wp2_with fail
        go_meet
        exact ⟨by rw [HF.out], rfl⟩
     case rest =>
     obtain ⟨rfl, rfl⟩ := hcut; go_upto_region 9 with fail
     go_cut [15] (fun v wx => v = .bool id ∧ wx = wc)
     case first =>
      as_aux_lemma =>
      by_cases h0 : 0 ≤ x.di
      · by_cases h1 : x.di < (D : Int)
        · have HF := Lib.hid (show id = true by rw [HID.out]; simp [inB, h0, h1])
          go_wp2_with fail
          go_meet
          exact ⟨by rw [HF.out], rfl⟩
        · have HF := Lib.hid (show id = false by rw [HID.out]; simp [inB, h1])
          go_wp2_with fail
          go_meet
          exact ⟨by rw [HF.out], rfl⟩
      · have HF := Lib.hid (show id = false by rw [HID.out]; simp [inB, h0])
        go_wp2_with fail
        go_meet
        exact ⟨by rw [HF.out], rfl⟩
     case rest =>
     obtain ⟨rfl, rfl⟩ := hcut; obtain ⟨wz, rfl⟩ : ∃ wo : World, wo = wc := ⟨_, rfl⟩; have ck := op_k HO6.out; have HBL := Lib.hid HS6.out.below; clear cg0 cg1 cm cd cbl cn; have FIN : Hid (∀ wn Y', Sta w D B P gt lb WB g mb cb tb rb w.heap.size (3 * i + 3) Y' Y' wn → Y' = step Y x → ∃ i_1 : Nat, i_1 ≤ n ∧ i_1 ≤ 50 ∧ Value.int .i64 ((i : Int) + 1) = .int .i64 i_1 ∧ Sta w D B P gt lb WB g mb cb tb rb w.heap.size (3 * i_1) (run (Ty.new D B P) (l.take i_1)) (run (Ty.new D B P) (l.take i_1)) wn) := Lib.hid fun wn Y' h e => ⟨i + 1, by omega, by omega, by go_num, by rw [HY.out, ← e]; exact h⟩
     have HDB := Lib.hid HS6.out.dim; have HG16 := HG.out; have hB16 : B ≤ 16 := HG16.2.2.2.1; have hD6 : D ≤ 6 := HG16.2.1; clear HG16; by_cases q1 : x.k = 1
     · as_aux_lemma =>
       have r1 : (x.k == (1 : Int)) = true := by rw [q1]; rfl
       have HSt := Lib.hid (show step Y x = Y.wore x.bl x.n by unfold step; simp [q1]); have HWO := Lib.hid (tal.wore_any HS6.out.ta x.bl x.n); obtain ⟨cm, cd, cbl, cn⟩ := op_m HX.out HO6.out; clear q1; go_wp2_with fail
       refine HWO.out.mono ?_; rintro e w7 ⟨rfl, hy7, hk7⟩; have HS7 := Lib.hid (HS6.out.tal' hk7 hy7 (upd_dim _ _ _)); have HO7 := Lib.hid (zay HO6.out hk7 (tal_ne HS6.out.ta HO6.out (by decide))); clear cm cd cbl cn ck hy7 hk7 HWO HBL; obtain ⟨cm, cd, cbl, cn⟩ := op_m HX.out HO7.out; cases ib with
       | false =>
        have HEq := Lib.hid (show Y.wore x.bl x.n = Y from upd_out HS6.out.ta.ok (by rw [HDB.out.2.1]; exact inB_false HIB.out.symm) _); have HSE := Lib.hid (eqSta HS7.out HEq.out); go_upto_region 15 with fail
        go_quiet (fail)
        go_wp2_with fail
        all_goals
         go_roundw
         case rel => exact FIN.out _ Y ((HSE.out.later (zau (Below.refl _ _) _)).mono (by omega)) (by rw [HSt.out, HEq.out])
         case measure => simp [intOf]; omega
       | true =>
        obtain ⟨β, hβ, hβB⟩ := inB_true HIB.out.symm; have hβ16 : β < 16 := by omega
        have hβI : (β : Int) < 16 := by omega
        have hβ0 : (0 : Int) ≤ (β : Int) := by omega
        have hlen := HS6.out.ta.ok.len; obtain ⟨s, hs⟩ : ∃ s, Y.sb[β]? = some s := ⟨_, List.getElem?_eq_getElem (by rw [hlen, HDB.out.2.1]; exact hβB)⟩; have HSB := Lib.hid hs; have HBE := Lib.hid hβ; clear hlen hβ hs; rw [HBE.out] at cbl; have cw := HS7.out.cell (at_wear HSB.out hβ16); have cf := HS7.out.free (3 + β); by_cases hgt : s.wear < x.n
        · have HEq := Lib.hid (show Y.wore x.bl x.n = { Y with sb := Y.sb.set β { s with wear := x.n } } by
           rw [HBE.out]; unfold Ty.wore; rw [upd_in HSB.out, show max s.wear x.n = x.n by omega])
          have HSE := Lib.hid (eqSta HS7.out HEq.out); go_upto_region 15 with fail
          go_quiet (fail)
          go_upto_region 16 with fail
          clear cm cd cbl cn cw cf hgt; refine zbq 8 (by kernel_rfl) (by kernel_rfl) ?_; intro wd hwd; have HSd := Lib.hid (HSE.out.later_eq (Below.drew (zau (Below.refl _ _) _)) hwd); have hod : wd.heap[OB]? = some (.cells x.v.toArray 52 (0, 0)) := by rw [hwd]; exact HO7.out
          obtain ⟨cm, cd, cbl, cn⟩ := op_m HX.out hod; have cw := HSd.out.cell (at_wear HSB.out hβ16); have cf := HSd.out.free (3 + β); rw [HBE.out] at cbl; clear hwd hod; simp only [List.take_succ_cons, List.take_zero, List.drop_succ_cons, List.drop_zero]; repeat (refine wpStill_step (fun K hK => ?_); go_simp; refine hK _ ?_; clear hK K)
          refine wpStill_nil ?_; go_wp2_with fail
          go_roundw
          case rel => exact FIN.out _ _ ((HSd.out.ref' (set_wear (s' := { s with wear := x.n }) HSB.out hβ16 rfl rfl rfl)).mono (by omega)) (by rw [HSt.out, HEq.out])
          case measure => simp [intOf]; omega
        · have HEq := Lib.hid (show Y.wore x.bl x.n = Y by
           rw [HBE.out]; unfold Ty.wore; rw [upd_in HSB.out, show max s.wear x.n = s.wear by omega]; exact set_same HSB.out)
          have HSE := Lib.hid (eqSta HS7.out HEq.out); go_upto_region 15 with fail
          go_quiet (fail)
          go_wp2_with fail
          all_goals
           go_roundw
           case rel => exact FIN.out _ Y ((HSE.out.later (zau (Below.refl _ _) _)).mono (by omega)) (by rw [HSt.out, HEq.out])
           case measure => simp [intOf]; omega
     · by_cases q2 : x.k = 2
       · as_aux_lemma =>
         have r1 : (x.k == (1 : Int)) = false := by rw [q2]; rfl
         have r2 : (x.k == (2 : Int)) = true := by rw [q2]; rfl
         have HSt := Lib.hid (show step Y x = Y.badN x.di x.bl by unfold step; simp [q2]); have HWO := Lib.hid (tal.bad_any HS6.out.ta x.di x.bl); obtain ⟨cm, cd, cbl, cn⟩ := op_m HX.out HO6.out; clear q2; go_wp2_with fail
         refine HWO.out.mono ?_; rintro e w7 ⟨rfl, hy7, hk7⟩; have HS7 := Lib.hid (HS6.out.tal' hk7 hy7 (bad_dim _ _ _)); have HO7 := Lib.hid (zay HO6.out hk7 (tal_ne HS6.out.ta HO6.out (by decide))); clear cm cd cbl cn ck hy7 hk7 HWO HBL; cases id with
         | false =>
          have HEq := Lib.hid (show Y.badN x.di x.bl = Y by unfold Ty.badN Ty.dieB; rw [HDB.out.1]; have := HID.out; unfold inB at this; rw [← this]; rfl); have HSE := Lib.hid (eqSta HS7.out HEq.out); go_wp2_with fail
          all_goals
           go_roundw
           case rel => exact FIN.out _ Y ((HSE.out).mono (by omega)) (by rw [HSt.out, HEq.out])
           case measure => simp [intOf]; omega
         | true =>
          have HDY := Lib.hid (show Y.dieB x.di = true by unfold Ty.dieB; rw [HDB.out.1]; exact HID.out.symm); cases ib with
          | false =>
           have HEq := Lib.hid (show Y.badN x.di x.bl = Y by unfold Ty.badN; rw [HDY.out, if_pos rfl]; exact upd_out HS6.out.ta.ok (by rw [HDB.out.2.1]; exact inB_false HIB.out.symm) _); have HSE := Lib.hid (eqSta HS7.out HEq.out); go_wp2_with fail
           all_goals
            go_roundw
            case rel => exact FIN.out _ Y ((HSE.out).mono (by omega)) (by rw [HSt.out, HEq.out])
            case measure => simp [intOf]; omega
          | true =>
           obtain ⟨β, hβ, hβB⟩ := inB_true HIB.out.symm; have hβ16 : β < 16 := by omega
           have hβI : (β : Int) < 16 := by omega
           have hβ0 : (0 : Int) ≤ (β : Int) := by omega
           have hlen := HS6.out.ta.ok.len; obtain ⟨s, hs⟩ : ∃ s, Y.sb[β]? = some s := ⟨_, List.getElem?_eq_getElem (by rw [hlen, HDB.out.2.1]; exact hβB)⟩; have HSB := Lib.hid hs; have HBE := Lib.hid hβ; clear hlen hβ hs; have hs64 : s.bad < 64 := HS6.out.ta.ok.bad _ (List.mem_of_getElem? HSB.out); obtain ⟨δ, hδ, hδD⟩ := inB_true HID.out.symm; clear HID; have h6 : δ = 0 ∨ δ = 1 ∨ δ = 2 ∨ δ = 3 ∨ δ = 4 ∨ δ = 5 := by omega
           rcases h6 with rfl | rfl | rfl | rfl | rfl | rfl
           · as_aux_lemma =>
             have HEq := Lib.hid (show Y.badN x.di x.bl = { Y with sb := Y.sb.set β { s with bad := orN s.bad 0 } } by unfold Ty.badN; rw [HDY.out, if_pos rfl, HBE.out, hδ, upd_in HSB.out]; rfl); have HSE := Lib.hid (eqSta HS7.out HEq.out); have hor : bits .or .i64 (s.bad : Int) 1 = ((orN s.bad 0 : Nat) : Int) := or_bits s.bad hs64 0 (by omega); replace hor : bits .or .i64 (s.bad : Int) (wrap64 1) = ((orN s.bad 0 : Nat) : Int) := by rw [za0 _ (by omega) (by omega)]; exact hor
             have HSet := Lib.hid (set_bad (s' := { s with bad := orN s.bad 0 }) HSB.out hβ16 rfl rfl rfl); obtain ⟨ob, hob⟩ : ∃ ob, ob = orN s.bad 0 := ⟨_, rfl⟩; rw [← hob] at hor HSet HSE HEq; clear hob; go_upto_region 20 with fail
             refine zbq 15 (by kernel_rfl) (by kernel_rfl) ?_; intro wd hwd; have HSd := Lib.hid (HSE.out.later_eq (Below.refl _ _).drew hwd); have hod : wd.heap[OB]? = some (.cells x.v.toArray 52 (0, 0)) := by rw [hwd]; exact HO7.out
             obtain ⟨cm, cd, cbl, cn⟩ := op_m HX.out hod; have cw := HSd.out.cell (at_bad HSB.out hβ16); have cf := HSd.out.free (19 + β); rw [hδ] at cd; replace cd : wd.cell? ⟨OB, 24, none⟩ = some (.int .i64 0) := cd; rw [HBE.out] at cbl; clear hwd hod hδ; simp only [List.take_succ_cons, List.take_zero, List.drop_succ_cons, List.drop_zero]; repeat (refine wpStill_step (fun K hK => ?_); go_simp; refine hK _ ?_; clear hK K)
             refine wpStill_nil ?_; go_wp2_with fail
             go_roundw
             case rel => exact FIN.out _ _ ((HSd.out.ref' HSet.out).mono (by omega)) (by rw [HSt.out, HEq.out])
             case measure => simp [intOf]; omega
           · as_aux_lemma =>
             have HEq := Lib.hid (show Y.badN x.di x.bl = { Y with sb := Y.sb.set β { s with bad := orN s.bad 1 } } by unfold Ty.badN; rw [HDY.out, if_pos rfl, HBE.out, hδ, upd_in HSB.out]; rfl); have HSE := Lib.hid (eqSta HS7.out HEq.out); have hor : bits .or .i64 (s.bad : Int) 2 = ((orN s.bad 1 : Nat) : Int) := or_bits s.bad hs64 1 (by omega); replace hor : bits .or .i64 (s.bad : Int) (wrap64 2) = ((orN s.bad 1 : Nat) : Int) := by rw [za0 _ (by omega) (by omega)]; exact hor
             have HSet := Lib.hid (set_bad (s' := { s with bad := orN s.bad 1 }) HSB.out hβ16 rfl rfl rfl); obtain ⟨ob, hob⟩ : ∃ ob, ob = orN s.bad 1 := ⟨_, rfl⟩; rw [← hob] at hor HSet HSE HEq; clear hob; go_upto_region 20 with fail
             refine zbq 15 (by kernel_rfl) (by kernel_rfl) ?_; intro wd hwd; have HSd := Lib.hid (HSE.out.later_eq (Below.refl _ _).drew hwd); have hod : wd.heap[OB]? = some (.cells x.v.toArray 52 (0, 0)) := by rw [hwd]; exact HO7.out
             obtain ⟨cm, cd, cbl, cn⟩ := op_m HX.out hod; have cw := HSd.out.cell (at_bad HSB.out hβ16); have cf := HSd.out.free (19 + β); rw [hδ] at cd; replace cd : wd.cell? ⟨OB, 24, none⟩ = some (.int .i64 1) := cd; rw [HBE.out] at cbl; clear hwd hod hδ; simp only [List.take_succ_cons, List.take_zero, List.drop_succ_cons, List.drop_zero]; repeat (refine wpStill_step (fun K hK => ?_); go_simp; refine hK _ ?_; clear hK K)
             refine wpStill_nil ?_; go_wp2_with fail
             go_roundw
             case rel => exact FIN.out _ _ ((HSd.out.ref' HSet.out).mono (by omega)) (by rw [HSt.out, HEq.out])
             case measure => simp [intOf]; omega
           · as_aux_lemma =>
             have HEq := Lib.hid (show Y.badN x.di x.bl = { Y with sb := Y.sb.set β { s with bad := orN s.bad 2 } } by unfold Ty.badN; rw [HDY.out, if_pos rfl, HBE.out, hδ, upd_in HSB.out]; rfl); have HSE := Lib.hid (eqSta HS7.out HEq.out); have hor : bits .or .i64 (s.bad : Int) 4 = ((orN s.bad 2 : Nat) : Int) := or_bits s.bad hs64 2 (by omega); replace hor : bits .or .i64 (s.bad : Int) (wrap64 4) = ((orN s.bad 2 : Nat) : Int) := by rw [za0 _ (by omega) (by omega)]; exact hor
             have HSet := Lib.hid (set_bad (s' := { s with bad := orN s.bad 2 }) HSB.out hβ16 rfl rfl rfl); obtain ⟨ob, hob⟩ : ∃ ob, ob = orN s.bad 2 := ⟨_, rfl⟩; rw [← hob] at hor HSet HSE HEq; clear hob; go_upto_region 20 with fail
             refine zbq 15 (by kernel_rfl) (by kernel_rfl) ?_; intro wd hwd; have HSd := Lib.hid (HSE.out.later_eq (Below.refl _ _).drew hwd); have hod : wd.heap[OB]? = some (.cells x.v.toArray 52 (0, 0)) := by rw [hwd]; exact HO7.out
             obtain ⟨cm, cd, cbl, cn⟩ := op_m HX.out hod; have cw := HSd.out.cell (at_bad HSB.out hβ16); have cf := HSd.out.free (19 + β); rw [hδ] at cd; replace cd : wd.cell? ⟨OB, 24, none⟩ = some (.int .i64 2) := cd; rw [HBE.out] at cbl; clear hwd hod hδ; simp only [List.take_succ_cons, List.take_zero, List.drop_succ_cons, List.drop_zero]; repeat (refine wpStill_step (fun K hK => ?_); go_simp; refine hK _ ?_; clear hK K)
             refine wpStill_nil ?_; go_wp2_with fail
             go_roundw
             case rel => exact FIN.out _ _ ((HSd.out.ref' HSet.out).mono (by omega)) (by rw [HSt.out, HEq.out])
             case measure => simp [intOf]; omega
           · as_aux_lemma =>
             have HEq := Lib.hid (show Y.badN x.di x.bl = { Y with sb := Y.sb.set β { s with bad := orN s.bad 3 } } by unfold Ty.badN; rw [HDY.out, if_pos rfl, HBE.out, hδ, upd_in HSB.out]; rfl); have HSE := Lib.hid (eqSta HS7.out HEq.out); have hor : bits .or .i64 (s.bad : Int) 8 = ((orN s.bad 3 : Nat) : Int) := or_bits s.bad hs64 3 (by omega); replace hor : bits .or .i64 (s.bad : Int) (wrap64 8) = ((orN s.bad 3 : Nat) : Int) := by rw [za0 _ (by omega) (by omega)]; exact hor
             have HSet := Lib.hid (set_bad (s' := { s with bad := orN s.bad 3 }) HSB.out hβ16 rfl rfl rfl); obtain ⟨ob, hob⟩ : ∃ ob, ob = orN s.bad 3 := ⟨_, rfl⟩; rw [← hob] at hor HSet HSE HEq; clear hob; go_upto_region 20 with fail
             refine zbq 15 (by kernel_rfl) (by kernel_rfl) ?_; intro wd hwd; have HSd := Lib.hid (HSE.out.later_eq (Below.refl _ _).drew hwd); have hod : wd.heap[OB]? = some (.cells x.v.toArray 52 (0, 0)) := by rw [hwd]; exact HO7.out
             obtain ⟨cm, cd, cbl, cn⟩ := op_m HX.out hod; have cw := HSd.out.cell (at_bad HSB.out hβ16); have cf := HSd.out.free (19 + β); rw [hδ] at cd; replace cd : wd.cell? ⟨OB, 24, none⟩ = some (.int .i64 3) := cd; rw [HBE.out] at cbl; clear hwd hod hδ; simp only [List.take_succ_cons, List.take_zero, List.drop_succ_cons, List.drop_zero]; repeat (refine wpStill_step (fun K hK => ?_); go_simp; refine hK _ ?_; clear hK K)
             refine wpStill_nil ?_; go_wp2_with fail
             go_roundw
             case rel => exact FIN.out _ _ ((HSd.out.ref' HSet.out).mono (by omega)) (by rw [HSt.out, HEq.out])
             case measure => simp [intOf]; omega
           · as_aux_lemma =>
             have HEq := Lib.hid (show Y.badN x.di x.bl = { Y with sb := Y.sb.set β { s with bad := orN s.bad 4 } } by unfold Ty.badN; rw [HDY.out, if_pos rfl, HBE.out, hδ, upd_in HSB.out]; rfl); have HSE := Lib.hid (eqSta HS7.out HEq.out); have hor : bits .or .i64 (s.bad : Int) 16 = ((orN s.bad 4 : Nat) : Int) := or_bits s.bad hs64 4 (by omega); replace hor : bits .or .i64 (s.bad : Int) (wrap64 16) = ((orN s.bad 4 : Nat) : Int) := by rw [za0 _ (by omega) (by omega)]; exact hor
             have HSet := Lib.hid (set_bad (s' := { s with bad := orN s.bad 4 }) HSB.out hβ16 rfl rfl rfl); obtain ⟨ob, hob⟩ : ∃ ob, ob = orN s.bad 4 := ⟨_, rfl⟩; rw [← hob] at hor HSet HSE HEq; clear hob; go_upto_region 20 with fail
             refine zbq 15 (by kernel_rfl) (by kernel_rfl) ?_; intro wd hwd; have HSd := Lib.hid (HSE.out.later_eq (Below.refl _ _).drew hwd); have hod : wd.heap[OB]? = some (.cells x.v.toArray 52 (0, 0)) := by rw [hwd]; exact HO7.out
             obtain ⟨cm, cd, cbl, cn⟩ := op_m HX.out hod; have cw := HSd.out.cell (at_bad HSB.out hβ16); have cf := HSd.out.free (19 + β); rw [hδ] at cd; replace cd : wd.cell? ⟨OB, 24, none⟩ = some (.int .i64 4) := cd; rw [HBE.out] at cbl; clear hwd hod hδ; simp only [List.take_succ_cons, List.take_zero, List.drop_succ_cons, List.drop_zero]; repeat (refine wpStill_step (fun K hK => ?_); go_simp; refine hK _ ?_; clear hK K)
             refine wpStill_nil ?_; go_wp2_with fail
             go_roundw
             case rel => exact FIN.out _ _ ((HSd.out.ref' HSet.out).mono (by omega)) (by rw [HSt.out, HEq.out])
             case measure => simp [intOf]; omega
           · as_aux_lemma =>
             have HEq := Lib.hid (show Y.badN x.di x.bl = { Y with sb := Y.sb.set β { s with bad := orN s.bad 5 } } by unfold Ty.badN; rw [HDY.out, if_pos rfl, HBE.out, hδ, upd_in HSB.out]; rfl); have HSE := Lib.hid (eqSta HS7.out HEq.out); have hor : bits .or .i64 (s.bad : Int) 32 = ((orN s.bad 5 : Nat) : Int) := or_bits s.bad hs64 5 (by omega); replace hor : bits .or .i64 (s.bad : Int) (wrap64 32) = ((orN s.bad 5 : Nat) : Int) := by rw [za0 _ (by omega) (by omega)]; exact hor
             have HSet := Lib.hid (set_bad (s' := { s with bad := orN s.bad 5 }) HSB.out hβ16 rfl rfl rfl); obtain ⟨ob, hob⟩ : ∃ ob, ob = orN s.bad 5 := ⟨_, rfl⟩; rw [← hob] at hor HSet HSE HEq; clear hob; go_upto_region 20 with fail
             refine zbq 15 (by kernel_rfl) (by kernel_rfl) ?_; intro wd hwd; have HSd := Lib.hid (HSE.out.later_eq (Below.refl _ _).drew hwd); have hod : wd.heap[OB]? = some (.cells x.v.toArray 52 (0, 0)) := by rw [hwd]; exact HO7.out
             obtain ⟨cm, cd, cbl, cn⟩ := op_m HX.out hod; have cw := HSd.out.cell (at_bad HSB.out hβ16); have cf := HSd.out.free (19 + β); rw [hδ] at cd; replace cd : wd.cell? ⟨OB, 24, none⟩ = some (.int .i64 5) := cd; rw [HBE.out] at cbl; clear hwd hod hδ; simp only [List.take_succ_cons, List.take_zero, List.drop_succ_cons, List.drop_zero]; repeat (refine wpStill_step (fun K hK => ?_); go_simp; refine hK _ ?_; clear hK K)
             refine wpStill_nil ?_; go_wp2_with fail
             go_roundw
             case rel => exact FIN.out _ _ ((HSd.out.ref' HSet.out).mono (by omega)) (by rw [HSt.out, HEq.out])
             case measure => simp [intOf]; omega
       · by_cases q3 : x.k = 3
         · as_aux_lemma =>
           have r1 : (x.k == (1 : Int)) = false := by rw [q3]; rfl
           have r2 : (x.k == (2 : Int)) = false := by rw [q3]; rfl
           have r3 : (x.k == (3 : Int)) = true := by rw [q3]; rfl
           have HSt := Lib.hid (show step Y x = Y.deadN x.di by unfold step; simp [q3]); have HWO := Lib.hid (tal.dead_any HS6.out.ta x.di); obtain ⟨cm, cd, cbl, cn⟩ := op_m HX.out HO6.out; clear q3; go_wp2_with fail
           refine HWO.out.mono ?_; rintro e w7 ⟨rfl, hy7, hk7⟩; have HS7 := Lib.hid (HS6.out.tal' hk7 hy7 (dead_dim _ _)); have HO7 := Lib.hid (zay HO6.out hk7 (tal_ne HS6.out.ta HO6.out (by decide))); clear cm cd cbl cn ck hy7 hk7 HWO HBL; cases id with
           | false =>
            have HEq := Lib.hid (show Y.deadN x.di = Y by unfold Ty.deadN Ty.dieB; rw [HDB.out.1]; have := HID.out; unfold inB at this; rw [← this]; rfl); have HSE := Lib.hid (eqSta HS7.out HEq.out); go_wp2_with fail
            all_goals
             go_roundw
             case rel => exact FIN.out _ Y ((HSE.out).mono (by omega)) (by rw [HSt.out, HEq.out])
             case measure => simp [intOf]; omega
           | true =>
            have HDY := Lib.hid (show Y.dieB x.di = true by unfold Ty.dieB; rw [HDB.out.1]; exact HID.out.symm); have hs64 : Y.dead < 64 := HS6.out.ta.ok.dead; obtain ⟨δ, hδ, hδD⟩ := inB_true HID.out.symm; clear HID; have h6 : δ = 0 ∨ δ = 1 ∨ δ = 2 ∨ δ = 3 ∨ δ = 4 ∨ δ = 5 := by omega
            rcases h6 with rfl | rfl | rfl | rfl | rfl | rfl
            · as_aux_lemma =>
              have HEq := Lib.hid (show Y.deadN x.di = { Y with dead := orN Y.dead 0 } by unfold Ty.deadN; rw [HDY.out, if_pos rfl, hδ]; rfl); have HSE := Lib.hid (eqSta HS7.out HEq.out); have hor : bits .or .i64 (Y.dead : Int) 1 = ((orN Y.dead 0 : Nat) : Int) := or_bits Y.dead hs64 0 (by omega); replace hor : bits .or .i64 (Y.dead : Int) (wrap64 1) = ((orN Y.dead 0 : Nat) : Int) := by rw [za0 _ (by omega) (by omega)]; exact hor
              have HSet := Lib.hid (set_dead Y (orN Y.dead 0)); obtain ⟨ob, hob⟩ : ∃ ob, ob = orN Y.dead 0 := ⟨_, rfl⟩; rw [← hob] at hor HSet HSE HEq; clear hob; go_upto_region 24 with fail
              refine zbq 11 (by kernel_rfl) (by kernel_rfl) ?_; intro wd hwd; have HSd := Lib.hid (HSE.out.later_eq (Below.refl _ _).drew hwd); have hod : wd.heap[OB]? = some (.cells x.v.toArray 52 (0, 0)) := by rw [hwd]; exact HO7.out
              obtain ⟨cm, cd, cbl, cn⟩ := op_m HX.out hod; have cw := HSd.out.cell (at_dead Y); have cf := HSd.out.free (35); rw [hδ] at cd; replace cd : wd.cell? ⟨OB, 24, none⟩ = some (.int .i64 0) := cd; clear hwd hod hδ; simp only [List.take_succ_cons, List.take_zero, List.drop_succ_cons, List.drop_zero]; repeat (refine wpStill_step (fun K hK => ?_); go_simp; refine hK _ ?_; clear hK K)
              refine wpStill_nil ?_; go_wp2_with fail
              go_roundw
              case rel => exact FIN.out _ _ ((HSd.out.ref' HSet.out).mono (by omega)) (by rw [HSt.out, HEq.out])
              case measure => simp [intOf]; omega
            · as_aux_lemma =>
              have HEq := Lib.hid (show Y.deadN x.di = { Y with dead := orN Y.dead 1 } by unfold Ty.deadN; rw [HDY.out, if_pos rfl, hδ]; rfl); have HSE := Lib.hid (eqSta HS7.out HEq.out); have hor : bits .or .i64 (Y.dead : Int) 2 = ((orN Y.dead 1 : Nat) : Int) := or_bits Y.dead hs64 1 (by omega); replace hor : bits .or .i64 (Y.dead : Int) (wrap64 2) = ((orN Y.dead 1 : Nat) : Int) := by rw [za0 _ (by omega) (by omega)]; exact hor
              have HSet := Lib.hid (set_dead Y (orN Y.dead 1)); obtain ⟨ob, hob⟩ : ∃ ob, ob = orN Y.dead 1 := ⟨_, rfl⟩; rw [← hob] at hor HSet HSE HEq; clear hob; go_upto_region 24 with fail
              refine zbq 11 (by kernel_rfl) (by kernel_rfl) ?_; intro wd hwd; have HSd := Lib.hid (HSE.out.later_eq (Below.refl _ _).drew hwd); have hod : wd.heap[OB]? = some (.cells x.v.toArray 52 (0, 0)) := by rw [hwd]; exact HO7.out
              obtain ⟨cm, cd, cbl, cn⟩ := op_m HX.out hod; have cw := HSd.out.cell (at_dead Y); have cf := HSd.out.free (35); rw [hδ] at cd; replace cd : wd.cell? ⟨OB, 24, none⟩ = some (.int .i64 1) := cd; clear hwd hod hδ; simp only [List.take_succ_cons, List.take_zero, List.drop_succ_cons, List.drop_zero]; repeat (refine wpStill_step (fun K hK => ?_); go_simp; refine hK _ ?_; clear hK K)
              refine wpStill_nil ?_; go_wp2_with fail
              go_roundw
              case rel => exact FIN.out _ _ ((HSd.out.ref' HSet.out).mono (by omega)) (by rw [HSt.out, HEq.out])
              case measure => simp [intOf]; omega
            · as_aux_lemma =>
              have HEq := Lib.hid (show Y.deadN x.di = { Y with dead := orN Y.dead 2 } by unfold Ty.deadN; rw [HDY.out, if_pos rfl, hδ]; rfl); have HSE := Lib.hid (eqSta HS7.out HEq.out); have hor : bits .or .i64 (Y.dead : Int) 4 = ((orN Y.dead 2 : Nat) : Int) := or_bits Y.dead hs64 2 (by omega); replace hor : bits .or .i64 (Y.dead : Int) (wrap64 4) = ((orN Y.dead 2 : Nat) : Int) := by rw [za0 _ (by omega) (by omega)]; exact hor
              have HSet := Lib.hid (set_dead Y (orN Y.dead 2)); obtain ⟨ob, hob⟩ : ∃ ob, ob = orN Y.dead 2 := ⟨_, rfl⟩; rw [← hob] at hor HSet HSE HEq; clear hob; go_upto_region 24 with fail
              refine zbq 11 (by kernel_rfl) (by kernel_rfl) ?_; intro wd hwd; have HSd := Lib.hid (HSE.out.later_eq (Below.refl _ _).drew hwd); have hod : wd.heap[OB]? = some (.cells x.v.toArray 52 (0, 0)) := by rw [hwd]; exact HO7.out
              obtain ⟨cm, cd, cbl, cn⟩ := op_m HX.out hod; have cw := HSd.out.cell (at_dead Y); have cf := HSd.out.free (35); rw [hδ] at cd; replace cd : wd.cell? ⟨OB, 24, none⟩ = some (.int .i64 2) := cd; clear hwd hod hδ; simp only [List.take_succ_cons, List.take_zero, List.drop_succ_cons, List.drop_zero]; repeat (refine wpStill_step (fun K hK => ?_); go_simp; refine hK _ ?_; clear hK K)
              refine wpStill_nil ?_; go_wp2_with fail
              go_roundw
              case rel => exact FIN.out _ _ ((HSd.out.ref' HSet.out).mono (by omega)) (by rw [HSt.out, HEq.out])
              case measure => simp [intOf]; omega
            · as_aux_lemma =>
              have HEq := Lib.hid (show Y.deadN x.di = { Y with dead := orN Y.dead 3 } by unfold Ty.deadN; rw [HDY.out, if_pos rfl, hδ]; rfl); have HSE := Lib.hid (eqSta HS7.out HEq.out); have hor : bits .or .i64 (Y.dead : Int) 8 = ((orN Y.dead 3 : Nat) : Int) := or_bits Y.dead hs64 3 (by omega); replace hor : bits .or .i64 (Y.dead : Int) (wrap64 8) = ((orN Y.dead 3 : Nat) : Int) := by rw [za0 _ (by omega) (by omega)]; exact hor
              have HSet := Lib.hid (set_dead Y (orN Y.dead 3)); obtain ⟨ob, hob⟩ : ∃ ob, ob = orN Y.dead 3 := ⟨_, rfl⟩; rw [← hob] at hor HSet HSE HEq; clear hob; go_upto_region 24 with fail
              refine zbq 11 (by kernel_rfl) (by kernel_rfl) ?_; intro wd hwd; have HSd := Lib.hid (HSE.out.later_eq (Below.refl _ _).drew hwd); have hod : wd.heap[OB]? = some (.cells x.v.toArray 52 (0, 0)) := by rw [hwd]; exact HO7.out
              obtain ⟨cm, cd, cbl, cn⟩ := op_m HX.out hod; have cw := HSd.out.cell (at_dead Y); have cf := HSd.out.free (35); rw [hδ] at cd; replace cd : wd.cell? ⟨OB, 24, none⟩ = some (.int .i64 3) := cd; clear hwd hod hδ; simp only [List.take_succ_cons, List.take_zero, List.drop_succ_cons, List.drop_zero]; repeat (refine wpStill_step (fun K hK => ?_); go_simp; refine hK _ ?_; clear hK K)
              refine wpStill_nil ?_; go_wp2_with fail
              go_roundw
              case rel => exact FIN.out _ _ ((HSd.out.ref' HSet.out).mono (by omega)) (by rw [HSt.out, HEq.out])
              case measure => simp [intOf]; omega
            · as_aux_lemma =>
              have HEq := Lib.hid (show Y.deadN x.di = { Y with dead := orN Y.dead 4 } by unfold Ty.deadN; rw [HDY.out, if_pos rfl, hδ]; rfl); have HSE := Lib.hid (eqSta HS7.out HEq.out); have hor : bits .or .i64 (Y.dead : Int) 16 = ((orN Y.dead 4 : Nat) : Int) := or_bits Y.dead hs64 4 (by omega); replace hor : bits .or .i64 (Y.dead : Int) (wrap64 16) = ((orN Y.dead 4 : Nat) : Int) := by rw [za0 _ (by omega) (by omega)]; exact hor
              have HSet := Lib.hid (set_dead Y (orN Y.dead 4)); obtain ⟨ob, hob⟩ : ∃ ob, ob = orN Y.dead 4 := ⟨_, rfl⟩; rw [← hob] at hor HSet HSE HEq; clear hob; go_upto_region 24 with fail
              refine zbq 11 (by kernel_rfl) (by kernel_rfl) ?_; intro wd hwd; have HSd := Lib.hid (HSE.out.later_eq (Below.refl _ _).drew hwd); have hod : wd.heap[OB]? = some (.cells x.v.toArray 52 (0, 0)) := by rw [hwd]; exact HO7.out
              obtain ⟨cm, cd, cbl, cn⟩ := op_m HX.out hod; have cw := HSd.out.cell (at_dead Y); have cf := HSd.out.free (35); rw [hδ] at cd; replace cd : wd.cell? ⟨OB, 24, none⟩ = some (.int .i64 4) := cd; clear hwd hod hδ; simp only [List.take_succ_cons, List.take_zero, List.drop_succ_cons, List.drop_zero]; repeat (refine wpStill_step (fun K hK => ?_); go_simp; refine hK _ ?_; clear hK K)
              refine wpStill_nil ?_; go_wp2_with fail
              go_roundw
              case rel => exact FIN.out _ _ ((HSd.out.ref' HSet.out).mono (by omega)) (by rw [HSt.out, HEq.out])
              case measure => simp [intOf]; omega
            · as_aux_lemma =>
              have HEq := Lib.hid (show Y.deadN x.di = { Y with dead := orN Y.dead 5 } by unfold Ty.deadN; rw [HDY.out, if_pos rfl, hδ]; rfl); have HSE := Lib.hid (eqSta HS7.out HEq.out); have hor : bits .or .i64 (Y.dead : Int) 32 = ((orN Y.dead 5 : Nat) : Int) := or_bits Y.dead hs64 5 (by omega); replace hor : bits .or .i64 (Y.dead : Int) (wrap64 32) = ((orN Y.dead 5 : Nat) : Int) := by rw [za0 _ (by omega) (by omega)]; exact hor
              have HSet := Lib.hid (set_dead Y (orN Y.dead 5)); obtain ⟨ob, hob⟩ : ∃ ob, ob = orN Y.dead 5 := ⟨_, rfl⟩; rw [← hob] at hor HSet HSE HEq; clear hob; go_upto_region 24 with fail
              refine zbq 11 (by kernel_rfl) (by kernel_rfl) ?_; intro wd hwd; have HSd := Lib.hid (HSE.out.later_eq (Below.refl _ _).drew hwd); have hod : wd.heap[OB]? = some (.cells x.v.toArray 52 (0, 0)) := by rw [hwd]; exact HO7.out
              obtain ⟨cm, cd, cbl, cn⟩ := op_m HX.out hod; have cw := HSd.out.cell (at_dead Y); have cf := HSd.out.free (35); rw [hδ] at cd; replace cd : wd.cell? ⟨OB, 24, none⟩ = some (.int .i64 5) := cd; clear hwd hod hδ; simp only [List.take_succ_cons, List.take_zero, List.drop_succ_cons, List.drop_zero]; repeat (refine wpStill_step (fun K hK => ?_); go_simp; refine hK _ ?_; clear hK K)
              refine wpStill_nil ?_; go_wp2_with fail
              go_roundw
              case rel => exact FIN.out _ _ ((HSd.out.ref' HSet.out).mono (by omega)) (by rw [HSt.out, HEq.out])
              case measure => simp [intOf]; omega
         · by_cases q4 : x.k = 4
           · as_aux_lemma =>
             have r1 : (x.k == (1 : Int)) = false := by rw [q4]; rfl
             have r2 : (x.k == (2 : Int)) = false := by rw [q4]; rfl
             have r3 : (x.k == (3 : Int)) = false := by rw [q4]; rfl
             have r4 : (x.k == (4 : Int)) = true := by rw [q4]; rfl
             have HSt := Lib.hid (show step Y x = Y.clean x.bl (x.n != 0) by unfold step; simp [q4]); have HWO := Lib.hid (tal.clean_any HS6.out.ta x.bl (x.n != 0)); obtain ⟨cm, cd, cbl, cn⟩ := op_m HX.out HO6.out; clear q4; go_wp2_with fail
             refine HWO.out.mono ?_; rintro e w7 ⟨rfl, hy7, hk7⟩; have HS7 := Lib.hid (HS6.out.tal' hk7 hy7 (upd_dim _ _ _)); have HO7 := Lib.hid (zay HO6.out hk7 (tal_ne HS6.out.ta HO6.out (by decide))); clear cm cd cbl cn ck hy7 hk7 HWO HBL; cases ib with
             | false =>
              have HEq := Lib.hid (show Y.clean x.bl (x.n != 0) = Y from upd_out HS6.out.ta.ok (by rw [HDB.out.2.1]; exact inB_false HIB.out.symm) _); have HSE := Lib.hid (eqSta HS7.out HEq.out); go_wp2_with fail
              all_goals
               go_roundw
               case rel => exact FIN.out _ Y ((HSE.out).mono (by omega)) (by rw [HSt.out, HEq.out])
               case measure => simp [intOf]; omega
             | true =>
              obtain ⟨β, hβ, hβB⟩ := inB_true HIB.out.symm; have hβ16 : β < 16 := by omega
              have hβI : (β : Int) < 16 := by omega
              have hβ0 : (0 : Int) ≤ (β : Int) := by omega
              have hlen := HS6.out.ta.ok.len; obtain ⟨s, hs⟩ : ∃ s, Y.sb[β]? = some s := ⟨_, List.getElem?_eq_getElem (by rw [hlen, HDB.out.2.1]; exact hβB)⟩; have HSB := Lib.hid hs; have HBE := Lib.hid hβ; clear hlen hβ hs
              have HEq := Lib.hid (show Y.clean x.bl (x.n != 0) = { Y with sb := Y.sb.set β { s with used := !(x.n != 0) } } by
               rw [HBE.out]; exact upd_in HSB.out _)
              have HSE := Lib.hid (eqSta HS7.out HEq.out); have HSet := Lib.hid (set_used (s' := { s with used := !(x.n != 0) }) HSB.out hβ16 rfl rfl rfl); by_cases hn0 : x.n = 0
              · have z1 : (x.n == (0 : Int)) = true := by simp [hn0]
                have z2 : (x.n != (0 : Int)) = false := by simp [hn0]
                rw [z2] at HSet HSE HEq HSt; clear hn0; go_upto_region 28 with fail
                refine zbq 8 (by kernel_rfl) (by kernel_rfl) ?_; intro wd hwd; have HSd := Lib.hid (HSE.out.later_eq (Below.refl _ _).drew hwd); have hod : wd.heap[OB]? = some (.cells x.v.toArray 52 (0, 0)) := by rw [hwd]; exact HO7.out
                obtain ⟨cm, cd, cbl, cn⟩ := op_m HX.out hod; have cw := HSd.out.cell (at_used HSB.out hβ16); have cf := HSd.out.free (36 + β); rw [HBE.out] at cbl; clear hwd hod; simp only [List.take_succ_cons, List.take_zero, List.drop_succ_cons, List.drop_zero]; repeat (refine wpStill_step (fun K hK => ?_); go_simp; refine hK _ ?_; clear hK K)
                refine wpStill_nil ?_; go_wp2_with fail
                go_roundw
                case rel => exact FIN.out _ _ ((HSd.out.ref' HSet.out).mono (by omega)) (by rw [HSt.out, HEq.out])
                case measure => simp [intOf]; omega
              · have z1 : (x.n == (0 : Int)) = false := by simpa using hn0
                have z2 : (x.n != (0 : Int)) = true := by simpa using hn0
                rw [z2] at HSet HSE HEq HSt; clear hn0; go_upto_region 28 with fail
                refine zbq 8 (by kernel_rfl) (by kernel_rfl) ?_; intro wd hwd; have HSd := Lib.hid (HSE.out.later_eq (Below.refl _ _).drew hwd); have hod : wd.heap[OB]? = some (.cells x.v.toArray 52 (0, 0)) := by rw [hwd]; exact HO7.out
                obtain ⟨cm, cd, cbl, cn⟩ := op_m HX.out hod; have cw := HSd.out.cell (at_used HSB.out hβ16); have cf := HSd.out.free (36 + β); rw [HBE.out] at cbl; clear hwd hod; simp only [List.take_succ_cons, List.take_zero, List.drop_succ_cons, List.drop_zero]; repeat (refine wpStill_step (fun K hK => ?_); go_simp; refine hK _ ?_; clear hK K)
                refine wpStill_nil ?_; go_wp2_with fail
                go_roundw
                case rel => exact FIN.out _ _ ((HSd.out.ref' HSet.out).mono (by omega)) (by rw [HSt.out, HEq.out])
                case measure => simp [intOf]; omega
           · by_cases q5 : x.k = 5
             · as_aux_lemma =>
               have r1 : (x.k == (1 : Int)) = false := by rw [q5]; rfl
               have r2 : (x.k == (2 : Int)) = false := by rw [q5]; rfl
               have r3 : (x.k == (3 : Int)) = false := by rw [q5]; rfl
               have r4 : (x.k == (4 : Int)) = false := by rw [q5]; rfl
               have r5 : (x.k == (5 : Int)) = true := by rw [q5]; rfl
               have HSt := Lib.hid (show step Y x = Y.hold x.bl (x.n != 0) by unfold step; simp [q5]); have HWO := Lib.hid (tal.hold_any HS6.out.ta x.bl (x.n != 0)); obtain ⟨cm, cd, cbl, cn⟩ := op_m HX.out HO6.out; clear q5; go_wp2_with fail
               refine HWO.out.mono ?_; rintro e w7 ⟨rfl, hy7, hk7⟩; have HS7 := Lib.hid (HS6.out.tal' hk7 hy7 (upd_dim _ _ _)); have HO7 := Lib.hid (zay HO6.out hk7 (tal_ne HS6.out.ta HO6.out (by decide))); clear cm cd cbl cn ck hy7 hk7 HWO HBL; cases ib with
               | false =>
                have HEq := Lib.hid (show Y.hold x.bl (x.n != 0) = Y from upd_out HS6.out.ta.ok (by rw [HDB.out.2.1]; exact inB_false HIB.out.symm) _); have HSE := Lib.hid (eqSta HS7.out HEq.out); go_wp2_with fail
                all_goals
                 go_roundw
                 case rel => exact FIN.out _ Y ((HSE.out).mono (by omega)) (by rw [HSt.out, HEq.out])
                 case measure => simp [intOf]; omega
               | true =>
                obtain ⟨β, hβ, hβB⟩ := inB_true HIB.out.symm; have hβ16 : β < 16 := by omega
                have hβI : (β : Int) < 16 := by omega
                have hβ0 : (0 : Int) ≤ (β : Int) := by omega
                have hlen := HS6.out.ta.ok.len; obtain ⟨s, hs⟩ : ∃ s, Y.sb[β]? = some s := ⟨_, List.getElem?_eq_getElem (by rw [hlen, HDB.out.2.1]; exact hβB)⟩; have HSB := Lib.hid hs; have HBE := Lib.hid hβ; clear hlen hβ hs
                have HEq := Lib.hid (show Y.hold x.bl (x.n != 0) = { Y with sb := Y.sb.set β { s with held := (x.n != 0) } } by
                 rw [HBE.out]; exact upd_in HSB.out _)
                have HSE := Lib.hid (eqSta HS7.out HEq.out); have HSet := Lib.hid (set_held (s' := { s with held := (x.n != 0) }) HSB.out hβ16 rfl rfl rfl); by_cases hn0 : x.n = 0
                · have z1 : (x.n == (0 : Int)) = true := by simp [hn0]
                  have z2 : (x.n != (0 : Int)) = false := by simp [hn0]
                  rw [z2] at HSet HSE HEq HSt; clear hn0; go_upto_region 32 with fail
                  refine zbq 8 (by kernel_rfl) (by kernel_rfl) ?_; intro wd hwd; have HSd := Lib.hid (HSE.out.later_eq (Below.refl _ _).drew hwd); have hod : wd.heap[OB]? = some (.cells x.v.toArray 52 (0, 0)) := by rw [hwd]; exact HO7.out
                  obtain ⟨cm, cd, cbl, cn⟩ := op_m HX.out hod; have cw := HSd.out.cell (at_held HSB.out hβ16); have cf := HSd.out.free (52 + β); rw [HBE.out] at cbl; clear hwd hod; simp only [List.take_succ_cons, List.take_zero, List.drop_succ_cons, List.drop_zero]; repeat (refine wpStill_step (fun K hK => ?_); go_simp; refine hK _ ?_; clear hK K)
                  refine wpStill_nil ?_; go_wp2_with fail
                  go_roundw
                  case rel => exact FIN.out _ _ ((HSd.out.ref' HSet.out).mono (by omega)) (by rw [HSt.out, HEq.out])
                  case measure => simp [intOf]; omega
                · have z1 : (x.n == (0 : Int)) = false := by simpa using hn0
                  have z2 : (x.n != (0 : Int)) = true := by simpa using hn0
                  rw [z2] at HSet HSE HEq HSt; clear hn0; go_upto_region 32 with fail
                  refine zbq 8 (by kernel_rfl) (by kernel_rfl) ?_; intro wd hwd; have HSd := Lib.hid (HSE.out.later_eq (Below.refl _ _).drew hwd); have hod : wd.heap[OB]? = some (.cells x.v.toArray 52 (0, 0)) := by rw [hwd]; exact HO7.out
                  obtain ⟨cm, cd, cbl, cn⟩ := op_m HX.out hod; have cw := HSd.out.cell (at_held HSB.out hβ16); have cf := HSd.out.free (52 + β); rw [HBE.out] at cbl; clear hwd hod; simp only [List.take_succ_cons, List.take_zero, List.drop_succ_cons, List.drop_zero]; repeat (refine wpStill_step (fun K hK => ?_); go_simp; refine hK _ ?_; clear hK K)
                  refine wpStill_nil ?_; go_wp2_with fail
                  go_roundw
                  case rel => exact FIN.out _ _ ((HSd.out.ref' HSet.out).mono (by omega)) (by rw [HSt.out, HEq.out])
                  case measure => simp [intOf]; omega
             · as_aux_lemma =>
               have HSt := Lib.hid (show step Y x = Y by unfold step; simp [q1, q2, q3, q4, q5]); have r1 : (x.k == (1 : Int)) = false := by simpa using q1
               have r2 : (x.k == (2 : Int)) = false := by simpa using q2
               have r3 : (x.k == (3 : Int)) = false := by simpa using q3
               have r4 : (x.k == (4 : Int)) = false := by simpa using q4
               have r5 : (x.k == (5 : Int)) = false := by simpa using q5
               obtain ⟨T, hT⟩ := HS6.out.tt; have HT := Lib.hid hT; have re := op_e HO6.out; have rp := op_p HX.out HO6.out; have cm := (op_m HX.out HO6.out).1; have iE := zbv HX.out.e.1 x.e.l x.e.s x.e.r; have HP := Lib.hid (tab.put_any hT x.e.l x.e.s x.e.r x.p.d x.p.b x.p.p x.m x.e.d HX.out.e.1 HX.out.ew.1 HX.out.ew.2.1 HX.out.p.1 (by omega)); clear q1 q2 q3 q4 q5 hT; go_wp2_with (first | (refine wpList_load_mid rfl 29 (.tmp 67) rfl OB 1 rfl x.e.v _ re Tryz.underlying29 rfl iE ?_) | (refine wpList_load_mid rfl 31 (.tmp 69) rfl OB 20 rfl x.p.v _ rp Tryz.underlying31 rfl (by kernel_rfl) ?_))
               refine HP.out.mono ?_; rintro e w7 ⟨rfl, hT7, hk7⟩; have HS7 := Lib.hid (HS6.out.tab' hk7 HT.out hT7); have ho7 := zay HO6.out hk7 (tab_ne HT.out HO6.out (by decide)); clear re rp cm hT7 hk7 HP ck HBL; obtain ⟨ls, nx, hR⟩ := HS7.out.rt; have HR := Lib.hid hR; have re := op_e ho7; have rp := op_p HX.out ho7; have cm := (op_m HX.out ho7).1; have HP2 := Lib.hid (rtab.put_any hR x.e.l x.e.s x.e.r x.p.d x.p.b x.p.p x.m x.e.d HX.out.e.1); clear hR ho7; go_wp2_with (first | (refine wpList_load_mid rfl 29 (.tmp 75) rfl OB 1 rfl x.e.v _ re Tryz.underlying29 rfl iE ?_) | (refine wpList_load_mid rfl 31 (.tmp 77) rfl OB 20 rfl x.p.v _ rp Tryz.underlying31 rfl (by kernel_rfl) ?_))
               refine HP2.out.mono ?_; rintro e w8 ⟨v, ls', nx', rfl, hR8, hk8⟩; have HS8 := Lib.hid (HS7.out.rt' HR.out hk8 hR8); clear re rp cm iE hR8 hk8 HP2; go_wp2_with fail
               go_roundw
               case rel => exact FIN.out _ Y HS8.out (by rw [HSt.out])
               case measure => simp [intOf]; omega
   · have HFIN : Hid (∀ wn, Below wr.heap.size wr wn → Post w D B P (run (Ty.new D B P) (l.take 50)) (.returned (.tuple #[.pointer (some ⟨gt, 0, none⟩), .pointer (some ⟨WB, 0, none⟩), .pointer (some ⟨g, 0, none⟩), .pointer (some ⟨tb, 0, none⟩)])) wn) := Lib.hid fun wn hb =>
      ⟨gt, lb, WB, g, mb, cb, tb, rb, w.heap.size, rfl, by
       have e : l.take i = l.take 50 := by
        have := HRD.out.1; simp at this; rcases (show i = n ∨ i = 50 by omega) with rfl | rfl
        · rw [← this, List.take_of_length_le (Nat.le_refl _), List.take_of_length_le (by omega)]
        · rfl
       rw [← e]; exact (HST.out.later hb).mono (by omega)⟩
     have hex : ¬ i < n ∨ (i < n ∧ ¬ i < 50) := by omega
     clear hgo; rcases hex with hge | ⟨hlt, hge⟩
     all_goals
      go_wp2_with fail
      exact bodyPost_ret (v := .tuple #[.pointer (some ⟨gt, 0, none⟩), .pointer (some ⟨WB, 0, none⟩), .pointer (some ⟨g, 0, none⟩), .pointer (some ⟨tb, 0, none⟩)]) (by simp [results, Tryz.results39, go_sem]) rfl (HFIN.out _ (Below.refl _ _))
end Go.Proofs.YtpbigfopmompfaaGreat.tls
