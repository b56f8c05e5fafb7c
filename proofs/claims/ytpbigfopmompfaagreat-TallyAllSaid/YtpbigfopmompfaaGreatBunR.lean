import Derived.Test.YtpbigfopmompfaaGreatBunM
import Derived.Test.YtpbigfopmompfaaGreatBegun5
import Derived.Test.YtpbigfopmompfaaGreatBunC
import Derived.Test.YtpbigfopmompfaaGreatBunE
/- What a claim's proof leans on: Begun7. -/
namespace Go.Proofs.YtpbigfopmompfaaGreat.nand
open Go.RowKit
set_option linter.unusedVariables false
def aA : Ad := ⟨1, 0, 0⟩
def aB : Ad := ⟨2, 0, 0⟩
theorem aA_wf : aA.wf := ⟨rfl, rfl, rfl⟩
theorem aB_wf : aB.wf := ⟨rfl, rfl, rfl⟩
def p7 : List Nat := 7 :: List.replicate 31 0
def p8 : List Nat := 8 :: List.replicate 31 0
def p56 : List Nat := 5 :: 6 :: List.replicate 30 0
theorem p7_ok : p7.length = 32 ∧ ∀ y ∈ p7, y < 256 := ⟨by decide, by decide⟩
theorem p8_ok : p8.length = 32 ∧ ∀ y ∈ p8, y < 256 := ⟨by decide, by decide⟩
theorem p56_ok : p56.length = 32 ∧ ∀ y ∈ p56, y < 256 := ⟨by decide, by decide⟩
def gG : List Value := [.int .i64 3, .int .i64 8, .int .i64 2]
def gZ : List Value := [.int .i64 0, .int .i64 0, .int .i64 0]
def fA : Flt := ⟨0, 3, 1, 0, 0, 0, 0⟩
def fB : Flt := ⟨3, 4, 2, 0, 0, 0, 0⟩
def fC : Flt := ⟨-1, 0, 0, 0, 0, 0, 0⟩
def fD : Flt := ⟨0, 0, 2, 0, 0, 0, 0⟩
theorem fA_wf : fA.wf := ⟨rfl, rfl, ⟨rfl, rfl, rfl⟩, rfl, rfl⟩
theorem fB_wf : fB.wf := ⟨rfl, rfl, ⟨rfl, rfl, rfl⟩, rfl, rfl⟩
theorem fC_wf : fC.wf := ⟨rfl, rfl, ⟨rfl, rfl, rfl⟩, rfl, rfl⟩
def N0 : Nd := Nd.new 3 8 2
def N1 : Nd := N0.programN aA p7
def N2 : Nd := N1.programN aA p8
def N3 : Nd := N2.faultN fA
def N4 : Nd := N3.eraseN 1 0
def N5 : Nd := N4.cutAt 0 1
def N6 : Nd := N5.programN aA p56
def N7 : Nd := N6.on
def y7 : List Nat := 5 :: List.replicate 31 255
theorem built_gG : Tryz.prog.built 39 [(0, .int .i64 3), (1, .int .i64 8), (2, .int .i64 2)] = some gG.toArray := by kernel_rfl
theorem built_gZ : Tryz.prog.built 39 [] = some gZ.toArray := by kernel_rfl
theorem built_aA : Tryz.prog.built 85 [(0, .int .i64 1)] = some aA.v.toArray := by kernel_rfl
theorem built_aB : Tryz.prog.built 85 [(0, .int .i64 2)] = some aB.v.toArray := by kernel_rfl
theorem built_p7 : Tryz.prog.built 90 [(0, .int .u8 7)] = some (nats .u8 p7).toArray := by kernel_rfl
theorem built_p8 : Tryz.prog.built 90 [(0, .int .u8 8)] = some (nats .u8 p8).toArray := by kernel_rfl
theorem built_p56 : Tryz.prog.built 90 [(0, .int .u8 5), (1, .int .u8 6)] = some (nats .u8 p56).toArray := by kernel_rfl
theorem built_fA : Tryz.prog.built 87 [(1, .int .i64 3), (2, .agg aA.v.toArray)] = some fA.v.toArray := by kernel_rfl
theorem built_fB : Tryz.prog.built 87 [(0, .int .i64 3), (1, .int .i64 4), (2, .agg aB.v.toArray)] = some fB.v.toArray := by kernel_rfl
theorem built_fC : Tryz.prog.built 87 [(0, .int .i64 (-1))] = some fC.v.toArray := by kernel_rfl
theorem built_fD : Tryz.prog.built 87 [(2, .agg aB.v.toArray)] = some fD.v.toArray := by kernel_rfl
theorem two_f (w : World) : (Instr.buildSlice 151 2 #[(0, .agg fB.v.toArray), (1, .agg fC.v.toArray)]).run Tryz.prog w = .ok (.slice (some ⟨w.heap.size, 0, none⟩) 2 2) (w.alloc (.cells (flts [fB, fC]).flatten.toArray 87)) := by kernel_rfl
theorem one_f (w : World) : (Instr.buildSlice 151 1 #[(0, .agg fD.v.toArray)]).run Tryz.prog w = .ok (.slice (some ⟨w.heap.size, 0, none⟩) 1 1) (w.alloc (.cells (flts [fD]).flatten.toArray 87)) := by kernel_rfl
theorem eql_p7 (w : World) : (binOp .eql 90 (.agg (nats .u8 p7).toArray) (.agg (nats .u8 p7).toArray)).run Tryz.prog w = .ok (.bool true) w := by rw [eql_page w p7 p7 p7_ok.2 p7_ok.2 rfl rfl]; rfl
theorem want_page {ops : Array Oper} {rest : List Oper} {op : Oper} {a : Act} {w : World} {Q : Exit → Act → World → Prop} (x : Operand) (ho : op.op = .load 90 x) (b i : Nat) (hx : a.eval x = .pointer (some ⟨b, i, none⟩))
 (hw : Region.wanted op (yielded ops a.tmps) = true) {cs : List Value} (hc : w.rangeAt b i cs) (hi : (Tryz.prog.info? 90).map (·.size) = some cs.length)
 (h : wpList Tryz.prog ops Q rest (a.put op.dst (.agg cs.toArray)) w) : wpList Tryz.prog ops Q (op :: rest) a w := by
 unfold wpList
 rw [if_pos hw]
 exact .inl (wp_load_mid 90 x ho b i hx cs _ hc Tryz.underlying90 rfl hi h)
theorem want_build {P : Program} {ops : Array Oper} {rest : List Oper} {op : Oper} {a : Act} {w : World} {Q : Exit → Act → World → Prop} (t : TypeId) (parts : Array (Nat × Operand)) (ho : op.op = .build t parts) (ps : List (Nat × Value)) (hps : parts.toList.map (fun p => (p.1, a.eval p.2)) = ps)
 (cells : Array Value) (hb : P.built t ps = some cells) (hw : Region.wanted op (yielded ops a.tmps) = true) (h : wpList P ops Q rest (a.put op.dst (.agg cells)) w) : wpList P ops Q (op :: rest) a w := by
 unfold wpList
 rw [if_pos hw]
 exact .inl (wp_build_l t parts ho ps hps cells hb h)
theorem want_bs1 {P : Program} {ops : Array Oper} {rest : List Oper} {op : Oper} {a : Act} {w : World} {Q : Exit → Act → World → Prop} (t : TypeId) (x : Operand) (ho : op.op = .buildSlice t 1 #[(0, x)]) (r1 : List Value) (hx : a.eval x = .agg r1.toArray) (v : World → Value) (l : List Value) (e : TypeId)
 (hrun : ∀ w, (Instr.buildSlice t 1 #[(0, .agg r1.toArray)]).run P w = .ok (v w) (w.alloc (.cells l.toArray e))) (hw : Region.wanted op (yielded ops a.tmps) = true) (h : wpList P ops Q rest (a.put op.dst (v w)) (w.alloc (.cells l.toArray e))) : wpList P ops Q (op :: rest) a w := by
 unfold wpList
 rw [if_pos hw]
 refine .inl ?_
 unfold Oper.wp execOp
 simp only [ho, Sem.run_bind, List.map_toArray, List.map_cons, List.map_nil, hx, hrun, Result.andThen_ok]
 exact h
theorem want_bs2 {P : Program} {ops : Array Oper} {rest : List Oper} {op : Oper} {a : Act} {w : World} {Q : Exit → Act → World → Prop} (t : TypeId) (x y : Operand) (ho : op.op = .buildSlice t 2 #[(0, x), (1, y)]) (r1 r2 : List Value) (hx : a.eval x = .agg r1.toArray) (hy : a.eval y = .agg r2.toArray) (v : World → Value) (l : List Value) (e : TypeId)
 (hrun : ∀ w, (Instr.buildSlice t 2 #[(0, .agg r1.toArray), (1, .agg r2.toArray)]).run P w = .ok (v w) (w.alloc (.cells l.toArray e))) (hw : Region.wanted op (yielded ops a.tmps) = true) (h : wpList P ops Q rest (a.put op.dst (v w)) (w.alloc (.cells l.toArray e))) : wpList P ops Q (op :: rest) a w := by
 unfold wpList
 rw [if_pos hw]
 refine .inl ?_
 unfold Oper.wp execOp
 simp only [ho, Sem.run_bind, List.map_toArray, List.map_cons, List.map_nil, hx, hy, hrun, Result.andThen_ok]
 exact h
theorem dead_in {w : World} {base g m : Nat} {N : Nd} (h : NandIn w base g m N) (d : Int) (h0 : 0 ≤ d) (h1 : d < N.D) : Calls Tryz.prog 84 #[.pointer (some ⟨g, 0, none⟩), .int .i64 d] w fun e w' => e = .returned (.bool (N.dead.getD d.toNat false)) ∧ w = w' := by
 obtain ⟨Y, -, h⟩ := h
 exact dead_any h d h0 h1
theorem kept_BC : [fB, fC].filter (mayF 3 8 2) = [fB] := by kernel_rfl
set_option maxRecDepth 100000 in
theorem new_nil (w : World) : Calls Tryz.prog 45 #[.agg gZ.toArray] w fun e w' => e = .returned (.pointer none) ∧ Below w.heap.size w w' := by
 have hMay := Lib.hid (fun w => may_geo 0 0 0 w)
 have hbel := zax w (.cells gZ.toArray 39)
 have hrg := zal (heap_alloc_new w (.cells gZ.toArray 39))
 go_enter Tryz.func45, Tryz.ntmps45
 go_wp2_with (first | (refine wpList_load_mid rfl 39 (.tmp 1) rfl w.heap.size 0 rfl gZ _ hrg Tryz.underlying39 rfl geoInfo ?_))
 refine (hMay.out _).mono ?_
 rintro e w2 ⟨rfl, hb⟩
 have HB := Lib.hid (hbel.trans (hb.mono hbel.size))
 rw [show mayG 0 0 0 = false from rfl]
 clear hb hbel hrg
 go_wp2_with fail
 go_ret
 exact ⟨rfl, HB.out⟩
theorem begun5_all (w : World) : Calls Tryz.prog 106 #[] w fun e w' => e = .returned (.bool true) ∧ Below w.heap.size w w' := by
 go_enter Tryz.func106, Tryz.ntmps106
 go_wp2_with fail
 refine (begun5.begun5_any _).mono ?_
 rintro e w' ⟨rfl, hb⟩
 go_wp2_with fail
 go_ret
 exact ⟨rfl, hb⟩
theorem begun6_all (w : World) : Calls Tryz.prog 107 #[] w fun e w' => e = .returned (.bool true) ∧ Below w.heap.size w w' := by
 go_enter Tryz.func107, Tryz.ntmps107
 go_wp2_with fail
 refine (begun6_any _).mono ?_
 rintro e w' ⟨rfl, hb⟩
 go_wp2_with fail
 go_ret
 exact ⟨rfl, hb⟩
set_option maxRecDepth 100000 in
set_option maxHeartbeats 8000000 in
theorem begun7_any (w : World) : Calls Tryz.prog 88 #[] w fun e w' => e = .returned (.bool true) ∧ Below w.heap.size w w' := by
 have hn1 := nonnil_eql
 have hn2 := nil_neq
 have hgI : (Tryz.prog.info? 39).map (·.size) = some gG.length := geoInfo
 go_enter Tryz.func88, Tryz.ntmps88
 go_wp2_with (first | (refine zao rfl 39 _ rfl _ rfl _ built_gG ?_) | (refine zai rfl 39 (.tmp 1) (.tmp 18) rfl w.heap.size gG rfl rfl 39 _ (zak _ _ _ rfl) hgI rfl (by simp [gG, Value.oneCell']) ?_; intro w1 hU1; have hg_1 := hU1.at_; have hb1 := hU1.below (zax _ _) (Nat.le_refl _); clear hU1) | (refine wpList_load_mid rfl 39 (.tmp 1) rfl w.heap.size 0 rfl (gG) _ (zal hg_1) Tryz.underlying39 rfl hgI ?_))
 refine (show Calls _ _ #[.agg gG.toArray] _ _ from new_any w1 3 8 2 (by decide)).mono ?_
 rintro e w2 ⟨g, rfl, hNn, hb2⟩
 obtain ⟨base, hbase⟩ : ∃ base, base = w1.heap.size := ⟨_, rfl⟩
 rw [← hbase] at hNn
 have HLB := Lib.hid (show w.heap.size ≤ base by rw [hbase]; exact hb1.size)
 obtain ⟨gb, hgb⟩ : ∃ gb, gb = w.heap.size := ⟨_, rfl⟩
 rw [← hgb] at hg_1
 have HB2 := Lib.hid (hb1.trans (hb2.mono hb1.size))
 have HN2 := Lib.hid hNn
 have hg_2 := zad hg_1 hb2
 clear hb1 hb2 hNn hg_1 hbase
 go_wp2_with (first | (refine zao rfl 39 _ rfl _ rfl _ built_gZ ?_))
 refine (new_nil _).mono ?_
 rintro e w3 ⟨rfl, hb3⟩
 have HN3 := Lib.hid (HN2.out.below hb3)
 have HB3 := Lib.hid (HB2.out.trans (hb3.mono HB2.out.size))
 have hg_3 := zad hg_2 hb3
 clear hb3 HN2 HB2 hg_2
 obtain ⟨ab, hab⟩ : ∃ ab, ab = w3.heap.size := ⟨_, rfl⟩
 go_upto_region 6 with (first | (refine zao rfl 85 _ rfl _ rfl _ built_aA ?_) | (refine zai rfl 85 (.tmp 3) (.tmp 28) rfl w3.heap.size aA.v rfl rfl 85 _ (zak _ _ _ rfl) zbx rfl (one_ad _) ?_; intro w4 hU4; have ha_4 := hU4.at_; have hb4 := hU4.below (zax _ _) (Nat.le_refl _); clear hU4))
 rw [← hab] at ha_4
 have HN4 := Lib.hid (HN3.out.below hb4)
 have HB4 := Lib.hid (HB3.out.trans (hb4.mono HB3.out.size))
 have hg_4 := zad hg_3 hb4
 clear hb4 HN3 HB3 hg_3
 rw [← hab, ← hgb]
 clear hab hgb
 go_simp
 have HN0 := HN4
 have HA := Lib.hid ha_4
 obtain ⟨ws, hws⟩ : ∃ ws : World, ws = w4 := ⟨_, rfl⟩
 rw [← hws] at HN0 HA ⊢
 have HG4 := Lib.hid hg_4
 refine zan (by kernel_rfl) (by kernel_rfl) (X := Unit) (fun _ => [(some 29, .pointer (some ⟨g, 0, none⟩)), (some 30, .agg (aA.v).toArray), (some 31, .agg (nats .u8 p7).toArray), (some 32, .int .i64 0), (some 33, .pointer (some ⟨g, 0, none⟩)), (some 34, .agg (aA.v).toArray), (some 35, .agg (nats .u8 p8).toArray), (some 36, .int .i64 4), (some 4, .int .i64 0), (some 5, .int .i64 4)])
  (fun _ L w' => w'.heap[ab]? = some (.cells aA.v.toArray 85 (0, 0)) ∧ (L 7 = true → L 3 = true) ∧ (L 3 = false → NandIn w' base g 0 N0) ∧ (L 3 = true → L 7 = false → NandIn w' base g 0 N1) ∧ (L 7 = true → NandIn w' base g 0 N2) ∧ Fr base g ws w' ∧ Below 0 ws w') (fun _ => rfl) (by kernel_rfl) ⟨(), fun L hL => ⟨HA.out, (by rw [hL 7]; intro h; cases h), (fun _ => HN0.out.drew), (by rw [hL 3]; intro h; cases h), (by rw [hL 7]; intro h; cases h), (Fr.refl base g ws).drew, (Below.refl 0 ws).drew⟩⟩ ?_ ?_
 · refine ⟨?_, ?_, ?_, ?_, ?_, ?_, ?_, ?_, ?_, ?_, trivial⟩
   · intro _ L w' hL hpre hJ a ha
     obtain ⟨ja, jo, j0, j1, j2, jr, jb⟩ := hJ; simp [Region.binds] at hpre; refine .inl ⟨zaa rfl, ?_⟩; exact zah (.tmp 2) (.inl rfl) (.pointer (some ⟨g, 0, none⟩)) (by rw [ha, zac rfl]; rfl) ⟨(), _, rfl, rfl, ja, jo, j0, j1, j2, jr, jb⟩
   · intro _ L w' hL hpre hJ a ha
     obtain ⟨ja, jo, j0, j1, j2, jr, jb⟩ := hJ; simp [Region.binds] at hpre; refine .inl ⟨zaa rfl, ?_⟩; exact wp_load_mid 85 (.tmp 3) rfl ab 0 (by rw [ha, zac rfl]; rfl) (aA.v) _ (zal ja) Tryz.underlying85 rfl zbx ⟨(), _, rfl, rfl, ja, jo, j0, j1, j2, jr, jb⟩
   · intro _ L w' hL hpre hJ a ha
     obtain ⟨ja, jo, j0, j1, j2, jr, jb⟩ := hJ; simp [Region.binds] at hpre; refine .inl ⟨zaa rfl, ?_⟩; exact wp_build_l 90 _ rfl _ rfl _ built_p7 ⟨(), _, rfl, rfl, ja, jo, j0, j1, j2, jr, jb⟩
   · intro _ L w' hL hpre hJ a ha
     obtain ⟨ja, jo, j0, j1, j2, jr, jb⟩ := hJ; simp [Region.binds] at hpre; refine .inl ⟨zaa rfl, ?_⟩; have e29 : a.eval (.tmp 29) = .pointer (some ⟨g, 0, none⟩) := evP ha 0 rfl (by simp [hpre]) (by simp) rfl; have e30 : a.eval (.tmp 30) = .agg (aA.v).toArray := evP ha 1 rfl (by simp [hpre]) (by simp) rfl; have e31 : a.eval (.tmp 31) = .agg (nats .u8 p7).toArray := evP ha 2 rfl (by simp [hpre]) (by simp) rfl
     have h7 : L 7 = false := by
      cases h : L 7 with
      | false => rfl
      | true => exact absurd (jo h) (by simp [hL])
     have hn := j0 hL; have ja' := Lib.hid ja; have jo' := Lib.hid jo; have j0' := Lib.hid j0; have j1' := Lib.hid j1; have j2' := Lib.hid j2; have jr' := Lib.hid jr; have jb' := Lib.hid jb; clear ha ja jo j0 j1 j2 jr jb; refine zab fun K HK => ?_; unfold Oper.wp; simp only [execOp, resolve, List.map_toArray, List.map_cons, List.map_nil, e29, e30, e31]; go_simp; refine (program_any hn aA aA_wf p7 p7_ok.1 p7_ok.2 (by decide +kernel) (by decide +kernel)).mono ?_; rw [show N0.programE aA p7 = 0 by kernel_rfl]; rintro e w'' ⟨rfl, hn2, hf2⟩; have hfz := jr'.out.trans hf2; exact HK.out _ _ ⟨(), _, rfl, rfl, hf2.blk ja'.out rfl, fun h => absurd h (by rw [show also L 3 7 = L 7 from rfl, h7]; simp), (fun h => by simp [also] at h), fun _ _ => hn2, fun h => absurd h (by rw [show also L 3 7 = L 7 from rfl, h7]; simp), hfz, ⟨hfz.os, hfz.tape, hfz.output, hfz.size, fun k hk => absurd hk (Nat.not_lt_zero k)⟩⟩
   · intro _ L w' hL hpre hJ a ha
     obtain ⟨ja, jo, j0, j1, j2, jr, jb⟩ := hJ; simp [Region.binds] at hpre; refine .inl ⟨zaa rfl, ?_⟩; exact zah (.tmp 2) (.inl rfl) (.pointer (some ⟨g, 0, none⟩)) (by rw [ha, zac rfl]; rfl) ⟨(), _, rfl, rfl, ja, jo, j0, j1, j2, jr, jb⟩
   · intro _ L w' hL hpre hJ a ha
     obtain ⟨ja, jo, j0, j1, j2, jr, jb⟩ := hJ; simp [Region.binds] at hpre; refine .inl ⟨zaa rfl, ?_⟩; exact wp_load_mid 85 (.tmp 3) rfl ab 0 (by rw [ha, zac rfl]; rfl) (aA.v) _ (zal ja) Tryz.underlying85 rfl zbx ⟨(), _, rfl, rfl, ja, jo, j0, j1, j2, jr, jb⟩
   · intro _ L w' hL hpre hJ a ha
     obtain ⟨ja, jo, j0, j1, j2, jr, jb⟩ := hJ; simp [Region.binds] at hpre; refine .inl ⟨zaa rfl, ?_⟩; exact wp_build_l 90 _ rfl _ rfl _ built_p8 ⟨(), _, rfl, rfl, ja, jo, j0, j1, j2, jr, jb⟩
   · intro _ L w' hL hpre hJ a ha
     obtain ⟨ja, jo, j0, j1, j2, jr, jb⟩ := hJ; simp [Region.binds] at hpre; refine .inl ⟨zaa rfl, ?_⟩; have e33 : a.eval (.tmp 33) = .pointer (some ⟨g, 0, none⟩) := evP ha 4 rfl (by simp [hpre]) (by simp) rfl; have e34 : a.eval (.tmp 34) = .agg (aA.v).toArray := evP ha 5 rfl (by simp [hpre]) (by simp) rfl; have e35 : a.eval (.tmp 35) = .agg (nats .u8 p8).toArray := evP ha 6 rfl (by simp [hpre]) (by simp) rfl; have h3 : L 3 = true := by simp [hpre]
     have hn := j1 h3 hL; have ja' := Lib.hid ja; have jo' := Lib.hid jo; have j0' := Lib.hid j0; have j1' := Lib.hid j1; have j2' := Lib.hid j2; have jr' := Lib.hid jr; have jb' := Lib.hid jb; clear ha ja jo j0 j1 j2 jr jb; refine zab fun K HK => ?_; unfold Oper.wp; simp only [execOp, resolve, List.map_toArray, List.map_cons, List.map_nil, e33, e34, e35]; go_simp; refine (program_any hn aA aA_wf p8 p8_ok.1 p8_ok.2 (by decide +kernel) (by decide +kernel)).mono ?_; rw [show N1.programE aA p8 = 4 by kernel_rfl]; rintro e w'' ⟨rfl, hn2, hf2⟩; have hfz := jr'.out.trans hf2; exact HK.out _ _ ⟨(), _, rfl, rfl, hf2.blk ja'.out rfl, fun _ => h3, fun h => absurd h (by rw [show also L 7 3 = L 3 from rfl, h3]; simp), (fun _ h => by simp [also] at h), fun _ => hn2, hfz, ⟨hfz.os, hfz.tape, hfz.output, hfz.size, fun k hk => absurd hk (Nat.not_lt_zero k)⟩⟩
   · intro _ L w' hL hpre hJ a ha
     obtain ⟨ja, jo, j0, j1, j2, jr, jb⟩ := hJ; simp [Region.binds] at hpre; refine .inl ⟨zaa rfl, ?_⟩; exact zah (.tmp 32) (.inr rfl) (.int .i64 0) (evP ha 3 rfl (by simp [hpre]) (by simp) rfl) ⟨(), _, rfl, rfl, ja, jo, j0, j1, j2, jr, jb⟩
   · intro _ L w' hL hpre hJ a ha
     obtain ⟨ja, jo, j0, j1, j2, jr, jb⟩ := hJ; simp [Region.binds] at hpre; refine .inl ⟨zaa rfl, ?_⟩; exact zah (.tmp 36) (.inr rfl) (.int .i64 4) (evP ha 7 rfl (by simp [hpre]) (by simp) rfl) ⟨(), _, rfl, rfl, ja, jo, j0, j1, j2, jr, jb⟩
 · intro _ L w' hL hJ
   obtain ⟨ja, jo, j0, j1, j2, jr, jb⟩ := hJ; have hn := j2 (hL 7 (by decide)); clear hL jo j0 j1 j2 jb; simp only [List.foldl_cons, List.foldl_nil]; go_simp; have HN5 := Lib.hid hn; have HB5 := Lib.hid (jr.below (show Below w.heap.size w ws by rw [hws]; exact HB4.out) HLB.out (Nat.le_refl _)); have hg_5 := jr.blk (show ws.heap[gb]? = _ by rw [hws]; exact HG4.out) rfl; have ha_5 := ja; clear hn ja jr HN0 HN4 HB4 HA HG4 hws ha_4 hg_4; go_wp2_with (first | (refine wpList_load_mid rfl 85 (.tmp 3) rfl ab 0 rfl (aA.v) _ (zal ha_5) Tryz.underlying85 rfl zbx ?_))
   refine (read_in HN5.out aA aA_wf).mono ?_; rw [show N2.readP aA = p7 by kernel_rfl, show N2.readE aA = 0 by kernel_rfl]; rintro e w6 ⟨rfl, hb6⟩; have HN6 := Lib.hid (HN5.out.below hb6); have HB6 := Lib.hid (HB5.out.trans (hb6.mono HB5.out.size)); have hg_6 := zad hg_5 hb6; have ha_6 := zad ha_5 hb6; clear hb6 HN5 HB5 hg_5 ha_5; obtain ⟨xb, hxb⟩ : ∃ xb, xb = w6.heap.size := ⟨_, rfl⟩; go_wp2_with (first | (refine zai rfl 90 (.tmp 6) (.tmp 41) rfl _ (nats .u8 p7) rfl rfl 90 _ (zak _ _ _ rfl) (zbe rfl) rfl (za1 _ _) ?_; intro w7 hU7; have h7 := hU7.at_; have hb7 := hU7.below (zax _ _) (Nat.le_refl _); clear hU7) | (refine zao rfl 85 _ rfl _ rfl _ built_aB ?_))
   rw [← hxb] at h7; have HN7 := Lib.hid (HN6.out.below hb7); have HB7 := Lib.hid (HB6.out.trans (hb7.mono HB6.out.size)); have hg_7 := zad hg_6 hb7; have ha_7 := zad ha_6 hb7; clear hb7 HN6 HB6 hg_6 ha_6; have hx_7 := h7; clear h7; rw [← hxb]; clear hxb; refine (read_in HN7.out aB aB_wf).mono ?_; rw [show N2.readP aB = zero32 by kernel_rfl, show N2.readE aB = 5 by kernel_rfl]; rintro e w8 ⟨rfl, hb8⟩; have HN8 := Lib.hid (HN7.out.below hb8); have HB8 := Lib.hid (HB7.out.trans (hb8.mono HB7.out.size)); have hg_8 := zad hg_7 hb8; have ha_8 := zad ha_7 hb8; have hx_8 := zad hx_7 hb8; clear hb8 HN7 HB7 hg_7 ha_7 hx_7; go_wp2_with (first | (refine zai rfl 90 (.tmp 8) (.tmp 47) rfl _ (nats .u8 zero32) rfl rfl 90 _ (zak _ _ _ rfl) (zbe rfl) rfl (za1 _ _) ?_; intro w9 hU9; have h9 := hU9.at_; have hb9 := hU9.below (zax _ _) (Nat.le_refl _); clear hU9) | (refine wpList_load_mid rfl 85 (.tmp 3) rfl ab 0 rfl (aA.v) _ (zal (zad ha_8 hb9)) Tryz.underlying85 rfl zbx ?_) | (refine zao rfl 87 _ rfl _ rfl _ built_fA ?_))
   have HN9 := Lib.hid (HN8.out.below hb9); have HB9 := Lib.hid (HB8.out.trans (hb9.mono HB8.out.size)); have hg_9 := zad hg_8 hb9; have ha_9 := zad ha_8 hb9; have hx_9 := zad hx_8 hb9; clear hb9 HN8 HB8 hg_8 ha_8 hx_8; clear h9; refine (fault_in HN9.out fA fA_wf (by omega)).mono ?_; rw [show N2.faultB fA = true by kernel_rfl]; rintro e w10 ⟨rfl, hn10, hf10⟩; have HN10 := Lib.hid hn10; have HB10 := Lib.hid (hf10.below HB9.out HLB.out (Nat.le_refl _)); have hg_10 := hf10.blk hg_9 rfl; have ha_10 := hf10.blk ha_9 rfl; have hx_10 := hf10.blk hx_9 rfl; clear hn10 hf10 HN9 HB9 hg_9 ha_9 hx_9; go_wp2_with (first | (refine wpList_load_mid rfl 85 (.tmp 3) rfl ab 0 rfl (aA.v) _ (zal ha_10) Tryz.underlying85 rfl zbx ?_))
   refine (read_in HN10.out aA aA_wf).mono ?_; rw [show (N2.faultN fA).readP aA = zero32 by kernel_rfl, show (N2.faultN fA).readE aA = 6 by kernel_rfl]; rintro e w11 ⟨rfl, hb11⟩; have HN11 := Lib.hid (HN10.out.below hb11); have HB11 := Lib.hid (HB10.out.trans (hb11.mono HB10.out.size)); have hg_11 := zad hg_10 hb11; have ha_11 := zad ha_10 hb11; have hx_11 := zad hx_10 hb11; clear hb11 HN10 HB10 hg_10 ha_10 hx_10; go_wp2_with (first | (refine zai rfl 90 (.tmp 11) (.tmp 57) rfl _ (nats .u8 zero32) rfl rfl 90 _ (zak _ _ _ rfl) (zbe rfl) rfl (za1 _ _) ?_; intro w12 hU12; have h12 := hU12.at_; have hb12 := hU12.below (zax _ _) (Nat.le_refl _); clear hU12))
   have HN12 := Lib.hid (HN11.out.below hb12); have HB12 := Lib.hid (HB11.out.trans (hb12.mono HB11.out.size)); have hg_12 := zad hg_11 hb12; have ha_12 := zad ha_11 hb12; have hx_12 := zad hx_11 hb12; clear hb12 HN11 HB11 hg_11 ha_11 hx_11; clear h12; refine (erase_any HN12.out 1 0 ⟨rfl, rfl, rfl⟩ (by decide +kernel) (by decide +kernel) (by omega)).mono ?_; rw [show (N2.faultN fA).eraseE 1 0 = 0 by kernel_rfl]; rintro e w13 ⟨rfl, hn13, hf13⟩; have HN13 := Lib.hid hn13; have HB13 := Lib.hid (hf13.below HB12.out HLB.out (Nat.le_refl _)); have hg_13 := hf13.blk hg_12 rfl; have ha_13 := hf13.blk ha_12 rfl; have hx_13 := hf13.blk hx_12 rfl; clear hn13 hf13 HN12 HB12 hg_12 ha_12 hx_12; go_wp2_with fail
   refine (cut_in HN13.out 0 1 (by omega)).mono ?_; rintro e w14 ⟨rfl, hn14, hf14⟩; have HN14 := Lib.hid hn14; have HB14 := Lib.hid (hf14.below HB13.out HLB.out (Nat.le_refl _)); have hg_14 := hf14.blk hg_13 rfl; have ha_14 := hf14.blk ha_13 rfl; have hx_14 := hf14.blk hx_13 rfl; clear hn14 hf14 HN13 HB13 hg_13 ha_13 hx_13; go_wp2_with (first | (refine wpList_load_mid rfl 85 (.tmp 3) rfl ab 0 rfl (aA.v) _ (zal ha_14) Tryz.underlying85 rfl zbx ?_) | (refine zao rfl 90 _ rfl _ rfl _ built_p56 ?_))
   refine (program_any (show NandIn _ _ _ _ N5 from HN14.out) aA aA_wf p56 p56_ok.1 p56_ok.2 (by decide +kernel) (by decide +kernel)).mono ?_; rw [show N5.programE aA p56 = 9 by kernel_rfl]; rintro e w15 ⟨rfl, hn15, hf15⟩; have HN15 := Lib.hid hn15; have HB15 := Lib.hid (hf15.below HB14.out HLB.out (Nat.le_refl _)); have hg_15 := hf15.blk hg_14 rfl; have ha_15 := hf15.blk ha_14 rfl; have hx_15 := hf15.blk hx_14 rfl; clear hn15 hf15 HN14 HB14 hg_14 ha_14 hx_14; go_wp2_with fail
   refine (on_in HN15.out).mono ?_; rintro e w16 ⟨rfl, hn16, hf16⟩; change NandIn _ _ _ _ N7 at hn16
   have HN16 := Lib.hid hn16; have HB16 := Lib.hid (hf16.below HB15.out HLB.out (Nat.le_refl _)); have hg_16 := hf16.blk hg_15 rfl; have ha_16 := hf16.blk ha_15 rfl; have hx_16 := hf16.blk hx_15 rfl; clear hn16 hf16 HN15 HB15 hg_15 ha_15 hx_15; go_wp2_with (first | (refine wpList_load_mid rfl 85 (.tmp 3) rfl ab 0 rfl (aA.v) _ (zal ha_16) Tryz.underlying85 rfl zbx ?_))
   refine (read_in HN16.out aA aA_wf).mono ?_; rw [show N7.readP aA = y7 by kernel_rfl, show N7.readE aA = 0 by kernel_rfl]; rintro e w17 ⟨rfl, hb17⟩; have HN17 := Lib.hid (HN16.out.below hb17); have HB17 := Lib.hid (HB16.out.trans (hb17.mono HB16.out.size)); have hg_17 := zad hg_16 hb17; have ha_17 := zad ha_16 hb17; have hx_17 := zad hx_16 hb17; clear hb17 HN16 HB16 hg_16 ha_16 hx_16; obtain ⟨yb, hyb⟩ : ∃ yb, yb = w17.heap.size := ⟨_, rfl⟩; go_upto_region 16 with (first | (refine zai rfl 90 (.tmp 15) (.tmp 73) rfl _ (nats .u8 y7) rfl rfl 90 _ (zak _ _ _ rfl) (zbe rfl) rfl (za1 _ _) ?_; intro w18 hU18; have h18 := hU18.at_; have hb18 := hU18.below (zax _ _) (Nat.le_refl _); clear hU18))
   rw [← hyb] at h18; have HN18 := Lib.hid (HN17.out.below hb18); have HB18 := Lib.hid (HB17.out.trans (hb18.mono HB17.out.size)); have hg_18 := zad hg_17 hb18; have ha_18 := zad ha_17 hb18; have hx_18 := zad hx_17 hb18; clear hb18 HN17 HB17 hg_17 ha_17 hx_17; have hy_18 := h18; clear h18; rw [← hyb]; clear hyb; go_simp; obtain ⟨l2, hb2r, HL2⟩ : ∃ (l2 : List Value), (∀ w, (Instr.buildSlice 151 2 #[(0, .agg fB.v.toArray), (1, .agg fC.v.toArray)]).run Tryz.prog w = .ok (.slice (some ⟨w.heap.size, 0, none⟩) 2 2) (w.alloc (.cells l2.toArray 87))) ∧ Hid (l2 = (flts [fB, fC]).flatten) := ⟨_, two_f, Lib.hid rfl⟩; go_wp2_with (first | (refine wpList_load_mid rfl 39 (.tmp 1) rfl gb 0 rfl (gG) _ (zal hg_18) Tryz.underlying39 rfl hgI ?_) | (refine zao rfl 85 _ rfl _ rfl _ built_aB ?_) | (refine zao rfl 87 _ rfl _ rfl _ built_fB ?_) | (refine zao rfl 87 _ rfl _ rfl _ built_fC ?_) | (refine want_bs2 151 _ _ rfl _ _ rfl rfl (fun w => .slice (some ⟨w.heap.size, 0, none⟩) 2 2) l2 _ hb2r (by rfl) ?_))
   have hb19 := zax w18 (.cells l2.toArray 87); have hr19 := zak w18 (.cells l2.toArray 87) _ rfl; clear hb2r; obtain ⟨w19, hw19⟩ : ∃ w19, w19 = w18.alloc (.cells l2.toArray 87) := ⟨_, rfl⟩; rw [← hw19] at hb19 hr19 ⊢; rw [HL2.out] at hr19; have hr19 := begun5.rds_blk hr19 (fun r hr => flts_len r hr); have HN19 := Lib.hid (HN18.out.below hb19); have HB19 := Lib.hid (HB18.out.trans (hb19.mono HB18.out.size)); have hg_19 := zad hg_18 hb19; have ha_19 := zad ha_18 hb19; have hx_19 := zad hx_18 hb19; have hy_19 := zad hy_18 hb19; clear hb19 HN18 HB18 hg_18 ha_18 hx_18 hy_18; have hpl := plan_new1 3 8 2 (by decide) [fB, fC] (fun f hf => by simp at hf; rcases hf with rfl | rfl; exact fB_wf; exact fC_wf) _ 2 2 _ w19 hr19 (Nat.le_refl _) (by decide) (by rw [kept_BC]; decide); rw [kept_BC] at hpl; have HPL := Lib.hid hpl; clear hpl hr19 hw19; refine (show Calls _ _ #[.agg gG.toArray, _] _ _ from HPL.out).mono ?_; rintro e w20 ⟨pp, A20, c20, rfl, hp20, hb20⟩; clear HPL; have HP20 := Lib.hid hp20; obtain ⟨bp, hbp⟩ : ∃ bp, bp = w19.heap.size := ⟨_, rfl⟩; rw [← hbp] at HP20; have HBP := Lib.hid (show w.heap.size ≤ bp ∧ bp ≤ w20.heap.size from ⟨by rw [hbp]; exact HB19.out.size, by rw [hbp]; exact hb20.size⟩); clear hp20 hbp; have HSz := Lib.hid (Nat.le_refl w20.heap.size); have HN20 := Lib.hid (HN19.out.below hb20); have HB20 := Lib.hid (HB19.out.trans (hb20.mono HB19.out.size)); have hg_20 := zad hg_19 hb20; have ha_20 := zad ha_19 hb20
   have hx_20 := zad hx_19 hb20; have hy_20 := zad hy_19 hb20; clear hb20 HN19 HB19 hg_19 ha_19 hx_19 hy_19; go_upto_region 17 with fail
   simp only [List.append_eq, List.cons_append, List.nil_append]; go_wp2_with fail
   refine (begun5_all _).mono ?_; rintro e w21 ⟨rfl, hb21⟩; replace HSz := Lib.hid (Nat.le_trans HSz.out hb21.size); have HP21 := Lib.hid (HP20.out.below hb21); have HN21 := Lib.hid (HN20.out.below hb21); have HB21 := Lib.hid (HB20.out.trans (hb21.mono HB20.out.size)); have hg_21 := zad hg_20 hb21; have ha_21 := zad ha_20 hb21; have hx_21 := zad hx_20 hb21; have hy_21 := zad hy_20 hb21; clear hb21 HN20 HB20 hg_20 ha_20 hx_20 hy_20; go_wp2_with fail
   refine (begun6_all _).mono ?_; rintro e w22 ⟨rfl, hb22⟩; replace HSz := Lib.hid (Nat.le_trans HSz.out hb22.size); have HP22 := Lib.hid (HP21.out.below hb22); have HN22 := Lib.hid (HN21.out.below hb22); have HB22 := Lib.hid (HB21.out.trans (hb22.mono HB21.out.size)); have hg_22 := zad hg_21 hb22; have ha_22 := zad ha_21 hb22; have hx_22 := zad hx_21 hb22; have hy_22 := zad hy_21 hb22; clear hb22 HN21 HB21 hg_21 ha_21 hx_21 hy_21; have heq := eql_p7; have cy0 : w22.cell? ⟨yb, 0, none⟩ = some (.int .u8 5) := by rw [zaf hy_22]; rfl
   have cy1 : w22.cell? ⟨yb, 1, none⟩ = some (.int .u8 255) := by rw [zaf hy_22]; rfl
   have hxr := zal hx_22; skip
   go_wp2_with fail
   refine (broken_in (show NandIn _ _ _ 1 N7 from HN22.out)).mono ?_; rw [show ((N7.broken : Nat) : Int) = 1 by kernel_rfl]; rintro e w23 ⟨rfl, rfl⟩; go_wp2_with (first | (refine want_page (.tmp 6) rfl xb 0 rfl (by rfl) hxr (zbe rfl) ?_) | (refine want_build 90 _ rfl _ rfl _ built_p7 (by rfl) ?_))
   refine (ops_in (show NandIn _ _ _ 1 N7 from HN22.out)).mono ?_; rw [show ((N7.ops : Nat) : Int) = 3 by kernel_rfl]; rintro e w23 ⟨rfl, rfl⟩; go_wp2_with fail
   refine (show Calls _ _ #[.pointer (some ⟨g, 0, none⟩), .int .i64 1, .int .i64 0] _ _ from worn_in (show NandIn _ _ _ 1 N7 from HN22.out) 1 0 (by decide +kernel) (by decide +kernel)).mono ?_; rw [show (((N7.blk 1 0).worn : Nat) : Int) = 1 by kernel_rfl]; rintro e w24 ⟨rfl, hb24⟩; replace HSz := Lib.hid (Nat.le_trans HSz.out hb24.size); have HP24 := Lib.hid (HP22.out.below hb24); clear cy0 cy1 hxr; have HN24 := Lib.hid (HN22.out.below hb24); have HB24 := Lib.hid (HB22.out.trans (hb24.mono HB22.out.size)); have hg_24 := zad hg_22 hb24; have ha_24 := zad ha_22 hb24; have hx_24 := zad hx_22 hb24; have hy_24 := zad hy_22 hb24; clear hb24 HN22 HB22 hg_22 ha_22 hx_22 hy_22; go_wp2_with fail
   refine (show Calls _ _ #[.pointer (some ⟨g, 0, none⟩), .int .i64 1, .int .i64 0] _ _ from next_in (show NandIn _ _ _ 1 N7 from HN24.out) 1 0 (by decide +kernel) (by decide +kernel)).mono ?_; rw [show (((N7.blk 1 0).cells.length : Nat) : Int) = 1 by kernel_rfl]; rintro e w25 ⟨rfl, hb25⟩; replace HSz := Lib.hid (Nat.le_trans HSz.out hb25.size); have HP25 := Lib.hid (HP24.out.below hb25); have HN25 := Lib.hid (HN24.out.below hb25); have HB25 := Lib.hid (HB24.out.trans (hb25.mono HB24.out.size)); have hg_25 := zad hg_24 hb25; have ha_25 := zad ha_24 hb25; have hx_25 := zad hx_24 hb25; have hy_25 := zad hy_24 hb25; clear hb25 HN24 HB24 hg_24 ha_24 hx_24 hy_24; have HS25 := Lib.hid (show w20.heap.size ≤ w25.heap.size from HSz.out); go_wp2_with fail
   refine (left_any HP25.out).mono ?_; rintro e w26 ⟨rfl, rfl⟩; go_wp2_with fail
   refine (run_any HP25.out (show NandIn _ _ _ 1 N7 from HN25.out) (by omega) (by decide) (by have := HBP.out; have := HB25.out.size; have := HS25.out; omega) HB25.out ⟨HLB.out, HBP.out.1⟩ (Nat.le_refl _)).mono ?_; rw [show dueN [fB] ((N7.ops : Nat) : Int) = 1 by kernel_rfl]; rintro e w27 ⟨rfl, hn27, -, hb27⟩; have HN27 := Lib.hid hn27; have HB27 := Lib.hid hb27; clear hn27 hb27; go_wp2_with fail
   refine (dead_in HN27.out 2 (by omega) (by decide +kernel)).mono ?_; rw [show (runN N7 ([fB].take 1)).dead.getD (2 : Int).toNat false = true by kernel_rfl]; rintro e w28 ⟨rfl, rfl⟩; obtain ⟨l1, hb1r, HL1⟩ : ∃ (l1 : List Value), (∀ w, (Instr.buildSlice 151 1 #[(0, .agg fD.v.toArray)]).run Tryz.prog w = .ok (.slice (some ⟨w.heap.size, 0, none⟩) 1 1) (w.alloc (.cells l1.toArray 87))) ∧ Hid (l1 = (flts [fD]).flatten) := ⟨_, one_f, Lib.hid rfl⟩; go_wp2_with (first | (refine want_build 85 _ rfl _ rfl _ built_aB (by rfl) ?_) | (refine want_build 87 _ rfl _ rfl _ built_fD (by rfl) ?_) | (refine want_bs1 151 _ rfl _ rfl (fun w => .slice (some ⟨w.heap.size, 0, none⟩) 1 1) l1 _ hb1r (by rfl) ?_))
   have hb29 := zax w27 (.cells l1.toArray 87); have hr29 := zak w27 (.cells l1.toArray 87) _ rfl; have HB29 := Lib.hid (HB27.out.trans (hb29.mono HB27.out.size)); clear hb1r; obtain ⟨w29, hw29⟩ : ∃ w29, w29 = w27.alloc (.cells l1.toArray 87) := ⟨_, rfl⟩; rw [← hw29] at hb29 hr29 HB29 ⊢; rw [HL1.out] at hr29; have hr29 := begun5.rds_blk hr29 (fun r hr => flts_len r hr); clear hw29; refine (dies_of [fD] _ 1 1 _ w29 hr29 (Nat.le_refl _) (by decide)).mono ?_; rw [show diesI [fD] = 4 by kernel_rfl]; rintro e w30 ⟨rfl, hb30⟩; have HB30 := Lib.hid (HB29.out.trans (hb30.mono HB29.out.size)); clear hb30 hb29 hr29; go_wp2_with fail
   go_ret
   exact ⟨rfl, HB30.out⟩
end Go.Proofs.YtpbigfopmompfaaGreat.nand
