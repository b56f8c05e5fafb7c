import Derived.Test.YtpbigfopmompfaaGreatBunL
import Derived.Deep.OwnRows
/- A flash: a new one. -/
namespace Go.Proofs.YtpbigfopmompfaaGreat.nand
open Go.RowKit
set_option linter.unusedVariables false
def lay0 (D mb bp dvb : Nat) : Lay := ⟨mb, 0, bp + 1, bp, 0, [], .slice (some ⟨dvb, 0, none⟩) D D, fun _ _ => 0, fun _ _ => .slice none 0 0⟩
theorem built_nand (D B P mb bp dvb : Nat) : Tryz.prog.built 115 [(0, .agg ([.int .i64 (D : Int), .int .i64 (B : Int), .int .i64 (P : Int)]).toArray), (1, .map (some mb)), (2, .pointer (some ⟨bp + 1, 0, none⟩)), (3, .slice (some ⟨dvb, 0, none⟩) D D)] = some ((Nd.new D B P).top (lay0 D mb bp dvb)).toArray := by kernel_rfl
theorem built_block : Tryz.prog.built 119 [] = some (Blk.none.v (.slice none 0 0)).toArray := by kernel_rfl
theorem zax (w : World) (o : Obj) : Below w.heap.size w (w.alloc o) := (Below.refl _ w).alloc (Nat.le_refl _) o
theorem own_made (w : World) {base D : Nat} (hb : base ≤ w.heap.size) (hD : D ≤ 6) : (w.alloc (.cells (madeCells #[.bool false] D) 4)).ownsRow base 4 1 (.slice (some ⟨w.heap.size, 0, none⟩) D D) D ((List.replicate D false).map .bool) := by
 have hc : madeCells #[Value.bool false] D = ((List.replicate D false).map Value.bool).toArray := by
  unfold madeCells; apply Array.ext'
  simp; apply List.ext_getElem
  · simp
  · intro a h1 h2
    simp [Nat.mod_one]
 rw [hc]
 refine ⟨by simp, .inr ⟨w.heap.size, D, _, rfl, hb, zak _ _ _ rfl, Nat.le_refl _, by unfold maxLen; omega, by simp, by simp⟩⟩
def dn (B i j d b : Nat) : Prop := (d < i ∧ b < B) ∨ (d = i ∧ b < j)
structure Part (w : World) (base g : Nat) (Y : Lay) (D B P i j : Nat) : Prop where
 head : w.heap[g]? = some (.cells ((Nd.new D B P).top Y).toArray 115 (0, 0))
 lowg : base ≤ g ∧ Y.bp ≤ g ∧ Y.mb ≤ g
 map : ∃ M, w.ownsMap Tryz.prog 85 anyElem Y.mb Y.nm M ∧ Rel M Y.mf
 nm : Y.nm ≤ i * B + j
 has : ∀ d b : Nat, dn B i j d b → (key d b, .pointer (some ⟨Y.q d b, 0, none⟩)) ∈ Y.mf
 only : ∀ x ∈ Y.mf, ∃ d b : Nat, dn B i j d b ∧ x.1 = key d b
 plan : Spot w 142 Y.gp Y.bp Y.np []
 np0 : Y.np = 0
 dead : w.ownsRow base 4 1 Y.dv D ((List.replicate D false).map .bool)
 blk : ∀ d b : Nat, dn B i j d b → w.heap[Y.q d b]? = some (.cells (Blk.none.v (.slice none 0 0)).toArray 119 (0, 0)) ∧ base ≤ Y.q d b
 cv : ∀ d b : Nat, Y.cv d b = .slice none 0 0
 qinj : ∀ d b d' b' : Nat, dn B i j d b → dn B i j d' b' → Y.q d b = Y.q d' b' → d = d' ∧ b = b'
 apart : Y.mb ≠ Y.bp
 low : base ≤ Y.mb ∧ base ≤ Y.gp ∧ base ≤ Y.bp
section
variable {w w' : World} {base g D B P i j : Nat} {Y : Lay}
theorem Part.below (h : Part w base g Y D B P i j) (hb : Below w.heap.size w w') : Part w' base g Y D B P i j :=
 { h with
  head := zad h.head hb
  map := by obtain ⟨M, h1, h2⟩ := h.map; exact ⟨M, owns_below h1 hb, h2⟩
  plan := h.plan.below hb
  dead := zb6 h.dead hb
  blk := fun d b hd => ⟨zad (h.blk d b hd).1 hb, (h.blk d b hd).2⟩ }
theorem Part.drew (h : Part w base g Y D B P i j) : Part w.drew base g Y D B P i j := h.below (Below.refl _ w).drew
theorem Part.qlt (h : Part w base g Y D B P i j) {d b : Nat} (hd : dn B i j d b) : Y.q d b < w.heap.size := zag (h.blk d b hd).1
theorem Part.row (h : Part w base g Y D B P i B) : Part w base g Y D B P (i + 1) 0 := by
 have e : ∀ d b, dn B i B d b ↔ dn B (i + 1) 0 d b := fun d b => by unfold dn; omega
 exact { h with
  nm := by have := h.nm; rw [Nat.succ_mul]; omega
  has := fun d b hd => h.has d b ((e d b).2 hd)
  only := fun x hx => by obtain ⟨d, b, hd, he⟩ := h.only x hx; exact ⟨d, b, (e d b).1 hd, he⟩
  blk := fun d b hd => h.blk d b ((e d b).2 hd)
  qinj := fun d b d' b' hd hd' => h.qinj d b d' b' ((e d b).2 hd) ((e d' b').2 hd') }
theorem Part.done (h : Part w base g Y D B P D 0) (ok : 3 ≤ D ∧ D ≤ 6 ∧ 8 ≤ B ∧ B ≤ 16 ∧ 2 ≤ P ∧ P ≤ 8) : NandAt w base g Y (Nd.new D B P) := by
 have e : ∀ d b, d < D → b < B → dn B D 0 d b := fun d b h1 h2 => .inl ⟨h1, h2⟩
 refine ⟨Nd.new_ok ok, h.head, h.lowg, ⟨h.map, fun d b hd hb => h.has d b (e d b hd hb), fun x hx => ?_, h.plan, h.dead, fun d b hd hb => ?_, fun d b hd hb => ?_, fun d b d' b' h1 h2 h3 h4 => h.qinj d b d' b' (e d b h1 h2) (e d' b' h3 h4), fun d b d' b' h1 h2 h3 h4 hne k hk => ?_, h.apart, h.low.1, h.low.2.1, h.low.2.2, fun d b hd hb => (h.blk d b (e d b hd hb)).2⟩⟩
 · obtain ⟨d, b, hd, he⟩ := h.only x hx
   unfold dn at hd; exact ⟨d, b, (show d < D by omega), (show b < B by omega), he⟩
 · rw [h.cv]; exact (h.blk d b (e d b hd hb)).1
 · rw [h.cv]; exact OwnRows.nil
 · rw [h.cv] at hk; simp [Value.ownBlock] at hk
theorem blk_belowc {p : Addr} {v : Value} (h : w.cell? p = some v) (hb : Below w.heap.size w w') : w'.cell? p = some v := (hb.cell (World.block_lt_of_cell? _ _ h)).trans h
theorem key_ne {d b d' b' : Nat} (h : ¬ (d = d' ∧ b = b')) : key (d : Int) (b : Int) ≠ key (d' : Int) (b' : Int) := by
 intro e
 have e1 : ((d : Int)) = d' := congrArg Ad.d e
 have e2 : ((b : Int)) = b' := congrArg Ad.b e
 exact h ⟨by omega, by omega⟩
theorem Part.put (h : Part w base g Y D B P i j) (hi : i < D) (hj : j < B) (hB : D ≤ 6 ∧ B ≤ 16) {k : Nat} (hk : w.heap[k]? = some (.cells (Blk.none.v (.slice none 0 0)).toArray 119 (0, 0))) (hbk : base ≤ k) (hq : ∀ d b, dn B i j d b → Y.q d b < k) :
 ∃ w2, (Instr.mapUpdate 110 (.map (some Y.mb)) (.agg (key (i : Int) (j : Int)).v.toArray) (.pointer (some ⟨k, 0, none⟩))).run Tryz.prog w = .ok () w2 ∧ ∃ Y', Part w2 base g Y' D B P i (j + 1) ∧ w2.cell? ⟨g, 3, none⟩ = some (.map (some Y.mb)) ∧ (∀ (a : Nat) (cs : Array Value) (t : TypeId) (fr : Nat × Nat), w.heap[a]? = some (Obj.cells cs t fr) → w2.heap[a]? = some (Obj.cells cs t fr)) ∧ Below base w w2 := by
 obtain ⟨M, hm, hR⟩ := h.map
 have hwf : (key (i : Int) (j : Int)).wf := key_wf (by omega) (by omega)
 have hkk : keyOf Tryz.prog 85 (.agg (key (i : Int) (j : Int)).v.toArray) = some (klA (key (i : Int) (j : Int))) := zb7 hwf
 have hnm : Y.nm + 1 ≤ maxLen := by
  have h1 := h.nm; have h2 : i * B ≤ 6 * 16 := Nat.mul_le_mul (by omega) (by omega); unfold maxLen; omega
 obtain ⟨w2, hrun, hown2, hgr2⟩ := hm.update (val := .pointer (some ⟨k, 0, none⟩)) adKeyed Tryz.underlying110 hnm hkk (show anyElem (.pointer (some ⟨k, 0, none⟩)) = some (.held (.pointer (some ⟨k, 0, none⟩)), []) from rfl)
 obtain ⟨om, hom, hkm⟩ := map_blk hm
 have st : ∀ (a : Nat) (cs : Array Value) (t : TypeId) (fr : Nat × Nat), w.heap[a]? = some (Obj.cells cs t fr) → w2.heap[a]? = some (Obj.cells cs t fr) := fun a cs t fr ha =>
  (hgr2.block a (zag ha) fun e => by
   have e := Option.some.inj e; subst e; rw [ha] at hom; have := Option.some.inj hom; subst this; simp [kindO] at hkm).trans ha
 obtain ⟨hp1, Dp, hp2, hp3⟩ := h.plan
 obtain ⟨op, hop, hkp⟩ := map_blk hp2
 have h1 := st _ _ _ _ h.head
 have e1 : ∀ d b, dn B i (j + 1) d b ↔ (dn B i j d b ∨ (d = i ∧ b = j)) := fun d b => by unfold dn; omega
 have e2 : ∀ d b, dn B i j d b → ¬ (d = i ∧ b = j) := fun d b hd => by unfold dn at hd; omega
 have hbl : Below base w w2 := ⟨hgr2.os, hgr2.tape, hgr2.output, hgr2.size, fun a ha => hgr2.block a (by have := (h.low).1; have := (Array.getElem?_eq_some_iff.1 hom).1; omega) fun e => by have := Option.some.inj e; have := h.low.1; omega⟩
 refine ⟨w2, hrun, { Y with nm := Y.nm + 1, mf := putF Y.mf (key (i : Int) (j : Int)) (.pointer (some ⟨k, 0, none⟩)), q := fun d b => if d = i ∧ b = j then k else Y.q d b }, ?_, by rw [zaf h1]; rfl, st, hbl⟩
 refine ⟨h1, h.lowg, ⟨_, hown2, hR.put hwf _⟩, by have := h.nm; simp only; omega, fun d b hd => ?_, fun x hx => ?_, ?_, h.np0, ?_, fun d b hd => ?_, h.cv, fun d b d' b' hd hd' he => ?_, h.apart, h.low⟩
 · simp only
   by_cases e : d = i ∧ b = j
   · rw [if_pos e, e.1, e.2]
     exact List.mem_cons_self
   · rw [if_neg e]
     have hd0 : dn B i j d b := by
      rcases (e1 d b).1 hd with hd | hd
      · exact hd
      · exact absurd hd e
     exact List.mem_cons_of_mem _ (zbh.2 ⟨h.has d b hd0, key_ne e⟩)
 · rcases mem_putF hx with rfl | hx
   · exact ⟨i, j, (e1 i j).2 (.inr ⟨rfl, rfl⟩), rfl⟩
   · obtain ⟨d, b, hd, he⟩ := h.only x hx
     exact ⟨d, b, (e1 d b).2 (.inl hd), he⟩
 · refine spot_same h.plan ((st _ _ _ _ hp1).trans hp1.symm) ?_
   refine hgr2.block _ (Array.getElem?_eq_some_iff.1 hop).1 fun e => ?_; exact h.apart (Option.some.inj e).symm
 · exact own_same h.dead fun a ha => by obtain ⟨cur, hc, -⟩ := za5 h.dead ha; exact (st _ _ _ _ hc).trans hc.symm
 · simp only
   by_cases e : d = i ∧ b = j
   · rw [if_pos e]; exact ⟨st _ _ _ _ hk, hbk⟩
   · rw [if_neg e]
     have hd0 : dn B i j d b := by
      rcases (e1 d b).1 hd with hd | hd
      · exact hd
      · exact absurd hd e
     exact ⟨st _ _ _ _ (h.blk d b hd0).1, (h.blk d b hd0).2⟩
 · simp only at he
   by_cases e : d = i ∧ b = j
   · rw [if_pos e] at he
     by_cases e' : d' = i ∧ b' = j
     · exact ⟨e.1.trans e'.1.symm, e.2.trans e'.2.symm⟩
     · rw [if_neg e'] at he
       have hd0 : dn B i j d' b' := by
        rcases (e1 d' b').1 hd' with hd | hd
        · exact hd
        · exact absurd hd e'
       have := hq d' b' hd0; omega
   · rw [if_neg e] at he
     have hd0 : dn B i j d b := by
      rcases (e1 d b).1 hd with hd | hd
      · exact hd
      · exact absurd hd e
     by_cases e' : d' = i ∧ b' = j
     · rw [if_pos e'] at he
       have := hq d b hd0; omega
     · rw [if_neg e'] at he
       have hd1 : dn B i j d' b' := by
        rcases (e1 d' b').1 hd' with hd | hd
        · exact hd
        · exact absurd hd e'
       exact h.qinj d b d' b' hd0 hd1 he
end
theorem geo_c0 {w : World} {k D B P : Nat} {t : TypeId} {fr : Nat × Nat} (h : w.heap[k]? = some (.cells ([.int .i64 (D : Int), .int .i64 (B : Int), .int .i64 (P : Int)]).toArray t fr)) : w.cell? ⟨k, 0, none⟩ = some (.int .i64 (D : Int)) := by rw [zaf h]; rfl
theorem geo_c1 {w : World} {k D B P : Nat} {t : TypeId} {fr : Nat × Nat} (h : w.heap[k]? = some (.cells ([.int .i64 (D : Int), .int .i64 (B : Int), .int .i64 (P : Int)]).toArray t fr)) : w.cell? ⟨k, 1, none⟩ = some (.int .i64 (B : Int)) := by rw [zaf h]; rfl
set_option maxRecDepth 100000 in
set_option maxHeartbeats 8000000 in
theorem new_any (w : World) (D B P : Nat) (ok : 3 ≤ D ∧ D ≤ 6 ∧ 8 ≤ B ∧ B ≤ 16 ∧ 2 ≤ P ∧ P ≤ 8) :
 Calls Tryz.prog 45 #[.agg ([.int .i64 (D : Int), .int .i64 (B : Int), .int .i64 (P : Int)]).toArray] w fun e w' => ∃ g, e = .returned (.pointer (some ⟨g, 0, none⟩)) ∧ NandIn w' w.heap.size g 0 (Nd.new D B P) ∧ Below w.heap.size w w' := by
 have hbel := zax w (.cells ([.int .i64 (D : Int), .int .i64 (B : Int), .int .i64 (P : Int)]).toArray 39)
 have ha := heap_alloc_new w (.cells ([.int .i64 (D : Int), .int .i64 (B : Int), .int .i64 (P : Int)]).toArray 39)
 have hmay : mayG (D : Int) (B : Int) (P : Int) = true := by simp [mayG, wiB]; omega
 have hMay := may_geo (D : Int) (B : Int) (P : Int)
 rw [hmay] at hMay
 have hrg : (w.alloc (.cells ([.int .i64 (D : Int), .int .i64 (B : Int), .int .i64 (P : Int)]).toArray 39)).rangeAt w.heap.size 0 [.int .i64 (D : Int), .int .i64 (B : Int), .int .i64 (P : Int)] := zal ha
 have HMay := Lib.hid hMay
 have HG0 := Lib.hid ha
 have HB0 := Lib.hid hbel
 have HOK := Lib.hid ok
 clear ha hbel hmay hMay
 go_enter Tryz.func45, Tryz.ntmps45
 go_wp2_with (first | (refine wpList_load_mid rfl 39 (.tmp 1) rfl w.heap.size 0 rfl [.int .i64 (D : Int), .int .i64 (B : Int), .int .i64 (P : Int)] _ hrg Tryz.underlying39 rfl geoInfo ?_))
 refine (HMay.out _).mono ?_
 rintro e ws ⟨rfl, hb⟩
 have HG := Lib.hid (zad HG0.out hb)
 have HB := Lib.hid (HB0.out.trans (hb.mono HB0.out.size))
 have HD := Lib.hid (show D ≤ 6 by have := HOK.out; omega)
 have HMk := Lib.hid (run_make_row' (P := Tryz.prog) 113 4 (.bool false) 1 Tryz.underlying113 (by kernel_rfl) rfl .i64 .i64 D (by have := HOK.out; omega) (by have := HOK.out; omega))
 clear hrg hb HG0 HB0 HMay
 go_upto_region 3 with fail
 refine zan (by kernel_rfl) (by kernel_rfl) (X := (Nat × Nat × Nat × Nat) × Value × Value) (fun y => [(some 9, .agg ([.int .i64 (D : Int), .int .i64 (B : Int), .int .i64 (P : Int)]).toArray), (some 10, .map (some y.1.1)), (some 11, .pointer (some ⟨y.1.2.1 + 1, 0, none⟩)), (some 12, .pointer (some ⟨w.heap.size, 0, none⟩)), (some 13, .int .i64 (D : Int)), (some 14, .slice (some ⟨y.1.2.2.1, 0, none⟩) D D), (some 15, y.2.1), (some 16, .pointer (some ⟨y.1.2.2.2, 0, none⟩)), (some 3, y.2.2)])
  (fun y L w' => w'.heap[w.heap.size]? = some (.cells ([.int .i64 (D : Int), .int .i64 (B : Int), .int .i64 (P : Int)]).toArray 39 (0, 0)) ∧ (L 1 = true → w'.ownsMap Tryz.prog 85 anyElem y.1.1 0 (.map []) ∧ w.heap.size ≤ y.1.1) ∧ (L 2 = true → Spot w' 142 (y.1.2.1 + 1) y.1.2.1 0 [] ∧ w.heap.size ≤ y.1.2.1) ∧ (L 1 = true → L 2 = true → y.1.1 ≠ y.1.2.1) ∧ (L 5 = true → w'.ownsRow w.heap.size 4 1 (.slice (some ⟨y.1.2.2.1, 0, none⟩) D D) D ((List.replicate D false).map .bool)) ∧ (L 6 = true → (L 1 = true ∧ L 2 = true ∧ L 5 = true) ∧ y.2.1 = .agg ((Nd.new D B P).top (lay0 D y.1.1 y.1.2.1 y.1.2.2.1)).toArray) ∧ (L 7 = true → L 6 = true ∧ w'.heap[y.1.2.2.2]? = some (.cells ((Nd.new D B P).top (lay0 D y.1.1 y.1.2.1 y.1.2.2.1)).toArray 115 (0, 0)) ∧ w.heap.size ≤ y.1.2.2.2 ∧ y.1.2.1 ≤ y.1.2.2.2 ∧ y.1.1 ≤ y.1.2.2.2) ∧ (L 8 = true → L 7 = true ∧ y.2.2 = .pointer (some ⟨y.1.2.2.2, 0, none⟩)) ∧ Below w.heap.size w w') (fun _ => rfl) (by kernel_rfl) ⟨((0, 0, 0, 0), undef, undef), fun L hL => ⟨HG.out, (by rw [hL 1]; intro h; cases h), (by rw [hL 2]; intro h; cases h), (by rw [hL 1]; intro h; cases h), (by rw [hL 5]; intro h; cases h), (by rw [hL 6]; intro h; cases h), (by rw [hL 7]; intro h; cases h), (by rw [hL 8]; intro h; cases h), HB.out.drew⟩⟩ ?_ ?_
 · refine ⟨?_, ?_, ?_, ?_, ?_, ?_, ?_, ?_, ?_, trivial⟩
   · intro y L w' hL hpre hJ a ha
     obtain ⟨jg, jm, js, jx, jd, j6, j7, j8, jb⟩ := hJ; simp [Region.binds] at hpre; refine .inl ⟨zaa rfl, ?_⟩; exact wp_load_mid 39 (.tmp 1) rfl w.heap.size 0 (by rw [ha, zac rfl]; rfl) ([.int .i64 (D : Int), .int .i64 (B : Int), .int .i64 (P : Int)]) _ (zal jg) Tryz.underlying39 rfl geoInfo ⟨y, _, rfl, rfl, jg, jm, js, jx, jd, j6, j7, j8, jb⟩
   · intro y L w' hL hpre hJ a ha
     obtain ⟨jg, jm, js, jx, jd, j6, j7, j8, jb⟩ := hJ; simp [Region.binds] at hpre; refine .inl ⟨zaa rfl, ?_⟩; have jg' := Lib.hid jg; have jm' := Lib.hid jm; have js' := Lib.hid js; have jx' := Lib.hid jx; have jd' := Lib.hid jd; have j6' := Lib.hid j6; have j7' := Lib.hid j7; have j8' := Lib.hid j8; have jb' := Lib.hid jb; clear ha jg jm js jx jd j6 j7 j8 jb; refine zab fun K HK => ?_; unfold Oper.wp; simp only [execOp]; go_simp; have hb := zax w' (.map #[] 0); exact HK.out _ _ ⟨((w'.heap.size, y.1.2), y.2), _, rfl, rfl, zad jg'.out hb, fun _ => ⟨World.ownsMap_made w' _ _ _, jb'.out.size⟩, fun h => ⟨(js'.out h).1.below hb, (js'.out h).2⟩, fun _ h e => absurd (js'.out h).1.lt.2 (by have e : w'.heap.size = y.1.2.1 := e; omega), fun h => zb6 (jd'.out h) hb, fun h => absurd ((j6'.out h).1.1) (by simp [hL]), fun h => absurd ((j6'.out (j7'.out h).1).1.1) (by simp [hL]), fun h => absurd ((j6'.out (j7'.out (j8'.out h).1).1).1.1) (by simp [hL]), jb'.out.trans (hb.mono jb'.out.size)⟩
   · intro y L w' hL hpre hJ a ha
     obtain ⟨jg, jm, js, jx, jd, j6, j7, j8, jb⟩ := hJ; simp [Region.binds] at hpre; refine .inl ⟨zaa rfl, ?_⟩; have jg' := Lib.hid jg; have jm' := Lib.hid jm; have js' := Lib.hid js; have jx' := Lib.hid jx; have jd' := Lib.hid jd; have j6' := Lib.hid j6; have j7' := Lib.hid j7; have j8' := Lib.hid j8; have jb' := Lib.hid jb; clear ha jg jm js jx jd j6 j7 j8 jb; refine zab fun K HK => ?_; unfold Oper.wp; simp only [execOp, resolve, List.map_toArray, List.map_nil]; go_simp; refine (spotBool.new w').mono ?_; rintro e w'' ⟨rfl, hS, hb⟩; exact HK.out _ _ ⟨((y.1.1, w'.heap.size, y.1.2.2), y.2), _, rfl, rfl, zad jg'.out hb, fun h => ⟨owns_below (jm'.out h).1 hb, (jm'.out h).2⟩, fun _ => ⟨hS, jb'.out.size⟩, fun h _ e => absurd (jm'.out h).1.lt (by have e : y.1.1 = w'.heap.size := e; omega), fun h => zb6 (jd'.out h) hb, fun h => absurd ((j6'.out h).1.2.1) (by simp [hL]), fun h => absurd ((j6'.out (j7'.out h).1).1.2.1) (by simp [hL]), fun h => absurd ((j6'.out (j7'.out (j8'.out h).1).1).1.2.1) (by simp [hL]), jb'.out.trans (hb.mono jb'.out.size)⟩
   · intro y L w' hL hpre hJ a ha
     obtain ⟨jg, jm, js, jx, jd, j6, j7, j8, jb⟩ := hJ; simp [Region.binds] at hpre; refine .inl ⟨zaa rfl, ?_⟩; have e1 : a.eval (.tmp 1) = .pointer (some ⟨w.heap.size, 0, none⟩) := by rw [ha, zac rfl]; rfl
     clear ha; have jg' := Lib.hid jg; have jm' := Lib.hid jm; have js' := Lib.hid js; have jx' := Lib.hid jx; have jd' := Lib.hid jd; have j6' := Lib.hid j6; have j7' := Lib.hid j7; have j8' := Lib.hid j8; have jb' := Lib.hid jb; clear jg jm js jx jd j6 j7 j8 jb; refine zab fun K HK => ?_; unfold Oper.wp; simp only [execOp, e1]; go_simp; exact HK.out _ _ ⟨y, _, rfl, rfl, jg'.out, jm'.out, js'.out, jx'.out, jd'.out, j6'.out, j7'.out, j8'.out, jb'.out⟩
   · intro y L w' hL hpre hJ a ha
     obtain ⟨jg, jm, js, jx, jd, j6, j7, j8, jb⟩ := hJ; simp [Region.binds] at hpre; refine .inl ⟨zaa rfl, ?_⟩; have e12 : a.eval (.tmp 12) = .pointer (some ⟨w.heap.size, 0, none⟩) := evP ha 3 rfl (by simp [hpre]) (by simp) rfl; clear ha; have cc := geo_c0 jg; have jg' := Lib.hid jg; have jm' := Lib.hid jm; have js' := Lib.hid js; have jx' := Lib.hid jx; have jd' := Lib.hid jd; have j6' := Lib.hid j6; have j7' := Lib.hid j7; have j8' := Lib.hid j8; have jb' := Lib.hid jb; clear jg jm js jx jd j6 j7 j8 jb; refine zab fun K HK => ?_; unfold Oper.wp; simp only [execOp, e12]; go_simp; exact HK.out _ _ ⟨y, _, rfl, rfl, jg'.out, jm'.out, js'.out, jx'.out, jd'.out, j6'.out, j7'.out, j8'.out, jb'.out⟩
   · intro y L w' hL hpre hJ a ha
     obtain ⟨jg, jm, js, jx, jd, j6, j7, j8, jb⟩ := hJ; simp [Region.binds] at hpre; refine .inl ⟨zaa rfl, ?_⟩; have e13 : a.eval (.tmp 13) = .int .i64 (D : Int) := evP ha 4 rfl (by simp [hpre]) (by simp) rfl; have jg' := Lib.hid jg; have jm' := Lib.hid jm; have js' := Lib.hid js; have jx' := Lib.hid jx; have jd' := Lib.hid jd; have j6' := Lib.hid j6; have j7' := Lib.hid j7; have j8' := Lib.hid j8; have jb' := Lib.hid jb; clear ha jg jm js jx jd j6 j7 j8 jb; have hmk := HMk.out w'; refine zab fun K HK => ?_; unfold Oper.wp; simp only [execOp, e13]; go_simp; have hb := zax w' (.cells (madeCells #[.bool false] D) 4); exact HK.out _ _ ⟨((y.1.1, y.1.2.1, w'.heap.size, y.1.2.2.2), y.2), _, rfl, rfl, zad jg'.out hb, fun h => ⟨owns_below (jm'.out h).1 hb, (jm'.out h).2⟩, fun h => ⟨(js'.out h).1.below hb, (js'.out h).2⟩, jx'.out, fun _ => own_made w' jb'.out.size HD.out, fun h => absurd ((j6'.out h).1.2.2) (by simp [hL]), fun h => absurd ((j6'.out (j7'.out h).1).1.2.2) (by simp [hL]), fun h => absurd ((j6'.out (j7'.out (j8'.out h).1).1).1.2.2) (by simp [hL]), jb'.out.trans (hb.mono jb'.out.size)⟩
   · intro y L w' hL hpre hJ a ha
     obtain ⟨jg, jm, js, jx, jd, j6, j7, j8, jb⟩ := hJ; simp [Region.binds] at hpre; refine .inl ⟨zaa rfl, ?_⟩; have e9 : a.eval (.tmp 9) = .agg ([.int .i64 (D : Int), .int .i64 (B : Int), .int .i64 (P : Int)]).toArray := evP ha 0 rfl (by simp [hpre]) (by simp) rfl; have e10 : a.eval (.tmp 10) = .map (some y.1.1) := evP ha 1 rfl (by simp [hpre]) (by simp) rfl; have e11 : a.eval (.tmp 11) = .pointer (some ⟨y.1.2.1 + 1, 0, none⟩) := evP ha 2 rfl (by simp [hpre]) (by simp) rfl; have e14 : a.eval (.tmp 14) = .slice (some ⟨y.1.2.2.1, 0, none⟩) D D := evP ha 5 rfl (by simp [hpre]) (by simp) rfl; exact wp_build_l 115 _ rfl _ (show [(0, a.eval (.tmp 9)), (1, a.eval (.tmp 10)), (2, a.eval (.tmp 11)), (3, a.eval (.tmp 14))] = _ by rw [e9, e10, e11, e14]) _ (built_nand D B P y.1.1 y.1.2.1 y.1.2.2.1) ⟨(y.1, .agg ((Nd.new D B P).top (lay0 D y.1.1 y.1.2.1 y.1.2.2.1)).toArray, y.2.2), _, rfl, rfl, jg, jm, js, jx, jd, fun _ => ⟨show L 1 = true ∧ L 2 = true ∧ L 5 = true from by simp [hpre], rfl⟩, fun h => absurd (j7 h).1 (by simp [hL]), fun h => absurd (j7 (j8 h).1).1 (by simp [hL]), jb⟩
   · intro y L w' hL hpre hJ a ha
     obtain ⟨jg, jm, js, jx, jd, j6, j7, j8, jb⟩ := hJ; simp [Region.binds] at hpre; refine .inl ⟨zaa rfl, ?_⟩; have e15 : a.eval (.tmp 15) = y.2.1 := evP ha 6 rfl (by simp [hpre]) (by simp) rfl; have h6 : L 6 = true := by simp [hpre]
     rw [(j6 h6).2] at e15; have jg' := Lib.hid jg; have jm' := Lib.hid jm; have js' := Lib.hid js; have jx' := Lib.hid jx; have jd' := Lib.hid jd; have j6' := Lib.hid j6; have j7' := Lib.hid j7; have j8' := Lib.hid j8; have jb' := Lib.hid jb; clear ha jg jm js jx jd j6 j7 j8 jb; refine zab fun K HK => ?_; unfold Oper.wp; simp only [execOp, e15]; go_simp; have hb := zax w' (.cells ((Nd.new D B P).top (lay0 D y.1.1 y.1.2.1 y.1.2.2.1)).toArray 115); exact HK.out _ _ ⟨((y.1.1, y.1.2.1, y.1.2.2.1, w'.heap.size), y.2), _, rfl, rfl, zad jg'.out hb, fun h => ⟨owns_below (jm'.out h).1 hb, (jm'.out h).2⟩, fun h => ⟨(js'.out h).1.below hb, (js'.out h).2⟩, jx'.out, fun h => zb6 (jd'.out h) hb, j6'.out, fun _ => ⟨h6, zak _ _ _ rfl, jb'.out.size, Nat.le_of_lt (js'.out (j6'.out h6).1.2.1).1.lt.2, Nat.le_of_lt (jm'.out (j6'.out h6).1.1).1.lt⟩, fun h => absurd (j8'.out h).1 (by simp [hL]), jb'.out.trans (hb.mono jb'.out.size)⟩
   · intro y L w' hL hpre hJ a ha
     obtain ⟨jg, jm, js, jx, jd, j6, j7, j8, jb⟩ := hJ; simp [Region.binds] at hpre; refine .inl ⟨zaa rfl, ?_⟩; have e16 : a.eval (.tmp 16) = .pointer (some ⟨y.1.2.2.2, 0, none⟩) := evP ha 7 rfl (by simp [hpre]) (by simp) rfl; have h7 : L 7 = true := by simp [hpre]
     exact zah (.tmp 16) (.inr rfl) (.pointer (some ⟨y.1.2.2.2, 0, none⟩)) e16 ⟨(y.1, y.2.1, .pointer (some ⟨y.1.2.2.2, 0, none⟩)), _, rfl, rfl, jg, jm, js, jx, jd, j6, j7, fun _ => ⟨h7, rfl⟩, jb⟩
 · intro y L w' hL hJ
   obtain ⟨jg, jm, js, jx, jd, j6, j7, j8, jb⟩ := hJ; have hm1 := jm (hL 1 (by decide)); have hs2 := js (hL 2 (by decide)); have hx12 := jx (hL 1 (by decide)) (hL 2 (by decide)); have hd5 := jd (hL 5 (by decide)); have hh7 := (j7 (hL 7 (by decide))).2; have hv3 := (j8 (hL 8 (by decide))).2; clear hL jm js jx jd j6 j7 j8; simp only [List.foldl_cons, List.foldl_nil]; rw [hv3]; clear hv3; obtain ⟨⟨mb, bp, dvb, g⟩, v15, v3⟩ := y; simp only at hm1 hs2 hx12 hd5 hh7 ⊢; go_simp
   have hP : Part w' w.heap.size g (lay0 D mb bp dvb) D B P 0 0 := by
    have hno : ∀ d b, ¬ dn B 0 0 d b := fun d b hd => by unfold dn at hd; omega
    exact ⟨hh7.1, hh7.2, ⟨_, hm1.1, Rel.nil⟩, Nat.zero_le _, fun d b hd => absurd hd (hno d b), (fun x hx => by cases hx), hs2.1, rfl, hd5, fun d b hd => absurd hd (hno d b), fun _ _ => rfl, fun d b d' b' hd => absurd hd (hno d b), hx12, hm1.2, Nat.le_succ_of_le hs2.2, hs2.2⟩
   have HP0 := Lib.hid hP; have HGe := Lib.hid jg; have HBe := Lib.hid jb; have cd := geo_c0 jg; clear hm1 hs2 hx12 hd5 hh7 hP jg jb; generalize lay0 D mb bp dvb = Y0 at *; go_wp2_with fail
   go_loopw [4, 19] (fun _ i wr => ∃ (n : Nat) (Y : Lay), n ≤ D ∧ i = .int .i64 n ∧ Part wr w.heap.size g Y D B P n 0 ∧ wr.heap[w.heap.size]? = some (.cells ([.int .i64 (D : Int), .int .i64 (B : Int), .int .i64 (P : Int)]).toArray 39 (0, 0)) ∧ Below w.heap.size w wr) (fun _ i _ => D - (intOf i).toNat)
   case atStart => exact ⟨0, Y0, Nat.zero_le _, rfl, HP0.out, HGe.out, HBe.out⟩
   case round =>
    clear cd; obtain ⟨n, Y1, hn, rfl, hP, hg, hb⟩ := hrel; by_cases hlt : n < D
    · have hltI : (n : Int) < (D : Int) := by omega
      have cb := geo_c1 hg; have HP1 := Lib.hid hP; have HG1 := Lib.hid hg; have HB1 := Lib.hid hb; clear hP hg hb; go_wp2_with fail
      clear cb; go_loopw [5, 24] (fun _ j wx => ∃ (m : Nat) (Y : Lay), m ≤ B ∧ j = .int .i64 m ∧ Part wx w.heap.size g Y D B P n m ∧ wx.heap[w.heap.size]? = some (.cells ([.int .i64 (D : Int), .int .i64 (B : Int), .int .i64 (P : Int)]).toArray 39 (0, 0)) ∧ Below w.heap.size w wx) (fun _ j _ => B - (intOf j).toNat)
      case atStart => exact ⟨0, Y1, Nat.zero_le _, rfl, HP1.out, HG1.out, HB1.out⟩
      case round =>
       obtain ⟨m, Y, hm, rfl, hP, hg, hb⟩ := hrel; by_cases hlt2 : m < B
       · have hltJ : (m : Int) < (B : Int) := by omega
         have HPt := Lib.hid hP; have HGx := Lib.hid hg; have HBx := Lib.hid hb; have HWs := Lib.hid hb.size; have HC3 := Lib.hid (show wr.cell? ⟨g, 3, none⟩ = some (.map (some Y.mb)) by rw [zaf hP.head]; rfl); have HIJ := Lib.hid (And.intro hlt hlt2); have HB6 := Lib.hid (show D ≤ 6 ∧ B ≤ 16 by have := HOK.out; omega); clear hP hg hb; go_upto_region 10 with fail
         refine zan (by kernel_rfl) (by kernel_rfl) (X := Nat) (fun y => [(some 27, .pointer (some ⟨g, 0, none⟩)), (some 28, .pointer (some ⟨g, 0, none⟩)), (some 29, .pointer (some ⟨g, 3, none⟩)), (some 30, .map (some Y.mb)), (some 31, .int .i64 (n : Int)), (some 32, .int .i64 (m : Int)), (some 33, .agg (key (n : Int) (m : Int)).v.toArray), (some 34, .agg (Blk.none.v (.slice none 0 0)).toArray), (some 35, .pointer (some ⟨y, 0, none⟩)), (none, undef)])
          (fun y L w' => w'.heap[w.heap.size]? = some (.cells ([.int .i64 (D : Int), .int .i64 (B : Int), .int .i64 (P : Int)]).toArray 39 (0, 0)) ∧ w'.cell? ⟨g, 3, none⟩ = some (.map (some Y.mb)) ∧ (L 9 = false → Part w' w.heap.size g Y D B P n m) ∧ (L 8 = true → w'.heap[y]? = some (.cells (Blk.none.v (.slice none 0 0)).toArray 119 (0, 0)) ∧ wr.heap.size ≤ y) ∧ (L 9 = true → ∃ Y', Part w' w.heap.size g Y' D B P n (m + 1)) ∧ wr.heap.size ≤ w'.heap.size ∧ Below w.heap.size w w') (fun _ => rfl) (by kernel_rfl) ⟨0, fun L hL => ⟨HGx.out, HC3.out, (fun _ => HPt.out.drew), (by rw [hL 8]; intro h; cases h), (by rw [hL 9]; intro h; cases h), (Nat.le_refl _), HBx.out.drew⟩⟩ ?_ ?_
         · refine ⟨?_, ?_, ?_, ?_, ?_, ?_, ?_, ?_, ?_, ?_, trivial⟩
           · intro y L w' hL hpre hJ a ha
             obtain ⟨jg, jc, jp, j8, jd, js, jb⟩ := hJ; simp [Region.binds] at hpre; refine .inl ⟨zaa rfl, ?_⟩; exact zah (.tmp 3) (.inl rfl) (.pointer (some ⟨g, 0, none⟩)) (by rw [ha, zac rfl]; rfl) ⟨y, _, rfl, rfl, jg, jc, jp, j8, jd, js, jb⟩
           · intro y L w' hL hpre hJ a ha
             obtain ⟨jg, jc, jp, j8, jd, js, jb⟩ := hJ; simp [Region.binds] at hpre; refine .inl ⟨zaa rfl, ?_⟩; have e27 : a.eval (.tmp 27) = .pointer (some ⟨g, 0, none⟩) := evP ha 0 rfl (by simp [hpre]) (by simp) rfl; clear ha; have jg' := Lib.hid jg; have jc' := Lib.hid jc; have jp' := Lib.hid jp; have j8' := Lib.hid j8; have jd' := Lib.hid jd; have js' := Lib.hid js; have jb' := Lib.hid jb; clear jg jc jp j8 jd js jb; refine zab fun K HK => ?_; unfold Oper.wp; simp only [execOp, e27]; go_simp; exact HK.out _ _ ⟨y, _, rfl, rfl, jg'.out, jc'.out, jp'.out, j8'.out, jd'.out, js'.out, jb'.out⟩
           · intro y L w' hL hpre hJ a ha
             obtain ⟨jg, jc, jp, j8, jd, js, jb⟩ := hJ; simp [Region.binds] at hpre; refine .inl ⟨zaa rfl, ?_⟩; have e28 : a.eval (.tmp 28) = .pointer (some ⟨g, 0, none⟩) := evP ha 1 rfl (by simp [hpre]) (by simp) rfl; clear ha; have jg' := Lib.hid jg; have jc' := Lib.hid jc; have jp' := Lib.hid jp; have j8' := Lib.hid j8; have jd' := Lib.hid jd; have js' := Lib.hid js; have jb' := Lib.hid jb; clear jg jc jp j8 jd js jb; refine zab fun K HK => ?_; unfold Oper.wp; simp only [execOp, e28]; go_simp; exact HK.out _ _ ⟨y, _, rfl, rfl, jg'.out, jc'.out, jp'.out, j8'.out, jd'.out, js'.out, jb'.out⟩
           · intro y L w' hL hpre hJ a ha
             obtain ⟨jg, jc, jp, j8, jd, js, jb⟩ := hJ; simp [Region.binds] at hpre; refine .inl ⟨zaa rfl, ?_⟩; have e29 : a.eval (.tmp 29) = .pointer (some ⟨g, 3, none⟩) := evP ha 2 rfl (by simp [hpre]) (by simp) rfl; clear ha; have cc := jc; have jg' := Lib.hid jg; have jc' := Lib.hid jc; have jp' := Lib.hid jp; have j8' := Lib.hid j8; have jd' := Lib.hid jd; have js' := Lib.hid js; have jb' := Lib.hid jb; clear jg jc jp j8 jd js jb; refine zab fun K HK => ?_; unfold Oper.wp; simp only [execOp, e29]; go_simp; exact HK.out _ _ ⟨y, _, rfl, rfl, jg'.out, jc'.out, jp'.out, j8'.out, jd'.out, js'.out, jb'.out⟩
           · intro y L w' hL hpre hJ a ha
             obtain ⟨jg, jc, jp, j8, jd, js, jb⟩ := hJ; simp [Region.binds] at hpre; refine .inl ⟨zaa rfl, ?_⟩; exact zah (.tmp 4) (.inl rfl) (.int .i64 (n : Int)) (by rw [ha, zac rfl]; rfl) ⟨y, _, rfl, rfl, jg, jc, jp, j8, jd, js, jb⟩
           · intro y L w' hL hpre hJ a ha
             obtain ⟨jg, jc, jp, j8, jd, js, jb⟩ := hJ; simp [Region.binds] at hpre; refine .inl ⟨zaa rfl, ?_⟩; exact zah (.tmp 5) (.inl rfl) (.int .i64 (m : Int)) (by rw [ha, zac rfl]; rfl) ⟨y, _, rfl, rfl, jg, jc, jp, j8, jd, js, jb⟩
           · intro y L w' hL hpre hJ a ha
             obtain ⟨jg, jc, jp, j8, jd, js, jb⟩ := hJ; simp [Region.binds] at hpre; refine .inl ⟨zaa rfl, ?_⟩; have e31 : a.eval (.tmp 31) = .int .i64 (n : Int) := evP ha 4 rfl (by simp [hpre]) (by simp) rfl; have e32 : a.eval (.tmp 32) = .int .i64 (m : Int) := evP ha 5 rfl (by simp [hpre]) (by simp) rfl; clear ha; have jg' := Lib.hid jg; have jc' := Lib.hid jc; have jp' := Lib.hid jp; have j8' := Lib.hid j8; have jd' := Lib.hid jd; have js' := Lib.hid js; have jb' := Lib.hid jb; clear jg jc jp j8 jd js jb; refine zab fun K HK => ?_; unfold Oper.wp; simp only [execOp, resolve, List.map_toArray, List.map_cons, List.map_nil, e31, e32]; go_simp; refine (key_any (n : Int) (m : Int) w').mono ?_; rintro e w'' ⟨rfl, hb⟩; exact HK.out _ _ ⟨y, _, rfl, rfl, zad jg'.out hb, blk_belowc jc'.out hb, fun h => (jp'.out h).below hb, fun h => ⟨zad (j8'.out h).1 hb, (j8'.out h).2⟩, fun h => (jd'.out h).elim fun Y' q => ⟨Y', q.below hb⟩, Nat.le_trans js'.out hb.size, jb'.out.trans (hb.mono jb'.out.size)⟩
           · intro y L w' hL hpre hJ a ha
             obtain ⟨jg, jc, jp, j8, jd, js, jb⟩ := hJ; simp [Region.binds] at hpre; refine .inl ⟨zaa rfl, ?_⟩; exact wp_build_l 119 _ rfl _ rfl _ built_block ⟨y, _, rfl, rfl, jg, jc, jp, j8, jd, js, jb⟩
           · intro y L w' hL hpre hJ a ha
             obtain ⟨jg, jc, jp, j8, jd, js, jb⟩ := hJ; simp [Region.binds] at hpre; refine .inl ⟨zaa rfl, ?_⟩; have e34 : a.eval (.tmp 34) = .agg (Blk.none.v (.slice none 0 0)).toArray := evP ha 7 rfl (by simp [hpre]) (by simp) rfl; have jg' := Lib.hid jg; have jc' := Lib.hid jc; have jp' := Lib.hid jp; have j8' := Lib.hid j8; have jd' := Lib.hid jd; have js' := Lib.hid js; have jb' := Lib.hid jb; clear ha jg jc jp j8 jd js jb; refine zab fun K HK => ?_; unfold Oper.wp; simp only [execOp, e34]; go_simp; have hb := zax w' (.cells (Blk.none.v (.slice none 0 0)).toArray 119); exact HK.out _ _ ⟨w'.heap.size, _, rfl, rfl, zad jg'.out hb, blk_belowc jc'.out hb, fun h => (jp'.out h).below hb, fun _ => ⟨zak _ _ _ rfl, js'.out⟩, fun h => (jd'.out h).elim fun Y' q => ⟨Y', q.below hb⟩, Nat.le_trans js'.out hb.size, jb'.out.trans (hb.mono jb'.out.size)⟩
           · intro y L w' hL hpre hJ a ha
             obtain ⟨jg, jc, jp, j8, jd, js, jb⟩ := hJ; simp [Region.binds] at hpre; refine .inl ⟨zaa rfl, ?_⟩; have e30 : a.eval (.tmp 30) = .map (some Y.mb) := evP ha 3 rfl (by simp [hpre]) (by simp) rfl; have e33 : a.eval (.tmp 33) = .agg (key (n : Int) (m : Int)).v.toArray := evP ha 6 rfl (by simp [hpre]) (by simp) rfl; have e35 : a.eval (.tmp 35) = .pointer (some ⟨y, 0, none⟩) := evP ha 8 rfl (by simp [hpre]) (by simp) rfl; have h8 : L 8 = true := by simp [hpre]
             obtain ⟨k8, k8'⟩ := j8 h8; obtain ⟨w2, hrun, Y', hP', hc', hst, hb2⟩ := (jp hL).put HIJ.out.1 HIJ.out.2 HB6.out k8 (Nat.le_trans HWs.out k8') (fun d b hd => Nat.lt_of_lt_of_le (HPt.out.qlt hd) k8'); have HH := Lib.hid (And.intro hP' (And.intro hc' (And.intro (hst _ _ _ _ k8) (And.intro (hst _ _ _ _ jg) (And.intro (jb.trans hb2) (And.intro k8' (Nat.le_trans js hb2.size))))))); clear hP' hc' hb2 hst jg jc jp j8 jd js jb ha k8 k8'; refine zab fun K HK => ?_; unfold Oper.wp; simp only [execOp, e30, e33, e35]; go_simp; exact HK.out _ _ ⟨y, _, rfl, rfl, HH.out.2.2.2.1, HH.out.2.1, (fun h => by simp [also] at h), fun _ => ⟨HH.out.2.2.1, HH.out.2.2.2.2.2.1⟩, fun _ => ⟨Y', HH.out.1⟩, HH.out.2.2.2.2.2.2, HH.out.2.2.2.2.1⟩
         · intro y L w' hL hJ
           obtain ⟨jg, jc, jp, j8, jd, js, jb⟩ := hJ; obtain ⟨Y', hP'⟩ := jd (hL 9 (by decide)); clear hL jc jp j8 jd js; simp only [List.foldl_cons, List.foldl_nil]; go_simp; have HPn := Lib.hid hP'; have HGn := Lib.hid jg; have HBn := Lib.hid jb; clear hP' jg jb; go_wp2_with fail
           go_roundw
           case rel => exact ⟨m + 1, Y', by omega, by go_num, HPn.out, HGn.out, HBn.out⟩
           case measure => simp [intOf]; omega
       · obtain rfl : m = B := by omega
         have HPn := Lib.hid hP.row; have HGn := Lib.hid hg; have HBn := Lib.hid hb; clear hP hg hb; go_wp2_with fail
         go_roundw
         case rel => exact ⟨n + 1, Y, by omega, by go_num, HPn.out, HGn.out, HBn.out⟩
         case measure => simp [intOf]; omega
    · obtain rfl : n = D := by omega
      have HZ := Lib.hid (And.intro hP hb); clear hP hg hb; go_wp2_with fail
      go_ret
      exact ⟨g, rfl, ⟨Y1, by rw [HZ.out.1.np0]; exact Nat.le_refl _, HZ.out.1.done HOK.out⟩, HZ.out.2⟩
end Go.Proofs.YtpbigfopmompfaaGreat.nand
