import Derived.Test.YtpbigfopmompfaaGreatBunJ
import Derived.Test.YtpbigfopmompfaaGreatBunQ
import Derived.Test.YtpbigfopmompfaaGreatSherdRun
/- What a claim's proof leans on: NandApp, NandProgram, NandSet, NandErase. -/
namespace Go.Proofs.YtpbigfopmompfaaGreat.nand
open Go.RowKit
set_option linter.unusedVariables false
theorem cellInfo3 : (Tryz.prog.info? 123).map (fun i => (i.zero, i.size, i.bytes)) = some (some (Value.agg (nats .u8 (List.replicate 32 0) ++ [Value.bool false, Value.bool false]).toArray), 34, 34) := by kernel_rfl
theorem Cel.v_length {c : Cel} (h : c.p.length = 32) : c.v.length = 34 := by simp [Cel.v, zaj, h]
theorem Cel.one (c : Cel) : ∀ u ∈ c.v, u.oneCell' = true := by
 intro u hu
 simp only [Cel.v, List.mem_append, List.mem_cons, List.not_mem_nil, or_false] at hu
 rcases hu with hu | rfl | rfl
 · exact za1 _ _ u hu
 · rfl
 · rfl
theorem upd_grown {w w' : World} {k : Nat} {o : Obj} (h : Upd k o w w') : w.grownBy w' (some k) :=
 ⟨h.os, h.tape, h.output, by rw [h.size]; exact Nat.le_refl _, fun j _ hj => h.block j fun e => hj (by rw [e])⟩
def moreC (x : Blk) (c : Cel) : Blk := { x with cells := x.cells ++ [c] }
def setCv (Y : Lay) (d b : Nat) (v : Value) : Lay := { Y with cv := fun i j => if i = d ∧ j = b then v else Y.cv i j }
theorem Fr.then_below {base g : Nat} {w w1 w2 : World} (h : Fr base g w w1) (hb : Below w.heap.size w1 w2) : Fr base g w w2 :=
 ⟨hb.os.trans h.os, hb.tape.trans h.tape, hb.output.trans h.output, Nat.le_trans h.size hb.size, fun k hk hc => (hb.block k hk).trans (h.block k hk hc), fun k hk hg hc => (hb.block k hk).trans (h.maps k hk hg hc)⟩
structure AppJ (w : World) (base g : Nat) (Y : Lay) (N : Nd) (d b : Nat) (c : Cel) (x : Nat × Value) (p8 p9 p12 : Bool) (w' : World) : Prop where
 ord : p12 = true → p9 = true
 ord2 : p9 = true → p8 = true
 fr : Fr base g w w'
 grow : p12 = false → w.grownBy w' (bif p9 then (Y.cv d b).ownBlock else none)
 one : p9 = false → p8 = true → w'.heap[x.1]? = some (.cells c.v.toArray 123 (0, 0))
 app : p9 = true → p12 = false → OwnRows w' base 123 34 x.2 ((N.blk d b).cells.length + 1) (rowsV (N.blk d b) ++ [c.v]) ∧ (x.2.ownBlock = (Y.cv d b).ownBlock ∨ ∃ j, x.2.ownBlock = some j ∧ w.heap.size ≤ j)
 done : p12 = true → NandAt w' base g (setCv Y d b x.2) (N.upd d b (moreC (N.blk d b) c))
section
variable {w w' w'' : World} {base g : Nat} {Y : Lay} {N : Nd} {d b : Nat} {c : Cel} {x : Nat × Value} {p8 p9 p12 : Bool}
theorem AppJ.start (x : Nat × Value) : AppJ w base g Y N d b c x false false false w.drew :=
 ⟨by simp, by simp, (Fr.refl base g w).drew, fun _ => ⟨rfl, rfl, rfl, Nat.le_refl _, fun _ _ _ => rfl⟩, by simp, by simp, by simp⟩
theorem AppJ.own (h : AppJ w base g Y N d b c x p8 p9 p12 w') (H : NandAt w base g Y N) (hd : d < N.D) (hb : b < N.B) (h9 : p9 = false) (h12 : p12 = false) : OwnRows w' base 123 34 (Y.cv d b) (N.blk d b).cells.length (rowsV (N.blk d b)) := by
 have hg := h.grow h12
 rw [h9] at hg
 exact (H.body.rows d b hd hb).kept0 hg
theorem AppJ.qblk (h : AppJ w base g Y N d b c x p8 p9 p12 w') (H : NandAt w base g Y N) (hd : d < N.D) (hb : b < N.B) (h12 : p12 = false) : w'.heap[Y.q d b]? = some (.cells ((N.blk d b).v (Y.cv d b)).toArray 119 (0, 0)) := by
 have hq := H.body.blk d b hd hb
 refine ((h.grow h12).block _ (zag hq) fun e => ?_).trans hq
 cases h9 : p9 with
 | false => rw [h9] at e; cases e
 | true =>
  rw [h9] at e; obtain ⟨cur, hc, -⟩ := za5 (H.body.rows d b hd hb).1 e.symm; rw [hc] at hq; simp at hq
theorem AppJ.cell (h : AppJ w base g Y N d b c x p8 p9 p12 w') (H : NandAt w base g Y N) (hd : d < N.D) (hb : b < N.B) (h12 : p12 = false) : w'.cell? ⟨Y.q d b, 0, none⟩ = some (Y.cv d b) := by
 rw [zaf (h.qblk H hd hb h12)]; rfl
theorem AppJ.frozen (h : AppJ w base g Y N d b c x p8 p9 p12 w') (H : NandAt w base g Y N) (hd : d < N.D) (hb : b < N.B) (h12 : p12 = false) : w'.frozen? ⟨Y.q d b, 0, none⟩ = false := zar (h.qblk H hd hb h12) 0
theorem AppJ.s8 (h : AppJ w base g Y N d b c x p8 p9 p12 w') (h8 : p8 = false) : AppJ w base g Y N d b c (w'.heap.size, x.2) true p9 p12 (w'.alloc (.cells c.v.toArray 123)) := by
 have h9 : p9 = false := by
  cases hp : p9 with
  | false => rfl
  | true => have := h.ord2 hp; rw [h8] at this; cases this
 have h12 : p12 = false := by
  cases hp : p12 with
  | false => rfl
  | true => have := h.ord hp; rw [h9] at this; cases this
 subst h9; subst h12; subst h8
 refine ⟨by simp, by simp, h.fr.trans (Fr.of_below ((Below.refl _ w').alloc (Nat.le_refl _) _)), fun _ => ?_, fun _ _ => heap_alloc_new w' _, by simp, by simp⟩
 have hg := h.grow rfl
 exact hg.andThen (World.grownBy_alloc w' _ none) (fun j hj => by cases hj)
theorem AppJ.s9 (h : AppJ w base g Y N d b c x p8 p9 p12 w') (H : NandAt w base g Y N) (hd : d < N.D) (hb : b < N.B) (h8 : p8 = true) (h9 : p9 = false) {v : Value} (hown : OwnRows w'' base 123 34 v ((N.blk d b).cells.length + 1) (rowsV (N.blk d b) ++ [c.v]))
 (hgr : w'.grownBy w'' (Y.cv d b).ownBlock) (hat : v.ownBlock = (Y.cv d b).ownBlock ∨ ∃ j, v.ownBlock = some j ∧ w'.heap.size ≤ j) : AppJ w base g Y N d b c (x.1, v) p8 true p12 w'' := by
 have h12 : p12 = false := by
  cases hp : p12 with
  | false => rfl
  | true => have := h.ord hp; rw [h9] at this; cases this
 subst h9; subst h12; subst h8
 have hg := h.grow rfl
 have hg1 : w.grownBy w' (Y.cv d b).ownBlock := ⟨hg.os, hg.tape, hg.output, hg.size, fun i hi _ => hg.block i hi (by simp)⟩
 have hg2 : w.grownBy w'' (Y.cv d b).ownBlock := hg1.andThen hgr (fun j hj => .inr hj)
 refine ⟨by simp, by simp, ?_, fun _ => hg2, by simp, fun _ _ => ⟨hown, ?_⟩, by simp⟩
 · cases hv : (Y.cv d b).ownBlock with
   | none => rw [hv] at hg2; exact Fr.of_grown0 hg2
   | some k =>
    rw [hv] at hg2; obtain ⟨cur, hc, hk⟩ := za5 (H.body.rows d b hd hb).1 hv; exact Fr.of_grown hg2 hc hk fun t e => by cases e; rfl
 · rcases hat with hat | ⟨j, hj, hle⟩
   · exact .inl hat
   · exact .inr ⟨j, hj, Nat.le_trans hg.size hle⟩
theorem AppJ.s12 (h : AppJ w base g Y N d b c x p8 p9 p12 w') (H : NandAt w base g Y N) (hd : d < N.D) (hb : b < N.B) (h9 : p9 = true) (h12 : p12 = false) (hx : (N.blk d b).cells.length + 1 ≤ N.P) (hc : c.p.length = 32 ∧ ∀ y ∈ c.p, y < 256) : AppJ w base g Y N d b c x p8 p9 true (w'.setCell ⟨Y.q d b, 0, none⟩ x.2) := by
 subst h9; subst h12
 obtain ⟨hown, hat⟩ := h.app rfl rfl
 have hq := h.qblk H hd hb rfl
 have hU := zas (i := 0) hq x.2
 have hrw : rowsV (moreC (N.blk d b) c) = rowsV (N.blk d b) ++ [c.v] := by simp [rowsV, moreC]
 have hl : (moreC (N.blk d b) c).cells.length = (N.blk d b).cells.length + 1 := by simp [moreC]
 obtain ⟨r1, r2⟩ := H.setBlk hd hb (moreC (N.blk d b) c) x.2 (h.grow rfl) (by rw [hrw, hl]; exact hown) (by
  rcases hat with hat | hat
  · exact .inr (.inl hat)
  · exact .inr (.inr hat)) (upd_grown hU) (by rw [hU.at_]; rfl) (by rw [hl]; exact hx) (fun c' hc' => by
  simp only [moreC, List.mem_append, List.mem_singleton] at hc'; rcases hc' with hc' | rfl
  · exact H.ok.page d b c' hc'
  · exact hc)
 exact ⟨fun _ => rfl, fun _ => h.ord2 rfl, r2, fun e => (by cases e), fun e => (by cases e), fun _ e => (by cases e), fun _ => r1⟩
theorem AppJ.low (h : AppJ w base g Y N d b c x p8 p9 p12 w') : Below 0 w w' := ⟨h.fr.os, h.fr.tape, h.fr.output, h.fr.size, fun k hk => absurd hk (Nat.not_lt_zero k)⟩
end
theorem wp_build_l {P : Program} {o : Oper} {a : Act} {w : World} {K : Act → World → Prop} {Q : Exit → Act → World → Prop} (t : TypeId) (parts : Array (Nat × Operand)) (ho : o.op = .build t parts) (ps : List (Nat × Value)) (hps : parts.toList.map (fun p => (p.1, a.eval p.2)) = ps)
 (cells : Array Value) (hb : P.built t ps = some cells) (h : K (a.put o.dst (.agg cells)) w) : o.wp P a w K Q := by
 have e : (parts.map fun (i, x) => (i, a.eval x)).toList = ps := by rw [← hps, Array.toList_map]
 exact wp_build t parts ho (by rw [e, hb]; rfl) (by rw [e, hb]; exact h)
theorem rds_cell {w : World} {k : Nat} {c : Cel} (hc : c.p.length = 32) (h : w.heap[k]? = some (.cells c.v.toArray 123 (0, 0))) : Rds w w.heap.size (some ⟨k, 0, none⟩) 34 1 [c.v] := by
 have := rds_one h
 rwa [Cel.v_length hc] at this
theorem split32 {d : List Nat} (h : d.length = 32) : ∃ d0 d1 d2 d3 d4 d5 d6 d7 d8 d9 d10 d11 d12 d13 d14 d15 e0 e1 e2 e3 e4 e5 e6 e7 e8 e9 e10 e11 e12 e13 e14 e15, d = [d0, d1, d2, d3, d4, d5, d6, d7, d8, d9, d10, d11, d12, d13, d14, d15, e0, e1, e2, e3, e4, e5, e6, e7, e8, e9, e10, e11, e12, e13, e14, e15] := by
 obtain ⟨d0, d1, d2, d3, d4, d5, d6, d7, d8, d9, d10, d11, d12, d13, d14, d15, h1⟩ := split16 (d := d.take 16) (by simp; omega)
 obtain ⟨e0, e1, e2, e3, e4, e5, e6, e7, e8, e9, e10, e11, e12, e13, e14, e15, h2⟩ := split16 (d := d.drop 16) (by simp; omega)
 refine ⟨d0, d1, d2, d3, d4, d5, d6, d7, d8, d9, d10, d11, d12, d13, d14, d15, e0, e1, e2, e3, e4, e5, e6, e7, e8, e9, e10, e11, e12, e13, e14, e15, ?_⟩
 rw [← List.take_append_drop 16 d, h1, h2]; rfl
theorem built_turned {d : List Nat} (h : d.length = 32) : Tryz.prog.built 123 [(0, .agg (nats .u8 d).toArray), (2, .bool true)] = some (Cel.v ⟨d, false, true⟩).toArray := by
 obtain ⟨d0, d1, d2, d3, d4, d5, d6, d7, d8, d9, d10, d11, d12, d13, d14, d15, e0, e1, e2, e3, e4, e5, e6, e7, e8, e9, e10, e11, e12, e13, e14, e15, rfl⟩ := split32 h
 kernel_rfl
theorem built_lost {d : List Nat} (h : d.length = 32) (l : Bool) : Tryz.prog.built 123 [(0, .agg (nats .u8 d).toArray), (1, .bool l)] = some (Cel.v ⟨d, l, false⟩).toArray := by
 obtain ⟨d0, d1, d2, d3, d4, d5, d6, d7, d8, d9, d10, d11, d12, d13, d14, d15, e0, e1, e2, e3, e4, e5, e6, e7, e8, e9, e10, e11, e12, e13, e14, e15, rfl⟩ := split32 h
 kernel_rfl
end Go.Proofs.YtpbigfopmompfaaGreat.nand
namespace Go.Proofs.YtpbigfopmompfaaGreat.nand
open Go.RowKit
set_option linter.unusedVariables false
theorem cutN_keeps (N : Nd) : N.cutN.D = N.D ∧ N.cutN.B = N.B ∧ N.cutN.P = N.P ∧ N.cutN.blk = N.blk ∧ N.cutN.keep = N.keep ∧ N.cutN.plan = N.plan ∧ N.cutN.dead = N.dead := by
 unfold Nd.cutN
 split
 · split <;> exact ⟨rfl, rfl, rfl, rfl, rfl, rfl, rfl⟩
 · exact ⟨rfl, rfl, rfl, rfl, rfl, rfl, rfl⟩
theorem torn_to (p : List Nat) (k : Nat) (hp : p.length = 32) (hk : k ≤ 32) : tornTo p k 32 = torn p k := by
 unfold tornTo torn
 rw [List.drop_eq_nil_of_le (by omega), List.append_nil]
theorem look_has {f : List (Ad × Value)} (h : ∀ p ∈ f, p.2 = .bool true ∧ p.1.wf) (a : Ad) : lookF f a (.bool false) = .bool (hasF f a) := by
 unfold lookF
 cases hf : f.find? (fun p => decide (p.1 = a)) with
 | none =>
  have h1 := List.find?_eq_none.1 hf
  have : hasF f a = false := by
   unfold hasF; refine decide_eq_false fun hm => ?_; obtain ⟨y, hy, hy2⟩ := List.mem_map.1 hm; exact absurd hy2 (by simpa using h1 y hy)
  rw [this]; rfl
 | some y =>
  have h1 := List.mem_of_find?_eq_some hf; have h2 := List.find?_some hf
  have : hasF f a = true := by
   unfold hasF; exact decide_eq_true (List.mem_map.2 ⟨y, h1, by simpa using h2⟩)
  rw [this]; simp only [Option.map_some, Option.getD_some, (h y h1).1]
structure ProgP (N : Nd) (x : Ad) (d b q : Nat) (p : List Nat) : Prop where
 l1 : q ≠ (N.blk d b).cells.length → N.programE x p = 4 ∧ N.programN x p = { N with broken := N.broken + 1 }
 l2 : q = (N.blk d b).cells.length → N.cutB = true → N.programE x p = 9 ∧ N.programN x p = N.cutN.upd d b (moreC (N.cutN.blk d b) ⟨tornTo p N.cutN.keep 32, false, true⟩)
 l3 : q = (N.blk d b).cells.length → N.cutB = false → N.programE x p = (bif (hasF N.plan x || (N.blk d b).met) then 7 else 0) ∧
  N.programN x p = ({ N.cutN with plan := delF N.cutN.plan x } : Nd).upd d b (moreC (({ N.cutN with plan := delF N.cutN.plan x } : Nd).blk d b) ⟨p, hasF N.plan x || (N.blk d b).met, false⟩)
theorem prog_plain {N : Nd} {x : Ad} {d b q : Nat} {p : List Nat} (hr : N.refuses x = 0) (hd : x.d.toNat = d) (hb : x.b.toNat = b) (hq : x.p = (q : Int)) (hk : N.keep ≤ 32) (hp : p.length = 32) : ProgP N x d b q p := by
 obtain ⟨k1, k2, k3, k4, k5, k6, k7⟩ := cutN_keeps N
 have hat : N.at x = N.blk d b := by simp [Nd.at, hd, hb]
 have hup : ∀ M X, Nd.put M x X = M.upd d b X := fun M X => by simp [Nd.put, hd, hb]
 refine ⟨fun h => ?_, fun h hc => ?_, fun h hc => ?_⟩
 · have h' : x.p ≠ ((N.blk d b).cells.length : Int) := by rw [hq]; omega
   simp [Nd.programE, Nd.programN, hr, hat, h']
 · have h' : x.p = ((N.blk d b).cells.length : Int) := by rw [hq]; omega
   constructor
   · simp [Nd.programE, hr, hat, h', hc]
   · simp only [Nd.programN, hr, hat, h', hc, hup, k4, k5, torn_to p N.keep hp hk, moreC]; simp
 · have h' : x.p = ((N.blk d b).cells.length : Int) := by rw [hq]; omega
   constructor
   · simp only [Nd.programE, hr, hat, h', hc, Nd.failsB]
     cases hasF N.plan x || (N.blk d b).met <;> simp
   · simp only [Nd.programN, hr, hat, h', hc, hup, k4, k6, Nd.failsB, moreC]
     simp [Nd.upd, k4]
section
variable {w : World} {base g : Nat} {Y : Lay} {N : Nd}
set_option maxRecDepth 100000 in
set_option maxHeartbeats 8000000 in
theorem program_in (h : NandAt w base g Y N) (x : Ad) (hx : x.wf) (d b q : Nat) (hd : x.d.toNat = d) (hb : x.b.toNat = b) (hq : x.p = (q : Int)) (hr : N.refuses x = 0) (p : List Nat) (hp : p.length = 32) (hpb : ∀ y ∈ p, y < 256) (hs : N.ops ≤ 1000000000000000) (hbr : N.broken ≤ 1000000000000000) :
 Calls Tryz.prog 48 #[.pointer (some ⟨g, 0, none⟩), .agg x.v.toArray, .agg (nats .u8 p).toArray] w fun e w' => e = .returned (.int .i64 (N.programE x p)) ∧ (∃ Y', Y'.np = Y.np ∧ NandAt w' base g Y' (N.programN x p)) ∧ Fr base g w w' := by
 have hPl := prog_plain hr hd hb hq h.ok.keep hp
 have hbel := below2 w (.cells x.v.toArray 85) (.cells (nats .u8 p).toArray 90)
 have ha := zbi w (.cells x.v.toArray 85) (.cells (nats .u8 p).toArray 90)
 have hz := zak (w.alloc (.cells x.v.toArray 85)) (.cells (nats .u8 p).toArray 90) (w.heap.size + 1) (by simp)
 have hN := h.below hbel
 obtain ⟨-, hin, -⟩ := refuses_zero hr
 have hxin := in_iff hin
 have HDN := Lib.hid (show d < N.D by omega)
 have HBN := Lib.hid (show b < N.B by omega)
 have HqP := Lib.hid (show q < N.P by omega)
 have HIn := Lib.hid hin
 have HR := Lib.hid hr
 have HD := Lib.hid hd
 have HBb := Lib.hid hb
 have HQ := Lib.hid hq
 have HPL := Lib.hid hPl
 have HLow := Lib.hid (show base ≤ w.heap.size from Nat.le_of_lt (Nat.lt_of_le_of_lt h.lowg.1 (zag h.head)))
 have HS := Lib.hid (And.intro hs hbr)
 have HPP := Lib.hid (And.intro hp hpb)
 clear h hin hxin hr hd hb hq hPl hs hbr hp hpb
 go_enter Tryz.func48, Tryz.ntmps48
 go_upto_region 1 with fail
 change Code.wp _ _ _ _ ((w.alloc (.cells x.v.toArray 85)).alloc (.cells (nats .u8 p).toArray 90))
 generalize (w.alloc (.cells x.v.toArray 85)).alloc (.cells (nats .u8 p).toArray 90) = w2 at *
 obtain ⟨c0, c1, c2⟩ := ad_at ha
 have CR := Lib.hid (refuses_any hN x hx)
 have HA0 := Lib.hid ha
 have HZ0 := Lib.hid hz
 have HN0 := Lib.hid hN
 have HB0 := Lib.hid hbel
 clear ha hz hN hbel
 go_wp2_with fail
 refine CR.out.mono ?_
 rintro e w3 ⟨rfl, hb⟩
 have HA := Lib.hid (zad HA0.out hb)
 have HZ := Lib.hid (zad HZ0.out hb)
 have HN := Lib.hid (HN0.out.below hb)
 have HB := Lib.hid (HB0.out.trans (hb.mono HB0.out.size))
 clear hb HA0 HZ0 HN0 HB0 c0 c1 c2 CR
 rw [HR.out]
 go_upto_region 4 with fail
 refine zan (by kernel_rfl) (by kernel_rfl) (X := Unit) (fun _ => [(some 18, .pointer (some ⟨g, 0, none⟩)), (some 19, .pointer (some ⟨g, 0, none⟩)), (some 20, .pointer (some ⟨g, 3, none⟩)), (some 21, .map (some Y.mb)), (some 22, .pointer (some ⟨w.heap.size, 0, none⟩)), (some 23, .int .i64 x.d), (some 24, .pointer (some ⟨w.heap.size, 1, none⟩)), (some 25, .int .i64 x.b), (some 26, .agg (key x.d x.b).v.toArray), (some 27, .pointer (some ⟨Y.q d b, 0, none⟩)), (some 8, .pointer (some ⟨Y.q d b, 0, none⟩))])
  (fun _ L w' => w'.heap[w.heap.size]? = some (.cells x.v.toArray 85 (0, 0)) ∧ w'.heap[w.heap.size + 1]? = some (.cells (nats .u8 p).toArray 90 (0, 0)) ∧ NandAt w' base g Y N ∧ Below w.heap.size w w') (fun _ => rfl) (by kernel_rfl) ⟨(), fun _ _ => ⟨HA.out, HZ.out, (HN.out.drew), HB.out.drew⟩⟩ ?_ ?_
 · refine ⟨?_, ?_, ?_, ?_, ?_, ?_, ?_, ?_, ?_, ?_, ?_, trivial⟩
   · intro _ L w' hL hpre hJ a ha
     obtain ⟨ja, jz, jn, jb⟩ := hJ; simp [Region.binds] at hpre; refine .inl ⟨zaa rfl, ?_⟩; exact zah (.tmp 0) (.inl rfl) (.pointer (some ⟨g, 0, none⟩)) (by rw [ha, zac rfl]; rfl) ⟨(), _, rfl, rfl, ja, jz, jn, jb⟩
   · intro _ L w' hL hpre hJ a ha
     obtain ⟨ja, jz, jn, jb⟩ := hJ; simp [Region.binds] at hpre; refine .inl ⟨zaa rfl, ?_⟩; have e18 : a.eval (.tmp 18) = .pointer (some ⟨g, 0, none⟩) := evP ha 0 rfl (by simp [hpre]) (by simp) rfl; clear ha; have ja' := Lib.hid ja; have jz' := Lib.hid jz; have jn' := Lib.hid jn; have jb' := Lib.hid jb; clear ja jz jn jb; refine zab fun K HK => ?_; unfold Oper.wp; simp only [execOp, e18]; go_simp; exact HK.out _ _ ⟨(), _, rfl, rfl, ja'.out, jz'.out, jn'.out, jb'.out⟩
   · intro _ L w' hL hpre hJ a ha
     obtain ⟨ja, jz, jn, jb⟩ := hJ; simp [Region.binds] at hpre; refine .inl ⟨zaa rfl, ?_⟩; have e19 : a.eval (.tmp 19) = .pointer (some ⟨g, 0, none⟩) := evP ha 1 rfl (by simp [hpre]) (by simp) rfl; clear ha; have ja' := Lib.hid ja; have jz' := Lib.hid jz; have jn' := Lib.hid jn; have jb' := Lib.hid jb; clear ja jz jn jb; refine zab fun K HK => ?_; unfold Oper.wp; simp only [execOp, e19]; go_simp; exact HK.out _ _ ⟨(), _, rfl, rfl, ja'.out, jz'.out, jn'.out, jb'.out⟩
   · intro _ L w' hL hpre hJ a ha
     obtain ⟨ja, jz, jn, jb⟩ := hJ; simp [Region.binds] at hpre; refine .inl ⟨zaa rfl, ?_⟩; have e20 : a.eval (.tmp 20) = .pointer (some ⟨g, 3, none⟩) := evP ha 2 rfl (by simp [hpre]) (by simp) rfl; clear ha; have cc := jn.c3; have ja' := Lib.hid ja; have jz' := Lib.hid jz; have jn' := Lib.hid jn; have jb' := Lib.hid jb; clear ja jz jn jb; refine zab fun K HK => ?_; unfold Oper.wp; simp only [execOp, e20]; go_simp; exact HK.out _ _ ⟨(), _, rfl, rfl, ja'.out, jz'.out, jn'.out, jb'.out⟩
   · intro _ L w' hL hpre hJ a ha
     obtain ⟨ja, jz, jn, jb⟩ := hJ; simp [Region.binds] at hpre; refine .inl ⟨zaa rfl, ?_⟩; have e4 : a.eval (.tmp 4) = .pointer (some ⟨w.heap.size, 0, none⟩) := by rw [ha, zac rfl]; rfl
     clear ha; have ja' := Lib.hid ja; have jz' := Lib.hid jz; have jn' := Lib.hid jn; have jb' := Lib.hid jb; clear ja jz jn jb; refine zab fun K HK => ?_; unfold Oper.wp; simp only [execOp, e4]; go_simp; exact HK.out _ _ ⟨(), _, rfl, rfl, ja'.out, jz'.out, jn'.out, jb'.out⟩
   · intro _ L w' hL hpre hJ a ha
     obtain ⟨ja, jz, jn, jb⟩ := hJ; simp [Region.binds] at hpre; refine .inl ⟨zaa rfl, ?_⟩; have e22 : a.eval (.tmp 22) = .pointer (some ⟨w.heap.size, 0, none⟩) := evP ha 4 rfl (by simp [hpre]) (by simp) rfl; clear ha; obtain ⟨cc, -, -⟩ := ad_at ja; have ja' := Lib.hid ja; have jz' := Lib.hid jz; have jn' := Lib.hid jn; have jb' := Lib.hid jb; clear ja jz jn jb; refine zab fun K HK => ?_; unfold Oper.wp; simp only [execOp, e22]; go_simp; exact HK.out _ _ ⟨(), _, rfl, rfl, ja'.out, jz'.out, jn'.out, jb'.out⟩
   · intro _ L w' hL hpre hJ a ha
     obtain ⟨ja, jz, jn, jb⟩ := hJ; simp [Region.binds] at hpre; refine .inl ⟨zaa rfl, ?_⟩; have e4 : a.eval (.tmp 4) = .pointer (some ⟨w.heap.size, 0, none⟩) := by rw [ha, zac rfl]; rfl
     clear ha; have ja' := Lib.hid ja; have jz' := Lib.hid jz; have jn' := Lib.hid jn; have jb' := Lib.hid jb; clear ja jz jn jb; refine zab fun K HK => ?_; unfold Oper.wp; simp only [execOp, e4]; go_simp; exact HK.out _ _ ⟨(), _, rfl, rfl, ja'.out, jz'.out, jn'.out, jb'.out⟩
   · intro _ L w' hL hpre hJ a ha
     obtain ⟨ja, jz, jn, jb⟩ := hJ; simp [Region.binds] at hpre; refine .inl ⟨zaa rfl, ?_⟩; have e24 : a.eval (.tmp 24) = .pointer (some ⟨w.heap.size, 1, none⟩) := evP ha 6 rfl (by simp [hpre]) (by simp) rfl; clear ha; obtain ⟨-, cc, -⟩ := ad_at ja; have ja' := Lib.hid ja; have jz' := Lib.hid jz; have jn' := Lib.hid jn; have jb' := Lib.hid jb; clear ja jz jn jb; refine zab fun K HK => ?_; unfold Oper.wp; simp only [execOp, e24]; go_simp; exact HK.out _ _ ⟨(), _, rfl, rfl, ja'.out, jz'.out, jn'.out, jb'.out⟩
   · intro _ L w' hL hpre hJ a ha
     obtain ⟨ja, jz, jn, jb⟩ := hJ; simp [Region.binds] at hpre; refine .inl ⟨zaa rfl, ?_⟩; have e23 : a.eval (.tmp 23) = .int .i64 x.d := evP ha 5 rfl (by simp [hpre]) (by simp) rfl; have e25 : a.eval (.tmp 25) = .int .i64 x.b := evP ha 7 rfl (by simp [hpre]) (by simp) rfl; clear ha; have ja' := Lib.hid ja; have jz' := Lib.hid jz; have jn' := Lib.hid jn; have jb' := Lib.hid jb; clear ja jz jn jb; refine zab fun K HK => ?_; unfold Oper.wp; simp only [execOp, resolve, List.map_toArray, List.map_cons, List.map_nil, e23, e25]; go_simp; refine (key_any x.d x.b w').mono ?_; rintro e w'' ⟨rfl, hb⟩; exact HK.out _ _ ⟨(), _, rfl, rfl, zad ja'.out hb, zad jz'.out hb, (NandAt.below jn'.out hb), jb'.out.trans (hb.mono jb'.out.size)⟩
   · intro _ L w' hL hpre hJ a ha
     obtain ⟨ja, jz, jn, jb⟩ := hJ; simp [Region.binds] at hpre; refine .inl ⟨zaa rfl, ?_⟩; have e21 : a.eval (.tmp 21) = .map (some Y.mb) := evP ha 3 rfl (by simp [hpre]) (by simp) rfl; have e26 : a.eval (.tmp 26) = .agg (key x.d x.b).v.toArray := evP ha 8 rfl (by simp [hpre]) (by simp) rfl; clear ha; have cc := look_at jn HIn.out w'; rw [HD.out, HBb.out] at cc; have ja' := Lib.hid ja; have jz' := Lib.hid jz; have jn' := Lib.hid jn; have jb' := Lib.hid jb; clear ja jz jn jb; refine zab fun K HK => ?_; unfold Oper.wp; simp only [execOp, e21, e26]; go_simp; exact HK.out _ _ ⟨(), _, rfl, rfl, ja'.out, jz'.out, jn'.out, jb'.out⟩
   · intro _ L w' hL hpre hJ a ha
     obtain ⟨ja, jz, jn, jb⟩ := hJ; simp [Region.binds] at hpre; refine .inl ⟨zaa rfl, ?_⟩; exact zah (.tmp 27) (.inr rfl) (.pointer (some ⟨Y.q d b, 0, none⟩)) (evP ha 9 rfl (by simp [hpre]) (by simp) rfl) ⟨(), _, rfl, rfl, ja, jz, jn, jb⟩
 · intro _ L w' hL hJ
   obtain ⟨ja, jz, jn, jb⟩ := hJ; clear hL; simp only [List.foldl_cons, List.foldl_nil]; go_simp; have hblk := jn.body.blk d b HDN.out HBN.out; have hrow := jn.body.rows d b HDN.out HBN.out; obtain ⟨Ac, cc, hcv, hcc, -⟩ := hrow.slice; have cq : w'.cell? ⟨Y.q d b, 0, none⟩ = some (.slice Ac (N.blk d b).cells.length cc) := by rw [zaf hblk, ← hcv]; rfl
   have c3 : w'.cell? ⟨Y.q d b, 3, none⟩ = some (.bool (N.blk d b).met) := by rw [zaf hblk]; rfl
   have hlen := jn.ok.len d b; obtain ⟨-, -, ca⟩ := ad_at ja; rw [HQ.out] at ca; have HA1 := Lib.hid ja; have HZ1 := Lib.hid jz; have HNw := Lib.hid jn; have HB1 := Lib.hid jb; have HM := Lib.hid (And.intro c3 hlen); clear ja jz jn jb hblk hrow hcv c3 hlen; by_cases hpl : q = (N.blk d b).cells.length
   · have HE := Lib.hid hpl
     have hpI : ((q : Int) != ((N.blk d b).cells.length : Int)) = false := by rw [hpl]; simp
     generalize hM : (N.blk d b).cells.length = M at *; have HMe := Lib.hid hM; clear hM hpl; go_upto_region 5 with fail
     go_region
     go_upto_region 8 with fail
     have CC := Lib.hid (cut_any HNw.out HS.out.1); clear ca cq hpI; go_wp2_with fail
     refine (show Calls _ _ _ w'.drew _ from (cut_any HNw.out.drew HS.out.1)).mono ?_; rintro e w4 ⟨rfl, hn4, hf4⟩; have HFw := Lib.hid ((Fr.of_below HB1.out).trans ((Fr.refl base g w').drew.trans hf4)); have HA4 := Lib.hid (hf4.blk (show w'.drew.heap[_]? = _ from HA1.out) rfl); have HZ4 := Lib.hid (hf4.blk (show w'.drew.heap[_]? = _ from HZ1.out) rfl); obtain ⟨N1, hN1⟩ : ∃ N1, N1 = N.cutN := ⟨_, rfl⟩; rw [← hN1] at hn4; have HN1 := Lib.hid hn4; have hkeep := cutN_keeps N; rw [← hN1] at hkeep; obtain ⟨k1, k2, k3, k4, k5, k6, k7⟩ := hkeep; have HEN := Lib.hid hN1; have HKK := Lib.hid (And.intro k4 (And.intro k5 k6)); replace HDN := Lib.hid (show d < N1.D by rw [k1]; exact HDN.out); replace HBN := Lib.hid (show b < N1.B by rw [k2]; exact HBN.out); have H8 := Lib.hid (show (N1.blk d b).cells.length ≤ 8 by have := HM.out.2; have := hn4.ok.geo; have := hn4.ok.len d b; omega); have HX := Lib.hid (show (N1.blk d b).cells.length + 1 ≤ N1.P by rw [k4, k3]; have := HE.out; have := HMe.out; have := HqP.out; omega); have HEq := Lib.hid (show q = (N.blk d b).cells.length by rw [HE.out, HMe.out]); have ck := hn4.c11; have hk32 := hn4.ok.keep; clear hn4 hf4 hN1 k1 k2 k3 k4 k5 k6 k7 CC; cases hcb : N.cutB with
     | true =>
      obtain ⟨pe, pn⟩ := HPL.out.l2 HEq.out hcb; rw [← HEN.out] at pn; have HPE := Lib.hid (And.intro pe pn); clear pe pn hcb; generalize hkk : N1.keep = kk at *; have HKe := Lib.hid hkk; clear hkk; go_upto_region 9 with fail
      go_wp2_with fail
      go_loopw [9] (fun i wr => ∃ j : Nat, kk ≤ j ∧ j ≤ 32 ∧ i = .int .i64 j ∧ wr.heap[w.heap.size + 1]? = some (.cells (nats .u8 (tornTo p kk j)).toArray 90 (0, 0)) ∧ NandAt wr base g Y N1 ∧ Fr base g w wr) (fun i _ => 32 - (intOf i).toNat)
      case atStart => exact ⟨kk, Nat.le_refl _, hk32, rfl, by rw [tornTo_start]; exact HZ4.out, HN1.out, HFw.out⟩
      case round =>
       obtain ⟨j, hKj, hj, rfl, h8, hn, hf⟩ := hrel; by_cases hlt : j < 32
       · have lT := tornTo_length HPP.out.1 hKj hj
         have hc : wr.cell? ⟨w.heap.size + 1, j, none⟩ = some (.int .u8 (((tornTo p kk j).getD j 0 : Nat) : Int)) := by rw [zaf h8, List.getElem?_toArray, nats_at .u8 _ j (by rw [lT]; exact hlt), List.getD_eq_getElem?_getD, List.getElem?_eq_getElem (by rw [lT]; exact hlt)]; rfl
         have ff := zar h8 j; have U := zas (i := j) h8 (.int .u8 255); have hset : (nats .u8 (tornTo p kk j)).set j (.int .u8 255) = nats .u8 (tornTo p kk (j + 1)) := by rw [← tornTo_step HPP.out.1 hKj hlt]; simp only [nats, List.map_set]; rfl
         have k8 := U.at_; rw [hset] at k8; have HU := Lib.hid (And.intro k8 (And.intro (hn.other (upd_grown U) h8 rfl) (hf.then_below ((U.below (Below.refl w.heap.size wr) (by omega)))))); have hlt2 : (j : Int) < 32 := by omega
         clear U hset k8 h8 hn hf lT; generalize (tornTo p kk j).getD j 0 = z at *; go_wp2_with fail
         go_roundw
         case rel => exact ⟨j + 1, by omega, by omega, by go_num, HU.out.1, HU.out.2.1, HU.out.2.2⟩
         case measure => simp [intOf]; omega
       · obtain rfl : j = 32 := by omega
         have HPg := Lib.hid h8; have HNs := Lib.hid hn; have HFr := Lib.hid hf; have HBs := Lib.hid (show base ≤ wr.heap.size from Nat.le_trans HLow.out hf.size); have HC := Lib.hid (And.intro (tornTo_length HPP.out.1 hKj hj) (tornTo_lt HPP.out.2 kk 32)); obtain ⟨pp, hpp⟩ : ∃ pp, pp = tornTo p kk 32 := ⟨_, rfl⟩; rw [← hpp] at HPg HC; have HPq := Lib.hid hpp; clear h8 hn hf hpp hlt hKj hj; go_upto_region 13 with fail
         refine zan (by kernel_rfl) (by kernel_rfl) (X := Nat × Value) (fun y => [(some 55, .pointer (some ⟨Y.q d b, 0, none⟩)), (some 56, .pointer (some ⟨Y.q d b, 0, none⟩)), (some 57, .pointer (some ⟨Y.q d b, 0, none⟩)), (some 58, .pointer (some ⟨Y.q d b, 0, none⟩)), (some 59, Y.cv d b), (some 60, .agg (nats .u8 pp).toArray), (some 61, .agg (Cel.v ⟨pp, false, true⟩).toArray), (some 62, .slice (some ⟨y.1, 0, none⟩) 1 1), (some 63, y.2), (some 64, .pointer (some ⟨Y.q d b, 0, none⟩)), (some 65, .pointer (some ⟨Y.q d b, 0, none⟩)), (none, undef)])
          (fun y L w' => AppJ wr base g Y N1 d b ⟨pp, false, true⟩ y (L 7) (L 8) (L 11) w' ∧ (L 8 = true → L 4 = true) ∧ Below 0 wr w') (fun _ => rfl) (by kernel_rfl) ⟨(0, undef), fun L hL => ⟨(by rw [hL 7, hL 8, hL 11]; exact AppJ.start _), (by rw [hL 8]; intro h; cases h), (Below.refl 0 wr).drew⟩⟩ ?_ ?_
         · refine ⟨?_, ?_, ?_, ?_, ?_, ?_, ?_, ?_, ?_, ?_, ?_, ?_, trivial⟩
           · intro y L w' hL hpre hJ a ha
             obtain ⟨jx, jo, jb⟩ := hJ; simp [Region.binds] at hpre; refine .inl ⟨zaa rfl, ?_⟩; exact zah (.tmp 8) (.inl rfl) (.pointer (some ⟨Y.q d b, 0, none⟩)) (by rw [ha, zac rfl]; rfl) ⟨y, _, rfl, rfl, jx, jo, jb⟩
           · intro y L w' hL hpre hJ a ha
             obtain ⟨jx, jo, jb⟩ := hJ; simp [Region.binds] at hpre; refine .inl ⟨zaa rfl, ?_⟩; exact zah (.tmp 8) (.inl rfl) (.pointer (some ⟨Y.q d b, 0, none⟩)) (by rw [ha, zac rfl]; rfl) ⟨y, _, rfl, rfl, jx, jo, jb⟩
           · intro y L w' hL hpre hJ a ha
             obtain ⟨jx, jo, jb⟩ := hJ; simp [Region.binds] at hpre; refine .inl ⟨zaa rfl, ?_⟩; have e56 : a.eval (.tmp 56) = .pointer (some ⟨Y.q d b, 0, none⟩) := evP ha 1 rfl (by simp [hpre]) (by simp) rfl; clear ha; have jx' := Lib.hid jx; have jo' := Lib.hid jo; have jb' := Lib.hid jb; clear jx jo jb; refine zab fun K HK => ?_; unfold Oper.wp; simp only [execOp, e56]; go_simp; exact HK.out _ _ ⟨y, _, rfl, rfl, jx'.out, jo'.out, jb'.out⟩
           · intro y L w' hL hpre hJ a ha
             obtain ⟨jx, jo, jb⟩ := hJ; simp [Region.binds] at hpre; refine .inl ⟨zaa rfl, ?_⟩; have e57 : a.eval (.tmp 57) = .pointer (some ⟨Y.q d b, 0, none⟩) := evP ha 2 rfl (by simp [hpre]) (by simp) rfl; clear ha; have jx' := Lib.hid jx; have jo' := Lib.hid jo; have jb' := Lib.hid jb; clear jx jo jb; refine zab fun K HK => ?_; unfold Oper.wp; simp only [execOp, e57]; go_simp; exact HK.out _ _ ⟨y, _, rfl, rfl, jx'.out, jo'.out, jb'.out⟩
           · intro y L w' hL hpre hJ a ha
             obtain ⟨jx, jo, jb⟩ := hJ; simp [Region.binds] at hpre; refine .inl ⟨zaa rfl, ?_⟩; have e58 : a.eval (.tmp 58) = .pointer (some ⟨Y.q d b, 0, none⟩) := evP ha 3 rfl (by simp [hpre]) (by simp) rfl
             have hN : L 11 = false := by
              cases h : L 11 with
              | false => rfl
              | true => exact absurd (jo (jx.ord h)) (by simp [hL])
             have cc := jx.cell HNs.out HDN.out HBN.out hN; have jx' := Lib.hid jx; have jb' := Lib.hid jb; clear jx jb jo ha; refine zab fun K HK => ?_; unfold Oper.wp; simp only [execOp, e58]; go_simp; exact HK.out _ _ ⟨y, _, rfl, rfl, jx'.out, fun _ => by simp [also], jb'.out⟩
           · intro y L w' hL hpre hJ a ha
             obtain ⟨jx, jo, jb⟩ := hJ; simp [Region.binds] at hpre; refine .inl ⟨zaa rfl, ?_⟩; have e5 : a.eval (.tmp 5) = .pointer (some ⟨w.heap.size + 1, 0, none⟩) := by rw [ha, zac rfl]; rfl
             have jp := jx.fr.blk HPg.out rfl; exact wp_load_mid 90 (.tmp 5) rfl (w.heap.size + 1) 0 e5 (nats .u8 pp) _ (zal jp) Tryz.underlying90 rfl (zbe HC.out.1) ⟨y, _, rfl, rfl, jx, jo, jb⟩
           · intro y L w' hL hpre hJ a ha
             obtain ⟨jx, jo, jb⟩ := hJ; simp [Region.binds] at hpre; refine .inl ⟨zaa rfl, ?_⟩; have e60 : a.eval (.tmp 60) = .agg (nats .u8 pp).toArray := evP ha 5 rfl (by simp [hpre]) (by simp) rfl; exact wp_build_l 123 _ rfl _ (show [(0, a.eval (.tmp 60)), (2, a.eval (.const (.bool true)))] = _ by rw [e60]; rfl) _ (built_turned HC.out.1) ⟨y, _, rfl, rfl, jx, jo, jb⟩
           · intro y L w' hL hpre hJ a ha
             obtain ⟨jx, jo, jb⟩ := hJ; simp [Region.binds] at hpre; refine .inl ⟨zaa rfl, ?_⟩; have e61 : a.eval (.tmp 61) = .agg (Cel.v ⟨pp, false, true⟩).toArray := evP ha 6 rfl (by simp [hpre]) (by simp) rfl; refine wp_buildOne 117 (.tmp 61) rfl 123 (Cel.v ⟨pp, false, true⟩) _ 34 34 e61 Tryz.underlying117 cellInfo3 (Cel.v_length HC.out.1) (by decide) (by decide) ?_; exact ⟨(w'.heap.size, y.2), _, rfl, rfl, jx.s8 hL, jo, (jx.s8 hL).low⟩
           · intro y L w' hL hpre hJ a ha
             obtain ⟨jx, jo, jb⟩ := hJ; simp [Region.binds] at hpre; refine .inl ⟨zaa rfl, ?_⟩; have e59 : a.eval (.tmp 59) = Y.cv d b := evP ha 4 rfl (by simp [hpre]) (by simp) rfl; have e62 : a.eval (.tmp 62) = .slice (some ⟨y.1, 0, none⟩) 1 1 := evP ha 7 rfl (by simp [hpre]) (by simp) rfl; have h7 : L 7 = true := by simp [hpre]
             have hN : L 11 = false := by
              cases h : L 11 with
              | false => rfl
              | true => exact absurd (jx.ord h) (by simp [hL])
             have q2 := jx.one hL h7; refine zb5 (.tmp 59) (.tmp 62) 117 rfl 123 _ 34 34 Tryz.underlying117 cellInfo3 rfl (by decide) (base := base) (B := 0) (jx.own HNs.out HDN.out HBN.out hL hN) jb e59 e62 (rds_cell HC.out.1 q2) (fun r hr => by rw [List.mem_singleton.1 hr]; exact Cel.one _) (by have := H8.out; unfold maxLen; omega) (by have := H8.out; omega) (Nat.le_trans HBs.out jx.fr.size) (Nat.zero_le _) ?_; intro v' w'' hown hb' hgr hat; exact ⟨(y.1, v'), _, rfl, rfl, jx.s9 HNs.out HDN.out HBN.out h7 hL hown hgr hat, fun _ => by simp [also, hpre], hb'⟩
           · intro y L w' hL hpre hJ a ha
             obtain ⟨jx, jo, jb⟩ := hJ; simp [Region.binds] at hpre; refine .inl ⟨zaa rfl, ?_⟩; have e55 : a.eval (.tmp 55) = .pointer (some ⟨Y.q d b, 0, none⟩) := evP ha 0 rfl (by simp [hpre]) (by simp) rfl; clear ha; have jx' := Lib.hid jx; have jo' := Lib.hid jo; have jb' := Lib.hid jb; clear jx jo jb; refine zab fun K HK => ?_; unfold Oper.wp; simp only [execOp, e55]; go_simp; exact HK.out _ _ ⟨y, _, rfl, rfl, jx'.out, jo'.out, jb'.out⟩
           · intro y L w' hL hpre hJ a ha
             obtain ⟨jx, jo, jb⟩ := hJ; simp [Region.binds] at hpre; refine .inl ⟨zaa rfl, ?_⟩; have e64 : a.eval (.tmp 64) = .pointer (some ⟨Y.q d b, 0, none⟩) := evP ha 9 rfl (by simp [hpre]) (by simp) rfl; clear ha; have jx' := Lib.hid jx; have jo' := Lib.hid jo; have jb' := Lib.hid jb; clear jx jo jb; refine zab fun K HK => ?_; unfold Oper.wp; simp only [execOp, e64]; go_simp; exact HK.out _ _ ⟨y, _, rfl, rfl, jx'.out, jo'.out, jb'.out⟩
           · intro y L w' hL hpre hJ a ha
             obtain ⟨jx, jo, jb⟩ := hJ; simp [Region.binds] at hpre; refine .inl ⟨zaa rfl, ?_⟩; have e65 : a.eval (.tmp 65) = .pointer (some ⟨Y.q d b, 0, none⟩) := evP ha 10 rfl (by simp [hpre]) (by simp) rfl; have e63 : a.eval (.tmp 63) = y.2 := evP ha 8 rfl (by simp [hpre]) (by simp) rfl; have h8 : L 8 = true := by simp [hpre]
             have cc := jx.cell HNs.out HDN.out HBN.out hL; have ff := jx.frozen HNs.out HDN.out HBN.out hL; obtain ⟨A9, c9, hv9, -, -⟩ := (jx.app h8 hL).1.slice; have jz' := jx.s12 HNs.out HDN.out HBN.out h8 hL HX.out HC.out; rw [hv9] at jz'; have jx' := Lib.hid jz'; have jo' := Lib.hid jo; clear jx jb jo ha jz'; refine zab fun K HK => ?_; unfold Oper.wp; simp only [execOp, e65, e63, hv9]; go_simp; exact HK.out _ _ ⟨y, _, rfl, rfl, jx'.out, jo'.out, jx'.out.low⟩
         · intro y L w' hL hJ
           obtain ⟨jx, jo, jb⟩ := hJ; have hdone := jx.done (hL 11 (by decide)); have hfr := jx.fr; clear hL jx jo jb; simp only [List.foldl_cons, List.foldl_nil]; go_simp; go_wp2_with fail
           go_ret
           exact ⟨by rw [HPE.out.1]; rfl, ⟨setCv Y d b y.2, rfl, by rw [HPE.out.2, ← HPq.out]; exact hdone⟩, HFr.out.trans hfr⟩
     | false =>
      obtain ⟨pe, pn⟩ := HPL.out.l3 HEq.out hcb; rw [← HEN.out] at pn; have HPE := Lib.hid (And.intro pe pn); clear pe pn hcb ck hk32; obtain ⟨fb, hfb⟩ : ∃ fb, fb = hasF N.plan x := ⟨_, rfl⟩; obtain ⟨me, hme⟩ : ∃ me, me = (N.blk d b).met := ⟨_, rfl⟩; rw [← hfb, ← hme] at HPE; have HFM := Lib.hid (And.intro hfb hme)
      have HGet : Hid (∀ w', NandAt w' base g Y N1 → Calls Tryz.prog 82 #[.pointer (some ⟨Y.gp, 0, none⟩), .agg x.v.toArray] w' fun e w'' => e = .returned (.tuple #[.bool fb, .bool fb]) ∧ Below w'.heap.size w' w'') := Lib.hid fun w' hn => by
       have := spotBool.get Y.gp Y.bp Y.np N1.plan x w' hn.body.plan hx; rw [look_has hn.ok.plan x, HKK.out.2.2, ← HFM.out.1] at this; exact this
      obtain ⟨N2, hN2⟩ : ∃ N2 : Nd, N2 = { N1 with plan := delF N1.plan x } := ⟨_, rfl⟩; rw [← hN2] at HPE
      have HDrop : Hid (∀ w', NandAt w' base g Y N1 → Calls Tryz.prog 79 #[.pointer (some ⟨Y.gp, 0, none⟩), .agg x.v.toArray] w' fun e w'' => e = .returned (.bool fb) ∧ (NandAt w'' base g Y N2 ∧ Fr base g w' w'')) := Lib.hid fun w' hn => by
       refine (spotBool.drop Y.gp Y.bp Y.np N1.plan x w' hn.body.plan hx).mono ?_; rintro e w'' ⟨rfl, hS, hg⟩; refine ⟨by rw [HKK.out.2.2, ← HFM.out.1], ?_⟩; rw [hN2]; exact hn.setPlan hS hg fun p hp => hn.ok.plan p (zbh.1 hp).1
      have hm3 : N2.blk d b = N.blk d b := by rw [hN2]; simp only [HKK.out.1]
      have HM3 := Lib.hid hm3; have HG2 := Lib.hid (show N2.D = N1.D ∧ N2.B = N1.B ∧ N2.P = N1.P ∧ N2.blk = N1.blk by rw [hN2]; exact ⟨rfl, rfl, rfl, rfl⟩); clear hN2 hfb hme hm3; go_upto_region 15 with fail
      refine zan (by kernel_rfl) (by kernel_rfl) (X := Unit) (fun _ => [(some 67, .pointer (some ⟨g, 0, none⟩)), (some 68, .pointer (some ⟨g, 0, none⟩)), (some 69, .pointer (some ⟨g, 4, none⟩)), (some 70, .pointer (some ⟨Y.gp, 0, none⟩)), (some 71, .agg (x.v).toArray), (some 72, .tuple #[.bool fb, .bool fb]), (some 66, .tuple #[.bool fb, .bool fb]), (some 73, .bool fb), (some 74, .bool fb), (some 10, .bool fb), (some 11, .bool fb)])
       (fun _ L w' => w'.heap[w.heap.size]? = some (.cells x.v.toArray 85 (0, 0)) ∧ NandAt w' base g Y N1 ∧ Below w4.heap.size w4 w') (fun _ => rfl) (by kernel_rfl) ⟨(), fun _ _ => ⟨HA4.out, (HN1.out.drew), (Below.refl _ w4).drew⟩⟩ ?_ ?_
      · refine ⟨?_, ?_, ?_, ?_, ?_, ?_, ?_, ?_, ?_, ?_, ?_, trivial⟩
        · intro _ L w' hL hpre hJ a ha
          obtain ⟨ja, jn, jb⟩ := hJ; simp [Region.binds] at hpre; refine .inl ⟨zaa rfl, ?_⟩; exact zah (.tmp 0) (.inl rfl) (.pointer (some ⟨g, 0, none⟩)) (by rw [ha, zac rfl]; rfl) ⟨(), _, rfl, rfl, ja, jn, jb⟩
        · intro _ L w' hL hpre hJ a ha
          obtain ⟨ja, jn, jb⟩ := hJ; simp [Region.binds] at hpre; refine .inl ⟨zaa rfl, ?_⟩; have e67 : a.eval (.tmp 67) = .pointer (some ⟨g, 0, none⟩) := evP ha 0 rfl (by simp [hpre]) (by simp) rfl; clear ha; have ja' := Lib.hid ja; have jn' := Lib.hid jn; have jb' := Lib.hid jb; clear ja jn jb; refine zab fun K HK => ?_; unfold Oper.wp; simp only [execOp, e67]; go_simp; exact HK.out _ _ ⟨(), _, rfl, rfl, ja'.out, jn'.out, jb'.out⟩
        · intro _ L w' hL hpre hJ a ha
          obtain ⟨ja, jn, jb⟩ := hJ; simp [Region.binds] at hpre; refine .inl ⟨zaa rfl, ?_⟩; have e68 : a.eval (.tmp 68) = .pointer (some ⟨g, 0, none⟩) := evP ha 1 rfl (by simp [hpre]) (by simp) rfl; clear ha; have ja' := Lib.hid ja; have jn' := Lib.hid jn; have jb' := Lib.hid jb; clear ja jn jb; refine zab fun K HK => ?_; unfold Oper.wp; simp only [execOp, e68]; go_simp; exact HK.out _ _ ⟨(), _, rfl, rfl, ja'.out, jn'.out, jb'.out⟩
        · intro _ L w' hL hpre hJ a ha
          obtain ⟨ja, jn, jb⟩ := hJ; simp [Region.binds] at hpre; refine .inl ⟨zaa rfl, ?_⟩; have e69 : a.eval (.tmp 69) = .pointer (some ⟨g, 4, none⟩) := evP ha 2 rfl (by simp [hpre]) (by simp) rfl; clear ha; have cc := jn.c4; have ja' := Lib.hid ja; have jn' := Lib.hid jn; have jb' := Lib.hid jb; clear ja jn jb; refine zab fun K HK => ?_; unfold Oper.wp; simp only [execOp, e69]; go_simp; exact HK.out _ _ ⟨(), _, rfl, rfl, ja'.out, jn'.out, jb'.out⟩
        · intro _ L w' hL hpre hJ a ha
          obtain ⟨ja, jn, jb⟩ := hJ; simp [Region.binds] at hpre; refine .inl ⟨zaa rfl, ?_⟩; exact wp_load_mid 85 (.tmp 4) rfl w.heap.size 0 (by rw [ha, zac rfl]; rfl) (x.v) _ (zal ja) Tryz.underlying85 rfl zbx ⟨(), _, rfl, rfl, ja, jn, jb⟩
        · intro _ L w' hL hpre hJ a ha
          obtain ⟨ja, jn, jb⟩ := hJ; simp [Region.binds] at hpre; refine .inl ⟨zaa rfl, ?_⟩; have e70 : a.eval (.tmp 70) = .pointer (some ⟨Y.gp, 0, none⟩) := evP ha 3 rfl (by simp [hpre]) (by simp) rfl; have e71 : a.eval (.tmp 71) = .agg (x.v).toArray := evP ha 4 rfl (by simp [hpre]) (by simp) rfl; clear ha; have ja' := Lib.hid ja; have jn' := Lib.hid jn; have jb' := Lib.hid jb; clear ja jn jb; refine zab fun K HK => ?_; unfold Oper.wp; simp only [execOp, resolve, List.map_toArray, List.map_cons, List.map_nil, e70, e71]; go_simp; refine (HGet.out w' jn'.out).mono ?_; rintro e w'' ⟨rfl, hb⟩; exact HK.out _ _ ⟨(), _, rfl, rfl, zad ja'.out hb, (NandAt.below jn'.out hb), jb'.out.trans (hb.mono jb'.out.size)⟩
        · intro _ L w' hL hpre hJ a ha
          obtain ⟨ja, jn, jb⟩ := hJ; simp [Region.binds] at hpre; refine .inl ⟨zaa rfl, ?_⟩; exact zah (.tmp 72) (.inl rfl) (.tuple #[.bool fb, .bool fb]) (evP ha 5 rfl (by simp [hpre]) (by simp) rfl) ⟨(), _, rfl, rfl, ja, jn, jb⟩
        · intro _ L w' hL hpre hJ a ha
          obtain ⟨ja, jn, jb⟩ := hJ; simp [Region.binds] at hpre; refine .inl ⟨zaa rfl, ?_⟩; have e66 : a.eval (.tmp 66) = .tuple #[.bool fb, .bool fb] := evP ha 6 rfl (by simp [hpre]) (by simp) rfl; clear ha; have ja' := Lib.hid ja; have jn' := Lib.hid jn; have jb' := Lib.hid jb; clear ja jn jb; refine zab fun K HK => ?_; unfold Oper.wp; simp only [execOp, e66]; go_simp; exact HK.out _ _ ⟨(), _, rfl, rfl, ja'.out, jn'.out, jb'.out⟩
        · intro _ L w' hL hpre hJ a ha
          obtain ⟨ja, jn, jb⟩ := hJ; simp [Region.binds] at hpre; refine .inl ⟨zaa rfl, ?_⟩; have e66 : a.eval (.tmp 66) = .tuple #[.bool fb, .bool fb] := evP ha 6 rfl (by simp [hpre]) (by simp) rfl; clear ha; have ja' := Lib.hid ja; have jn' := Lib.hid jn; have jb' := Lib.hid jb; clear ja jn jb; refine zab fun K HK => ?_; unfold Oper.wp; simp only [execOp, e66]; go_simp; exact HK.out _ _ ⟨(), _, rfl, rfl, ja'.out, jn'.out, jb'.out⟩
        · intro _ L w' hL hpre hJ a ha
          obtain ⟨ja, jn, jb⟩ := hJ; simp [Region.binds] at hpre; refine .inl ⟨zaa rfl, ?_⟩; exact zah (.tmp 73) (.inr rfl) (.bool fb) (evP ha 7 rfl (by simp [hpre]) (by simp) rfl) ⟨(), _, rfl, rfl, ja, jn, jb⟩
        · intro _ L w' hL hpre hJ a ha
          obtain ⟨ja, jn, jb⟩ := hJ; simp [Region.binds] at hpre; refine .inl ⟨zaa rfl, ?_⟩; exact zah (.tmp 74) (.inr rfl) (.bool fb) (evP ha 8 rfl (by simp [hpre]) (by simp) rfl) ⟨(), _, rfl, rfl, ja, jn, jb⟩
      · intro _ L w' hL hJ
        obtain ⟨ja, jn, jb⟩ := hJ; clear hL; simp only [List.foldl_cons, List.foldl_nil]; go_simp; have HA5 := Lib.hid ja; have HN5 := Lib.hid jn; have HFa := Lib.hid (Fr.of_below (base := base) (g := g) jb); have HZ5 := Lib.hid (HFa.out.blk HZ4.out rfl); clear ja jn jb; obtain ⟨w4', hw4'⟩ : ∃ x : World, x = w' := ⟨_, rfl⟩; subst hw4'; go_upto_region 16 with fail
        refine zan (by kernel_rfl) (by kernel_rfl) (X := Unit) (fun _ => [(some 75, .pointer (some ⟨g, 0, none⟩)), (some 76, .pointer (some ⟨g, 0, none⟩)), (some 77, .pointer (some ⟨g, 4, none⟩)), (some 78, .pointer (some ⟨Y.gp, 0, none⟩)), (some 79, .agg (x.v).toArray), (some 80, .bool fb)])
         (fun _ L w' => w'.heap[w.heap.size]? = some (.cells x.v.toArray 85 (0, 0)) ∧ w'.cell? ⟨g, 4, none⟩ = some (.pointer (some ⟨Y.gp, 0, none⟩)) ∧ (L 5 = false → NandAt w' base g Y N1) ∧ (L 5 = true → NandAt w' base g Y N2) ∧ Fr base g w4' w' ∧ Below 0 w4' w') (fun _ => rfl) (by kernel_rfl) ⟨(), fun L hL => ⟨HA5.out, HN5.out.c4, (fun _ => HN5.out.drew), (by rw [hL 5]; intro h; cases h), (Fr.refl base g w4').drew, (Below.refl 0 w4').drew⟩⟩ ?_ ?_
        · refine ⟨?_, ?_, ?_, ?_, ?_, ?_, trivial⟩
          · intro _ L w' hL hpre hJ a ha
            obtain ⟨ja, jc, j1, j2, jf, jb⟩ := hJ; simp [Region.binds] at hpre; refine .inl ⟨zaa rfl, ?_⟩; exact zah (.tmp 0) (.inl rfl) (.pointer (some ⟨g, 0, none⟩)) (by rw [ha, zac rfl]; rfl) ⟨(), _, rfl, rfl, ja, jc, j1, j2, jf, jb⟩
          · intro _ L w' hL hpre hJ a ha
            obtain ⟨ja, jc, j1, j2, jf, jb⟩ := hJ; simp [Region.binds] at hpre; refine .inl ⟨zaa rfl, ?_⟩; have e75 : a.eval (.tmp 75) = .pointer (some ⟨g, 0, none⟩) := evP ha 0 rfl (by simp [hpre]) (by simp) rfl; clear ha; have ja' := Lib.hid ja; have jc' := Lib.hid jc; have j1' := Lib.hid j1; have j2' := Lib.hid j2; have jf' := Lib.hid jf; have jb' := Lib.hid jb; clear ja jc j1 j2 jf jb; refine zab fun K HK => ?_; unfold Oper.wp; simp only [execOp, e75]; go_simp; exact HK.out _ _ ⟨(), _, rfl, rfl, ja'.out, jc'.out, j1'.out, j2'.out, jf'.out, jb'.out⟩
          · intro _ L w' hL hpre hJ a ha
            obtain ⟨ja, jc, j1, j2, jf, jb⟩ := hJ; simp [Region.binds] at hpre; refine .inl ⟨zaa rfl, ?_⟩; have e76 : a.eval (.tmp 76) = .pointer (some ⟨g, 0, none⟩) := evP ha 1 rfl (by simp [hpre]) (by simp) rfl; clear ha; have ja' := Lib.hid ja; have jc' := Lib.hid jc; have j1' := Lib.hid j1; have j2' := Lib.hid j2; have jf' := Lib.hid jf; have jb' := Lib.hid jb; clear ja jc j1 j2 jf jb; refine zab fun K HK => ?_; unfold Oper.wp; simp only [execOp, e76]; go_simp; exact HK.out _ _ ⟨(), _, rfl, rfl, ja'.out, jc'.out, j1'.out, j2'.out, jf'.out, jb'.out⟩
          · intro _ L w' hL hpre hJ a ha
            obtain ⟨ja, jc, j1, j2, jf, jb⟩ := hJ; simp [Region.binds] at hpre; refine .inl ⟨zaa rfl, ?_⟩; have e77 : a.eval (.tmp 77) = .pointer (some ⟨g, 4, none⟩) := evP ha 2 rfl (by simp [hpre]) (by simp) rfl; clear ha; have cc := jc; have ja' := Lib.hid ja; have jc' := Lib.hid jc; have j1' := Lib.hid j1; have j2' := Lib.hid j2; have jf' := Lib.hid jf; have jb' := Lib.hid jb; clear ja jc j1 j2 jf jb; refine zab fun K HK => ?_; unfold Oper.wp; simp only [execOp, e77]; go_simp; exact HK.out _ _ ⟨(), _, rfl, rfl, ja'.out, jc'.out, j1'.out, j2'.out, jf'.out, jb'.out⟩
          · intro _ L w' hL hpre hJ a ha
            obtain ⟨ja, jc, j1, j2, jf, jb⟩ := hJ; simp [Region.binds] at hpre; refine .inl ⟨zaa rfl, ?_⟩; exact wp_load_mid 85 (.tmp 4) rfl w.heap.size 0 (by rw [ha, zac rfl]; rfl) (x.v) _ (zal ja) Tryz.underlying85 rfl zbx ⟨(), _, rfl, rfl, ja, jc, j1, j2, jf, jb⟩
          · intro _ L w' hL hpre hJ a ha
            obtain ⟨ja, jc, j1, j2, jf, jb⟩ := hJ; simp [Region.binds] at hpre; refine .inl ⟨zaa rfl, ?_⟩; have e78 : a.eval (.tmp 78) = .pointer (some ⟨Y.gp, 0, none⟩) := evP ha 3 rfl (by simp [hpre]) (by simp) rfl; have e79 : a.eval (.tmp 79) = .agg (x.v).toArray := evP ha 4 rfl (by simp [hpre]) (by simp) rfl; have ja' := Lib.hid ja; have j1' := Lib.hid (j1 hL); have jf' := Lib.hid jf; clear ja j1 j2 jf jc ha; refine zab fun K HK => ?_; unfold Oper.wp; simp only [execOp, resolve, List.map_toArray, List.map_cons, List.map_nil, e78, e79]; go_simp; refine (HDrop.out w' j1'.out).mono ?_; rintro e w'' ⟨rfl, hn2, hf2⟩; have hfz := jf'.out.trans hf2; exact HK.out _ _ ⟨(), _, rfl, rfl, hf2.blk ja'.out rfl, hn2.c4, fun h => by simp [also] at h, fun _ => hn2, hfz, ⟨hfz.os, hfz.tape, hfz.output, hfz.size, fun k hk => absurd hk (Nat.not_lt_zero k)⟩⟩
        · intro _ L w' hL hJ
          obtain ⟨ja, jc, j1, j2, jf, jb⟩ := hJ; have h5 := hL 5 (by decide); clear hL; simp only [List.foldl_cons, List.foldl_nil]; have HN6 := Lib.hid (j2 h5); have HF6 := Lib.hid jf; clear ja jc j1 j2 jf jb; go_simp; go_upto_region 17 with fail
          have cm : w'.cell? ⟨Y.q d b, 3, none⟩ = some (.bool me) := by rw [zaf (HN6.out.body.blk d b (by rw [HG2.out.1]; exact HDN.out) (by rw [HG2.out.2.1]; exact HBN.out)), HM3.out, HFM.out.2]; rfl
          obtain ⟨fails, hfa⟩ : ∃ fails, fails = (fb || me) := ⟨_, rfl⟩; rw [← hfa] at HPE; obtain ⟨w5, hw5⟩ : ∃ w5, w5 = w' := ⟨_, rfl⟩; go_cut [10] (fun v wx => v = .bool fails ∧ wx = w5)
          case first =>
           subst hw5; cases fb <;> cases me <;>
           (subst hfa; go_wp2_with fail; go_meet; exact ⟨rfl, rfl⟩)
          case rest =>
           obtain ⟨rfl, rfl⟩ := hcut; subst hw5; have HNs := Lib.hid HN6.out; have HBs := Lib.hid (show base ≤ wc.heap.size from Nat.le_trans HLow.out (Nat.le_trans HFw.out.size (Nat.le_trans HFa.out.size HF6.out.size))); have HPg := Lib.hid (HF6.out.blk HZ5.out rfl); have HC := Lib.hid HPP.out; replace HDN := Lib.hid (show d < N2.D by rw [HG2.out.1]; exact HDN.out); replace HBN := Lib.hid (show b < N2.B by rw [HG2.out.2.1]; exact HBN.out); replace H8 := Lib.hid (show (N2.blk d b).cells.length ≤ 8 by rw [HG2.out.2.2.2]; exact H8.out); replace HX := Lib.hid (show (N2.blk d b).cells.length + 1 ≤ N2.P by rw [HG2.out.2.2.2, HG2.out.2.2.1]; exact HX.out); have HFz := Lib.hid (HFw.out.trans (HFa.out.trans HF6.out)); clear cm hfa; go_upto_region 18 with fail
           refine zan (by kernel_rfl) (by kernel_rfl) (X := Nat × Value) (fun y => [(some 88, .pointer (some ⟨Y.q d b, 0, none⟩)), (some 89, .pointer (some ⟨Y.q d b, 0, none⟩)), (some 90, .pointer (some ⟨Y.q d b, 0, none⟩)), (some 91, .pointer (some ⟨Y.q d b, 0, none⟩)), (some 92, Y.cv d b), (some 93, .agg (nats .u8 p).toArray), (some 94, .bool fails), (some 95, .agg (Cel.v ⟨p, fails, false⟩).toArray), (some 96, .slice (some ⟨y.1, 0, none⟩) 1 1), (some 97, y.2), (some 98, .pointer (some ⟨Y.q d b, 0, none⟩)), (some 99, .pointer (some ⟨Y.q d b, 0, none⟩)), (none, undef)])
            (fun y L w' => AppJ wc base g Y N2 d b ⟨p, fails, false⟩ y (L 8) (L 9) (L 12) w' ∧ (L 9 = true → L 4 = true) ∧ Below 0 wc w') (fun _ => rfl) (by kernel_rfl) ⟨(0, undef), fun L hL => ⟨(by rw [hL 8, hL 9, hL 12]; exact AppJ.start _), (by rw [hL 9]; intro h; cases h), (Below.refl 0 wc).drew⟩⟩ ?_ ?_
           · refine ⟨?_, ?_, ?_, ?_, ?_, ?_, ?_, ?_, ?_, ?_, ?_, ?_, ?_, trivial⟩
             · intro y L w' hL hpre hJ a ha
               obtain ⟨jx, jo, jb⟩ := hJ; simp [Region.binds] at hpre; refine .inl ⟨zaa rfl, ?_⟩; exact zah (.tmp 8) (.inl rfl) (.pointer (some ⟨Y.q d b, 0, none⟩)) (by rw [ha, zac rfl]; rfl) ⟨y, _, rfl, rfl, jx, jo, jb⟩
             · intro y L w' hL hpre hJ a ha
               obtain ⟨jx, jo, jb⟩ := hJ; simp [Region.binds] at hpre; refine .inl ⟨zaa rfl, ?_⟩; exact zah (.tmp 8) (.inl rfl) (.pointer (some ⟨Y.q d b, 0, none⟩)) (by rw [ha, zac rfl]; rfl) ⟨y, _, rfl, rfl, jx, jo, jb⟩
             · intro y L w' hL hpre hJ a ha
               obtain ⟨jx, jo, jb⟩ := hJ; simp [Region.binds] at hpre; refine .inl ⟨zaa rfl, ?_⟩; have e89 : a.eval (.tmp 89) = .pointer (some ⟨Y.q d b, 0, none⟩) := evP ha 1 rfl (by simp [hpre]) (by simp) rfl; clear ha; have jx' := Lib.hid jx; have jo' := Lib.hid jo; have jb' := Lib.hid jb; clear jx jo jb; refine zab fun K HK => ?_; unfold Oper.wp; simp only [execOp, e89]; go_simp; exact HK.out _ _ ⟨y, _, rfl, rfl, jx'.out, jo'.out, jb'.out⟩
             · intro y L w' hL hpre hJ a ha
               obtain ⟨jx, jo, jb⟩ := hJ; simp [Region.binds] at hpre; refine .inl ⟨zaa rfl, ?_⟩; have e90 : a.eval (.tmp 90) = .pointer (some ⟨Y.q d b, 0, none⟩) := evP ha 2 rfl (by simp [hpre]) (by simp) rfl; clear ha; have jx' := Lib.hid jx; have jo' := Lib.hid jo; have jb' := Lib.hid jb; clear jx jo jb; refine zab fun K HK => ?_; unfold Oper.wp; simp only [execOp, e90]; go_simp; exact HK.out _ _ ⟨y, _, rfl, rfl, jx'.out, jo'.out, jb'.out⟩
             · intro y L w' hL hpre hJ a ha
               obtain ⟨jx, jo, jb⟩ := hJ; simp [Region.binds] at hpre; refine .inl ⟨zaa rfl, ?_⟩; have e91 : a.eval (.tmp 91) = .pointer (some ⟨Y.q d b, 0, none⟩) := evP ha 3 rfl (by simp [hpre]) (by simp) rfl
               have hN : L 12 = false := by
                cases h : L 12 with
                | false => rfl
                | true => exact absurd (jo (jx.ord h)) (by simp [hL])
               have cc := jx.cell HNs.out HDN.out HBN.out hN; have jx' := Lib.hid jx; have jb' := Lib.hid jb; clear jx jb jo ha; refine zab fun K HK => ?_; unfold Oper.wp; simp only [execOp, e91]; go_simp; exact HK.out _ _ ⟨y, _, rfl, rfl, jx'.out, fun _ => by simp [also], jb'.out⟩
             · intro y L w' hL hpre hJ a ha
               obtain ⟨jx, jo, jb⟩ := hJ; simp [Region.binds] at hpre; refine .inl ⟨zaa rfl, ?_⟩; have e5 : a.eval (.tmp 5) = .pointer (some ⟨w.heap.size + 1, 0, none⟩) := by rw [ha, zac rfl]; rfl
               have jp := jx.fr.blk HPg.out rfl; exact wp_load_mid 90 (.tmp 5) rfl (w.heap.size + 1) 0 e5 (nats .u8 p) _ (zal jp) Tryz.underlying90 rfl (zbe HC.out.1) ⟨y, _, rfl, rfl, jx, jo, jb⟩
             · intro y L w' hL hpre hJ a ha
               obtain ⟨jx, jo, jb⟩ := hJ; simp [Region.binds] at hpre; refine .inl ⟨zaa rfl, ?_⟩; exact zah (.tmp 10) (.inl rfl) (.bool fails) (by rw [ha, zac rfl]; rfl) ⟨y, _, rfl, rfl, jx, jo, jb⟩
             · intro y L w' hL hpre hJ a ha
               obtain ⟨jx, jo, jb⟩ := hJ; simp [Region.binds] at hpre; refine .inl ⟨zaa rfl, ?_⟩; have e93 : a.eval (.tmp 93) = .agg (nats .u8 p).toArray := evP ha 5 rfl (by simp [hpre]) (by simp) rfl; have e94 : a.eval (.tmp 94) = .bool fails := evP ha 6 rfl (by simp [hpre]) (by simp) rfl; exact wp_build_l 123 _ rfl _ (show [(0, a.eval (.tmp 93)), (1, a.eval (.tmp 94))] = _ by rw [e93, e94]) _ (built_lost HC.out.1 fails) ⟨y, _, rfl, rfl, jx, jo, jb⟩
             · intro y L w' hL hpre hJ a ha
               obtain ⟨jx, jo, jb⟩ := hJ; simp [Region.binds] at hpre; refine .inl ⟨zaa rfl, ?_⟩; have e95 : a.eval (.tmp 95) = .agg (Cel.v ⟨p, fails, false⟩).toArray := evP ha 7 rfl (by simp [hpre]) (by simp) rfl; refine wp_buildOne 117 (.tmp 95) rfl 123 (Cel.v ⟨p, fails, false⟩) _ 34 34 e95 Tryz.underlying117 cellInfo3 (Cel.v_length HC.out.1) (by decide) (by decide) ?_; exact ⟨(w'.heap.size, y.2), _, rfl, rfl, jx.s8 hL, jo, (jx.s8 hL).low⟩
             · intro y L w' hL hpre hJ a ha
               obtain ⟨jx, jo, jb⟩ := hJ; simp [Region.binds] at hpre; refine .inl ⟨zaa rfl, ?_⟩; have e92 : a.eval (.tmp 92) = Y.cv d b := evP ha 4 rfl (by simp [hpre]) (by simp) rfl; have e96 : a.eval (.tmp 96) = .slice (some ⟨y.1, 0, none⟩) 1 1 := evP ha 8 rfl (by simp [hpre]) (by simp) rfl; have h7 : L 8 = true := by simp [hpre]
               have hN : L 12 = false := by
                cases h : L 12 with
                | false => rfl
                | true => exact absurd (jx.ord h) (by simp [hL])
               have q2 := jx.one hL h7; refine zb5 (.tmp 92) (.tmp 96) 117 rfl 123 _ 34 34 Tryz.underlying117 cellInfo3 rfl (by decide) (base := base) (B := 0) (jx.own HNs.out HDN.out HBN.out hL hN) jb e92 e96 (rds_cell HC.out.1 q2) (fun r hr => by rw [List.mem_singleton.1 hr]; exact Cel.one _) (by have := H8.out; unfold maxLen; omega) (by have := H8.out; omega) (Nat.le_trans HBs.out jx.fr.size) (Nat.zero_le _) ?_; intro v' w'' hown hb' hgr hat; exact ⟨(y.1, v'), _, rfl, rfl, jx.s9 HNs.out HDN.out HBN.out h7 hL hown hgr hat, fun _ => by simp [also, hpre], hb'⟩
             · intro y L w' hL hpre hJ a ha
               obtain ⟨jx, jo, jb⟩ := hJ; simp [Region.binds] at hpre; refine .inl ⟨zaa rfl, ?_⟩; have e88 : a.eval (.tmp 88) = .pointer (some ⟨Y.q d b, 0, none⟩) := evP ha 0 rfl (by simp [hpre]) (by simp) rfl; clear ha; have jx' := Lib.hid jx; have jo' := Lib.hid jo; have jb' := Lib.hid jb; clear jx jo jb; refine zab fun K HK => ?_; unfold Oper.wp; simp only [execOp, e88]; go_simp; exact HK.out _ _ ⟨y, _, rfl, rfl, jx'.out, jo'.out, jb'.out⟩
             · intro y L w' hL hpre hJ a ha
               obtain ⟨jx, jo, jb⟩ := hJ; simp [Region.binds] at hpre; refine .inl ⟨zaa rfl, ?_⟩; have e98 : a.eval (.tmp 98) = .pointer (some ⟨Y.q d b, 0, none⟩) := evP ha 10 rfl (by simp [hpre]) (by simp) rfl; clear ha; have jx' := Lib.hid jx; have jo' := Lib.hid jo; have jb' := Lib.hid jb; clear jx jo jb; refine zab fun K HK => ?_; unfold Oper.wp; simp only [execOp, e98]; go_simp; exact HK.out _ _ ⟨y, _, rfl, rfl, jx'.out, jo'.out, jb'.out⟩
             · intro y L w' hL hpre hJ a ha
               obtain ⟨jx, jo, jb⟩ := hJ; simp [Region.binds] at hpre; refine .inl ⟨zaa rfl, ?_⟩; have e99 : a.eval (.tmp 99) = .pointer (some ⟨Y.q d b, 0, none⟩) := evP ha 11 rfl (by simp [hpre]) (by simp) rfl; have e97 : a.eval (.tmp 97) = y.2 := evP ha 9 rfl (by simp [hpre]) (by simp) rfl; have h8 : L 9 = true := by simp [hpre]
               have cc := jx.cell HNs.out HDN.out HBN.out hL; have ff := jx.frozen HNs.out HDN.out HBN.out hL; obtain ⟨A9, c9, hv9, -, -⟩ := (jx.app h8 hL).1.slice; have jz' := jx.s12 HNs.out HDN.out HBN.out h8 hL HX.out HC.out; rw [hv9] at jz'; have jx' := Lib.hid jz'; have jo' := Lib.hid jo; clear jx jb jo ha jz'; refine zab fun K HK => ?_; unfold Oper.wp; simp only [execOp, e99, e97, hv9]; go_simp; exact HK.out _ _ ⟨y, _, rfl, rfl, jx'.out, jo'.out, jx'.out.low⟩
           · intro y L w' hL hJ
             obtain ⟨jx, jo, jb⟩ := hJ; have hdone := jx.done (hL 12 (by decide)); have hfr := jx.fr; clear hL jx jo jb; simp only [List.foldl_cons, List.foldl_nil]; go_simp; cases fails with
             | true =>
              go_wp2_with fail
              go_ret
              exact ⟨by rw [HPE.out.1]; rfl, ⟨setCv Y d b y.2, rfl, by rw [HPE.out.2]; exact hdone⟩, HFz.out.trans hfr⟩
             | false =>
              go_wp2_with fail
              go_ret
              exact ⟨by rw [HPE.out.1]; rfl, ⟨setCv Y d b y.2, rfl, by rw [HPE.out.2]; exact hdone⟩, HFz.out.trans hfr⟩
   · obtain ⟨pe, pn⟩ := HPL.out.l1 hpl
     have HPE := Lib.hid (And.intro pe pn); have hpI : ((q : Int) != ((N.blk d b).cells.length : Int)) = true := by simp; omega
     have hok := HNw.out.ok; have a1 := setc HNw.out.drew 8 (.int .i64 ((N.broken : Int) + 1)) { N with broken := N.broken + 1 } (by simp [Nd.top]) ⟨hok.geo, hok.dead, hok.len, hok.page, hok.left, hok.keep, hok.plan⟩ rfl rfl rfl rfl rfl; have hbo : wrap64 ((N.broken : Int) + 1) = (N.broken : Int) + 1 := by have := HS.out.2; go_arith
     have HF := Lib.hid (And.intro a1.1 ((Fr.of_below HB1.out).trans ((Fr.refl base g w').drew.trans a1.2))); have c8 := HNw.out.drew.c8; have f8 := zar HNw.out.drew.head 8; clear pe pn a1 hok hpl; generalize (N.blk d b).cells.length = M at *; go_upto_region 5 with fail
     go_region
     go_wp2_with fail
     go_ret
     exact ⟨by rw [HPE.out.1]; rfl, ⟨Y, rfl, by rw [HPE.out.2]; exact HF.out.1⟩, HF.out.2⟩
end
end Go.Proofs.YtpbigfopmompfaaGreat.nand
namespace Go.Proofs.YtpbigfopmompfaaGreat.nand
open Go.RowKit
set_option linter.unusedVariables false
theorem flat_set {C : Nat} {u : Value} : ∀ {rows : List (List Value)} {i j : Nat} {r : List Value}, (∀ r ∈ rows, r.length = C) → rows[i]? = some r → j < C → (rows.set i (r.set j u)).flatten = rows.flatten.set (i * C + j) u
 | [], i, j, r, _, h, _ => by simp at h
 | r0 :: rs, 0, j, r, hl, h, hj => by
  simp at h; subst h; have h0 := hl r0 (by simp); rw [List.set_cons_zero, List.flatten_cons, List.flatten_cons, Nat.zero_mul, Nat.zero_add, List.set_append_left _ _ (by omega)]
 | r0 :: rs, i + 1, j, r, hl, h, hj => by
  have h0 := hl r0 (by simp); have hi := flat_set (u := u) (fun r hr => hl r (List.mem_cons_of_mem _ hr)) (i := i) (r := r) (j := j) (by simpa using h) hj; rw [List.set_cons_succ, List.flatten_cons, List.flatten_cons, hi, List.set_append_right _ _ (by rw [h0, Nat.succ_mul]; omega), h0]; congr 2
  rw [Nat.succ_mul]; omega
theorem own_setc {w : World} {base C n cap gc i j : Nat} {e : TypeId} {rows : List (List Value)} {r : List Value} (h : OwnRows w base e C (.slice (some ⟨gc, 0, none⟩) n cap) n rows) (hr : rows[i]? = some r) (hj : j < C) (u : Value) :
 OwnRows (w.setCell ⟨gc, i * C + j, none⟩ u) base e C (.slice (some ⟨gc, 0, none⟩) n cap) n (rows.set i (r.set j u)) ∧ ∃ o, Upd gc o w (w.setCell ⟨gc, i * C + j, none⟩ u) := by
 obtain ⟨h1, h2, h3⟩ := h
 have hf := flat_set (u := u) h3 hr hj
 rcases h1.2 with ⟨h0, -⟩ | ⟨g', cap', cur, hv, hb, hh, k1, k2, k3, k4⟩
 · cases h0
 · cases hv
   have hU := zas (i := i * C + j) (cs := cur.toList) (by simpa using hh) u; refine ⟨⟨⟨by rw [hf, List.length_set]; exact h1.1, .inr ⟨gc, cap, (cur.toList.set (i * C + j) u).toArray, rfl, hb, hU.at_, k1, k2, by simpa using k3, ?_⟩⟩, by simpa using h2, ?_⟩, _, hU⟩
   · rw [hf, ← k4]
     simp [List.take_set]
   · intro x hx
     rcases List.mem_or_eq_of_mem_set hx with hx | rfl
     · exact h3 x hx
     · rw [List.length_set]
       exact h3 r (List.mem_of_getElem? hr)
section
variable {w w2 : World} {base g : Nat} {Y : Lay} {N : Nd}
theorem same_cv (Y : Lay) (d b : Nat) : ({ Y with cv := fun i j => if i = d ∧ j = b then Y.cv d b else Y.cv i j } : Lay) = Y := by
 have : (fun i j => if i = d ∧ j = b then Y.cv d b else Y.cv i j) = Y.cv := by
  funext i j
  split
  · rename_i e; rw [e.1, e.2]
  · rfl
 rw [this]
theorem grown_refl (w : World) (r : Option Nat) : w.grownBy w r := ⟨rfl, rfl, rfl, Nat.le_refl _, fun _ _ _ => rfl⟩
theorem NandAt.inCell (h : NandAt w base g Y N) {d b : Nat} (hd : d < N.D) (hb : b < N.B) {gc cap : Nat} (hcv : Y.cv d b = .slice (some ⟨gc, 0, none⟩) (N.blk d b).cells.length cap) {i j : Nat} {c : Cel} (hi : (N.blk d b).cells[i]? = some c) {v : Value} (hj : c.v[j]? = some v) :
 w.cell? ⟨gc, i * 34 + j, none⟩ = some v ∧ w.frozen? ⟨gc, i * 34 + j, none⟩ = false := by
 have hrow := h.body.rows d b hd hb
 rw [hcv] at hrow
 obtain ⟨h1, h2, h3⟩ := hrow
 have hr : (rowsV (N.blk d b))[i]? = some c.v := by rw [rowsV, List.getElem?_map, hi]; rfl
 have hlen : c.v.length = 34 := h3 c.v (List.mem_of_getElem? hr)
 have hj34 : j < 34 := by have := (List.getElem?_eq_some_iff.1 hj).1; omega
 rcases h1.2 with ⟨h0, -⟩ | ⟨g', cap', cur, hv, hb', hh, k1, k2, k3, k4⟩
 · cases h0
 · cases hv
   refine ⟨?_, by exact zar hh (i * 34 + j)⟩; rw [zaf hh]; have h5 := zbd h3 hr hj34; rw [hj, ← k4] at h5; have hl := (List.getElem?_eq_some_iff.1 h5).1; rw [List.length_take] at hl; rw [List.getElem?_take_of_lt (by omega)] at h5; simpa using h5
theorem NandAt.setIn (h : NandAt w base g Y N) {d b : Nat} (hd : d < N.D) (hb : b < N.B) {gc cap : Nat} (hcv : Y.cv d b = .slice (some ⟨gc, 0, none⟩) (N.blk d b).cells.length cap) {i j : Nat} {c c' : Cel} (hi : (N.blk d b).cells[i]? = some c) (hj : j < 34) {u : Value} (hu : c.v.set j u = c'.v) (hp : c'.p.length = 32 ∧ ∀ y ∈ c'.p, y < 256) :
 NandAt (w.setCell ⟨gc, i * 34 + j, none⟩ u) base g Y (N.upd d b { N.blk d b with cells := (N.blk d b).cells.set i c' }) ∧ Fr base g w (w.setCell ⟨gc, i * 34 + j, none⟩ u) := by
 have hrow := h.body.rows d b hd hb
 rw [hcv] at hrow
 have hr : (rowsV (N.blk d b))[i]? = some c.v := by rw [rowsV, List.getElem?_map, hi]; rfl
 obtain ⟨ho, o, hU⟩ := own_setc hrow hr hj u
 have hg : w.grownBy (w.setCell ⟨gc, i * 34 + j, none⟩ u) (Y.cv d b).ownBlock := by rw [hcv]; exact upd_grown hU
 have hq := h.body.blk d b hd hb
 have hrv : rowsV { N.blk d b with cells := (N.blk d b).cells.set i c' } = (rowsV (N.blk d b)).set i (c.v.set j u) := by
  rw [hu]; simp [rowsV, List.map_set]
 have hne : Y.q d b ≠ gc := by
  intro e; obtain ⟨cur, hc, -⟩ := za5 hrow.1 (k := gc) rfl; rw [← e, hq] at hc; simp at hc
 have := h.setBlk hd hb { N.blk d b with cells := (N.blk d b).cells.set i c' } (Y.cv d b) hg (by rw [hrv, hcv]; simpa using ho) (.inr (.inl rfl)) (grown_refl _ _) (by rw [hU.block _ hne, hq]; rfl) (by simpa using h.ok.len d b) (fun c2 hc2 => by
  rcases List.mem_or_eq_of_mem_set hc2 with hc2 | rfl
  · exact h.ok.page d b c2 hc2
  · exact hp)
 rw [same_cv] at this
 exact this
theorem NandAt.setStruct (h : NandAt w base g Y N) {d b : Nat} (hd : d < N.D) (hb : b < N.B) (x : Blk) (hx : x.cells = (N.blk d b).cells) (hU : Upd (Y.q d b) (.cells (x.v (Y.cv d b)).toArray 119 (0, 0)) w w2) :
 NandAt w2 base g Y (N.upd d b x) ∧ Fr base g w w2 := by
 have hrow := h.body.rows d b hd hb
 have hrv : rowsV x = rowsV (N.blk d b) := by simp [rowsV, hx]
 have := h.setBlk hd hb x (Y.cv d b) (grown_refl w _) (by rw [hrv, hx]; exact hrow) (.inr (.inl rfl)) (upd_grown hU) hU.at_ (by rw [hx]; exact h.ok.len d b) (fun c hc => by rw [hx] at hc; exact h.ok.page d b c hc)
 rw [same_cv] at this
 exact this
theorem NandAt.clear (h : NandAt w base g Y N) {d b : Nat} (hd : d < N.D) (hb : b < N.B) (x : Blk) (hx : x.cells = []) (hU : Upd (Y.q d b) (.cells (x.v (.slice none 0 0)).toArray 119 (0, 0)) w w2) :
 NandAt w2 base g (setCv Y d b (.slice none 0 0)) (N.upd d b x) ∧ Fr base g w w2 :=
 h.setBlk hd hb x (.slice none 0 0) (grown_refl w _) (by rw [show rowsV x = [] by simp [rowsV, hx], hx]; exact OwnRows.nil) (.inl rfl) (upd_grown hU) hU.at_ (by rw [hx]; exact Nat.zero_le _) (fun c hc => by rw [hx] at hc; cases hc)
end
theorem zaq {ops : Array Oper} {o : Oper} {a : Act} {g t : Nat} {b : Bool} (h : o.guard = some (g, b)) (hg : (ops[g]?).bind (·.dst) = some t) (hv : a.eval (.tmp t) = undef) : Region.wanted o (yielded ops a.tmps) = false := by
 have : yielded ops a.tmps g = none := by
  unfold yielded; rw [hg]; simp only [Act.eval, Option.bind_some] at hv ⊢; cases ht : a.tmps[t]? with
  | none => rfl
  | some v =>
   simp [ht] at hv; rw [hv]; rfl
 simp [Region.wanted, h, this]
theorem modify_set {α : Type} {l : List α} {i : Nat} {c : α} (g : α → α) (h : l[i]? = some c) : l.modify i g = l.set i (g c) := by
 apply List.ext_getElem?
 intro j
 rw [List.getElem?_modify, List.getElem?_set]
 by_cases e : i = j
 · subst e
   have := (List.getElem?_eq_some_iff.1 h).1; have h2 : l[i] = c := by have := (List.getElem?_eq_some_iff.1 h).2; exact this
   simp [this, h2]
 · simp [e]
theorem modify_none {α : Type} {l : List α} {i : Nat} (g : α → α) (h : l.length ≤ i) : l.modify i g = l := by
 apply List.ext_getElem?
 intro j
 rw [List.getElem?_modify]
 by_cases e : i = j
 · subst e
   simp [List.getElem?_eq_none h]
 · simp [e]
theorem upd_self (N : Nd) (d b : Nat) : N.upd d b (N.blk d b) = N := by
 have : (fun i j => if i = d ∧ j = b then N.blk d b else N.blk i j) = N.blk := by
  funext i j
  split
  · rename_i e; rw [e.1, e.2]
  · rfl
 simp [Nd.upd, this]
theorem upd_upd (N : Nd) (d b : Nat) (x z : Blk) : (N.upd d b x).upd d b z = N.upd d b z := by
 simp only [Nd.upd, Nd.mk.injEq, true_and, and_true]
 funext i j
 split
 · rfl
 · rfl
theorem upd_at (N : Nd) (d b : Nat) (x : Blk) : (N.upd d b x).blk d b = x := by simp [Nd.upd]
theorem rds_kept {w w' : World} {B C n m : Nat} {A : Option Addr} {rows : List (List Value)} {o : Obj} (h : Rds w B A C n rows) (hC : 0 < C) (hB : B ≤ w.heap.size) (hg : w.grownBy w' (some m)) (hm : w.heap[m]? = some o) (hk : kindO o = none) : Rds w' B A C n rows := by
 refine ⟨h.1, h.2.1, fun hn => ?_⟩
 obtain ⟨b, o', e, hb, hc⟩ := h.2.2 hn
 have hne : b ≠ m := by
  rintro rfl; have hl0 : 0 < rows.length := by rw [h.1]; exact hn
  have hl : rows[0].length = C := h.2.1 rows[0] (List.getElem_mem _); have h1 := hc 0 rows[0] 0 (rows[0][0]'(by omega)) (List.getElem?_eq_getElem hl0) (List.getElem?_eq_getElem (by omega)); unfold World.cell? at h1; simp only [hm] at h1; cases o with
  | cells cs t fr => simp [kindO] at hk
  | _ => simp at h1
 exact ⟨b, o', e, hb, fun i r j u h1 h2 => (World.cell?_of_block (hg.block b (by omega) (fun e => hne (Option.some.inj e)))).trans (hc i r j u h1 h2)⟩
end Go.Proofs.YtpbigfopmompfaaGreat.nand
namespace Go.Proofs.YtpbigfopmompfaaGreat.nand
open Go.RowKit
set_option linter.unusedVariables false
def zc : Cel := ⟨List.replicate 32 0, false, false⟩
theorem built_zc : Tryz.prog.built 123 [] = some zc.v.toArray := by kernel_rfl
theorem zc_ok : zc.p.length = 32 ∧ ∀ y ∈ zc.p, y < 256 := ⟨by decide, by decide⟩
def fillC (x : Blk) (k : Nat) : Blk := { x with cells := x.cells ++ List.replicate k zc }
theorem fillC_zero (x : Blk) : fillC x 0 = x := by simp [fillC]
theorem fillC_more (x : Blk) (k : Nat) : moreC (fillC x k) zc = fillC x (k + 1) := by
 simp only [moreC, fillC, List.append_assoc, List.replicate_succ']
def lost1 (c : Cel) : Cel := ⟨c.p, true, c.turned⟩
def lostC (x : Blk) (k : Nat) : Blk := { x with cells := (x.cells.take k).map lost1 ++ x.cells.drop k }
theorem lostC_zero (x : Blk) : lostC x 0 = x := by simp [lostC]
theorem lostC_len (x : Blk) (k : Nat) : (lostC x k).cells.length = x.cells.length := by simp [lostC]; omega
theorem lostC_at (x : Blk) (k : Nat) : (lostC x k).cells[k]? = x.cells[k]? := by
 simp only [lostC]
 by_cases h : k < x.cells.length
 · rw [List.getElem?_append_right (by simp; omega)]
   simp [show min k x.cells.length = k by omega]
 · rw [List.getElem?_eq_none (by simp; omega), List.getElem?_eq_none (by omega)]
theorem lostC_step (x : Blk) (k : Nat) {c : Cel} (h : x.cells[k]? = some c) : ({ lostC x k with cells := (lostC x k).cells.set k (lost1 c) } : Blk) = lostC x (k + 1) := by
 have hk := (List.getElem?_eq_some_iff.1 h).1
 have hc := (List.getElem?_eq_some_iff.1 h).2
 have e : ((x.cells.take k).map lost1 ++ x.cells.drop k).set k (lost1 c) = (x.cells.take (k + 1)).map lost1 ++ x.cells.drop (k + 1) := by
  rw [List.set_append_right _ _ (by simp; omega), List.take_succ_eq_append_getElem hk, List.map_append, List.drop_eq_getElem_cons hk]; simp [show min k x.cells.length = k by omega, hc]
 simp only [lostC, e]
theorem cut_eq (x : Blk) (k P : Nat) (hk : k = P - x.cells.length) {n : Nat} (hn : (fillC x k).cells.length ≤ n) : lostC (fillC x k) n = x.cut P := by
 subst hk
 unfold lostC Blk.cut
 rw [List.take_of_length_le hn, List.drop_eq_nil_of_le hn, List.append_nil]
 rfl
def dropTo (f : List (Ad × Value)) (l : List Ad) (k : Nat) : List (Ad × Value) := f.filter fun p => !decide (p.1 ∈ l.take k)
theorem dropTo_zero (f : List (Ad × Value)) (l : List Ad) : dropTo f l 0 = f := by simp [dropTo]
theorem dropTo_step {f : List (Ad × Value)} {l : List Ad} {k : Nat} {x : Ad} (h : l[k]? = some x) : delF (dropTo f l k) x = dropTo f l (k + 1) := by
 have hk := (List.getElem?_eq_some_iff.1 h).1
 have hc := (List.getElem?_eq_some_iff.1 h).2
 unfold delF dropTo
 rw [List.filter_filter]
 congr 1
 funext p
 rw [List.take_succ_eq_append_getElem hk, hc, Bool.eq_iff_iff]
 simp
 exact And.comm
theorem mem_keep {d b : Int} {f : List (Ad × Value)} {x : Ad} : x ∈ keepL d b (sortA (f.map (·.1))) ↔ (x ∈ f.map (·.1)) ∧ x.d = d ∧ x.b = b := by
 unfold keepL sortA offB
 rw [List.mem_filter, List.mem_mergeSort]
 simp
theorem dropTo_all {d b : Int} {f : List (Ad × Value)} {n : Nat} (hn : (keepL d b (sortA (f.map (·.1)))).length ≤ n) : dropTo f (keepL d b (sortA (f.map (·.1)))) n = f.filter fun p => !(decide (p.1.d = d) && decide (p.1.b = b)) := by
 unfold dropTo
 rw [List.take_of_length_le hn]
 refine List.filter_congr fun p hp => ?_
 have : (p.1 ∈ keepL d b (sortA (f.map (·.1)))) ↔ (p.1.d = d ∧ p.1.b = b) := by
  rw [mem_keep]; exact ⟨fun h => h.2, fun h => ⟨List.mem_map.2 ⟨p, hp, rfl⟩, h⟩⟩
 rw [Bool.eq_iff_iff]
 simp [this]
structure EraseP (N : Nd) (d b : Nat) : Prop where
 l1 : N.cutB = true → N.eraseE d b = 9 ∧ N.eraseN d b = N.cutN.upd d b ((N.blk d b).cut N.P)
 l2 : N.cutB = false → (N.blk d b).fails = true → N.eraseE d b = 7 ∧ N.eraseN d b = N.cutN.upd d b { N.blk d b with met := true }
 l3 : N.cutB = false → (N.blk d b).fails = false → N.eraseE d b = 0 ∧
  N.eraseN d b = { N.cutN.upd d b { N.blk d b with cells := [], worn := (N.blk d b).worn + 1 } with plan := N.plan.filter fun p => !(decide (p.1.d = (d : Int)) && decide (p.1.b = (b : Int))) }
theorem erase_plain {N : Nd} {d b : Nat} (hr : N.refuses (key d b) = 0) : EraseP N d b := by
 have hat : N.at (key d b) = N.blk d b := by simp [Nd.at, key]
 have hup : ∀ M X, Nd.put M (key d b) X = M.upd d b X := fun M X => by simp [Nd.put, key]
 refine ⟨fun h => ?_, fun h hf => ?_, fun h hf => ?_⟩
 · constructor
   · simp [Nd.eraseE, hr, h]
   · simp only [Nd.eraseN, hr, h, hat, hup]; simp
 · constructor
   · simp [Nd.eraseE, hr, h, hat, hf]
   · simp only [Nd.eraseN, hr, h, hat, hup, hf]; simp
 · constructor
   · simp [Nd.eraseE, hr, h, hat, hf]
   · simp only [Nd.eraseN, hr, h, hat, hup, hf]; simp
def lenW (w : World) (q : Nat) : Nat := match w.cell? ⟨q, 0, none⟩ with
 | some (.slice _ n _) => n
 | _ => 0
section
variable {w : World} {base g : Nat} {Y : Lay} {N : Nd}
theorem lenW_at (h : NandAt w base g Y N) {d b : Nat} (hd : d < N.D) (hb : b < N.B) : lenW w (Y.q d b) = (N.blk d b).cells.length := by
 obtain ⟨A, c, e, -⟩ := (h.body.rows d b hd hb).slice
 unfold lenW
 rw [blk_c0 h hd hb, e]
theorem AppJ.start' {d b : Nat} {c : Cel} (x : Nat × Value) : AppJ w base g Y N d b c x false false false w :=
 ⟨by simp, by simp, Fr.refl base g w, fun _ => grown_refl _ _, by simp, by simp, by simp⟩
set_option maxRecDepth 100000 in
set_option maxHeartbeats 8000000 in
theorem erase_in (h : NandAt w base g Y N) (d b : Nat) (hd : d < N.D) (hb : b < N.B) (hr : N.refuses (key d b) = 0) (hs : N.ops ≤ 1000000000000000) (hwn : (N.blk d b).worn ≤ 1000000000000000) (hnp : Y.np ≤ 100000) :
 Calls Tryz.prog 46 #[.pointer (some ⟨g, 0, none⟩), .int .i64 (d : Int), .int .i64 (b : Int)] w fun e w' => e = .returned (.int .i64 (N.eraseE d b)) ∧ (∃ Y', Y'.np = Y.np ∧ NandAt w' base g Y' (N.eraseN d b)) ∧ Fr base g w w' := by
 have hPl := erase_plain hr
 have hge := h.ok.geo
 have hwf : (key (d : Int) (b : Int)).wf := key_wf (by omega) (by omega)
 have HDN := Lib.hid hd
 have HBN := Lib.hid hb
 have HR := Lib.hid hr
 have HPL := Lib.hid hPl
 have HW := Lib.hid (And.intro hwn hnp)
 have HS := Lib.hid hs
 have HN0 := Lib.hid h
 clear h hr hd hb hPl hs hwn hnp hge
 go_enter Tryz.func46, Tryz.ntmps46
 go_wp2_with fail
 refine (key_any _ _ _).mono ?_
 rintro e w1 ⟨rfl, hb1⟩
 have CR := Lib.hid (refuses_any (HN0.out.below hb1) (key (d : Int) (b : Int)) hwf)
 go_wp2_with fail
 refine CR.out.mono ?_
 rintro e w2 ⟨rfl, hb2⟩
 have HN := Lib.hid ((HN0.out.below hb1).below hb2)
 have HB := Lib.hid (hb1.trans (hb2.mono hb1.size))
 clear hb1 hb2 CR HN0
 rw [HR.out]
 go_upto_region 4 with fail
 refine zan (by kernel_rfl) (by kernel_rfl) (X := Unit) (fun _ => [(some 20, .pointer (some ⟨g, 0, none⟩)), (some 21, .pointer (some ⟨g, 0, none⟩)), (some 22, .pointer (some ⟨g, 3, none⟩)), (some 23, .map (some Y.mb)), (some 24, .int .i64 (d : Int)), (some 25, .int .i64 (b : Int)), (some 26, .agg (key (d : Int) (b : Int)).v.toArray), (some 27, .pointer (some ⟨Y.q d b, 0, none⟩)), (some 8, .pointer (some ⟨Y.q d b, 0, none⟩))])
  (fun _ L w' => NandAt w' base g Y N ∧ Below w.heap.size w w') (fun _ => rfl) (by kernel_rfl) ⟨(), fun _ _ => ⟨(HN.out.drew), HB.out.drew⟩⟩ ?_ ?_
 · refine ⟨?_, ?_, ?_, ?_, ?_, ?_, ?_, ?_, ?_, trivial⟩
   · intro _ L w' hL hpre hJ a ha
     obtain ⟨jn, jb⟩ := hJ; simp [Region.binds] at hpre; refine .inl ⟨zaa rfl, ?_⟩; exact zah (.tmp 0) (.inl rfl) (.pointer (some ⟨g, 0, none⟩)) (by rw [ha, zac rfl]; rfl) ⟨(), _, rfl, rfl, jn, jb⟩
   · intro _ L w' hL hpre hJ a ha
     obtain ⟨jn, jb⟩ := hJ; simp [Region.binds] at hpre; refine .inl ⟨zaa rfl, ?_⟩; have e20 : a.eval (.tmp 20) = .pointer (some ⟨g, 0, none⟩) := evP ha 0 rfl (by simp [hpre]) (by simp) rfl; clear ha; have jn' := Lib.hid jn; have jb' := Lib.hid jb; clear jn jb; refine zab fun K HK => ?_; unfold Oper.wp; simp only [execOp, e20]; go_simp; exact HK.out _ _ ⟨(), _, rfl, rfl, jn'.out, jb'.out⟩
   · intro _ L w' hL hpre hJ a ha
     obtain ⟨jn, jb⟩ := hJ; simp [Region.binds] at hpre; refine .inl ⟨zaa rfl, ?_⟩; have e21 : a.eval (.tmp 21) = .pointer (some ⟨g, 0, none⟩) := evP ha 1 rfl (by simp [hpre]) (by simp) rfl; clear ha; have jn' := Lib.hid jn; have jb' := Lib.hid jb; clear jn jb; refine zab fun K HK => ?_; unfold Oper.wp; simp only [execOp, e21]; go_simp; exact HK.out _ _ ⟨(), _, rfl, rfl, jn'.out, jb'.out⟩
   · intro _ L w' hL hpre hJ a ha
     obtain ⟨jn, jb⟩ := hJ; simp [Region.binds] at hpre; refine .inl ⟨zaa rfl, ?_⟩; have e22 : a.eval (.tmp 22) = .pointer (some ⟨g, 3, none⟩) := evP ha 2 rfl (by simp [hpre]) (by simp) rfl; clear ha; have cc := jn.c3; have jn' := Lib.hid jn; have jb' := Lib.hid jb; clear jn jb; refine zab fun K HK => ?_; unfold Oper.wp; simp only [execOp, e22]; go_simp; exact HK.out _ _ ⟨(), _, rfl, rfl, jn'.out, jb'.out⟩
   · intro _ L w' hL hpre hJ a ha
     obtain ⟨jn, jb⟩ := hJ; simp [Region.binds] at hpre; refine .inl ⟨zaa rfl, ?_⟩; exact zah (.tmp 1) (.inl rfl) (.int .i64 (d : Int)) (by rw [ha, zac rfl]; rfl) ⟨(), _, rfl, rfl, jn, jb⟩
   · intro _ L w' hL hpre hJ a ha
     obtain ⟨jn, jb⟩ := hJ; simp [Region.binds] at hpre; refine .inl ⟨zaa rfl, ?_⟩; exact zah (.tmp 2) (.inl rfl) (.int .i64 (b : Int)) (by rw [ha, zac rfl]; rfl) ⟨(), _, rfl, rfl, jn, jb⟩
   · intro _ L w' hL hpre hJ a ha
     obtain ⟨jn, jb⟩ := hJ; simp [Region.binds] at hpre; refine .inl ⟨zaa rfl, ?_⟩; have e24 : a.eval (.tmp 24) = .int .i64 (d : Int) := evP ha 4 rfl (by simp [hpre]) (by simp) rfl; have e25 : a.eval (.tmp 25) = .int .i64 (b : Int) := evP ha 5 rfl (by simp [hpre]) (by simp) rfl; clear ha; have jn' := Lib.hid jn; have jb' := Lib.hid jb; clear jn jb; refine zab fun K HK => ?_; unfold Oper.wp; simp only [execOp, resolve, List.map_toArray, List.map_cons, List.map_nil, e24, e25]; go_simp; refine (key_any (d : Int) (b : Int) w').mono ?_; rintro e w'' ⟨rfl, hb⟩; exact HK.out _ _ ⟨(), _, rfl, rfl, (NandAt.below jn'.out hb), jb'.out.trans (hb.mono jb'.out.size)⟩
   · intro _ L w' hL hpre hJ a ha
     obtain ⟨jn, jb⟩ := hJ; simp [Region.binds] at hpre; refine .inl ⟨zaa rfl, ?_⟩; have e23 : a.eval (.tmp 23) = .map (some Y.mb) := evP ha 3 rfl (by simp [hpre]) (by simp) rfl; have e26 : a.eval (.tmp 26) = .agg (key (d : Int) (b : Int)).v.toArray := evP ha 6 rfl (by simp [hpre]) (by simp) rfl; clear ha; have cc := look_db jn HDN.out HBN.out; have jn' := Lib.hid jn; have jb' := Lib.hid jb; clear jn jb; refine zab fun K HK => ?_; unfold Oper.wp; simp only [execOp, e23, e26]; go_simp; exact HK.out _ _ ⟨(), _, rfl, rfl, jn'.out, jb'.out⟩
   · intro _ L w' hL hpre hJ a ha
     obtain ⟨jn, jb⟩ := hJ; simp [Region.binds] at hpre; refine .inl ⟨zaa rfl, ?_⟩; exact zah (.tmp 27) (.inr rfl) (.pointer (some ⟨Y.q d b, 0, none⟩)) (evP ha 7 rfl (by simp [hpre]) (by simp) rfl) ⟨(), _, rfl, rfl, jn, jb⟩
 · intro _ L w' hL hJ
   obtain ⟨jn, jb⟩ := hJ; clear hL; simp only [List.foldl_cons, List.foldl_nil]; go_simp; have HNw := Lib.hid jn; have HB1 := Lib.hid jb; clear jn jb; go_wp2_with fail
   refine (cut_any HNw.out HS.out).mono ?_; rintro e w4 ⟨rfl, hn4, hf4⟩; have HFw := Lib.hid ((Fr.of_below (base := base) (g := g) HB1.out).trans hf4); obtain ⟨N1, hN1⟩ : ∃ N1, N1 = N.cutN := ⟨_, rfl⟩; rw [← hN1] at hn4; have HN1 := Lib.hid hn4; have hkeep := cutN_keeps N; rw [← hN1] at hkeep; obtain ⟨k1, k2, k3, k4, k5, k6, k7⟩ := hkeep; have HEN := Lib.hid hN1; have HKK := Lib.hid (And.intro k4 (And.intro k6 k3)); replace HDN := Lib.hid (show d < N1.D by rw [k1]; exact HDN.out); replace HBN := Lib.hid (show b < N1.B by rw [k2]; exact HBN.out); have hq4 := hn4.body.blk d b HDN.out HBN.out; clear hf4 hN1 k1 k2 k3 k4 k5 k6 k7; cases hcb : N.cutB with
   | true =>
    obtain ⟨pe, pn⟩ := HPL.out.l1 hcb; rw [← HEN.out, ← HKK.out.1, ← HKK.out.2.2] at pn; have HPE := Lib.hid (And.intro pe pn); clear pe pn hcb hq4; have hge := hn4.ok.geo; have hP8 : N1.P ≤ 8 := by omega
    have hl4 := hn4.ok.len d b; obtain ⟨P, hP⟩ : ∃ P, P = N1.P := ⟨_, rfl⟩; have HPP := Lib.hid hP; rw [← hP] at hP8 hl4; obtain ⟨M0, hM0⟩ : ∃ M0, M0 = (N1.blk d b).cells.length := ⟨_, rfl⟩; have HM0 := Lib.hid hM0; rw [← hM0] at hl4; clear hn4 hge hP hM0; go_wp2_with fail
    go_loopw [48] (fun _ wr => ∃ (k : Nat) (Y' : Lay), M0 + k ≤ P ∧ (Y'.np = Y.np ∧ Y'.q = Y.q) ∧ NandAt wr base g Y' (N1.upd d b (fillC (N1.blk d b) k)) ∧ Fr base g w4 wr) (fun _ wr => P - lenW wr (Y.q d b))
    case atStart => exact ⟨0, Y, by omega, ⟨rfl, rfl⟩, by rw [fillC_zero, upd_self]; exact HN1.out, Fr.refl _ _ _⟩
    case round =>
     obtain ⟨k, Y', hk, ⟨hnp, hqe⟩, hn, hf⟩ := hrel; obtain ⟨Nk, hNk⟩ : ∃ Nk, Nk = N1.upd d b (fillC (N1.blk d b) k) := ⟨_, rfl⟩; rw [← hNk] at hn; have HDx := Lib.hid (show d < Nk.D by rw [hNk]; exact HDN.out); have HBx := Lib.hid (show b < Nk.B by rw [hNk]; exact HBN.out); have hbk : Nk.blk d b = fillC (N1.blk d b) k := by rw [hNk, upd_at]
     have hcl : (Nk.blk d b).cells.length = M0 + k := by rw [hbk, HM0.out]; simp [fillC]
     have hPk : Nk.P = P := by rw [hNk, HPP.out]; rfl
     have HBK := Lib.hid hbk; have HNK := Lib.hid hNk; have HYE := Lib.hid (And.intro hnp hqe); have hlw := lenW_at hn HDx.out HBx.out; rw [hcl, hqe] at hlw; have cP := hn.c2; rw [hPk] at cP; have cq := blk_c0 hn HDx.out HBx.out; rw [hqe] at cq; obtain ⟨Ac, cc, hcv, hcc, -⟩ := (hn.body.rows d b HDx.out HBx.out).slice; rw [hcl] at hcv; rw [hcv] at cq; have HCV := Lib.hid hcv; have HLW := Lib.hid hlw; have HNz := Lib.hid hn; have HFz := Lib.hid hf; have HCL := Lib.hid hcl; have HPK := Lib.hid hPk; clear hn hf hbk hcl hPk hNk hnp hqe hcv hcc hlw; obtain ⟨M, hM⟩ : ∃ M, M = M0 + k := ⟨_, rfl⟩; rw [← hM] at cq; have HMM := Lib.hid hM; replace hk : M ≤ P := by rw [hM]; exact hk
     clear hM; by_cases hlt : M < P
     · have hltI : (M : Int) < (P : Int) := by omega
       go_upto_region 6 with fail
       go_region
       go_upto_region 7 with fail
       have HNs := Lib.hid (HNz.out.drew); have hJ8 := (AppJ.start' (w := wr.drew) (base := base) (g := g) (Y := Y') (N := Nk) (d := d) (b := b) (c := zc) (0, undef)).s8 rfl; have HJ8 := Lib.hid hJ8; have h8o := hJ8.own HNs.out HDx.out HBx.out rfl rfl; rw [HCV.out, HCL.out, ← HMM.out] at h8o; have H8o := Lib.hid h8o; have HBz := Lib.hid (show base ≤ (wr.drew.alloc (.cells zc.v.toArray 123)).heap.size from by have := hJ8.fr.size; have := HNz.out.lowg; have := zag HNs.out.head; omega); have HM8 := Lib.hid (show M ≤ 8 by omega); have HX := Lib.hid (show (Nk.blk d b).cells.length + 1 ≤ Nk.P by rw [HCL.out, HPK.out]; have := HMM.out; omega); have HML := Lib.hid (show M + 1 = (Nk.blk d b).cells.length + 1 by rw [HCL.out, HMM.out]); have HQx := Lib.hid (show Y'.q d b = Y.q d b by rw [HYE.out.2]); clear hJ8 h8o cP; go_wp2_with (first | (refine zao rfl 123 _ rfl [] rfl zc.v built_zc ?_) | (refine wpList_buildOne rfl 117 (.tmp 46) rfl 123 zc.v _ 34 34 rfl Tryz.underlying117 cellInfo3 (by decide) (by decide) (by decide) ?_) | (at_builtin; go_must (refine za9 rfl (.tmp 45) (.tmp 47) 117 rfl 123 _ 34 34 Tryz.underlying117 cellInfo3 rfl (by decide) (base := base) (B := 0) H8o.out HJ8.out.low rfl rfl (rds_cell zc_ok.1 (HJ8.out.one rfl rfl)) (fun r hr => by rw [List.mem_singleton.1 hr]; exact Cel.one _) (by have := HM8.out; unfold maxLen; omega) (by have := HM8.out; omega) HBz.out (Nat.zero_le _) ?_; intro v9 w9 hown9 hb9 hgr9 hat9; rw [HML.out] at hown9; have hJ9 := HJ8.out.s9 HNs.out HDx.out HBx.out rfl rfl hown9 (by rw [HCV.out, ← HMM.out]; exact hgr9) (by rw [HCV.out, ← HMM.out]; exact hat9); have H12 := hJ9.s12 HNs.out HDx.out HBx.out rfl rfl HX.out zc_ok; obtain ⟨A9, c9, rfl, -, -⟩ := hown9.slice; have cc9 := hJ9.cell HNs.out HDx.out HBx.out rfl; have ff9 := hJ9.frozen HNs.out HDx.out HBx.out rfl; have HJ12 := Lib.hid H12; clear hown9 hb9 hgr9 hat9 hJ9 H12; simp only [HQx.out] at cc9 ff9)))
       have hdone := HJ12.out.done rfl; have hfr := HJ12.out.fr; have hee : Nk.upd d b (moreC (Nk.blk d b) zc) = N1.upd d b (fillC (N1.blk d b) (k + 1)) := by rw [HBK.out, fillC_more, HNK.out, upd_upd]
       rw [hee] at hdone; go_roundw
       case rel => exact ⟨k + 1, setCv Y' d b _, by have := HMM.out; omega, ⟨HYE.out.1, HYE.out.2⟩, by rw [← HQx.out]; exact hdone, HFz.out.trans ((Fr.refl base g wr).drew.trans (by rw [← HQx.out]; exact hfr))⟩
       case measure =>
        have e1 := HLW.out; have e2 := lenW_at hdone (show d < N1.D from HDN.out) (show b < N1.B from HBN.out); rw [upd_at] at e2; have e3 : (fillC (N1.blk d b) (k + 1)).cells.length = M0 + (k + 1) := by rw [HM0.out]; simp [fillC]
        have e4 := e2.trans e3; change lenW _ (Y'.q d b) = _ at e4
        rw [HQx.out] at e4; simp only at e4 ⊢; have := HMM.out; first | (rw [e4, e1]; omega) | (erw [e4, e1]; omega)
     · obtain ⟨gc, cap, e, -, -⟩ := za7 (HNz.out.body.rows d b HDx.out HBx.out).1 (by rw [HCL.out, ← HMM.out]; have := HNz.out.ok.geo; have := HPK.out; omega)
       rw [HCV.out, HCL.out] at e; cases e
       have hge := HNz.out.ok.geo; have hM8 : M ≤ 8 := by have := HPK.out; omega
       have hMP : M = P := by omega
       clear hge; go_upto_region 6 with fail
       go_region
       go_wp2_with fail
       obtain ⟨X, hX⟩ : ∃ X, X = fillC (N1.blk d b) k := ⟨_, rfl⟩; have HXe := Lib.hid hX; have hXl : X.cells.length = M := by rw [hX, HMM.out, HM0.out]; simp [fillC]
       have HXl := Lib.hid hXl; have HPg := Lib.hid (show ∀ c ∈ X.cells, c.p.length = 32 ∧ ∀ y ∈ c.p, y < 256 from fun c hc => by rw [hX, ← HBK.out] at hc; exact HNz.out.ok.page d b c hc); clear hX hXl; go_loopw [9, 56] (fun _ i wx => ∃ m : Nat, m ≤ M ∧ i = .int .i64 m ∧ NandAt wx base g Y' (N1.upd d b (lostC X m)) ∧ Fr base g wr wx) (fun _ i _ => M - (intOf i).toNat)
       case atStart => exact ⟨0, by omega, rfl, by rw [lostC_zero, HXe.out, ← HNK.out]; exact HNz.out.drew, (Fr.refl base g wr).drew⟩
       case round =>
        obtain ⟨m, hm, rfl, hn, hf⟩ := hrel; by_cases hlt2 : m < M
        · obtain ⟨Nm, hNm⟩ : ∃ Nm, Nm = N1.upd d b (lostC X m) := ⟨_, rfl⟩
          rw [← hNm] at hn; have hDm : d < Nm.D := by rw [hNm]; exact HDN.out
          have hBm : b < Nm.B := by rw [hNm]; exact HBN.out
          have hbm : Nm.blk d b = lostC X m := by rw [hNm, upd_at]
          obtain ⟨c, hcm⟩ : ∃ c, X.cells[m]? = some c := ⟨_, List.getElem?_eq_getElem (by rw [HXl.out]; exact hlt2)⟩; have hcm' : (Nm.blk d b).cells[m]? = some c := by rw [hbm, lostC_at]; exact hcm
          have hc32 := (HPg.out _ (List.mem_of_getElem? hcm)); have hcv : Y'.cv d b = .slice (some ⟨gc, 0, none⟩) (Nm.blk d b).cells.length cc := by rw [hbm, lostC_len, HXl.out, HMM.out]; exact HCV.out
          have cqx := blk_c0 hn hDm hBm; rw [hcv, hbm, lostC_len, HXl.out, HYE.out.2] at cqx; have h32 : c.v[32]? = some (.bool c.lost) := by rw [Cel.v, List.getElem?_append_right (by rw [zaj, hc32.1]; exact Nat.le_refl _), zaj, hc32.1]; rfl
          have hset : c.v.set 32 (.bool true) = (lost1 c).v := by unfold Cel.v lost1; rw [List.set_append_right _ _ (by rw [zaj, hc32.1]; exact Nat.le_refl _), zaj, hc32.1]; rfl
          obtain ⟨cl, fl⟩ := hn.inCell hDm hBm hcv hcm' h32; have hS := hn.setIn hDm hBm hcv hcm' (by decide) hset (show (lost1 c).p.length = 32 ∧ ∀ y ∈ (lost1 c).p, y < 256 from hc32); rw [hbm, lostC_step X m hcm, hNm, upd_upd] at hS; have HS2 := Lib.hid (And.intro hS.1 (hf.trans hS.2)); have hltI : (m : Int) < (M : Int) := by omega
          clear hS hset h32 hcm hcm' hc32 hbm hcv hn hf hNm hDm hBm; go_wp2_with fail
          go_roundw
          case rel => exact ⟨m + 1, by omega, by go_num, HS2.out.1, HS2.out.2⟩
          case measure => simp [intOf]; omega
        · obtain rfl : m = M := by omega
          have HF := Lib.hid (HFw.out.trans (HFz.out.trans hf)); rw [HXe.out, cut_eq (N1.blk d b) k P (by have := HM0.out; have := HMM.out; omega) (by rw [← HXe.out, HXl.out]; exact Nat.le_refl _)] at hn; have HZ := Lib.hid hn; clear hn hf; go_wp2_with fail
          go_ret
          exact ⟨by rw [HPE.out.1]; rfl, ⟨Y', HYE.out.1, by rw [HPE.out.2, ← HPP.out]; exact HZ.out⟩, HF.out⟩
   | false =>
    rw [HKK.out.1] at hq4; cases hfl : (N.blk d b).fails with
    | true =>
     obtain ⟨pe, pn⟩ := HPL.out.l2 hcb hfl; rw [← HEN.out] at pn; have HPE := Lib.hid (And.intro pe pn); have c2 : w4.cell? ⟨Y.q d b, 2, none⟩ = some (.bool true) := by rw [zaf hq4, ← hfl]; rfl
     have c3 : w4.cell? ⟨Y.q d b, 3, none⟩ = some (.bool (N.blk d b).met) := by rw [zaf hq4]; rfl
     have f3 := zar hq4 3; have HST := Lib.hid (HN1.out.setStruct HDN.out HBN.out { N.blk d b with met := true } (by rw [HKK.out.1]) (zas (i := 3) hq4 (.bool true))); clear pe pn hfl hcb hn4 hq4; go_wp2_with fail
     go_ret
     exact ⟨by rw [HPE.out.1]; rfl, ⟨Y, rfl, by rw [HPE.out.2]; exact HST.out.1⟩, HFw.out.trans HST.out.2⟩
    | false =>
     obtain ⟨pe, pn⟩ := HPL.out.l3 hcb hfl; rw [← HEN.out] at pn; have HPE := Lib.hid (And.intro pe pn); have c2 : w4.cell? ⟨Y.q d b, 2, none⟩ = some (.bool false) := by rw [zaf hq4, ← hfl]; rfl
     have c0 : w4.cell? ⟨Y.q d b, 0, none⟩ = some (Y.cv d b) := by rw [zaf hq4]; rfl
     have f0 := zar hq4 0; have U0 := zas (i := 0) hq4 (.slice none 0 0); have c1 : (w4.setCell ⟨Y.q d b, 0, none⟩ (.slice none 0 0)).cell? ⟨Y.q d b, 1, none⟩ = some (.int .i64 ((N.blk d b).worn : Int)) := by rw [zaf U0.at_]; rfl
     have f1 := zar U0.at_ 1; have hwr : wrap64 (((N.blk d b).worn : Int) + 1) = ((N.blk d b).worn : Int) + 1 := by have := HW.out.1; go_arith
     have U1 := zas (i := 1) U0.at_ (.int .i64 (((N.blk d b).worn : Int) + 1)); obtain ⟨X, hX⟩ : ∃ X : Blk, X = { N.blk d b with cells := [], worn := (N.blk d b).worn + 1 } := ⟨_, rfl⟩; rw [← hX] at HPE; have hcl := HN1.out.clear HDN.out HBN.out X (by rw [hX]) (w2 := (w4.setCell ⟨Y.q d b, 0, none⟩ (.slice none 0 0)).setCell ⟨Y.q d b, 1, none⟩ (.int .i64 (((N.blk d b).worn : Int) + 1))) ⟨U1.os.trans U0.os, U1.tape.trans U0.tape, U1.output.trans U0.output, U1.size.trans U0.size, by rw [U1.at_, hX]; rfl, fun k hk => (U1.block k hk).trans (U0.block k hk)⟩; obtain ⟨Y3, hY3⟩ : ∃ Y3, Y3 = setCv Y d b (.slice none 0 0) := ⟨_, rfl⟩; rw [← hY3] at hcl; obtain ⟨N3, hN3⟩ : ∃ N3, N3 = N1.upd d b X := ⟨_, rfl⟩; rw [← hN3] at hcl HPE; have hnp3 : Y3.np = Y.np := by rw [hY3]; rfl
     have hpl3 : N3.plan = N.plan := by rw [hN3]; exact HKK.out.2.1
     have c4 := hcl.1.c4; have CB := Lib.hid (spotBool.block Y3.gp Y3.bp Y3.np N3.plan (d : Int) (b : Int) _ hcl.1.body.plan (by rw [hnp3]; exact HW.out.2)); have HC3 := Lib.hid (And.intro hcl.1 (HFw.out.trans hcl.2)); have H3 := Lib.hid (And.intro hnp3 hpl3); clear pe pn hfl hcb hn4 hq4 U0 U1 hcl hX hY3 hN3 hnp3 hpl3; go_wp2_with fail
     refine CB.out.mono ?_; rintro e w7 ⟨A8, c8, rfl, hrd, hb7⟩; have HN7 := Lib.hid (HC3.out.1.below hb7); have HF7 := Lib.hid (HC3.out.2.trans (Fr.of_below hb7)); obtain ⟨l8, hl8⟩ : ∃ l8, l8 = keepL (d : Int) (b : Int) (sortA (N3.plan.map (·.1))) := ⟨_, rfl⟩; rw [← hl8] at hrd ⊢; obtain ⟨n8, hn8⟩ : ∃ n8, n8 = l8.length := ⟨_, rfl⟩; rw [← hn8] at hrd ⊢
     have hn8s : n8 ≤ 100000 := by
      have h1 : n8 ≤ N3.plan.length := by rw [hn8, hl8]; unfold keepL sortA; exact Nat.le_trans (List.length_filter_le _ _) (by rw [List.length_mergeSort, List.length_map]; exact Nat.le_refl _)
      obtain ⟨-, Dp, ho, hR⟩ := HN7.out.body.plan; have h2 := ho.size_le; rw [hR.size] at h2; have := H3.out.1; have := HW.out.2; omega
     have HL8 := Lib.hid (And.intro hl8 hn8); have HR7 := Lib.hid hrd; obtain ⟨B8, hB8⟩ : ∃ B8, B8 = w7.heap.size := ⟨_, rfl⟩; rw [← hB8] at HR7; have HB8 := Lib.hid hB8; clear hrd hb7 CB hl8 hn8 c4 hB8; go_wp2_with fail
     go_loopw [11, 92] (fun _ i wr => ∃ k : Nat, k ≤ n8 ∧ i = .int .i64 k ∧ NandAt wr base g Y3 { N3 with plan := dropTo N3.plan l8 k } ∧ Rds wr B8 A8 3 n8 (ads l8) ∧ Fr base g w7 wr) (fun _ i _ => n8 - (intOf i).toNat)
     case atStart => exact ⟨0, by omega, rfl, by rw [dropTo_zero]; exact HN7.out, HR7.out, Fr.refl _ _ _⟩
     case round =>
      obtain ⟨k, hk, rfl, hn, hrd, hf⟩ := hrel; by_cases hlt : k < n8
      · have hkl : k < l8.length := by rw [← HL8.out.2]; exact hlt
        obtain ⟨x, hKx⟩ : ∃ x, l8[k]? = some x := ⟨_, List.getElem?_eq_getElem hkl⟩; obtain ⟨bb, oo, rfl, hbb, hRr⟩ := za8 hrd hlt (r := x.v) (by rw [ads, List.getElem?_map, hKx]; rfl); have hltI : (k : Int) < (n8 : Int) := by omega
        have hst := dropTo_step (f := N3.plan) hKx
        have hwx : x.wf := by
         have h1 := List.mem_of_getElem? hKx; rw [HL8.out.1] at h1; obtain ⟨p, hp, he⟩ := List.mem_map.1 (mem_keep.1 h1).1; have := (HN7.out.ok.plan p hp).2; rw [he] at this; exact this
        obtain ⟨f8, hf8⟩ : ∃ f8, f8 = dropTo N3.plan l8 k := ⟨_, rfl⟩; rw [← hf8] at hn hst; obtain ⟨NA, hNA⟩ : ∃ NA : Nd, NA = { N3 with plan := f8 } := ⟨_, rfl⟩; obtain ⟨NB, hNB⟩ : ∃ NB : Nd, NB = { N3 with plan := delF f8 x } := ⟨_, rfl⟩; rw [← hNA] at hn; obtain ⟨hx9, hx9e⟩ : ∃ hx9, hx9 = hasF f8 x := ⟨_, rfl⟩
        have HDrop : Hid (∀ w', NandAt w' base g Y3 NA → Rds w' B8 (some ⟨bb, oo, none⟩) 3 n8 (ads l8) → B8 ≤ w'.heap.size → Calls Tryz.prog 79 #[.pointer (some ⟨Y3.gp, 0, none⟩), .agg x.v.toArray] w' fun e w'' => e = .returned (.bool hx9) ∧ NandAt w'' base g Y3 NB ∧ Fr base g w' w'' ∧ Rds w'' B8 (some ⟨bb, oo, none⟩) 3 n8 (ads l8)) := Lib.hid fun w' hn hr hB => by
         have hpl := hn.body.plan; refine (spotBool.drop Y3.gp Y3.bp Y3.np NA.plan x w' hpl hwx).mono ?_; rintro e w'' ⟨rfl, hS, hg⟩; obtain ⟨hp1, Dp, hp2, hp3⟩ := hpl; obtain ⟨op, hop, hkp⟩ := map_blk hp2; have h2 := hn.setPlan hS hg fun p hp => hn.ok.plan p (zbh.1 hp).1
         refine ⟨by rw [hx9e, hNA], ?_, h2.2, rds_kept hr (by decide) hB hg hop hkp⟩; have h3 := h2.1; rw [hNA] at h3; rw [hNB]; exact h3
        have HNB := Lib.hid (show NB = { N3 with plan := dropTo N3.plan l8 (k + 1) } by rw [hNB, hst]); have HNk := Lib.hid hn; have HRk := Lib.hid hrd; have HFk := Lib.hid hf; have HBk := Lib.hid (show B8 ≤ wr.heap.size from by rw [HB8.out]; exact hf.size); clear hn hrd hf hst hwx hKx hf8 hNA hNB hx9e hkl; go_upto_region 22 with (first | (refine wpList_load_mid rfl 85 (.tmp 94) rfl bb (oo + k * 3) rfl x.v _ hRr Tryz.underlying85 rfl zbx ?_) | (refine zai rfl 85 (.tmp 11) (.tmp 95) rfl wr.heap.size x.v rfl rfl 85 _ (zak wr _ _ rfl) zbx rfl (by simp [Ad.v, Value.oneCell']) ?_; intro w5 hU5; have h5 := hU5.at_; have hb5 := hU5.below ((Below.refl _ wr).alloc (Nat.le_refl _) _) (Nat.le_refl _); clear hU5))
        have HA5 := Lib.hid h5; have HN5 := Lib.hid (HNk.out.below hb5); have HR5 := Lib.hid (HRk.out.below hb5 HBk.out); have HFR := Lib.hid (HFk.out.trans (Fr.of_below hb5)); have HBw := Lib.hid (Nat.le_trans HBk.out hb5.size); obtain ⟨A8, hA8⟩ : ∃ A8 : Option Addr, A8 = some ⟨bb, oo, none⟩ := ⟨_, rfl⟩; rw [← hA8] at HDrop HR5 ⊢; go_simp; clear h5 hb5 hRr
        refine zan (by kernel_rfl) (by kernel_rfl) (X := Unit) (fun _ => [(some 96, .pointer (some ⟨g, 0, none⟩)), (some 97, .pointer (some ⟨g, 0, none⟩)), (some 98, .pointer (some ⟨g, 4, none⟩)), (some 99, .pointer (some ⟨Y3.gp, 0, none⟩)), (some 100, .agg (x.v).toArray), (some 101, .bool hx9)])
         (fun _ L w' => w'.heap[wr.heap.size]? = some (.cells x.v.toArray 85 (0, 0)) ∧ w'.cell? ⟨g, 4, none⟩ = some (.pointer (some ⟨Y3.gp, 0, none⟩)) ∧ (L 5 = false → NandAt w' base g Y3 NA) ∧ (L 5 = true → NandAt w' base g Y3 NB) ∧ Fr base g w5 w' ∧ Rds w' B8 A8 3 n8 (ads l8) ∧ Below 0 w5 w') (fun _ => rfl) (by kernel_rfl) ⟨(), fun L hL => ⟨HA5.out, HN5.out.c4, (fun _ => HN5.out.drew), (by rw [hL 5]; intro h; cases h), (Fr.refl base g w5).drew, HR5.out, (Below.refl 0 w5).drew⟩⟩ ?_ ?_
        · refine ⟨?_, ?_, ?_, ?_, ?_, ?_, trivial⟩
          · intro _ L w' hL hpre hJ a ha
            obtain ⟨ja, jc, j1, j2, jf, jr, jb⟩ := hJ; simp [Region.binds] at hpre; refine .inl ⟨zaa rfl, ?_⟩; exact zah (.tmp 0) (.inl rfl) (.pointer (some ⟨g, 0, none⟩)) (by rw [ha, zac rfl]; rfl) ⟨(), _, rfl, rfl, ja, jc, j1, j2, jf, jr, jb⟩
          · intro _ L w' hL hpre hJ a ha
            obtain ⟨ja, jc, j1, j2, jf, jr, jb⟩ := hJ; simp [Region.binds] at hpre; refine .inl ⟨zaa rfl, ?_⟩; have e96 : a.eval (.tmp 96) = .pointer (some ⟨g, 0, none⟩) := evP ha 0 rfl (by simp [hpre]) (by simp) rfl; clear ha; have ja' := Lib.hid ja; have jc' := Lib.hid jc; have j1' := Lib.hid j1; have j2' := Lib.hid j2; have jf' := Lib.hid jf; have jr' := Lib.hid jr; have jb' := Lib.hid jb; clear ja jc j1 j2 jf jr jb; refine zab fun K HK => ?_; unfold Oper.wp; simp only [execOp, e96]; go_simp; exact HK.out _ _ ⟨(), _, rfl, rfl, ja'.out, jc'.out, j1'.out, j2'.out, jf'.out, jr'.out, jb'.out⟩
          · intro _ L w' hL hpre hJ a ha
            obtain ⟨ja, jc, j1, j2, jf, jr, jb⟩ := hJ; simp [Region.binds] at hpre; refine .inl ⟨zaa rfl, ?_⟩; have e97 : a.eval (.tmp 97) = .pointer (some ⟨g, 0, none⟩) := evP ha 1 rfl (by simp [hpre]) (by simp) rfl; clear ha; have ja' := Lib.hid ja; have jc' := Lib.hid jc; have j1' := Lib.hid j1; have j2' := Lib.hid j2; have jf' := Lib.hid jf; have jr' := Lib.hid jr; have jb' := Lib.hid jb; clear ja jc j1 j2 jf jr jb; refine zab fun K HK => ?_; unfold Oper.wp; simp only [execOp, e97]; go_simp; exact HK.out _ _ ⟨(), _, rfl, rfl, ja'.out, jc'.out, j1'.out, j2'.out, jf'.out, jr'.out, jb'.out⟩
          · intro _ L w' hL hpre hJ a ha
            obtain ⟨ja, jc, j1, j2, jf, jr, jb⟩ := hJ; simp [Region.binds] at hpre; refine .inl ⟨zaa rfl, ?_⟩; have e98 : a.eval (.tmp 98) = .pointer (some ⟨g, 4, none⟩) := evP ha 2 rfl (by simp [hpre]) (by simp) rfl; clear ha; have cc := jc; have ja' := Lib.hid ja; have jc' := Lib.hid jc; have j1' := Lib.hid j1; have j2' := Lib.hid j2; have jf' := Lib.hid jf; have jr' := Lib.hid jr; have jb' := Lib.hid jb; clear ja jc j1 j2 jf jr jb; refine zab fun K HK => ?_; unfold Oper.wp; simp only [execOp, e98]; go_simp; exact HK.out _ _ ⟨(), _, rfl, rfl, ja'.out, jc'.out, j1'.out, j2'.out, jf'.out, jr'.out, jb'.out⟩
          · intro _ L w' hL hpre hJ a ha
            obtain ⟨ja, jc, j1, j2, jf, jr, jb⟩ := hJ; simp [Region.binds] at hpre; refine .inl ⟨zaa rfl, ?_⟩; exact wp_load_mid 85 (.tmp 11) rfl wr.heap.size 0 (by rw [ha, zac rfl]; rfl) (x.v) _ (zal ja) Tryz.underlying85 rfl zbx ⟨(), _, rfl, rfl, ja, jc, j1, j2, jf, jr, jb⟩
          · intro _ L w' hL hpre hJ a ha
            obtain ⟨ja, jc, j1, j2, jf, jr, jb⟩ := hJ; simp [Region.binds] at hpre; refine .inl ⟨zaa rfl, ?_⟩; have e99 : a.eval (.tmp 99) = .pointer (some ⟨Y3.gp, 0, none⟩) := evP ha 3 rfl (by simp [hpre]) (by simp) rfl; have e100 : a.eval (.tmp 100) = .agg (x.v).toArray := evP ha 4 rfl (by simp [hpre]) (by simp) rfl; have ja' := Lib.hid ja; have j1' := Lib.hid (j1 hL); have jf' := Lib.hid jf; have jr' := Lib.hid jr; clear ja j1 j2 jf jc jr ha; refine zab fun K HK => ?_; unfold Oper.wp; simp only [execOp, resolve, List.map_toArray, List.map_cons, List.map_nil, e99, e100]; go_simp; refine (HDrop.out w' j1'.out jr'.out (Nat.le_trans HBw.out jf'.out.size)).mono ?_; rintro e w'' ⟨rfl, hn2, hf2, hr2⟩; have hfz := jf'.out.trans hf2; exact HK.out _ _ ⟨(), _, rfl, rfl, hf2.blk ja'.out rfl, hn2.c4, fun h => by simp [also] at h, fun _ => hn2, hfz, hr2, ⟨hfz.os, hfz.tape, hfz.output, hfz.size, fun k hk => absurd hk (Nat.not_lt_zero k)⟩⟩
        · intro _ L w' hL hJ
          obtain ⟨ja, jc, j1, j2, jf, jr, jb⟩ := hJ; have h5 := hL 5 (by decide); clear hL; simp only [List.foldl_cons, List.foldl_nil]; have HN6 := Lib.hid (j2 h5); have HF6 := Lib.hid jf; have HR6 := Lib.hid jr; clear ja jc j1 j2 jf jr jb; go_simp; go_wp2_with fail
          go_roundw
          case rel => exact ⟨k + 1, by omega, by go_num, by rw [← HNB.out]; exact HN6.out, by rw [← hA8]; exact HR6.out, HFR.out.trans HF6.out⟩
          case measure => simp [intOf]; omega
      · obtain rfl : k = n8 := by omega
        have HZ := Lib.hid hn; have HF := Lib.hid (HF7.out.trans hf); clear hn hf hrd; go_wp2_with fail
        go_ret
        refine ⟨by rw [HPE.out.1]; rfl, ⟨Y3, H3.out.1, ?_⟩, HF.out⟩; rw [HPE.out.2]; have h1 := HZ.out; rw [HL8.out.1, dropTo_all (by rw [← HL8.out.1, ← HL8.out.2]; exact Nat.le_refl _), H3.out.2] at h1; exact h1
end
end Go.Proofs.YtpbigfopmompfaaGreat.nand
