import Derived.Test.YtpbigfopmompfaaGreatBunH
import Derived.Test.YtpbigfopmompfaaGreatAllMem
import Derived.Test.YtpbigfopmompfaaGreatBunI
import Derived.Test.YtpbigfopmompfaaGreatBunC
import Derived.Test.YtpbigfopmompfaaGreatBunE
/- What a claim's proof leans on: Nand, NandOps, NandRef, NandCut, NandCutAt, NandRead, NandGet, NandNext, NandNil, NandNil2, NandNil3, NandGeo. -/
namespace Go.Proofs.YtpbigfopmompfaaGreat.nand
open Go.RowKit
set_option linter.unusedVariables false
def kindO : Obj → Option TypeId
 | .cells _ t _ => some t
 | _ => none
def nandT (t : TypeId) : Bool := t == 115 || t == 119 || t == 123 || t == 4 || t == 142
structure Fr (base g : Nat) (w w' : World) : Prop where
 os : w'.os = w.os
 tape : w'.tape = w.tape
 output : w'.output = w.output
 size : w.heap.size ≤ w'.heap.size
 block : ∀ k, k < w.heap.size → (k < base ∨ ∃ cs t fr, w.heap[k]? = some (.cells cs t fr) ∧ nandT t = false) → w'.heap[k]? = w.heap[k]?
 maps : ∀ k, k < w.heap.size → g < k → (∃ o, w.heap[k]? = some o ∧ kindO o = none) → w'.heap[k]? = w.heap[k]?
section
variable {base g : Nat} {w w' w'' : World}
theorem Fr.refl (base g : Nat) (w : World) : Fr base g w w := ⟨rfl, rfl, rfl, Nat.le_refl _, fun _ _ _ => rfl, fun _ _ _ _ => rfl⟩
theorem Fr.trans (h : Fr base g w w') (h' : Fr base g w' w'') : Fr base g w w'' :=
 ⟨h'.os.trans h.os, h'.tape.trans h.tape, h'.output.trans h.output, Nat.le_trans h.size h'.size, fun k hk hc => (by
  have e := h.block k hk hc; refine (h'.block k (Nat.lt_of_lt_of_le hk h.size) ?_).trans e; rcases hc with hc | ⟨cs, t, fr, h1, h2⟩
  · exact .inl hc
  · exact .inr ⟨cs, t, fr, e.trans h1, h2⟩), fun k hk hg ⟨o, h1, h2⟩ =>
  (h'.maps k (Nat.lt_of_lt_of_le hk h.size) hg ⟨o, (h.maps k hk hg ⟨o, h1, h2⟩).trans h1, h2⟩).trans (h.maps k hk hg ⟨o, h1, h2⟩)⟩
theorem Fr.of_below (h : Below w.heap.size w w') : Fr base g w w' := ⟨h.os, h.tape, h.output, h.size, fun k hk _ => h.block k hk, fun k hk _ _ => h.block k hk⟩
theorem Fr.of_grown {k : Nat} {o : Obj} (h : w.grownBy w' (some k)) (hk : w.heap[k]? = some o) (hb : base ≤ k) (ho : ∀ t, kindO o = some t → nandT t = true) (hm : kindO o = none → k ≤ g := by intro e; cases e) : Fr base g w w' :=
 ⟨h.os, h.tape, h.output, h.size, fun j hj hc => h.block j hj (fun e => by
  have e := Option.some.inj e; subst e; rcases hc with hc | ⟨cs, t, fr, h1, h2⟩
  · omega
  · rw [hk] at h1
    have := Option.some.inj h1; subst this; have := ho t rfl; rw [h2] at this; cases this), fun j hj hg ⟨o', h1, h2⟩ => h.block j hj (fun e => by
  have e := Option.some.inj e; subst e; rw [hk] at h1; have := Option.some.inj h1; subst this; have := hm h2; omega)⟩
theorem Fr.of_grown0 (h : w.grownBy w' none) : Fr base g w w' := ⟨h.os, h.tape, h.output, h.size, fun j hj _ => h.block j hj (by simp), fun j hj _ _ => h.block j hj (by simp)⟩
theorem Fr.below {D : Nat} {w0 : World} (h : Fr base g w w') (hb : Below D w0 w) (hD : D ≤ base) (hs : D ≤ w0.heap.size) : Below D w0 w' :=
 hb.trans ⟨h.os, h.tape, h.output, h.size, fun k hk => h.block k (by have := hb.size; omega) (.inl (by omega))⟩
theorem Fr.blk {k : Nat} {cs : Array Value} {t : TypeId} {fr : Nat × Nat} (h : Fr base g w w') (hk : w.heap[k]? = some (.cells cs t fr)) (ht : nandT t = false) : w'.heap[k]? = some (.cells cs t fr) :=
 (h.block k (zag hk) (.inr ⟨cs, t, fr, hk, ht⟩)).trans hk
theorem Fr.drew (h : Fr base g w w') : Fr base g w w'.drew := ⟨h.os, h.tape, h.output, h.size, h.block, h.maps⟩
theorem Fr.map (h : Fr base g w w') {k : Nat} {o : Obj} (hk : w.heap[k]? = some o) (hn : kindO o = none) (hg : g < k) : w'.heap[k]? = some o :=
 (h.maps k (Array.getElem?_eq_some_iff.1 hk).1 hg ⟨o, hk, hn⟩).trans hk
end
theorem za3 {w : World} {a b : Nat} {o o' : Obj} (ha : w.heap[a]? = some o) (hb : w.heap[b]? = some o') (hk : kindO o ≠ kindO o') : a ≠ b := fun e => by
 rw [e, hb] at ha
 exact hk (by rw [Option.some.inj ha])
theorem za5 {w : World} {base n C : Nat} {e : TypeId} {v : Value} {xs : List Value} (h : w.ownsRow base e C v n xs) {k : Nat} (hk : v.ownBlock = some k) : ∃ cur, w.heap[k]? = some (.cells cur e (0, 0)) ∧ base ≤ k := by
 rcases h.2 with ⟨rfl, -⟩ | ⟨g, cap, cur, rfl, hb, hh, -⟩
 · simp [Value.ownBlock] at hk
 · simp [Value.ownBlock] at hk
   subst hk; exact ⟨cur, hh, hb⟩
theorem own_same {w w' : World} {base n C : Nat} {e : TypeId} {v : Value} {xs : List Value} (h : w.ownsRow base e C v n xs) (hb : ∀ k, v.ownBlock = some k → w'.heap[k]? = w.heap[k]?) : w'.ownsRow base e C v n xs := by
 refine ⟨h.1, ?_⟩
 rcases h.2 with h2 | ⟨g, cap, cur, rfl, hg, hh, hr⟩
 · exact .inl h2
 · exact .inr ⟨g, cap, cur, rfl, hg, (hb g (by simp [Value.ownBlock])).trans hh, hr⟩
theorem map_blk {w : World} {b n : Nat} {D : DataW Value} (h : w.ownsMap Tryz.prog 85 anyElem b n D) : ∃ o, w.heap[b]? = some o ∧ kindO o = none := by
 obtain ⟨es, clock, hb, -⟩ := h
 exact ⟨_, hb, rfl⟩
theorem zbc {w w' : World} {b n : Nat} {D : DataW Value} (h : w.ownsMap Tryz.prog 85 anyElem b n D) (hb : w'.heap[b]? = w.heap[b]?) : w'.ownsMap Tryz.prog 85 anyElem b n D := by
 obtain ⟨es, clock, h1, h2⟩ := h
 exact ⟨es, clock, hb.trans h1, h2⟩
theorem spot_same {w w' : World} {T : TypeId} {g b n : Nat} {f : List (Ad × Value)} (h : Spot w T g b n f) (h1 : w'.heap[g]? = w.heap[g]?) (h2 : w'.heap[b]? = w.heap[b]?) : Spot w' T g b n f := by
 obtain ⟨q1, D, q2, q3⟩ := h
 exact ⟨h1.trans q1, D, zbc q2 h2, q3⟩
structure Lay where
 (mb nm gp bp np : Nat) (mf : List (Ad × Value)) (dv : Value) (q : Nat → Nat → Nat) (cv : Nat → Nat → Value)
def Nd.top (N : Nd) (L : Lay) : List Value :=
 [.int .i64 (N.D : Int), .int .i64 (N.B : Int), .int .i64 (N.P : Int), .map (some L.mb), .pointer (some ⟨L.gp, 0, none⟩), L.dv, .bool N.off, .int .i64 (N.ops : Int), .int .i64 (N.broken : Int), .bool N.cuts, .int .i64 N.left, .int .i64 (N.keep : Int)]
def Blk.v (x : Blk) (c : Value) : List Value := [c, .int .i64 (x.worn : Int), .bool x.fails, .bool x.met]
def rowsV (x : Blk) : List (List Value) := x.cells.map Cel.v
structure Body (w : World) (base : Nat) (L : Lay) (N : Nd) : Prop where
 map : ∃ D, w.ownsMap Tryz.prog 85 anyElem L.mb L.nm D ∧ Rel D L.mf
 has : ∀ d b : Nat, d < N.D → b < N.B → (key d b, .pointer (some ⟨L.q d b, 0, none⟩)) ∈ L.mf
 only : ∀ x ∈ L.mf, ∃ d b : Nat, d < N.D ∧ b < N.B ∧ x.1 = key d b
 plan : Spot w 142 L.gp L.bp L.np N.plan
 dead : w.ownsRow base 4 1 L.dv N.D (N.dead.map .bool)
 blk : ∀ d b : Nat, d < N.D → b < N.B → w.heap[L.q d b]? = some (.cells ((N.blk d b).v (L.cv d b)).toArray 119 (0, 0))
 rows : ∀ d b : Nat, d < N.D → b < N.B → OwnRows w base 123 34 (L.cv d b) (N.blk d b).cells.length (rowsV (N.blk d b))
 qinj : ∀ d b d' b' : Nat, d < N.D → b < N.B → d' < N.D → b' < N.B → L.q d b = L.q d' b' → d = d' ∧ b = b'
 cinj : ∀ d b d' b' : Nat, d < N.D → b < N.B → d' < N.D → b' < N.B → ¬ (d = d' ∧ b = b') → ∀ k, (L.cv d b).ownBlock = some k → (L.cv d' b').ownBlock ≠ some k
 apart : L.mb ≠ L.bp
 low : base ≤ L.mb ∧ base ≤ L.gp ∧ base ≤ L.bp ∧ ∀ d b : Nat, d < N.D → b < N.B → base ≤ L.q d b
def Foot (L : Lay) (N : Nd) (k : Nat) : Prop := k = L.mb ∨ k = L.gp ∨ k = L.bp ∨ L.dv.ownBlock = some k ∨ ∃ d b : Nat, d < N.D ∧ b < N.B ∧ (k = L.q d b ∨ (L.cv d b).ownBlock = some k)
structure NandAt (w : World) (base g : Nat) (L : Lay) (N : Nd) : Prop where
 ok : N.ok
 head : w.heap[g]? = some (.cells (N.top L).toArray 115 (0, 0))
 lowg : base ≤ g ∧ L.bp ≤ g ∧ L.mb ≤ g
 body : Body w base L N
section
variable {w w' w1 w2 : World} {base g : Nat} {L : Lay} {N N' : Nd}
theorem Body.foot (h : Body w base L N) {k : Nat} (hk : Foot L N k) : ∃ o, w.heap[k]? = some o ∧ (∀ t, kindO o = some t → nandT t = true ∧ t ≠ 115) ∧ base ≤ k := by
 rcases hk with rfl | rfl | rfl | hk | ⟨d, b, hd, hb, rfl | hk⟩
 · obtain ⟨D, h1, -⟩ := h.map
   obtain ⟨o, ho, hn⟩ := map_blk h1; exact ⟨o, ho, fun t ht => (by rw [hn] at ht; cases ht), h.low.1⟩
 · exact ⟨_, h.plan.1, fun t ht => (by cases ht; exact ⟨rfl, by decide⟩), h.low.2.1⟩
 · obtain ⟨-, D, h1, -⟩ := h.plan
   obtain ⟨o, ho, hn⟩ := map_blk h1; exact ⟨o, ho, fun t ht => (by rw [hn] at ht; cases ht), h.low.2.2.1⟩
 · obtain ⟨cur, h1, h2⟩ := za5 h.dead hk
   exact ⟨_, h1, fun t ht => (by cases ht; exact ⟨rfl, by decide⟩), h2⟩
 · exact ⟨_, h.blk d b hd hb, fun t ht => (by cases ht; exact ⟨rfl, by decide⟩), h.low.2.2.2 d b hd hb⟩
 · obtain ⟨cur, h1, h2⟩ := za5 (h.rows d b hd hb).1 hk
   exact ⟨_, h1, fun t ht => (by cases ht; exact ⟨rfl, by decide⟩), h2⟩
theorem Body.keep (h : Body w base L N) (hb : ∀ k, Foot L N k → w'.heap[k]? = w.heap[k]?) : Body w' base L N :=
 { h with
  map := by obtain ⟨D, h1, h2⟩ := h.map; exact ⟨D, zbc h1 (hb _ (.inl rfl)), h2⟩
  plan := spot_same h.plan (hb _ (.inr (.inl rfl))) (hb _ (.inr (.inr (.inl rfl))))
  dead := own_same h.dead fun k hk => hb k (.inr (.inr (.inr (.inl hk))))
  blk := fun d b hd hb' => (hb _ (.inr (.inr (.inr (.inr ⟨d, b, hd, hb', .inl rfl⟩))))).trans (h.blk d b hd hb')
  rows := fun d b hd hb' => ⟨own_same (h.rows d b hd hb').1 fun k hk => hb k (.inr (.inr (.inr (.inr ⟨d, b, hd, hb', .inr hk⟩)))), (h.rows d b hd hb').2⟩ }
theorem Body.lt (h : Body w base L N) {k : Nat} (hk : Foot L N k) : k < w.heap.size := by
 obtain ⟨o, ho, -⟩ := h.foot hk
 exact (Array.getElem?_eq_some_iff.1 ho).1
theorem NandAt.below (h : NandAt w base g L N) (hb : Below w.heap.size w w') : NandAt w' base g L N :=
 ⟨h.ok, zad h.head hb, h.lowg, h.body.keep fun k hk => hb.block k (h.body.lt hk)⟩
theorem NandAt.drew (h : NandAt w base g L N) : NandAt w.drew base g L N := h.below (Below.refl _ w).drew
theorem NandAt.other {k : Nat} {cs : Array Value} {t : TypeId} {fr : Nat × Nat} (h : NandAt w base g L N) (hg : w.grownBy w' (some k)) (hk : w.heap[k]? = some (.cells cs t fr)) (ht : nandT t = false) : NandAt w' base g L N := by
 have hne : ∀ j o, w.heap[j]? = some o → (∀ t', kindO o = some t' → nandT t' = true) → some j ≠ some k := by
  intro j o hj ho e; have e := Option.some.inj e; subst e; rw [hk] at hj; have := Option.some.inj hj; subst this; have := ho t rfl; rw [ht] at this; cases this
 refine ⟨h.ok, (hg.block g (zag h.head) (hne g _ h.head fun t' e => by cases e; rfl)).trans h.head, h.lowg, h.body.keep fun j hj => ?_⟩
 obtain ⟨o, ho, hn, -⟩ := h.body.foot hj
 exact hg.block j (h.body.lt hj) (hne j o ho fun t' e => (hn t' e).1)
theorem NandAt.setHead (h : NandAt w base g L N) (hg : w.grownBy w' (some g)) (hh : w'.heap[g]? = some (.cells (N'.top L).toArray 115 (0, 0))) (ok : N'.ok)
 (hD : N'.D = N.D) (hB : N'.B = N.B) (hblk : N'.blk = N.blk) (hplan : N'.plan = N.plan) (hdead : N'.dead = N.dead) : NandAt w' base g L N' ∧ Fr base g w w' := by
 refine ⟨⟨ok, hh, h.lowg, ?_⟩, Fr.of_grown hg h.head h.lowg.1 fun t e => by cases e; rfl⟩
 have hb := h.body.keep (w' := w') fun k hk => by
  obtain ⟨o, ho, hn, -⟩ := h.body.foot hk; refine hg.block k (h.body.lt hk) fun e => ?_; have e := Option.some.inj e; subst e; rw [h.head] at ho; have := Option.some.inj ho; subst this; exact (hn _ rfl).2 rfl
 obtain ⟨a1, a2, a3, a4, a5, a6, a7, a8, a9, a10, a11⟩ := hb
 refine ⟨a1, ?_, ?_, ?_, ?_, ?_, ?_, ?_, ?_, a10, ?_⟩ <;> simp only [hD, hB, hblk, hplan, hdead] <;> assumption
theorem NandAt.setBlk (h : NandAt w base g L N) {d b : Nat} (hd : d < N.D) (hb : b < N.B) (x : Blk) (v : Value) (h1 : w.grownBy w1 (L.cv d b).ownBlock) (hrow : OwnRows w1 base 123 34 v x.cells.length (rowsV x))
 (hat : v.ownBlock = none ∨ v.ownBlock = (L.cv d b).ownBlock ∨ ∃ j, v.ownBlock = some j ∧ w.heap.size ≤ j) (h2 : w1.grownBy w2 (some (L.q d b))) (hq : w2.heap[L.q d b]? = some (.cells (x.v v).toArray 119 (0, 0)))
 (hx : x.cells.length ≤ N.P) (hp : ∀ c, c ∈ x.cells → c.p.length = 32 ∧ ∀ y ∈ c.p, y < 256) :
 NandAt w2 base g { L with cv := fun i j => if i = d ∧ j = b then v else L.cv i j } (N.upd d b x) ∧ Fr base g w w2 := by
 have hbq := h.body.blk d b hd hb
 have hsz := Nat.le_trans h1.size h2.size
 have stay : ∀ k o, w.heap[k]? = some o → (L.cv d b).ownBlock ≠ some k → k ≠ L.q d b → w2.heap[k]? = w.heap[k]? := by
  intro k o hk n1 n2; have hl := (Array.getElem?_eq_some_iff.1 hk).1; exact (h2.block k (Nat.lt_of_lt_of_le hl h1.size) (fun e => n2 (Option.some.inj e))).trans (h1.block k hl (fun e => n1 e.symm))
 have kcv : ∀ k o, w.heap[k]? = some o → kindO o ≠ some 123 → (L.cv d b).ownBlock ≠ some k := by
  intro k o hk hn e; obtain ⟨cur, hc, -⟩ := za5 (h.body.rows d b hd hb).1 e; rw [hc] at hk; have := Option.some.inj hk; subst this; exact hn rfl
 have kq : ∀ k o, w.heap[k]? = some o → kindO o ≠ some 119 → k ≠ L.q d b := fun k o hk hn => za3 hk hbq hn
 have st : ∀ k o, w.heap[k]? = some o → kindO o ≠ some 123 → kindO o ≠ some 119 → w2.heap[k]? = w.heap[k]? := fun k o hk n1 n2 => stay k o hk (kcv k o hk n1) (kq k o hk n2)
 obtain ⟨D, hm, hR⟩ := h.body.map
 obtain ⟨om, hom, hkm⟩ := map_blk hm
 obtain ⟨hp1, Dp, hp2, hp3⟩ := h.body.plan
 obtain ⟨op, hop, hkp⟩ := map_blk hp2
 have hvl : ∀ k, v.ownBlock = some k → base ≤ k ∧ k < w1.heap.size := own_lt hrow
 have hvq : v.ownBlock ≠ some (L.q d b) := by
  intro e; have hq1 := (hvl _ e).2; obtain ⟨cur, hc, -⟩ := za5 hrow.1 e; rcases hat with hn | hn | ⟨j, hj, hle⟩
  · rw [hn] at e; cases e
  · rw [hn] at e
    exact kcv _ _ hbq (by simp [kindO] <;> decide) e
  · rw [hj] at e
    have := Option.some.inj e; have := zag hbq; omega
 have hrow2 : OwnRows w2 base 123 34 v x.cells.length (rowsV x) := ⟨hrow.1.kept h2 (by
  cases hv : v.ownBlock with
  | none => exact .inl rfl
  | some k => exact .inr (by rw [← hv]; exact hvq)), hrow.2⟩
 have hoth : ∀ d' b' : Nat, d' < N.D → b' < N.B → ¬ (d' = d ∧ b' = b) → ∀ k, (L.cv d' b').ownBlock = some k → w2.heap[k]? = w.heap[k]? := by
  intro d' b' hd' hb' hne k hk; obtain ⟨cur, hc, -⟩ := za5 (h.body.rows d' b' hd' hb').1 hk; exact stay k _ hc (h.body.cinj d' b' d b hd' hb' hd hb hne k hk) (kq k _ hc (by simp [kindO] <;> decide))
 refine ⟨⟨⟨h.ok.geo, h.ok.dead, fun i j => ?_, fun i j c hc => ?_, h.ok.left, h.ok.keep, h.ok.plan⟩, ?_, h.lowg, ?_⟩, ?_⟩
 · simp only [Nd.upd]
   split
   · exact hx
   · exact h.ok.len i j
 · simp only [Nd.upd] at hc
   split at hc
   · exact hp c hc
   · exact h.ok.page i j c hc
 · exact (st g _ h.head (by simp [kindO] <;> decide) (by simp [kindO] <;> decide)).trans h.head
 · refine ⟨⟨D, zbc hm (st _ _ hom (by rw [hkm]; simp) (by rw [hkm]; simp)), hR⟩, h.body.has, h.body.only, ?_, ?_, fun i j hi hj => ?_, fun i j hi hj => ?_, h.body.qinj, fun i j i' j' hi hj hi' hj' hne k hk => ?_, h.body.apart, h.body.low⟩
   · exact spot_same h.body.plan (st _ _ hp1 (by simp [kindO] <;> decide) (by simp [kindO] <;> decide)) (st _ _ hop (by rw [hkp]; simp) (by rw [hkp]; simp))
   · refine own_same h.body.dead fun k hk => ?_
     obtain ⟨cur, hc, -⟩ := za5 h.body.dead hk; exact st k _ hc (by simp [kindO] <;> decide) (by simp [kindO] <;> decide)
   · simp only [Nd.upd]
     split
     · rename_i e
       obtain ⟨rfl, rfl⟩ := e; exact hq
     · rename_i e
       have hbq' := h.body.blk i j hi hj; refine (stay _ _ hbq' (kcv _ _ hbq' (by simp [kindO] <;> decide)) fun e' => e (h.body.qinj i j d b hi hj hd hb e')).trans hbq'
   · simp only [Nd.upd]
     split
     · rename_i e
       obtain ⟨rfl, rfl⟩ := e; exact hrow2
     · rename_i e
       exact ⟨own_same (h.body.rows i j hi hj).1 (hoth i j hi hj e), (h.body.rows i j hi hj).2⟩
   · simp only at hk ⊢
     have key : ∀ i j, i < N.D → j < N.B → ¬ (i = d ∧ j = b) → ∀ k, (L.cv i j).ownBlock = some k → v.ownBlock ≠ some k := by
      intro i j hi hj hne k hk e; rcases hat with hn | hn | ⟨m, hm', hle⟩
      · rw [hn] at e; cases e
      · rw [hn] at e
        exact h.body.cinj i j d b hi hj hd hb hne k hk e
      · rw [hm'] at e
        have := Option.some.inj e; obtain ⟨cur, hc, -⟩ := za5 (h.body.rows i j hi hj).1 hk; have := zag hc; omega
     by_cases e1 : i = d ∧ j = b
     · rw [if_pos e1] at hk
       have e2 : ¬ (i' = d ∧ j' = b) := fun e2 => hne ⟨e1.1.trans e2.1.symm, e1.2.trans e2.2.symm⟩
       rw [if_neg e2]; exact fun e3 => key i' j' hi' hj' e2 k e3 hk
     · rw [if_neg e1] at hk
       by_cases e2 : i' = d ∧ j' = b
       · rw [if_pos e2]
         exact key i j hi hj e1 k hk
       · rw [if_neg e2]
         exact h.body.cinj i j i' j' hi hj hi' hj' hne k hk
 · refine ⟨h2.os.trans h1.os, h2.tape.trans h1.tape, h2.output.trans h1.output, hsz, ?_, fun k hk hg ⟨o, ho1, ho2⟩ => ?_⟩
   rotate_left
   · have n1 : (L.cv d b).ownBlock ≠ some k := by
      intro e; obtain ⟨cur, h3, h4⟩ := za5 (h.body.rows d b hd hb).1 e; rw [h3] at ho1; have := Option.some.inj ho1; subst this; cases ho2
     have n2 : k ≠ L.q d b := by
      intro e; subst e; rw [hbq] at ho1; have := Option.some.inj ho1; subst this; cases ho2
     exact (h2.block k (Nat.lt_of_lt_of_le hk h1.size) (fun e => n2 (Option.some.inj e))).trans (h1.block k hk (fun e => n1 e.symm))
   intro k hk hc
   have n1 : (L.cv d b).ownBlock ≠ some k := by
    intro e; obtain ⟨cur, h3, h4⟩ := za5 (h.body.rows d b hd hb).1 e; rcases hc with hc | ⟨cs, t, fr, h5, h6⟩
    · omega
    · rw [h3] at h5
      have := Option.some.inj h5; injection this with _ e2
      subst e2; revert h6
      decide
   have n2 : k ≠ L.q d b := by
    intro e; subst e; rcases hc with hc | ⟨cs, t, fr, h5, h6⟩
    · have := h.body.low.2.2.2 d b hd hb; omega
    · rw [hbq] at h5
      have := Option.some.inj h5; injection this with _ e2
      subst e2; revert h6
      decide
   exact (h2.block k (Nat.lt_of_lt_of_le hk h1.size) (fun e => n2 (Option.some.inj e))).trans (h1.block k hk (fun e => n1 e.symm))
theorem NandAt.setPlan (h : NandAt w base g L N) {np' : Nat} {f' : List (Ad × Value)} (hS : Spot w' 142 L.gp L.bp np' f') (hg : w.grownBy w' (some L.bp)) (hf : ∀ p ∈ f', p.2 = .bool true ∧ p.1.wf) :
 NandAt w' base g { L with np := np' } { N with plan := f' } ∧ Fr base g w w' := by
 obtain ⟨hp1, Dp, hp2, hp3⟩ := h.body.plan
 obtain ⟨op, hop, hkp⟩ := map_blk hp2
 have st : ∀ k o, w.heap[k]? = some o → k ≠ L.bp → w'.heap[k]? = w.heap[k]? := fun k o hk n => hg.block k (Array.getElem?_eq_some_iff.1 hk).1 (fun e => n (Option.some.inj e))
 have ck : ∀ k (cs : Array Value) (t : TypeId) (fr : Nat × Nat), w.heap[k]? = some (Obj.cells cs t fr) → w'.heap[k]? = w.heap[k]? := fun k cs t fr hk => st k _ hk (za3 hk hop (by rw [hkp]; simp [kindO]))
 refine ⟨⟨⟨h.ok.geo, h.ok.dead, h.ok.len, h.ok.page, h.ok.left, h.ok.keep, hf⟩, (ck g _ _ _ h.head).trans h.head, h.lowg, ?_⟩, Fr.of_grown hg hop h.body.low.2.2.1 (fun t e => by rw [hkp] at e; cases e) (fun _ => h.lowg.2.1)⟩
 obtain ⟨D, hm, hR⟩ := h.body.map
 obtain ⟨om, hom, hkm⟩ := map_blk hm
 exact ⟨⟨D, zbc hm (st _ _ hom h.body.apart), hR⟩, h.body.has, h.body.only, hS, own_same h.body.dead fun k hk => by obtain ⟨cur, hc, -⟩ := za5 h.body.dead hk; exact ck k _ _ _ hc,
  fun d b hd hb => (ck _ _ _ _ (h.body.blk d b hd hb)).trans (h.body.blk d b hd hb), fun d b hd hb => ⟨own_same (h.body.rows d b hd hb).1 fun k hk => by obtain ⟨cur, hc, -⟩ := za5 (h.body.rows d b hd hb).1 hk; exact ck k _ _ _ hc, (h.body.rows d b hd hb).2⟩,
  h.body.qinj, h.body.cinj, h.body.apart, h.body.low⟩
theorem NandAt.setDead (h : NandAt w base g L N) {dd : List Bool} (hg : w.grownBy w' L.dv.ownBlock) (hr : w'.ownsRow base 4 1 L.dv N.D (dd.map .bool)) (hl : dd.length = N.D) :
 NandAt w' base g L { N with dead := dd } ∧ Fr base g w w' := by
 have st : ∀ k o, w.heap[k]? = some o → kindO o ≠ some 4 → w'.heap[k]? = w.heap[k]? := fun k o hk hn => hg.block k (Array.getElem?_eq_some_iff.1 hk).1 fun e => by
  obtain ⟨cur, hc, -⟩ := za5 h.body.dead e.symm; rw [hc] at hk; have := Option.some.inj hk; subst this; exact hn rfl
 obtain ⟨D, hm, hR⟩ := h.body.map
 obtain ⟨om, hom, hkm⟩ := map_blk hm
 obtain ⟨hp1, Dp, hp2, hp3⟩ := h.body.plan
 obtain ⟨op, hop, hkp⟩ := map_blk hp2
 refine ⟨⟨⟨h.ok.geo, hl, h.ok.len, h.ok.page, h.ok.left, h.ok.keep, h.ok.plan⟩, (st g _ h.head (by simp [kindO] <;> decide)).trans h.head, h.lowg, ?_⟩, ?_⟩
 · exact ⟨⟨D, zbc hm (st _ _ hom (by rw [hkm]; simp)), hR⟩, h.body.has, h.body.only, spot_same h.body.plan (st _ _ hp1 (by simp [kindO] <;> decide)) (st _ _ hop (by rw [hkp]; simp)), hr,
    fun d b hd hb => (st _ _ (h.body.blk d b hd hb) (by simp [kindO] <;> decide)).trans (h.body.blk d b hd hb), fun d b hd hb => ⟨own_same (h.body.rows d b hd hb).1 fun k hk => by obtain ⟨cur, hc, -⟩ := za5 (h.body.rows d b hd hb).1 hk; exact st k _ hc (by simp [kindO] <;> decide), (h.body.rows d b hd hb).2⟩,
    h.body.qinj, h.body.cinj, h.body.apart, h.body.low⟩
 · cases hv : L.dv.ownBlock with
   | none => rw [hv] at hg; exact Fr.of_grown0 hg
   | some k =>
    rw [hv] at hg; obtain ⟨cur, hc, hb⟩ := za5 h.body.dead hv; exact Fr.of_grown hg hc hb fun t e => by cases e; rfl
end
end Go.Proofs.YtpbigfopmompfaaGreat.nand
namespace Go.Proofs.YtpbigfopmompfaaGreat.nand
open Go.RowKit
set_option linter.unusedVariables false
theorem ptr : Tryz.prog.underlying 78 = some (.pointer (Tryz.prog.pointee 78)) := by kernel_rfl
theorem nonnil_neq (x : Addr) (w : World) : (binOp .neq 78 (.pointer (some x)) (.pointer none)).run Tryz.prog w = .ok (.bool true) w := run_neq_pointer_nil w 78 (some x) ptr
theorem nonnil_eql (x : Addr) (w : World) : (binOp .eql 78 (.pointer (some x)) (.pointer none)).run Tryz.prog w = .ok (.bool false) w := run_eql_pointer_nil w 78 (some x) ptr
theorem nil_neq (w : World) : (binOp .neq 78 (.pointer none) (.pointer none)).run Tryz.prog w = .ok (.bool false) w := run_neq_pointer_nil w 78 none ptr
section
variable {w : World} {base g : Nat} {L : Lay} {N : Nd}
theorem NandAt.c0 (h : NandAt w base g L N) : w.cell? ⟨g, 0, none⟩ = some (.int .i64 (N.D : Int)) := by rw [zaf h.head]; rfl
theorem NandAt.c1 (h : NandAt w base g L N) : w.cell? ⟨g, 1, none⟩ = some (.int .i64 (N.B : Int)) := by rw [zaf h.head]; rfl
theorem NandAt.c2 (h : NandAt w base g L N) : w.cell? ⟨g, 2, none⟩ = some (.int .i64 (N.P : Int)) := by rw [zaf h.head]; rfl
theorem NandAt.c3 (h : NandAt w base g L N) : w.cell? ⟨g, 3, none⟩ = some (.map (some L.mb)) := by rw [zaf h.head]; rfl
theorem NandAt.c4 (h : NandAt w base g L N) : w.cell? ⟨g, 4, none⟩ = some (.pointer (some ⟨L.gp, 0, none⟩)) := by rw [zaf h.head]; rfl
theorem NandAt.c5 (h : NandAt w base g L N) : w.cell? ⟨g, 5, none⟩ = some L.dv := by rw [zaf h.head]; rfl
theorem NandAt.c6 (h : NandAt w base g L N) : w.cell? ⟨g, 6, none⟩ = some (.bool N.off) := by rw [zaf h.head]; rfl
theorem NandAt.c7 (h : NandAt w base g L N) : w.cell? ⟨g, 7, none⟩ = some (.int .i64 (N.ops : Int)) := by rw [zaf h.head]; rfl
theorem NandAt.c8 (h : NandAt w base g L N) : w.cell? ⟨g, 8, none⟩ = some (.int .i64 (N.broken : Int)) := by rw [zaf h.head]; rfl
theorem NandAt.c9 (h : NandAt w base g L N) : w.cell? ⟨g, 9, none⟩ = some (.bool N.cuts) := by rw [zaf h.head]; rfl
theorem NandAt.c10 (h : NandAt w base g L N) : w.cell? ⟨g, 10, none⟩ = some (.int .i64 N.left) := by rw [zaf h.head]; rfl
theorem NandAt.c11 (h : NandAt w base g L N) : w.cell? ⟨g, 11, none⟩ = some (.int .i64 (N.keep : Int)) := by rw [zaf h.head]; rfl
end
theorem built_key (d b : Int) : Tryz.prog.built 85 [(0, .int .i64 d), (1, .int .i64 b)] = some (key d b).v.toArray := by kernel_rfl
set_option maxRecDepth 100000 in
theorem key_any (d b : Int) (w : World) : Calls Tryz.prog 75 #[.int .i64 d, .int .i64 b] w fun e w' => e = .returned (.agg (key d b).v.toArray) ∧ Below w.heap.size w w' := by
 have hbel := (Below.refl _ w).alloc (Nat.le_refl _) (.cells #[.int .i64 0, .int .i64 0, .int .i64 0] 85)
 have hB := built_key d b
 go_enter Tryz.func75, Tryz.ntmps75
 go_wp2_with (first | (refine zao rfl 85 _ rfl [(0, .int .i64 d), (1, .int .i64 b)] rfl (key d b).v hB ?_) | (refine zai rfl 85 (.tmp 4) (.tmp 7) rfl w.heap.size (key d b).v rfl rfl 85 _ (zak w _ _ rfl) zbx rfl (by simp [key, Ad.v, Value.oneCell']) ?_; intro w5 hU5; have h5 := hU5.at_; have hb5 := hU5.below hbel (Nat.le_refl _); clear hU5))
 refine bodyPost_ret (v := .agg (key d b).v.toArray) ?_ rfl ⟨rfl, hb5⟩
 rw [results_row1 rfl _ _ _ _ _ _ _ rfl h5 Tryz.underlying85 rfl zbx]
section
variable {w : World} {base g : Nat} {L : Lay} {N : Nd}
theorem ops_any (h : NandAt w base g L N) : Calls Tryz.prog 109 #[.pointer (some ⟨g, 0, none⟩)] w fun e w' => e = .returned (.int .i64 (N.ops : Int)) ∧ w = w' := by
 have hnn := nonnil_eql
 have c := h.c7
 clear h
 go_enter Tryz.func109, Tryz.ntmps109
 go_wp2_with fail
 go_ret
 exact ⟨rfl, rfl⟩
theorem broken_any (h : NandAt w base g L N) : Calls Tryz.prog 108 #[.pointer (some ⟨g, 0, none⟩)] w fun e w' => e = .returned (.int .i64 (N.broken : Int)) ∧ w = w' := by
 have hnn := nonnil_eql
 have c := h.c8
 clear h
 go_enter Tryz.func108, Tryz.ntmps108
 go_wp2_with fail
 go_ret
 exact ⟨rfl, rfl⟩
theorem setc (h : NandAt w base g L N) (i : Nat) (v : Value) (N' : Nd) (hi : (N.top L).set i v = N'.top L) (ok : N'.ok) (hD : N'.D = N.D) (hB : N'.B = N.B) (hblk : N'.blk = N.blk) (hplan : N'.plan = N.plan) (hdead : N'.dead = N.dead) :
 NandAt (w.setCell ⟨g, i, none⟩ v) base g L N' ∧ Fr base g w (w.setCell ⟨g, i, none⟩ v) := by
 have hU := zas (i := i) h.head v
 refine h.setHead ⟨hU.os, hU.tape, hU.output, by rw [hU.size]; exact Nat.le_refl _, fun k _ hk => hU.block k fun e => hk (by rw [e])⟩ ?_ ok hD hB hblk hplan hdead
 rw [hU.at_, hi]
theorem on_any (h : NandAt w base g L N) : Calls Tryz.prog 104 #[.pointer (some ⟨g, 0, none⟩)] w fun e w' => e = .returned (.tuple #[]) ∧ NandAt w' base g L N.on ∧ Fr base g w w' := by
 have hnn := nonnil_neq
 have a1 := setc h 6 (.bool false) { N with off := false } rfl ⟨h.ok.geo, h.ok.dead, h.ok.len, h.ok.page, h.ok.left, h.ok.keep, h.ok.plan⟩ rfl rfl rfl rfl rfl
 have a2 := setc a1.1 9 (.bool false) N.on rfl ⟨h.ok.geo, h.ok.dead, h.ok.len, h.ok.page, by simp [Nd.on], h.ok.keep, h.ok.plan⟩ rfl rfl rfl rfl rfl
 have HF := Lib.hid (And.intro a2.1 (a1.2.trans a2.2))
 have c6 := h.c6
 have f6 := zar h.head 6
 have c9 := a1.1.c9
 have f9 := zar a1.1.head 9
 clear h a1 a2
 go_enter Tryz.func104, Tryz.ntmps104
 go_wp2_with fail
 go_end0
 exact ⟨rfl, HF.out⟩
theorem inG_eq (N : Nd) (a : Ad) : inG (N.D : Int) (N.B : Int) (N.P : Int) a.d a.b a.p = N.inG a := by
 rw [Bool.eq_iff_iff]
 simp [inG, Nd.inG, wiB]
 omega
theorem geoInfo : (Tryz.prog.info? 39).map (·.size) = some 3 := by kernel_rfl
theorem geo_range (h : NandAt w base g L N) : w.rangeAt g 0 [.int .i64 (N.D : Int), .int .i64 (N.B : Int), .int .i64 (N.P : Int)] := by
 have := zbo (w := w) h.head [] [.int .i64 (N.D : Int), .int .i64 (N.B : Int), .int .i64 (N.P : Int)] _ rfl 0 rfl
 exact this
end
end Go.Proofs.YtpbigfopmompfaaGreat.nand
namespace Go.Proofs.YtpbigfopmompfaaGreat.nand
open Go.RowKit
set_option linter.unusedVariables false
section
variable {w : World} {base g : Nat} {L : Lay} {N : Nd}
theorem range_keep' {w w' : World} {b i : Nat} {c : Value} {cs : List Value} (h : w.rangeAt b i (c :: cs)) (hb : Below w.heap.size w w') : w'.rangeAt b i (c :: cs) := by
 have hl : b < w.heap.size := World.block_lt_of_cell? w ⟨b, i + 0, none⟩ (h 0 c rfl)
 intro j v hv
 exact (hb.cell (p := ⟨b, i + j, none⟩) hl).trans (h j v hv)
set_option maxRecDepth 100000 in
set_option maxHeartbeats 4000000 in
theorem refuses_any (h : NandAt w base g L N) (x : Ad) (hx : x.wf) : Calls Tryz.prog 76 #[.pointer (some ⟨g, 0, none⟩), .agg x.v.toArray] w fun e w' => e = .returned (.int .i64 (N.refuses x)) ∧ Below w.heap.size w w' := by
 have hnn := nonnil_eql
 have h1 := h.below ((Below.refl _ w).alloc (Nat.le_refl _) (.cells x.v.toArray 85))
 have ha1 := heap_alloc_new w (.cells x.v.toArray 85)
 have hbel := (Below.refl _ w).alloc (Nat.le_refl _) (.cells x.v.toArray 85)
 clear h
 go_enter Tryz.func76, Tryz.ntmps76
 go_upto_region 1 with fail
 generalize w.alloc (.cells x.v.toArray 85) = w1 at *
 have c6 := h1.c6
 have HH := Lib.hid h1
 have HB := Lib.hid hbel
 have HA := Lib.hid ha1
 clear h1 hbel ha1
 cases hoff : N.off with
 | true =>
  rw [hoff] at c6; have HR := Lib.hid (show N.refuses x = 9 by simp [Nd.refuses, hoff]); clear hoff; go_wp2_with fail
  go_ret
  exact ⟨by rw [HR.out]; rfl, HB.out⟩
 | false =>
  rw [hoff] at c6; have hR : N.refuses x = if N.inG x then (if N.dead.getD x.d.toNat false then 8 else 0) else 3 := by simp [Nd.refuses, hoff]
  clear hoff; have hgeo := geo_range HH.out; have hge := HH.out.ok.geo; cases hin : N.inG x with
  | false =>
   have HR := Lib.hid (show N.refuses x = 3 by rw [hR, hin]; rfl)
   have HIn := Lib.hid (show ∀ w, Calls Tryz.prog 80 #[.agg ([.int .i64 (N.D : Int), .int .i64 (N.B : Int), .int .i64 (N.P : Int)]).toArray, .agg x.v.toArray] w fun e w' => e = .returned (.bool false) ∧ Below w.heap.size w w' from fun w => by
    have := in_geo (N.D : Int) (N.B : Int) (N.P : Int) x.d x.b x.p w (by omega) (by omega) (by omega); rw [inG_eq, hin] at this; exact this)
   clear hR hin hge; go_upto_region 5 with fail
   clear c6
   refine zan (by kernel_rfl) (by kernel_rfl) (X := Unit) (fun _ => [(some 14, .pointer (some ⟨g, 0, none⟩)), (some 15, .pointer (some ⟨g, 0, none⟩)), (some 16, .pointer (some ⟨g, 0, none⟩)), (some 17, .agg ([.int .i64 (N.D : Int), .int .i64 (N.B : Int), .int .i64 (N.P : Int)]).toArray), (some 18, .agg (x.v).toArray), (some 19, .bool false), (some 20, .bool true), (some 13, .bool true)])
    (fun _ L w' => w'.rangeAt g 0 [.int .i64 (N.D : Int), .int .i64 (N.B : Int), .int .i64 (N.P : Int)] ∧ w'.heap[w.heap.size]? = some (.cells x.v.toArray 85 (0, 0)) ∧ Below w.heap.size w w') (fun _ => rfl) (by kernel_rfl) ⟨(), fun _ _ => ⟨hgeo, HA.out, HB.out.drew⟩⟩ ?_ ?_
   · refine ⟨?_, ?_, ?_, ?_, ?_, ?_, ?_, ?_, trivial⟩
     · intro _ L w' hL hpre hJ a ha
       obtain ⟨jg, ja, jb⟩ := hJ; simp [Region.binds] at hpre; refine .inl ⟨zaa rfl, ?_⟩; exact zah (.tmp 0) (.inl rfl) (.pointer (some ⟨g, 0, none⟩)) (by rw [ha, zac rfl]; rfl) ⟨(), _, rfl, rfl, jg, ja, jb⟩
     · intro _ L w' hL hpre hJ a ha
       obtain ⟨jg, ja, jb⟩ := hJ; simp [Region.binds] at hpre; refine .inl ⟨zaa rfl, ?_⟩; have e14 : a.eval (.tmp 14) = .pointer (some ⟨g, 0, none⟩) := evP ha 0 rfl (by simp [hpre]) (by simp) rfl; clear ha; have jg' := Lib.hid jg; have ja' := Lib.hid ja; have jb' := Lib.hid jb; clear jg ja jb; refine zab fun K HK => ?_; unfold Oper.wp; simp only [execOp, e14]; go_simp; exact HK.out _ _ ⟨(), _, rfl, rfl, jg'.out, ja'.out, jb'.out⟩
     · intro _ L w' hL hpre hJ a ha
       obtain ⟨jg, ja, jb⟩ := hJ; simp [Region.binds] at hpre; refine .inl ⟨zaa rfl, ?_⟩; have e15 : a.eval (.tmp 15) = .pointer (some ⟨g, 0, none⟩) := evP ha 1 rfl (by simp [hpre]) (by simp) rfl; clear ha; have jg' := Lib.hid jg; have ja' := Lib.hid ja; have jb' := Lib.hid jb; clear jg ja jb; refine zab fun K HK => ?_; unfold Oper.wp; simp only [execOp, e15]; go_simp; exact HK.out _ _ ⟨(), _, rfl, rfl, jg'.out, ja'.out, jb'.out⟩
     · intro _ L w' hL hpre hJ a ha
       obtain ⟨jg, ja, jb⟩ := hJ; simp [Region.binds] at hpre; refine .inl ⟨zaa rfl, ?_⟩; exact wp_load_mid 39 (.tmp 16) rfl g 0 (evP ha 2 rfl (by simp [hpre]) (by simp) rfl) ([.int .i64 (N.D : Int), .int .i64 (N.B : Int), .int .i64 (N.P : Int)]) _ jg Tryz.underlying39 rfl geoInfo ⟨(), _, rfl, rfl, jg, ja, jb⟩
     · intro _ L w' hL hpre hJ a ha
       obtain ⟨jg, ja, jb⟩ := hJ; simp [Region.binds] at hpre; refine .inl ⟨zaa rfl, ?_⟩; exact wp_load_mid 85 (.tmp 3) rfl w.heap.size 0 (by rw [ha, zac rfl]; rfl) (x.v) _ (zal ja) Tryz.underlying85 rfl zbx ⟨(), _, rfl, rfl, jg, ja, jb⟩
     · intro _ L w' hL hpre hJ a ha
       obtain ⟨jg, ja, jb⟩ := hJ; simp [Region.binds] at hpre; refine .inl ⟨zaa rfl, ?_⟩; have e17 : a.eval (.tmp 17) = .agg ([.int .i64 (N.D : Int), .int .i64 (N.B : Int), .int .i64 (N.P : Int)]).toArray := evP ha 3 rfl (by simp [hpre]) (by simp) rfl; have e18 : a.eval (.tmp 18) = .agg (x.v).toArray := evP ha 4 rfl (by simp [hpre]) (by simp) rfl; clear ha; have jg' := Lib.hid jg; have ja' := Lib.hid ja; have jb' := Lib.hid jb; clear jg ja jb; refine zab fun K HK => ?_; unfold Oper.wp; simp only [execOp, resolve, List.map_toArray, List.map_cons, List.map_nil, e17, e18]; go_simp; refine (HIn.out w').mono ?_; rintro e w'' ⟨rfl, hb⟩; exact HK.out _ _ ⟨(), _, rfl, rfl, range_keep' jg'.out hb, zad ja'.out hb, jb'.out.trans (hb.mono jb'.out.size)⟩
     · intro _ L w' hL hpre hJ a ha
       obtain ⟨jg, ja, jb⟩ := hJ; simp [Region.binds] at hpre; refine .inl ⟨zaa rfl, ?_⟩; have e19 : a.eval (.tmp 19) = .bool false := evP ha 5 rfl (by simp [hpre]) (by simp) rfl; clear ha; have jg' := Lib.hid jg; have ja' := Lib.hid ja; have jb' := Lib.hid jb; clear jg ja jb; refine zab fun K HK => ?_; unfold Oper.wp; simp only [execOp, e19]; go_simp; exact HK.out _ _ ⟨(), _, rfl, rfl, jg'.out, ja'.out, jb'.out⟩
     · intro _ L w' hL hpre hJ a ha
       obtain ⟨jg, ja, jb⟩ := hJ; simp [Region.binds] at hpre; refine .inl ⟨zaa rfl, ?_⟩; exact zah (.tmp 20) (.inr rfl) (.bool true) (evP ha 6 rfl (by simp [hpre]) (by simp) rfl) ⟨(), _, rfl, rfl, jg, ja, jb⟩
   · intro _ L w' hL hJ
     obtain ⟨jg, ja, jb⟩ := hJ; clear hL; simp only [List.foldl_cons, List.foldl_nil]; go_simp; go_wp2_with fail
     go_ret
     exact ⟨by rw [HR.out]; rfl, jb⟩
  | true =>
   have hR2 : N.refuses x = if N.dead.getD x.d.toNat false then 8 else 0 := by rw [hR, hin]; rfl
   have hin2 : (0 ≤ x.d ∧ x.d < N.D) ∧ (0 ≤ x.b ∧ x.b < N.B) ∧ (0 ≤ x.p ∧ x.p < N.P) := by simpa [Nd.inG] using hin
   have HIn := Lib.hid (show ∀ w, Calls Tryz.prog 80 #[.agg ([.int .i64 (N.D : Int), .int .i64 (N.B : Int), .int .i64 (N.P : Int)]).toArray, .agg x.v.toArray] w fun e w' => e = .returned (.bool true) ∧ Below w.heap.size w w' from fun w => by
    have := in_geo (N.D : Int) (N.B : Int) (N.P : Int) x.d x.b x.p w (by omega) (by omega) (by omega); rw [inG_eq, hin] at this; exact this)
   have hd0 := hin2.1.1; have hd1 := hin2.1.2; obtain ⟨gd, cd, ed, -, -, -, -⟩ := za7 HH.out.body.dead (by omega); obtain ⟨d, hd⟩ := Int.eq_ofNat_of_zero_le hd0; have hdl : d < N.dead.length := by rw [HH.out.ok.dead]; omega
   have hdead : N.dead.getD x.d.toNat false = N.dead[d] := by rw [hd, Int.toNat_natCast, List.getD_eq_getElem?_getD, List.getElem?_eq_getElem hdl]; rfl
   rw [hdead] at hR2; have hown := HH.out.body.dead; rw [ed] at hown
   have cdd : w1.cell? ⟨gd, d, none⟩ = some (.bool N.dead[d]) := by
    rw [hown.cellAt d (by omega), List.getElem?_map, List.getElem?_eq_getElem hdl]; rfl
   have c5 := HH.out.c5; rw [ed] at c5; have HC5 := Lib.hid c5; have HCD := Lib.hid cdd; have hdI : (d : Int) < (N.D : Int) := by omega
   have hda := Lib.hid hd; generalize N.dead[d] = bd at *; have HR2 := Lib.hid hR2; clear hR hin hge hin2 ed hdead hown c5 cdd hd0 hd1 hd hR2; go_upto_region 5 with fail
   clear c6
   refine zan (by kernel_rfl) (by kernel_rfl) (X := Unit) (fun _ => [(some 14, .pointer (some ⟨g, 0, none⟩)), (some 15, .pointer (some ⟨g, 0, none⟩)), (some 16, .pointer (some ⟨g, 0, none⟩)), (some 17, .agg ([.int .i64 (N.D : Int), .int .i64 (N.B : Int), .int .i64 (N.P : Int)]).toArray), (some 18, .agg (x.v).toArray), (some 19, .bool true), (some 20, .bool false), (some 13, .bool false)])
    (fun _ L w' => w'.rangeAt g 0 [.int .i64 (N.D : Int), .int .i64 (N.B : Int), .int .i64 (N.P : Int)] ∧ w'.heap[w.heap.size]? = some (.cells x.v.toArray 85 (0, 0)) ∧ Below w1.heap.size w1 w' ∧ Below w.heap.size w w') (fun _ => rfl) (by kernel_rfl) ⟨(), fun _ _ => ⟨hgeo, HA.out, (Below.refl _ w1).drew, HB.out.drew⟩⟩ ?_ ?_
   · refine ⟨?_, ?_, ?_, ?_, ?_, ?_, ?_, ?_, trivial⟩
     · intro _ L w' hL hpre hJ a ha
       obtain ⟨jg, ja, js, jb⟩ := hJ; simp [Region.binds] at hpre; refine .inl ⟨zaa rfl, ?_⟩; exact zah (.tmp 0) (.inl rfl) (.pointer (some ⟨g, 0, none⟩)) (by rw [ha, zac rfl]; rfl) ⟨(), _, rfl, rfl, jg, ja, js, jb⟩
     · intro _ L w' hL hpre hJ a ha
       obtain ⟨jg, ja, js, jb⟩ := hJ; simp [Region.binds] at hpre; refine .inl ⟨zaa rfl, ?_⟩; have e14 : a.eval (.tmp 14) = .pointer (some ⟨g, 0, none⟩) := evP ha 0 rfl (by simp [hpre]) (by simp) rfl; clear ha; have jg' := Lib.hid jg; have ja' := Lib.hid ja; have js' := Lib.hid js; have jb' := Lib.hid jb; clear jg ja js jb; refine zab fun K HK => ?_; unfold Oper.wp; simp only [execOp, e14]; go_simp; exact HK.out _ _ ⟨(), _, rfl, rfl, jg'.out, ja'.out, js'.out, jb'.out⟩
     · intro _ L w' hL hpre hJ a ha
       obtain ⟨jg, ja, js, jb⟩ := hJ; simp [Region.binds] at hpre; refine .inl ⟨zaa rfl, ?_⟩; have e15 : a.eval (.tmp 15) = .pointer (some ⟨g, 0, none⟩) := evP ha 1 rfl (by simp [hpre]) (by simp) rfl; clear ha; have jg' := Lib.hid jg; have ja' := Lib.hid ja; have js' := Lib.hid js; have jb' := Lib.hid jb; clear jg ja js jb; refine zab fun K HK => ?_; unfold Oper.wp; simp only [execOp, e15]; go_simp; exact HK.out _ _ ⟨(), _, rfl, rfl, jg'.out, ja'.out, js'.out, jb'.out⟩
     · intro _ L w' hL hpre hJ a ha
       obtain ⟨jg, ja, js, jb⟩ := hJ; simp [Region.binds] at hpre; refine .inl ⟨zaa rfl, ?_⟩; exact wp_load_mid 39 (.tmp 16) rfl g 0 (evP ha 2 rfl (by simp [hpre]) (by simp) rfl) ([.int .i64 (N.D : Int), .int .i64 (N.B : Int), .int .i64 (N.P : Int)]) _ jg Tryz.underlying39 rfl geoInfo ⟨(), _, rfl, rfl, jg, ja, js, jb⟩
     · intro _ L w' hL hpre hJ a ha
       obtain ⟨jg, ja, js, jb⟩ := hJ; simp [Region.binds] at hpre; refine .inl ⟨zaa rfl, ?_⟩; exact wp_load_mid 85 (.tmp 3) rfl w.heap.size 0 (by rw [ha, zac rfl]; rfl) (x.v) _ (zal ja) Tryz.underlying85 rfl zbx ⟨(), _, rfl, rfl, jg, ja, js, jb⟩
     · intro _ L w' hL hpre hJ a ha
       obtain ⟨jg, ja, js, jb⟩ := hJ; simp [Region.binds] at hpre; refine .inl ⟨zaa rfl, ?_⟩; have e17 : a.eval (.tmp 17) = .agg ([.int .i64 (N.D : Int), .int .i64 (N.B : Int), .int .i64 (N.P : Int)]).toArray := evP ha 3 rfl (by simp [hpre]) (by simp) rfl; have e18 : a.eval (.tmp 18) = .agg (x.v).toArray := evP ha 4 rfl (by simp [hpre]) (by simp) rfl; clear ha; have jg' := Lib.hid jg; have ja' := Lib.hid ja; have js' := Lib.hid js; have jb' := Lib.hid jb; clear jg ja js jb; refine zab fun K HK => ?_; unfold Oper.wp; simp only [execOp, resolve, List.map_toArray, List.map_cons, List.map_nil, e17, e18]; go_simp; refine (HIn.out w').mono ?_; rintro e w'' ⟨rfl, hb⟩; exact HK.out _ _ ⟨(), _, rfl, rfl, range_keep' jg'.out hb, zad ja'.out hb, js'.out.trans (hb.mono js'.out.size), jb'.out.trans (hb.mono jb'.out.size)⟩
     · intro _ L w' hL hpre hJ a ha
       obtain ⟨jg, ja, js, jb⟩ := hJ; simp [Region.binds] at hpre; refine .inl ⟨zaa rfl, ?_⟩; have e19 : a.eval (.tmp 19) = .bool true := evP ha 5 rfl (by simp [hpre]) (by simp) rfl; clear ha; have jg' := Lib.hid jg; have ja' := Lib.hid ja; have js' := Lib.hid js; have jb' := Lib.hid jb; clear jg ja js jb; refine zab fun K HK => ?_; unfold Oper.wp; simp only [execOp, e19]; go_simp; exact HK.out _ _ ⟨(), _, rfl, rfl, jg'.out, ja'.out, js'.out, jb'.out⟩
     · intro _ L w' hL hpre hJ a ha
       obtain ⟨jg, ja, js, jb⟩ := hJ; simp [Region.binds] at hpre; refine .inl ⟨zaa rfl, ?_⟩; exact zah (.tmp 20) (.inr rfl) (.bool false) (evP ha 6 rfl (by simp [hpre]) (by simp) rfl) ⟨(), _, rfl, rfl, jg, ja, js, jb⟩
   · intro _ L w' hL hJ
     obtain ⟨jg, ja, js, jb⟩ := hJ; clear hL; simp only [List.foldl_cons, List.foldl_nil]; have HS := Lib.hid js; clear js; obtain ⟨d0, d1, d2⟩ := ad_at ja; rw [hda.out] at d0; have hs : w1.heap.size ≤ w'.heap.size := HS.out.size; have c5 : w'.cell? ⟨g, 5, none⟩ = some (.slice (some ⟨gd, 0, none⟩) N.D cd) := (HS.out.cell (World.block_lt_of_cell? _ _ HC5.out)).trans HC5.out; have cdd : w'.cell? ⟨gd, d, none⟩ = some (.bool bd) := (HS.out.cell (World.block_lt_of_cell? _ _ HCD.out)).trans HCD.out; go_simp; clear jg ja d1 d2 hgeo; go_upto_region 7 with fail
     go_region
     cases bd with
     | true =>
      go_wp2_with fail
      go_ret
      exact ⟨by rw [HR2.out]; rfl, jb.drew⟩
     | false =>
      go_wp2_with fail
      go_ret
      exact ⟨by rw [HR2.out]; rfl, jb.drew⟩
end
end Go.Proofs.YtpbigfopmompfaaGreat.nand
namespace Go.Proofs.YtpbigfopmompfaaGreat.nand
open Go.RowKit
set_option linter.unusedVariables false
section
variable {w : World} {base g : Nat} {L : Lay} {N : Nd}
theorem cutN_ok (h : N.ok) : N.cutN.ok := by
 unfold Nd.cutN
 split
 · split
   · exact ⟨h.geo, h.dead, h.len, h.page, by simp, h.keep, h.plan⟩
   · rename_i h1 h2
     exact ⟨h.geo, h.dead, h.len, h.page, fun hc => ⟨by simp only; omega, by have := h.left hc; simp only; omega⟩, h.keep, h.plan⟩
 · exact ⟨h.geo, h.dead, h.len, h.page, h.left, h.keep, h.plan⟩
set_option maxRecDepth 100000 in
set_option maxHeartbeats 4000000 in
theorem cut_any (h : NandAt w base g L N) (hs : N.ops ≤ 1000000000000000) : Calls Tryz.prog 77 #[.pointer (some ⟨g, 0, none⟩)] w fun e w' => e = .returned (.bool N.cutB) ∧ NandAt w' base g L N.cutN ∧ Fr base g w w' := by
 have hok := h.ok
 have a1 := setc h 7 (.int .i64 ((N.ops : Int) + 1)) { N with ops := N.ops + 1 } (by simp [Nd.top]) ⟨hok.geo, hok.dead, hok.len, hok.page, hok.left, hok.keep, hok.plan⟩ rfl rfl rfl rfl rfl
 have c7 := h.c7
 have f7 := zar h.head 7
 have ho : wrap64 ((N.ops : Int) + 1) = (N.ops : Int) + 1 := by go_arith
 have c9 := a1.1.c9
 simp only at c9
 cases hc : N.cuts with
 | false =>
  rw [hc] at c9
  have HF := Lib.hid (show NandAt (w.setCell ⟨g, 7, none⟩ (.int .i64 ((N.ops : Int) + 1))) base g L N.cutN ∧ Fr base g w (w.setCell ⟨g, 7, none⟩ (.int .i64 ((N.ops : Int) + 1))) by
   have e : N.cutN = { N with ops := N.ops + 1 } := by simp [Nd.cutN, hc]
   rw [e]; exact a1)
  have HB := Lib.hid (show N.cutB = false by simp [Nd.cutB, hc]); clear h a1 hok hc; go_enter Tryz.func77, Tryz.ntmps77
  go_wp2_with fail
  go_ret
  exact ⟨by rw [HB.out]; rfl, HF.out⟩
 | true =>
  rw [hc] at c9; obtain ⟨l1, l2⟩ := hok.left hc; have hl : wrap64 (N.left - 1) = N.left - 1 := by go_arith
  have c10 := a1.1.c10; simp only at c10; have f10 := zar a1.1.head 10; by_cases hq : N.left - 1 < 0
  · have hq0 : N.left = 0 := by omega
    have U1 := zas (i := 10) a1.1.head (.int .i64 (N.left - 1)); have U2 := zas (i := 9) U1.at_ (.bool false); have U3 := zas (i := 6) U2.at_ (.bool true); have eN : N.cutN = { N with ops := N.ops + 1, left := N.left - 1, cuts := false, off := true } := by simp [Nd.cutN, hc, hq]
    have a3 := a1.1.setHead (N' := N.cutN) ⟨U3.os.trans (U2.os.trans U1.os), U3.tape.trans (U2.tape.trans U1.tape), U3.output.trans (U2.output.trans U1.output), by rw [U3.size, U2.size, U1.size]; exact Nat.le_refl _,
     fun k _ hk => by
      have hne : k ≠ g := fun e => hk (by rw [e])
      exact ((U3.block k hne).trans (U2.block k hne)).trans (U1.block k hne)⟩ (by rw [U3.at_, eN]; rfl) (cutN_ok hok) (by rw [eN]) (by rw [eN]) (by rw [eN]) (by rw [eN]) (by rw [eN])
    have c10' : ((w.setCell ⟨g, 7, none⟩ (.int .i64 ((N.ops : Int) + 1))).setCell ⟨g, 10, none⟩ (.int .i64 (N.left - 1))).cell? ⟨g, 10, none⟩ = some (.int .i64 (N.left - 1)) := by rw [zaf U1.at_]; rfl
    have c9' : ((w.setCell ⟨g, 7, none⟩ (.int .i64 ((N.ops : Int) + 1))).setCell ⟨g, 10, none⟩ (.int .i64 (N.left - 1))).cell? ⟨g, 9, none⟩ = some (.bool N.cuts) := by rw [zaf U1.at_]; rfl
    have f9' := zar U1.at_ 9; have c6' : (((w.setCell ⟨g, 7, none⟩ (.int .i64 ((N.ops : Int) + 1))).setCell ⟨g, 10, none⟩ (.int .i64 (N.left - 1))).setCell ⟨g, 9, none⟩ (.bool false)).cell? ⟨g, 6, none⟩ = some (.bool N.off) := by rw [zaf U2.at_]; rfl
    have f6' := zar U2.at_ 6; have HF := Lib.hid (And.intro a3.1 (a1.2.trans a3.2)); have HB := Lib.hid (show N.cutB = true by simp [Nd.cutB, hc, hq]); have hge : ¬ (0 : Int) ≤ N.left - 1 := by omega
    clear h a1 a3 U1 U2 U3 eN hok hc hq l1 l2 hq0; go_enter Tryz.func77, Tryz.ntmps77
    go_wp2_with fail
    go_ret
    exact ⟨by rw [HB.out]; rfl, HF.out⟩
  · have a2 := setc a1.1 10 (.int .i64 (N.left - 1)) { N with ops := N.ops + 1, left := N.left - 1 } rfl ⟨hok.geo, hok.dead, hok.len, hok.page, fun hc => ⟨by simp only; omega, by simp only; omega⟩, hok.keep, hok.plan⟩ rfl rfl rfl rfl rfl
    have c10' := a2.1.c10; simp only at c10'; have hge : (0 : Int) ≤ N.left - 1 := by omega
    have HF := Lib.hid (show NandAt ((w.setCell ⟨g, 7, none⟩ (.int .i64 ((N.ops : Int) + 1))).setCell ⟨g, 10, none⟩ (.int .i64 (N.left - 1))) base g L N.cutN ∧ Fr base g w ((w.setCell ⟨g, 7, none⟩ (.int .i64 ((N.ops : Int) + 1))).setCell ⟨g, 10, none⟩ (.int .i64 (N.left - 1))) by
     have e : N.cutN = { N with ops := N.ops + 1, left := N.left - 1 } := by simp [Nd.cutN, hc, hq]
     rw [e]; exact ⟨a2.1, a1.2.trans a2.2⟩)
    have HB := Lib.hid (show N.cutB = false by simp [Nd.cutB, hc, hq]); clear h a1 a2 hok hc hq l1 l2; go_enter Tryz.func77, Tryz.ntmps77
    go_wp2_with fail
    go_ret
    exact ⟨by rw [HB.out]; rfl, HF.out⟩
end
end Go.Proofs.YtpbigfopmompfaaGreat.nand
namespace Go.Proofs.YtpbigfopmompfaaGreat.nand
open Go.RowKit
set_option linter.unusedVariables false
section
variable {w : World} {base g : Nat} {L : Lay} {N : Nd}
theorem four (h : NandAt w base g L N) (v9 v10 v11 v6 : Value) (N' : Nd) (hi : ((((N.top L).set 9 v9).set 10 v10).set 11 v11).set 6 v6 = N'.top L) (ok : N'.ok) (hD : N'.D = N.D) (hB : N'.B = N.B) (hblk : N'.blk = N.blk) (hplan : N'.plan = N.plan) (hdead : N'.dead = N.dead) :
 (NandAt ((((w.setCell ⟨g, 9, none⟩ v9).setCell ⟨g, 10, none⟩ v10).setCell ⟨g, 11, none⟩ v11).setCell ⟨g, 6, none⟩ v6) base g L N' ∧ Fr base g w ((((w.setCell ⟨g, 9, none⟩ v9).setCell ⟨g, 10, none⟩ v10).setCell ⟨g, 11, none⟩ v11).setCell ⟨g, 6, none⟩ v6)) ∧
 (w.setCell ⟨g, 9, none⟩ v9).cell? ⟨g, 10, none⟩ = some (.int .i64 N.left) ∧ (w.setCell ⟨g, 9, none⟩ v9).frozen? ⟨g, 10, none⟩ = false ∧
 ((w.setCell ⟨g, 9, none⟩ v9).setCell ⟨g, 10, none⟩ v10).cell? ⟨g, 11, none⟩ = some (.int .i64 (N.keep : Int)) ∧ ((w.setCell ⟨g, 9, none⟩ v9).setCell ⟨g, 10, none⟩ v10).frozen? ⟨g, 11, none⟩ = false ∧
 (((w.setCell ⟨g, 9, none⟩ v9).setCell ⟨g, 10, none⟩ v10).setCell ⟨g, 11, none⟩ v11).cell? ⟨g, 6, none⟩ = some (.bool N.off) ∧ (((w.setCell ⟨g, 9, none⟩ v9).setCell ⟨g, 10, none⟩ v10).setCell ⟨g, 11, none⟩ v11).frozen? ⟨g, 6, none⟩ = false := by
 have U1 := zas (i := 9) h.head v9
 have U2 := zas (i := 10) U1.at_ v10
 have U3 := zas (i := 11) U2.at_ v11
 have U4 := zas (i := 6) U3.at_ v6
 refine ⟨h.setHead ⟨U4.os.trans (U3.os.trans (U2.os.trans U1.os)), U4.tape.trans (U3.tape.trans (U2.tape.trans U1.tape)), U4.output.trans (U3.output.trans (U2.output.trans U1.output)), by rw [U4.size, U3.size, U2.size, U1.size]; exact Nat.le_refl _,
  fun k _ hk => by
   have hne : k ≠ g := fun e => hk (by rw [e])
   exact (((U4.block k hne).trans (U3.block k hne)).trans (U2.block k hne)).trans (U1.block k hne)⟩ (by rw [U4.at_, hi]) ok hD hB hblk hplan hdead, ?_, zar U1.at_ 10, ?_, zar U2.at_ 11, ?_, zar U3.at_ 6⟩
 · rw [zaf U1.at_]; rfl
 · rw [zaf U2.at_]; rfl
 · rw [zaf U3.at_]; rfl
set_option maxRecDepth 100000 in
set_option maxHeartbeats 4000000 in
theorem cutat_any (h : NandAt w base g L N) (ops keep : Int) (ho : ops ≤ 9223372036854775807) : Calls Tryz.prog 103 #[.pointer (some ⟨g, 0, none⟩), .int .i64 ops, .int .i64 keep] w fun e w' => e = .returned (.tuple #[]) ∧ NandAt w' base g L (N.cutAt ops keep) ∧ Fr base g w w' := by
 have hnn := nonnil_eql
 have hok := h.ok
 have c6 := h.c6
 cases hoff : N.off with
 | true =>
  rw [hoff] at c6
  have HF := Lib.hid (show NandAt w base g L (N.cutAt ops keep) ∧ Fr base g w w by
   have e : N.cutAt ops keep = N := by simp [Nd.cutAt, hoff]
   rw [e]; exact ⟨h, Fr.refl _ _ _⟩)
  clear h hok hoff; go_enter Tryz.func103, Tryz.ntmps103
  go_wp2_with fail
  refine bodyPost_ret (v := .tuple #[]) (results_none (fn := Tryz.f103) rfl _ _ _) rfl ?_; exact ⟨rfl, HF.out⟩
 | false =>
  rw [hoff] at c6; have c9 := h.c9; have f9 := zar h.head 9; have hk : 0 ≤ min (max keep 0) 32 := by omega
  by_cases h0 : 0 ≤ ops
  · have eN : N.cutAt ops keep = { N with cuts := true, left := ops, keep := (min (max keep 0) 32).toNat, off := false } := by
     simp [Nd.cutAt, hoff, h0] <;> omega
    have h1 : ¬ ops < 0 := by omega
    obtain ⟨a, c10, f10, c11, f11, c6', f6'⟩ := four h (.bool true) (.int .i64 ops) (.int .i64 (min (max keep 0) 32)) (.bool false) (N.cutAt ops keep) (by rw [eN]; simp [Nd.top, Int.toNat_of_nonneg hk]) (by rw [eN]; exact ⟨hok.geo, hok.dead, hok.len, hok.page, fun _ => ⟨h0, ho⟩, by simp only; omega, hok.plan⟩) (by rw [eN]) (by rw [eN]) (by rw [eN]) (by rw [eN]) (by rw [eN]); have HF := Lib.hid a; clear h hok hoff eN a hk; go_enter Tryz.func103, Tryz.ntmps103
    go_wp2_with fail
    go_end0
    exact ⟨rfl, HF.out⟩
  · have eN : N.cutAt ops keep = { N with cuts := false, left := ops, keep := (min (max keep 0) 32).toNat, off := true } := by
     simp [Nd.cutAt, hoff, h0] <;> omega
    have h1 : ops < 0 := by omega
    obtain ⟨a, c10, f10, c11, f11, c6', f6'⟩ := four h (.bool false) (.int .i64 ops) (.int .i64 (min (max keep 0) 32)) (.bool true) (N.cutAt ops keep) (by rw [eN]; simp [Nd.top, Int.toNat_of_nonneg hk]) (by rw [eN]; exact ⟨hok.geo, hok.dead, hok.len, hok.page, by simp, by simp only; omega, hok.plan⟩) (by rw [eN]) (by rw [eN]) (by rw [eN]) (by rw [eN]) (by rw [eN]); have HF := Lib.hid a; clear h hok hoff eN a hk; go_enter Tryz.func103, Tryz.ntmps103
    go_wp2_with fail
    go_end0
    exact ⟨rfl, HF.out⟩
end
theorem val_ad {w : World} {b n : Nat} {D : DataW Value} {f : List (Ad × Value)} {t e : TypeId} (h : w.ownsMap Tryz.prog 85 anyElem b n D) (hR : Rel D f) {a : Ad} (ha : a.wf) {v : Value} (hv : (a, v) ∈ f) (ht : Tryz.prog.underlying t = some (.map 85 e)) {z : Value} (hz : (zeroValue e).run Tryz.prog w = .ok z w) :
 (Instr.lookup t (.map (some b)) (.agg a.v.toArray) false).run Tryz.prog w = .ok v w := by
 have hk : keyOf Tryz.prog 85 (.agg #[.int .i64 a.d, .int .i64 a.b, .int .i64 a.p]) = some (klA a) := zb7 ha
 obtain ⟨es, clock, hb, F, hs, rfl⟩ := h
 have h2 := hR.at_ _ v hv
 rcases Maps.fit_look false adKeyed ht hz hb F hk with ⟨hrun, -, hat⟩ | ⟨e0, y, -, -, hrun, hRv, hat, -⟩
 · have h0 := Maps.has_false_of_atKey hat
   have := (hR.has a ha).2 (List.mem_map.2 ⟨(a, v), hv, rfl⟩); rw [h0] at this; cases this
 · have h2 := h2 (.held v)
   rw [hat] at h2; have h3 : y = (DataW.held e0.val, []) := (Option.some.inj (show some ((DataW.held e0.val : DataW Value), ([] : List MemPlace)) = some y from hRv)).symm; rw [h3] at h2; have h3 : e0.val = v := DataW.held.inj h2; have : (Instr.lookup t (.map (some b)) (.agg a.v.toArray) false).run Tryz.prog w = (Instr.lookup t (.map (some b)) (.agg #[.int .i64 a.d, .int .i64 a.b, .int .i64 a.p]) false).run Tryz.prog w := rfl; rw [this, hrun, h3]; rfl
end Go.Proofs.YtpbigfopmompfaaGreat.nand
namespace Go.Proofs.YtpbigfopmompfaaGreat.nand
open Go.RowKit
set_option linter.unusedVariables false
section
variable {w : World} {base g : Nat} {Y : Lay} {N : Nd}
theorem refuses_zero {x : Ad} (h : N.refuses x = 0) : N.off = false ∧ N.inG x = true ∧ N.dead.getD x.d.toNat false = false := by
 unfold Nd.refuses at h
 split at h
 · cases h
 · rename_i h1
   split at h
   · rename_i h2
     split at h
     · cases h
     · rename_i h3
       exact ⟨by simpa using h1, h2, by simpa using h3⟩
   · cases h
theorem in_iff {x : Ad} (h : N.inG x = true) : (0 ≤ x.d ∧ x.d < N.D) ∧ (0 ≤ x.b ∧ x.b < N.B) ∧ (0 ≤ x.p ∧ x.p < N.P) := by simpa [Nd.inG] using h
theorem zero_blk (w : World) : (zeroValue 116).run Tryz.prog w = .ok (.pointer none) w := by kernel_rfl
theorem key_wf {d b : Nat} (hd : d < 100) (hb : b < 100) : (key (d : Int) (b : Int)).wf := by
 refine ⟨?_, ?_, rfl⟩ <;> simp [key, Lit.wf, IntKind.min, IntKind.max, IntKind.bits, IntKind.signed] <;> omega
theorem look_at {w' : World} (h : NandAt w' base g Y N) {x : Ad} (hin : N.inG x = true) (w0 : World) : (Instr.lookup 110 (.map (some Y.mb)) (.agg (key x.d x.b).v.toArray) false).run Tryz.prog w' = .ok (.pointer (some ⟨Y.q x.d.toNat x.b.toNat, 0, none⟩)) w' := by
 obtain ⟨⟨d0, d1⟩, ⟨b0, b1⟩, -⟩ := in_iff hin
 obtain ⟨D, hm, hR⟩ := h.body.map
 have hg := h.ok.geo
 obtain ⟨d, hd⟩ := Int.eq_ofNat_of_zero_le d0
 obtain ⟨b, hb⟩ := Int.eq_ofNat_of_zero_le b0
 have hh := h.body.has d b (by omega) (by omega)
 rw [hd, hb]
 exact val_ad hm hR (key_wf (by omega) (by omega)) hh Tryz.underlying110 (zero_blk w')
set_option maxRecDepth 100000 in
set_option maxHeartbeats 8000000 in
theorem read_any (h : NandAt w base g Y N) (x : Ad) (hx : x.wf) : Calls Tryz.prog 102 #[.pointer (some ⟨g, 0, none⟩), .agg x.v.toArray] w fun e w' => e = .returned (.tuple #[.agg (nats .u8 (N.readP x)).toArray, .int .i64 (N.readE x)]) ∧ Below w.heap.size w w' := by
 have hbel := below2 w (.cells x.v.toArray 85) (.cells (nats .u8 zero32).toArray 90)
 have ha := zbi w (.cells x.v.toArray 85) (.cells (nats .u8 zero32).toArray 90)
 have hz := zak (w.alloc (.cells x.v.toArray 85)) (.cells (nats .u8 zero32).toArray 90) (w.heap.size + 1) (by simp)
 have hN := h.below hbel
 have hsz : (w.alloc (.cells x.v.toArray 85)).heap.size = w.heap.size + 1 := by simp
 clear h
 go_enter Tryz.func102, Tryz.ntmps102
 go_upto_region 1 with fail
 change Code.wp _ _ _ _ ((w.alloc (.cells x.v.toArray 85)).alloc (.cells (nats .u8 zero32).toArray 90))
 generalize (w.alloc (.cells x.v.toArray 85)).alloc (.cells (nats .u8 zero32).toArray 90) = w2 at *
 obtain ⟨c0, c1, c2⟩ := ad_at ha
 have CR := Lib.hid (refuses_any hN x hx)
 have HA0 := Lib.hid ha
 have HZ0 := Lib.hid hz
 have HN0 := Lib.hid hN
 have HB0 := Lib.hid hbel
 clear ha hz hN hbel hsz
 go_wp2_with fail
 refine CR.out.mono ?_
 rintro e w3 ⟨rfl, hb⟩
 have HA := Lib.hid (zad HA0.out hb)
 have HZ := Lib.hid (zad HZ0.out hb)
 have HN := Lib.hid (HN0.out.below hb)
 have HB := Lib.hid (HB0.out.trans (hb.mono HB0.out.size))
 have hzb : Tryz.prog.built 90 [] = some (nats .u8 zero32).toArray := by kernel_rfl
 clear hb HA0 HZ0 HN0 HB0 c0 c1 c2 CR
 by_cases hr : N.refuses x = 0
 · have hrI : (N.refuses x == 0) = true := by rw [hr]; rfl
   obtain ⟨-, hin, -⟩ := refuses_zero hr; have HIn := Lib.hid hin; have HR := Lib.hid hr; obtain ⟨qq, hqq⟩ : ∃ qq, qq = Y.q x.d.toNat x.b.toNat := ⟨_, rfl⟩; have HQQ := Lib.hid hqq.symm; clear hr hin hqq; rw [HR.out]; clear hrI; go_upto_region 4 with fail
   refine zan (by kernel_rfl) (by kernel_rfl) (X := Unit) (fun _ => [(some 15, .pointer (some ⟨g, 0, none⟩)), (some 16, .pointer (some ⟨g, 0, none⟩)), (some 17, .pointer (some ⟨g, 3, none⟩)), (some 18, .map (some Y.mb)), (some 19, .pointer (some ⟨w.heap.size, 0, none⟩)), (some 20, .int .i64 x.d), (some 21, .pointer (some ⟨w.heap.size, 1, none⟩)), (some 22, .int .i64 x.b), (some 23, .agg (key x.d x.b).v.toArray), (some 24, .pointer (some ⟨qq, 0, none⟩)), (some 7, .pointer (some ⟨qq, 0, none⟩))])
    (fun _ L w' => w'.heap[w.heap.size]? = some (.cells x.v.toArray 85 (0, 0)) ∧ w'.heap[w.heap.size + 1]? = some (.cells (nats .u8 zero32).toArray 90 (0, 0)) ∧ NandAt w' base g Y N ∧ Below w.heap.size w w') (fun _ => rfl) (by kernel_rfl) ⟨(), fun _ _ => ⟨HA.out, HZ.out, (HN.out.drew), HB.out.drew⟩⟩ ?_ ?_
   · refine ⟨?_, ?_, ?_, ?_, ?_, ?_, ?_, ?_, ?_, ?_, ?_, trivial⟩
     · intro _ L w' hL hpre hJ a ha
       obtain ⟨ja, jz, jn, jb⟩ := hJ; simp [Region.binds] at hpre; refine .inl ⟨zaa rfl, ?_⟩; exact zah (.tmp 0) (.inl rfl) (.pointer (some ⟨g, 0, none⟩)) (by rw [ha, zac rfl]; rfl) ⟨(), _, rfl, rfl, ja, jz, jn, jb⟩
     · intro _ L w' hL hpre hJ a ha
       obtain ⟨ja, jz, jn, jb⟩ := hJ; simp [Region.binds] at hpre; refine .inl ⟨zaa rfl, ?_⟩; have e15 : a.eval (.tmp 15) = .pointer (some ⟨g, 0, none⟩) := evP ha 0 rfl (by simp [hpre]) (by simp) rfl; clear ha; have ja' := Lib.hid ja; have jz' := Lib.hid jz; have jn' := Lib.hid jn; have jb' := Lib.hid jb; clear ja jz jn jb; refine zab fun K HK => ?_; unfold Oper.wp; simp only [execOp, e15]; go_simp; exact HK.out _ _ ⟨(), _, rfl, rfl, ja'.out, jz'.out, jn'.out, jb'.out⟩
     · intro _ L w' hL hpre hJ a ha
       obtain ⟨ja, jz, jn, jb⟩ := hJ; simp [Region.binds] at hpre; refine .inl ⟨zaa rfl, ?_⟩; have e16 : a.eval (.tmp 16) = .pointer (some ⟨g, 0, none⟩) := evP ha 1 rfl (by simp [hpre]) (by simp) rfl; clear ha; have ja' := Lib.hid ja; have jz' := Lib.hid jz; have jn' := Lib.hid jn; have jb' := Lib.hid jb; clear ja jz jn jb; refine zab fun K HK => ?_; unfold Oper.wp; simp only [execOp, e16]; go_simp; exact HK.out _ _ ⟨(), _, rfl, rfl, ja'.out, jz'.out, jn'.out, jb'.out⟩
     · intro _ L w' hL hpre hJ a ha
       obtain ⟨ja, jz, jn, jb⟩ := hJ; simp [Region.binds] at hpre; refine .inl ⟨zaa rfl, ?_⟩; have e17 : a.eval (.tmp 17) = .pointer (some ⟨g, 3, none⟩) := evP ha 2 rfl (by simp [hpre]) (by simp) rfl; clear ha; have cc := jn.c3; have ja' := Lib.hid ja; have jz' := Lib.hid jz; have jn' := Lib.hid jn; have jb' := Lib.hid jb; clear ja jz jn jb; refine zab fun K HK => ?_; unfold Oper.wp; simp only [execOp, e17]; go_simp; exact HK.out _ _ ⟨(), _, rfl, rfl, ja'.out, jz'.out, jn'.out, jb'.out⟩
     · intro _ L w' hL hpre hJ a ha
       obtain ⟨ja, jz, jn, jb⟩ := hJ; simp [Region.binds] at hpre; refine .inl ⟨zaa rfl, ?_⟩; have e3 : a.eval (.tmp 3) = .pointer (some ⟨w.heap.size, 0, none⟩) := by rw [ha, zac rfl]; rfl
       clear ha; have ja' := Lib.hid ja; have jz' := Lib.hid jz; have jn' := Lib.hid jn; have jb' := Lib.hid jb; clear ja jz jn jb; refine zab fun K HK => ?_; unfold Oper.wp; simp only [execOp, e3]; go_simp; exact HK.out _ _ ⟨(), _, rfl, rfl, ja'.out, jz'.out, jn'.out, jb'.out⟩
     · intro _ L w' hL hpre hJ a ha
       obtain ⟨ja, jz, jn, jb⟩ := hJ; simp [Region.binds] at hpre; refine .inl ⟨zaa rfl, ?_⟩; have e19 : a.eval (.tmp 19) = .pointer (some ⟨w.heap.size, 0, none⟩) := evP ha 4 rfl (by simp [hpre]) (by simp) rfl; clear ha; obtain ⟨cc, -, -⟩ := ad_at ja; have ja' := Lib.hid ja; have jz' := Lib.hid jz; have jn' := Lib.hid jn; have jb' := Lib.hid jb; clear ja jz jn jb; refine zab fun K HK => ?_; unfold Oper.wp; simp only [execOp, e19]; go_simp; exact HK.out _ _ ⟨(), _, rfl, rfl, ja'.out, jz'.out, jn'.out, jb'.out⟩
     · intro _ L w' hL hpre hJ a ha
       obtain ⟨ja, jz, jn, jb⟩ := hJ; simp [Region.binds] at hpre; refine .inl ⟨zaa rfl, ?_⟩; have e3 : a.eval (.tmp 3) = .pointer (some ⟨w.heap.size, 0, none⟩) := by rw [ha, zac rfl]; rfl
       clear ha; have ja' := Lib.hid ja; have jz' := Lib.hid jz; have jn' := Lib.hid jn; have jb' := Lib.hid jb; clear ja jz jn jb; refine zab fun K HK => ?_; unfold Oper.wp; simp only [execOp, e3]; go_simp; exact HK.out _ _ ⟨(), _, rfl, rfl, ja'.out, jz'.out, jn'.out, jb'.out⟩
     · intro _ L w' hL hpre hJ a ha
       obtain ⟨ja, jz, jn, jb⟩ := hJ; simp [Region.binds] at hpre; refine .inl ⟨zaa rfl, ?_⟩; have e21 : a.eval (.tmp 21) = .pointer (some ⟨w.heap.size, 1, none⟩) := evP ha 6 rfl (by simp [hpre]) (by simp) rfl; clear ha; obtain ⟨-, cc, -⟩ := ad_at ja; have ja' := Lib.hid ja; have jz' := Lib.hid jz; have jn' := Lib.hid jn; have jb' := Lib.hid jb; clear ja jz jn jb; refine zab fun K HK => ?_; unfold Oper.wp; simp only [execOp, e21]; go_simp; exact HK.out _ _ ⟨(), _, rfl, rfl, ja'.out, jz'.out, jn'.out, jb'.out⟩
     · intro _ L w' hL hpre hJ a ha
       obtain ⟨ja, jz, jn, jb⟩ := hJ; simp [Region.binds] at hpre; refine .inl ⟨zaa rfl, ?_⟩; have e20 : a.eval (.tmp 20) = .int .i64 x.d := evP ha 5 rfl (by simp [hpre]) (by simp) rfl; have e22 : a.eval (.tmp 22) = .int .i64 x.b := evP ha 7 rfl (by simp [hpre]) (by simp) rfl; clear ha; have ja' := Lib.hid ja; have jz' := Lib.hid jz; have jn' := Lib.hid jn; have jb' := Lib.hid jb; clear ja jz jn jb; refine zab fun K HK => ?_; unfold Oper.wp; simp only [execOp, resolve, List.map_toArray, List.map_cons, List.map_nil, e20, e22]; go_simp; refine (key_any x.d x.b w').mono ?_; rintro e w'' ⟨rfl, hb⟩; exact HK.out _ _ ⟨(), _, rfl, rfl, zad ja'.out hb, zad jz'.out hb, (NandAt.below jn'.out hb), jb'.out.trans (hb.mono jb'.out.size)⟩
     · intro _ L w' hL hpre hJ a ha
       obtain ⟨ja, jz, jn, jb⟩ := hJ; simp [Region.binds] at hpre; refine .inl ⟨zaa rfl, ?_⟩; have e18 : a.eval (.tmp 18) = .map (some Y.mb) := evP ha 3 rfl (by simp [hpre]) (by simp) rfl; have e23 : a.eval (.tmp 23) = .agg (key x.d x.b).v.toArray := evP ha 8 rfl (by simp [hpre]) (by simp) rfl; clear ha; have cc := look_at jn HIn.out w'; rw [HQQ.out] at cc; have ja' := Lib.hid ja; have jz' := Lib.hid jz; have jn' := Lib.hid jn; have jb' := Lib.hid jb; clear ja jz jn jb; refine zab fun K HK => ?_; unfold Oper.wp; simp only [execOp, e18, e23]; go_simp; exact HK.out _ _ ⟨(), _, rfl, rfl, ja'.out, jz'.out, jn'.out, jb'.out⟩
     · intro _ L w' hL hpre hJ a ha
       obtain ⟨ja, jz, jn, jb⟩ := hJ; simp [Region.binds] at hpre; refine .inl ⟨zaa rfl, ?_⟩; exact zah (.tmp 24) (.inr rfl) (.pointer (some ⟨qq, 0, none⟩)) (evP ha 9 rfl (by simp [hpre]) (by simp) rfl) ⟨(), _, rfl, rfl, ja, jz, jn, jb⟩
   · intro _ L w' hL hJ
     obtain ⟨ja, jz, jn, jb⟩ := hJ; clear hL; simp only [List.foldl_cons, List.foldl_nil]; go_simp; have hxin := in_iff HIn.out; have hge := jn.ok.geo; have hrow := jn.body.rows x.d.toNat x.b.toNat (by omega) (by omega); have hblk := jn.body.blk x.d.toNat x.b.toNat (by omega) (by omega); have hlen := jn.ok.len x.d.toNat x.b.toNat; have hpg := jn.ok.page x.d.toNat x.b.toNat; rw [HQQ.out] at hblk; have hE0 : N.readE x = match (N.at x).cells[x.p.toNat]? with | none => 5 | some c => if c.lost then 6 else 0 := by unfold Nd.readE; rw [if_neg (by rw [HR.out]; simp)] <;> rfl
     have hP0 : N.readP x = match (N.at x).cells[x.p.toNat]? with | none => List.replicate 32 0 | some c => if c.lost then List.replicate 32 0 else c.p := by unfold Nd.readP; rw [if_neg (by rw [HR.out]; simp)] <;> rfl
     unfold Nd.at at hE0 hP0; generalize N.blk x.d.toNat x.b.toNat = bk at *; generalize Y.cv x.d.toNat x.b.toNat = cv at *; obtain ⟨Ac, cc, rfl, hcc, -⟩ := hrow.slice; have cq : w'.cell? ⟨qq, 0, none⟩ = some (.slice Ac bk.cells.length cc) := by rw [zaf hblk]; rfl
     obtain ⟨-, -, ca⟩ := ad_at ja; obtain ⟨p, hp⟩ := Int.eq_ofNat_of_zero_le hxin.2.2.1; rw [hp] at ca hE0 hP0; rw [Int.toNat_natCast] at hE0 hP0; have hqz : qq ≠ w.heap.size + 1 := za3 hblk jz (by simp [kindO] <;> decide); have HZq := Lib.hid jz; have HBq := Lib.hid jb; have HGe := Lib.hid hge; have hq16 : bk.cells.length ≤ 8 := by omega
     clear jz ja jn hblk hge jb hxin hlen hp; have hzb := hzb; by_cases hpl : p < bk.cells.length
     · have hcg : bk.cells[p]? = some bk.cells[p] := List.getElem?_eq_getElem hpl
       obtain ⟨hc32, -⟩ := hpg _ (List.getElem_mem hpl); rw [hcg] at hE0 hP0; obtain ⟨gc, cc', ec, -, hgcl, -, -⟩ := za7 hrow.1 (by omega); cases ec
       obtain ⟨b', o', ec, -, hrg⟩ := za8 hrow.rds hpl (r := bk.cells[p].v) (by rw [rowsV, List.getElem?_map, hcg]; rfl); cases ec
       rw [Nat.zero_add] at hrg; obtain ⟨curq, hcurq, -⟩ := za5 hrow.1 (k := gc) rfl; generalize bk.cells[p] = c at *; have cl : w'.cell? ⟨gc, p * 34 + 32, none⟩ = some (.bool c.lost) := hrg 32 _ (by rw [Cel.v, List.getElem?_append_right (by rw [zaj, hc32]; exact Nat.le_refl _), zaj, hc32]; rfl); have HRg := Lib.hid (show w'.rangeAt gc (p * 34) (nats .u8 c.p) from fun j v hv => hrg j v (by rw [Cel.v, List.getElem?_append_left (List.getElem?_eq_some_iff.1 hv).1]; exact hv)); have hplI : (p : Int) < (bk.cells.length : Int) := by omega
       have HCl := Lib.hid hc32; have HNe := Lib.hid (And.intro (za3 hcurq HZq.out (by simp [kindO] <;> decide)) (And.intro hqz (show w.heap.size ≠ w.heap.size + 1 by omega))); generalize bk.cells.length = M at *; have HCq := Lib.hid cq; have HCa := Lib.hid ca; have HE0 := Lib.hid hE0; have HP0 := Lib.hid hP0; clear hrg hcg hc32 hpg hrow hcurq hE0 hP0 hqz hgcl; go_upto_region 5 with fail
       go_region
       go_wp2_with fail
       go_region
       cases hl : c.lost with
       | true =>
        have HE := Lib.hid (show N.readE x = 6 by rw [HE0.out]; simp [hl]); have HPz := Lib.hid (show N.readP x = zero32 by rw [HP0.out]; simp [hl, zero32]); clear hl; go_wp2_with (first | (refine zao rfl 90 _ rfl [] rfl (nats .u8 zero32) hzb ?_) | (refine zai rfl 90 (.tmp 4) (.tmp 45) rfl (w.heap.size + 1) (nats .u8 zero32) rfl rfl 90 _ (show w'.drew.drew.heap[w.heap.size + 1]? = _ from HZq.out) (zbe rfl) rfl (za1 _ _) ?_; intro w5 hU5; have h5 := hU5.at_; have hb5 := hU5.below HBq.out.drew.drew (by omega); clear hU5))
        refine bodyPost_ret (v := .tuple #[.agg (nats .u8 zero32).toArray, .int .i64 6]) ?_ rfl ⟨by rw [HPz.out, HE.out], hb5⟩; rw [zav rfl _ _ _ _ _ _ _ rfl h5 Tryz.underlying90 rfl (zbe rfl)]; rfl
       | false =>
        have HE := Lib.hid (show N.readE x = 0 by rw [HE0.out]; simp [hl]); have HPz := Lib.hid (show N.readP x = c.p by rw [HP0.out]; simp [hl]); clear hl cq ca cl; go_upto_region 9 with fail
        refine zan (by kernel_rfl) (by kernel_rfl) (X := Unit) (fun _ => [(some 46, .pointer (some ⟨qq, 0, none⟩)), (some 47, .pointer (some ⟨qq, 0, none⟩)), (some 48, .pointer (some ⟨qq, 0, none⟩)), (some 49, .slice (some ⟨gc, 0, none⟩) M cc), (some 50, .pointer (some ⟨w.heap.size, 2, none⟩)), (some 51, .int .i64 (p : Int)), (some 52, .pointer (some ⟨gc, p * 34, none⟩)), (some 53, .pointer (some ⟨gc, p * 34, none⟩)), (some 54, .agg (nats .u8 c.p).toArray), (none, undef), (some 5, .int .i64 0)])
         (fun _ L w' => w'.rangeAt gc (p * 34) (nats .u8 c.p) ∧ w'.heap[w.heap.size + 1]? = some (.cells (bif L 9 then nats .u8 c.p else nats .u8 zero32).toArray 90 (0, 0)) ∧ w'.cell? ⟨qq, 0, none⟩ = some (.slice (some ⟨gc, 0, none⟩) M cc) ∧ w'.cell? ⟨w.heap.size, 2, none⟩ = some (.int .i64 (p : Int)) ∧ Below w.heap.size w w') (fun _ => rfl) (by kernel_rfl) ⟨(), fun L hL => ⟨HRg.out, (by rw [hL 9]; exact HZq.out), HCq.out, HCa.out, HBq.out.drew.drew.drew⟩⟩ ?_ ?_
        · refine ⟨?_, ?_, ?_, ?_, ?_, ?_, ?_, ?_, ?_, ?_, ?_, trivial⟩
          · intro _ L w' hL hpre hJ a ha
            obtain ⟨jr, jz, jq, ja, jb⟩ := hJ; simp [Region.binds] at hpre; refine .inl ⟨zaa rfl, ?_⟩; exact zah (.tmp 7) (.inl rfl) (.pointer (some ⟨qq, 0, none⟩)) (by rw [ha, zac rfl]; rfl) ⟨(), _, rfl, rfl, jr, jz, jq, ja, jb⟩
          · intro _ L w' hL hpre hJ a ha
            obtain ⟨jr, jz, jq, ja, jb⟩ := hJ; simp [Region.binds] at hpre; refine .inl ⟨zaa rfl, ?_⟩; have e46 : a.eval (.tmp 46) = .pointer (some ⟨qq, 0, none⟩) := evP ha 0 rfl (by simp [hpre]) (by simp) rfl; clear ha; have jr' := Lib.hid jr; have jz' := Lib.hid jz; have jq' := Lib.hid jq; have ja' := Lib.hid ja; have jb' := Lib.hid jb; clear jr jz jq ja jb; refine zab fun K HK => ?_; unfold Oper.wp; simp only [execOp, e46]; go_simp; exact HK.out _ _ ⟨(), _, rfl, rfl, jr'.out, jz'.out, jq'.out, ja'.out, jb'.out⟩
          · intro _ L w' hL hpre hJ a ha
            obtain ⟨jr, jz, jq, ja, jb⟩ := hJ; simp [Region.binds] at hpre; refine .inl ⟨zaa rfl, ?_⟩; have e47 : a.eval (.tmp 47) = .pointer (some ⟨qq, 0, none⟩) := evP ha 1 rfl (by simp [hpre]) (by simp) rfl; clear ha; have jr' := Lib.hid jr; have jz' := Lib.hid jz; have jq' := Lib.hid jq; have ja' := Lib.hid ja; have jb' := Lib.hid jb; clear jr jz jq ja jb; refine zab fun K HK => ?_; unfold Oper.wp; simp only [execOp, e47]; go_simp; exact HK.out _ _ ⟨(), _, rfl, rfl, jr'.out, jz'.out, jq'.out, ja'.out, jb'.out⟩
          · intro _ L w' hL hpre hJ a ha
            obtain ⟨jr, jz, jq, ja, jb⟩ := hJ; simp [Region.binds] at hpre; refine .inl ⟨zaa rfl, ?_⟩; have e48 : a.eval (.tmp 48) = .pointer (some ⟨qq, 0, none⟩) := evP ha 2 rfl (by simp [hpre]) (by simp) rfl; clear ha; have cx := jq; have jr' := Lib.hid jr; have jz' := Lib.hid jz; have jq' := Lib.hid jq; have ja' := Lib.hid ja; have jb' := Lib.hid jb; clear jr jz jq ja jb; refine zab fun K HK => ?_; unfold Oper.wp; simp only [execOp, e48]; go_simp; exact HK.out _ _ ⟨(), _, rfl, rfl, jr'.out, jz'.out, jq'.out, ja'.out, jb'.out⟩
          · intro _ L w' hL hpre hJ a ha
            obtain ⟨jr, jz, jq, ja, jb⟩ := hJ; simp [Region.binds] at hpre; refine .inl ⟨zaa rfl, ?_⟩; have e3 : a.eval (.tmp 3) = .pointer (some ⟨w.heap.size, 0, none⟩) := by rw [ha, zac rfl]; rfl
            clear ha; have jr' := Lib.hid jr; have jz' := Lib.hid jz; have jq' := Lib.hid jq; have ja' := Lib.hid ja; have jb' := Lib.hid jb; clear jr jz jq ja jb; refine zab fun K HK => ?_; unfold Oper.wp; simp only [execOp, e3]; go_simp; exact HK.out _ _ ⟨(), _, rfl, rfl, jr'.out, jz'.out, jq'.out, ja'.out, jb'.out⟩
          · intro _ L w' hL hpre hJ a ha
            obtain ⟨jr, jz, jq, ja, jb⟩ := hJ; simp [Region.binds] at hpre; refine .inl ⟨zaa rfl, ?_⟩; have e50 : a.eval (.tmp 50) = .pointer (some ⟨w.heap.size, 2, none⟩) := evP ha 4 rfl (by simp [hpre]) (by simp) rfl; clear ha; have cx := ja; have jr' := Lib.hid jr; have jz' := Lib.hid jz; have jq' := Lib.hid jq; have ja' := Lib.hid ja; have jb' := Lib.hid jb; clear jr jz jq ja jb; refine zab fun K HK => ?_; unfold Oper.wp; simp only [execOp, e50]; go_simp; exact HK.out _ _ ⟨(), _, rfl, rfl, jr'.out, jz'.out, jq'.out, ja'.out, jb'.out⟩
          · intro _ L w' hL hpre hJ a ha
            obtain ⟨jr, jz, jq, ja, jb⟩ := hJ; simp [Region.binds] at hpre; refine .inl ⟨zaa rfl, ?_⟩; have e49 : a.eval (.tmp 49) = .slice (some ⟨gc, 0, none⟩) M cc := evP ha 3 rfl (by simp [hpre]) (by simp) rfl; have e51 : a.eval (.tmp 51) = .int .i64 (p : Int) := evP ha 5 rfl (by simp [hpre]) (by simp) rfl; clear ha; have jr' := Lib.hid jr; have jz' := Lib.hid jz; have jq' := Lib.hid jq; have ja' := Lib.hid ja; have jb' := Lib.hid jb; clear jr jz jq ja jb; refine zab fun K HK => ?_; unfold Oper.wp; simp only [execOp, e49, e51]; go_simp; exact HK.out _ _ ⟨(), _, rfl, rfl, jr'.out, jz'.out, jq'.out, ja'.out, jb'.out⟩
          · intro _ L w' hL hpre hJ a ha
            obtain ⟨jr, jz, jq, ja, jb⟩ := hJ; simp [Region.binds] at hpre; refine .inl ⟨zaa rfl, ?_⟩; have e52 : a.eval (.tmp 52) = .pointer (some ⟨gc, p * 34, none⟩) := evP ha 6 rfl (by simp [hpre]) (by simp) rfl; clear ha; have jr' := Lib.hid jr; have jz' := Lib.hid jz; have jq' := Lib.hid jq; have ja' := Lib.hid ja; have jb' := Lib.hid jb; clear jr jz jq ja jb; refine zab fun K HK => ?_; unfold Oper.wp; simp only [execOp, e52]; go_simp; exact HK.out _ _ ⟨(), _, rfl, rfl, jr'.out, jz'.out, jq'.out, ja'.out, jb'.out⟩
          · intro _ L w' hL hpre hJ a ha
            obtain ⟨jr, jz, jq, ja, jb⟩ := hJ; simp [Region.binds] at hpre; refine .inl ⟨zaa rfl, ?_⟩; exact wp_load_mid 90 (.tmp 53) rfl gc (p * 34) (evP ha 7 rfl (by simp [hpre]) (by simp) rfl) (nats .u8 c.p) _ jr Tryz.underlying90 rfl (zbe HCl.out) ⟨(), _, rfl, rfl, jr, jz, jq, ja, jb⟩
          · intro _ L w' hL hpre hJ a ha
            obtain ⟨jr, jz, jq, ja, jb⟩ := hJ; simp [Region.binds] at hpre; refine .inl ⟨zaa rfl, ?_⟩; have e4 : a.eval (.tmp 4) = .pointer (some ⟨w.heap.size + 1, 0, none⟩) := by rw [ha, zac rfl]; rfl
            have e54 : a.eval (.tmp 54) = .agg (nats .u8 c.p).toArray := evP ha 8 rfl (by simp [hpre]) (by simp) rfl; rw [hL] at jz; refine wp_put_row' 90 (.tmp 4) (.tmp 54) rfl (w.heap.size + 1) (nats .u8 c.p) e4 e54 90 _ jz (zbe HCl.out) (by rw [zaj, HCl.out]; rfl) (za1 _ _) ?_; intro w'' hU; exact ⟨(), _, rfl, rfl, hU.range jr HNe.out.1, hU.at_, (World.cell?_of_block (hU.block qq HNe.out.2.1)).trans jq, (World.cell?_of_block (hU.block _ HNe.out.2.2)).trans ja, hU.below jb (by omega)⟩
          · intro _ L w' hL hpre hJ a ha
            obtain ⟨jr, jz, jq, ja, jb⟩ := hJ; simp [Region.binds] at hpre; refine .inl ⟨zaa rfl, ?_⟩; exact zah (.const (.int .i64 0)) (.inr rfl) (.int .i64 0) rfl ⟨(), _, rfl, rfl, jr, jz, jq, ja, jb⟩
        · intro _ L w' hL hJ
          obtain ⟨jr, jz, jq, ja, jb⟩ := hJ; have h9 := hL 9 (by decide); clear hL; simp only [List.foldl_cons, List.foldl_nil]; have hz9 := jz; rw [h9] at hz9; go_simp; go_wp2_with fail
          refine bodyPost_ret (v := .tuple #[.agg (nats .u8 c.p).toArray, .int .i64 0]) ?_ rfl ⟨by rw [HPz.out, HE.out], jb⟩; rw [zav rfl _ _ _ _ _ _ _ rfl hz9 Tryz.underlying90 rfl (zbe HCl.out)]; rfl
     · have hcg : bk.cells[p]? = none := List.getElem?_eq_none (by omega)
       rw [hcg] at hE0 hP0; have HE := Lib.hid hE0; have HPz := Lib.hid (show N.readP x = zero32 from hP0); have hplI : ¬ (p : Int) < (bk.cells.length : Int) := by omega
       have hplJ : (bk.cells.length : Int) ≤ (p : Int) := by omega
       clear hE0 hP0 hpg hrow hcg; generalize bk.cells.length = M at *; go_upto_region 5 with fail
       go_region
       have hz6 := HZq.out; go_wp2_with (first | (refine zao rfl 90 _ rfl [] rfl (nats .u8 zero32) hzb ?_) | (refine zai rfl 90 (.tmp 4) (.tmp 34) rfl (w.heap.size + 1) (nats .u8 zero32) rfl rfl 90 _ (show w'.drew.heap[w.heap.size + 1]? = _ from HZq.out) (zbe rfl) rfl (za1 _ _) ?_; intro w5 hU5; have h5 := hU5.at_; have hb5 := hU5.below HBq.out.drew (by omega); clear hU5))
       refine bodyPost_ret (v := .tuple #[.agg (nats .u8 zero32).toArray, .int .i64 5]) ?_ rfl ⟨by rw [HPz.out, HE.out], hb5⟩; rw [zav rfl _ _ _ _ _ _ _ rfl h5 Tryz.underlying90 rfl (zbe rfl)]; rfl
 · have HPz := Lib.hid (show N.readP x = zero32 by simp [Nd.readP, hr, zero32])
   have HE := Lib.hid (show N.readE x = N.refuses x by simp [Nd.readE, hr]); have hrI : (N.refuses x == 0) = false := by simpa using hr
   have hrJ : (N.refuses x != 0) = true := by simpa using hr
   generalize N.refuses x = rr at *; clear hr; have hz3 := HZ.out; go_wp2_with (first | (refine zao rfl 90 _ rfl [] rfl (nats .u8 zero32) hzb ?_) | (refine zai rfl 90 (.tmp 4) (.tmp 13) rfl (w.heap.size + 1) (nats .u8 zero32) rfl rfl 90 _ hz3 (zbe rfl) rfl (za1 _ _) ?_; intro w5 hU5; have h5 := hU5.at_; have hb5 := hU5.below HB.out (by omega); clear hU5))
   refine bodyPost_ret (v := .tuple #[.agg (nats .u8 zero32).toArray, .int .i64 rr]) ?_ rfl ⟨by rw [HPz.out, HE.out], hb5⟩; rw [zav rfl _ _ _ _ _ _ _ rfl h5 Tryz.underlying90 rfl (zbe rfl)]; rfl
end
end Go.Proofs.YtpbigfopmompfaaGreat.nand
namespace Go.Proofs.YtpbigfopmompfaaGreat.nand
open Go.RowKit
set_option linter.unusedVariables false
section
variable {w : World} {base g : Nat} {Y : Lay} {N : Nd}
set_option maxRecDepth 100000 in
theorem dead_any (h : NandAt w base g Y N) (d : Int) (h0 : 0 ≤ d) (h1 : d < N.D) : Calls Tryz.prog 84 #[.pointer (some ⟨g, 0, none⟩), .int .i64 d] w fun e w' => e = .returned (.bool (N.dead.getD d.toNat false)) ∧ w = w' := by
 have hnn := nonnil_eql
 have hg := h.ok.geo
 obtain ⟨D, rfl⟩ := Int.eq_ofNat_of_zero_le h0
 obtain ⟨gd, cd, ed, -, -, -, -⟩ := za7 h.body.dead (by omega)
 have hdl : D < N.dead.length := by rw [h.ok.dead]; omega
 have hown := h.body.dead
 rw [ed] at hown
 have cdd : w.cell? ⟨gd, D, none⟩ = some (.bool N.dead[D]) := by
  rw [hown.cellAt D (by omega), List.getElem?_map, List.getElem?_eq_getElem hdl]; rfl
 have c5 := h.c5
 rw [ed] at c5
 have HE := Lib.hid (show N.dead.getD (D : Int).toNat false = N.dead[D] by rw [Int.toNat_natCast, List.getD_eq_getElem?_getD, List.getElem?_eq_getElem hdl]; rfl)
 have hdI : (D : Int) < (N.D : Int) := by omega
 generalize N.dead[D] = bd at *
 clear h hown ed hdl h0 h1
 go_enter Tryz.func84, Tryz.ntmps84
 go_wp2_with fail
 go_ret
 exact ⟨by rw [HE.out]; rfl, rfl⟩
end
end Go.Proofs.YtpbigfopmompfaaGreat.nand
namespace Go.Proofs.YtpbigfopmompfaaGreat.nand
open Go.RowKit
set_option linter.unusedVariables false
section
variable {w : World} {base g : Nat} {Y : Lay} {N : Nd}
theorem bptr : Tryz.prog.underlying 116 = some (.pointer (Tryz.prog.pointee 116)) := by kernel_rfl
theorem bnonnil_eql (x : Addr) (w : World) : (binOp .eql 116 (.pointer (some x)) (.pointer none)).run Tryz.prog w = .ok (.bool false) w := run_eql_pointer_nil w 116 (some x) bptr
theorem look_db {w' : World} (h : NandAt w' base g Y N) {d b : Nat} (hd : d < N.D) (hb : b < N.B) : (Instr.lookup 110 (.map (some Y.mb)) (.agg (key (d : Int) (b : Int)).v.toArray) false).run Tryz.prog w' = .ok (.pointer (some ⟨Y.q d b, 0, none⟩)) w' := by
 obtain ⟨D, hm, hR⟩ := h.body.map
 have hg := h.ok.geo
 exact val_ad hm hR (key_wf (by omega) (by omega)) (h.body.has d b hd hb) Tryz.underlying110 (zero_blk w')
theorem blk_c0 {w' : World} (h : NandAt w' base g Y N) {d b : Nat} (hd : d < N.D) (hb : b < N.B) : w'.cell? ⟨Y.q d b, 0, none⟩ = some (Y.cv d b) := by rw [zaf (h.body.blk d b hd hb)]; rfl
theorem blk_c1 {w' : World} (h : NandAt w' base g Y N) {d b : Nat} (hd : d < N.D) (hb : b < N.B) : w'.cell? ⟨Y.q d b, 1, none⟩ = some (.int .i64 ((N.blk d b).worn : Int)) := by rw [zaf (h.body.blk d b hd hb)]; rfl
set_option maxRecDepth 100000 in
set_option maxHeartbeats 4000000 in
theorem next_any (h : NandAt w base g Y N) (d b : Nat) (hd : d < N.D) (hb : b < N.B) : Calls Tryz.prog 87 #[.pointer (some ⟨g, 0, none⟩), .int .i64 (d : Int), .int .i64 (b : Int)] w fun e w' => e = .returned (.int .i64 ((N.blk d b).cells.length : Int)) ∧ Below w.heap.size w w' := by
 have hnn := nonnil_eql
 obtain ⟨Ac, cc0, ecv, -, -⟩ := (h.body.rows d b hd hb).slice
 have HCv := Lib.hid ecv
 clear ecv
 go_enter Tryz.func87, Tryz.ntmps87
 go_upto_region 1 with fail
 refine zan (by kernel_rfl) (by kernel_rfl) (X := Unit) (fun _ => [(some 7, .pointer (some ⟨g, 0, none⟩)), (some 8, .bool false), (some 9, .bool false), (some 10, .pointer (some ⟨g, 0, none⟩)), (some 11, .pointer (some ⟨g, 0, none⟩)), (some 12, .pointer (some ⟨g, 3, none⟩)), (some 13, .map (some Y.mb)), (some 14, .int .i64 (d : Int)), (some 15, .int .i64 (b : Int)), (some 16, .agg (key (d : Int) (b : Int)).v.toArray), (some 17, .pointer (some ⟨Y.q d b, 0, none⟩)), (some 18, .bool false), (some 19, .bool false)])
  (fun _ L w' => NandAt w' base g Y N ∧ Below w.heap.size w w') (fun _ => rfl) (by kernel_rfl) ⟨(), fun _ _ => ⟨h.drew, (Below.refl _ w).drew⟩⟩ ?_ ?_
 · refine ⟨?_, ?_, ?_, ?_, ?_, ?_, ?_, ?_, ?_, ?_, ?_, ?_, ?_, trivial⟩
   · intro _ L w' hL hpre hJ a ha
     obtain ⟨jn, jb⟩ := hJ; simp [Region.binds] at hpre; refine .inl ⟨zaa rfl, ?_⟩; exact zah (.tmp 0) (.inl rfl) (.pointer (some ⟨g, 0, none⟩)) (by rw [ha, zac rfl]; rfl) ⟨(), _, rfl, rfl, jn, jb⟩
   · intro _ L w' hL hpre hJ a ha
     obtain ⟨jn, jb⟩ := hJ; simp [Region.binds] at hpre; refine .inl ⟨zaa rfl, ?_⟩; have e7 : a.eval (.tmp 7) = .pointer (some ⟨g, 0, none⟩) := evP ha 0 rfl (by simp [hpre]) (by simp) rfl; clear ha; have cc := nonnil_eql; have jn' := Lib.hid jn; have jb' := Lib.hid jb; clear jn jb; refine zab fun K HK => ?_; unfold Oper.wp; simp only [execOp, e7]; go_simp; exact HK.out _ _ ⟨(), _, rfl, rfl, jn'.out, jb'.out⟩
   · intro _ L w' hL hpre hJ a ha
     obtain ⟨jn, jb⟩ := hJ; simp [Region.binds] at hpre; refine .inl ⟨zaa rfl, ?_⟩; exact zah (.tmp 8) (.inl rfl) (.bool false) (evP ha 1 rfl (by simp [hpre]) (by simp) rfl) ⟨(), _, rfl, rfl, jn, jb⟩
   · intro _ L w' hL hpre hJ a ha
     obtain ⟨jn, jb⟩ := hJ; simp [Region.binds] at hpre; refine .inl ⟨zae (g := 2) (t := 9) (b := false) rfl rfl (evP ha 2 rfl (by simp [hpre]) (by simp) rfl), ?_⟩; exact zah (.tmp 0) (.inl rfl) (.pointer (some ⟨g, 0, none⟩)) (by rw [ha, zac rfl]; rfl) ⟨(), _, rfl, rfl, jn, jb⟩
   · intro _ L w' hL hpre hJ a ha
     obtain ⟨jn, jb⟩ := hJ; simp [Region.binds] at hpre; refine .inl ⟨zae (g := 2) (t := 9) (b := false) rfl rfl (evP ha 2 rfl (by simp [hpre]) (by simp) rfl), ?_⟩; have e10 : a.eval (.tmp 10) = .pointer (some ⟨g, 0, none⟩) := evP ha 3 rfl (by simp [hpre]) (by simp) rfl; clear ha; have jn' := Lib.hid jn; have jb' := Lib.hid jb; clear jn jb; refine zab fun K HK => ?_; unfold Oper.wp; simp only [execOp, e10]; go_simp; exact HK.out _ _ ⟨(), _, rfl, rfl, jn'.out, jb'.out⟩
   · intro _ L w' hL hpre hJ a ha
     obtain ⟨jn, jb⟩ := hJ; simp [Region.binds] at hpre; refine .inl ⟨zae (g := 2) (t := 9) (b := false) rfl rfl (evP ha 2 rfl (by simp [hpre]) (by simp) rfl), ?_⟩; have e11 : a.eval (.tmp 11) = .pointer (some ⟨g, 0, none⟩) := evP ha 4 rfl (by simp [hpre]) (by simp) rfl; clear ha; have jn' := Lib.hid jn; have jb' := Lib.hid jb; clear jn jb; refine zab fun K HK => ?_; unfold Oper.wp; simp only [execOp, e11]; go_simp; exact HK.out _ _ ⟨(), _, rfl, rfl, jn'.out, jb'.out⟩
   · intro _ L w' hL hpre hJ a ha
     obtain ⟨jn, jb⟩ := hJ; simp [Region.binds] at hpre; refine .inl ⟨zae (g := 2) (t := 9) (b := false) rfl rfl (evP ha 2 rfl (by simp [hpre]) (by simp) rfl), ?_⟩; have e12 : a.eval (.tmp 12) = .pointer (some ⟨g, 3, none⟩) := evP ha 5 rfl (by simp [hpre]) (by simp) rfl; clear ha; have cc := jn.c3; have jn' := Lib.hid jn; have jb' := Lib.hid jb; clear jn jb; refine zab fun K HK => ?_; unfold Oper.wp; simp only [execOp, e12]; go_simp; exact HK.out _ _ ⟨(), _, rfl, rfl, jn'.out, jb'.out⟩
   · intro _ L w' hL hpre hJ a ha
     obtain ⟨jn, jb⟩ := hJ; simp [Region.binds] at hpre; refine .inl ⟨zae (g := 2) (t := 9) (b := false) rfl rfl (evP ha 2 rfl (by simp [hpre]) (by simp) rfl), ?_⟩; exact zah (.tmp 1) (.inl rfl) (.int .i64 (d : Int)) (by rw [ha, zac rfl]; rfl) ⟨(), _, rfl, rfl, jn, jb⟩
   · intro _ L w' hL hpre hJ a ha
     obtain ⟨jn, jb⟩ := hJ; simp [Region.binds] at hpre; refine .inl ⟨zae (g := 2) (t := 9) (b := false) rfl rfl (evP ha 2 rfl (by simp [hpre]) (by simp) rfl), ?_⟩; exact zah (.tmp 2) (.inl rfl) (.int .i64 (b : Int)) (by rw [ha, zac rfl]; rfl) ⟨(), _, rfl, rfl, jn, jb⟩
   · intro _ L w' hL hpre hJ a ha
     obtain ⟨jn, jb⟩ := hJ; simp [Region.binds] at hpre; refine .inl ⟨zae (g := 2) (t := 9) (b := false) rfl rfl (evP ha 2 rfl (by simp [hpre]) (by simp) rfl), ?_⟩; have e14 : a.eval (.tmp 14) = .int .i64 (d : Int) := evP ha 7 rfl (by simp [hpre]) (by simp) rfl; have e15 : a.eval (.tmp 15) = .int .i64 (b : Int) := evP ha 8 rfl (by simp [hpre]) (by simp) rfl; clear ha; have jn' := Lib.hid jn; have jb' := Lib.hid jb; clear jn jb; refine zab fun K HK => ?_; unfold Oper.wp; simp only [execOp, resolve, List.map_toArray, List.map_cons, List.map_nil, e14, e15]; go_simp; refine (key_any (d : Int) (b : Int) w').mono ?_; rintro e w'' ⟨rfl, hb⟩; exact HK.out _ _ ⟨(), _, rfl, rfl, (NandAt.below jn'.out hb), jb'.out.trans (hb.mono jb'.out.size)⟩
   · intro _ L w' hL hpre hJ a ha
     obtain ⟨jn, jb⟩ := hJ; simp [Region.binds] at hpre; refine .inl ⟨zae (g := 2) (t := 9) (b := false) rfl rfl (evP ha 2 rfl (by simp [hpre]) (by simp) rfl), ?_⟩; have e13 : a.eval (.tmp 13) = .map (some Y.mb) := evP ha 6 rfl (by simp [hpre]) (by simp) rfl; have e16 : a.eval (.tmp 16) = .agg (key (d : Int) (b : Int)).v.toArray := evP ha 9 rfl (by simp [hpre]) (by simp) rfl; clear ha; have cc := look_db jn hd hb; have jn' := Lib.hid jn; have jb' := Lib.hid jb; clear jn jb; refine zab fun K HK => ?_; unfold Oper.wp; simp only [execOp, e13, e16]; go_simp; exact HK.out _ _ ⟨(), _, rfl, rfl, jn'.out, jb'.out⟩
   · intro _ L w' hL hpre hJ a ha
     obtain ⟨jn, jb⟩ := hJ; simp [Region.binds] at hpre; refine .inl ⟨zae (g := 2) (t := 9) (b := false) rfl rfl (evP ha 2 rfl (by simp [hpre]) (by simp) rfl), ?_⟩; have e17 : a.eval (.tmp 17) = .pointer (some ⟨Y.q d b, 0, none⟩) := evP ha 10 rfl (by simp [hpre]) (by simp) rfl; clear ha; have cc := bnonnil_eql; have jn' := Lib.hid jn; have jb' := Lib.hid jb; clear jn jb; refine zab fun K HK => ?_; unfold Oper.wp; simp only [execOp, e17]; go_simp; exact HK.out _ _ ⟨(), _, rfl, rfl, jn'.out, jb'.out⟩
   · intro _ L w' hL hpre hJ a ha
     obtain ⟨jn, jb⟩ := hJ; simp [Region.binds] at hpre; refine .inl ⟨zaa rfl, ?_⟩; have e9 : a.eval (.tmp 9) = .bool false := evP ha 2 rfl (by simp [hpre]) (by simp) rfl; have e18 : a.eval (.tmp 18) = .bool false := evP ha 11 rfl (by simp [hpre]) (by simp) rfl; clear ha; have jn' := Lib.hid jn; have jb' := Lib.hid jb; clear jn jb; refine zab fun K HK => ?_; unfold Oper.wp; simp only [execOp, e9, e18]; go_simp; exact HK.out _ _ ⟨(), _, rfl, rfl, jn'.out, jb'.out⟩
 · intro _ L w' hL hJ
   obtain ⟨jn, jb⟩ := hJ; clear hL; simp only [List.foldl_cons, List.foldl_nil]; go_simp; have HN1 := Lib.hid jn; have HB1 := Lib.hid jb; clear jn jb; go_upto_region 3 with fail
   refine zan (by kernel_rfl) (by kernel_rfl) (X := Unit) (fun _ => [(some 20, .pointer (some ⟨g, 0, none⟩)), (some 21, .pointer (some ⟨g, 0, none⟩)), (some 22, .pointer (some ⟨g, 3, none⟩)), (some 23, .map (some Y.mb)), (some 24, .int .i64 (d : Int)), (some 25, .int .i64 (b : Int)), (some 26, .agg (key (d : Int) (b : Int)).v.toArray), (some 27, .pointer (some ⟨Y.q d b, 0, none⟩)), (some 28, .pointer (some ⟨Y.q d b, 0, none⟩)), (some 29, .pointer (some ⟨Y.q d b, 0, none⟩)), (some 30, .slice Ac (N.blk d b).cells.length cc0), (some 31, .int .i64 ((N.blk d b).cells.length : Int)), (some 6, .int .i64 ((N.blk d b).cells.length : Int))])
    (fun _ L w' => NandAt w' base g Y N ∧ Below w.heap.size w w') (fun _ => rfl) (by kernel_rfl) ⟨(), fun _ _ => ⟨HN1.out.drew, HB1.out.drew⟩⟩ ?_ ?_
   · refine ⟨?_, ?_, ?_, ?_, ?_, ?_, ?_, ?_, ?_, ?_, ?_, ?_, ?_, trivial⟩
     · intro _ L w' hL hpre hJ a ha
       obtain ⟨jn, jb⟩ := hJ; simp [Region.binds] at hpre; refine .inl ⟨zaa rfl, ?_⟩; exact zah (.tmp 0) (.inl rfl) (.pointer (some ⟨g, 0, none⟩)) (by rw [ha, zac rfl]; rfl) ⟨(), _, rfl, rfl, jn, jb⟩
     · intro _ L w' hL hpre hJ a ha
       obtain ⟨jn, jb⟩ := hJ; simp [Region.binds] at hpre; refine .inl ⟨zaa rfl, ?_⟩; have e20 : a.eval (.tmp 20) = .pointer (some ⟨g, 0, none⟩) := evP ha 0 rfl (by simp [hpre]) (by simp) rfl; clear ha; have jn' := Lib.hid jn; have jb' := Lib.hid jb; clear jn jb; refine zab fun K HK => ?_; unfold Oper.wp; simp only [execOp, e20]; go_simp; exact HK.out _ _ ⟨(), _, rfl, rfl, jn'.out, jb'.out⟩
     · intro _ L w' hL hpre hJ a ha
       obtain ⟨jn, jb⟩ := hJ; simp [Region.binds] at hpre; refine .inl ⟨zaa rfl, ?_⟩; have e21 : a.eval (.tmp 21) = .pointer (some ⟨g, 0, none⟩) := evP ha 1 rfl (by simp [hpre]) (by simp) rfl; clear ha; have jn' := Lib.hid jn; have jb' := Lib.hid jb; clear jn jb; refine zab fun K HK => ?_; unfold Oper.wp; simp only [execOp, e21]; go_simp; exact HK.out _ _ ⟨(), _, rfl, rfl, jn'.out, jb'.out⟩
     · intro _ L w' hL hpre hJ a ha
       obtain ⟨jn, jb⟩ := hJ; simp [Region.binds] at hpre; refine .inl ⟨zaa rfl, ?_⟩; have e22 : a.eval (.tmp 22) = .pointer (some ⟨g, 3, none⟩) := evP ha 2 rfl (by simp [hpre]) (by simp) rfl; clear ha; have cc := jn.c3; have jn' := Lib.hid jn; have jb' := Lib.hid jb; clear jn jb; refine zab fun K HK => ?_; unfold Oper.wp; simp only [execOp, e22]; go_simp; exact HK.out _ _ ⟨(), _, rfl, rfl, jn'.out, jb'.out⟩
     · intro _ L w' hL hpre hJ a ha
       obtain ⟨jn, jb⟩ := hJ; simp [Region.binds] at hpre; refine .inl ⟨zaa rfl, ?_⟩; exact zah (.tmp 1) (.inl rfl) (.int .i64 (d : Int)) (by rw [ha, zac rfl]; rfl) ⟨(), _, rfl, rfl, jn, jb⟩
     · intro _ L w' hL hpre hJ a ha
       obtain ⟨jn, jb⟩ := hJ; simp [Region.binds] at hpre; refine .inl ⟨zaa rfl, ?_⟩; exact zah (.tmp 2) (.inl rfl) (.int .i64 (b : Int)) (by rw [ha, zac rfl]; rfl) ⟨(), _, rfl, rfl, jn, jb⟩
     · intro _ L w' hL hpre hJ a ha
       obtain ⟨jn, jb⟩ := hJ; simp [Region.binds] at hpre; refine .inl ⟨zaa rfl, ?_⟩; have e24 : a.eval (.tmp 24) = .int .i64 (d : Int) := evP ha 4 rfl (by simp [hpre]) (by simp) rfl; have e25 : a.eval (.tmp 25) = .int .i64 (b : Int) := evP ha 5 rfl (by simp [hpre]) (by simp) rfl; clear ha; have jn' := Lib.hid jn; have jb' := Lib.hid jb; clear jn jb; refine zab fun K HK => ?_; unfold Oper.wp; simp only [execOp, resolve, List.map_toArray, List.map_cons, List.map_nil, e24, e25]; go_simp; refine (key_any (d : Int) (b : Int) w').mono ?_; rintro e w'' ⟨rfl, hb⟩; exact HK.out _ _ ⟨(), _, rfl, rfl, (NandAt.below jn'.out hb), jb'.out.trans (hb.mono jb'.out.size)⟩
     · intro _ L w' hL hpre hJ a ha
       obtain ⟨jn, jb⟩ := hJ; simp [Region.binds] at hpre; refine .inl ⟨zaa rfl, ?_⟩; have e23 : a.eval (.tmp 23) = .map (some Y.mb) := evP ha 3 rfl (by simp [hpre]) (by simp) rfl; have e26 : a.eval (.tmp 26) = .agg (key (d : Int) (b : Int)).v.toArray := evP ha 6 rfl (by simp [hpre]) (by simp) rfl; clear ha; have cc := look_db jn hd hb; have jn' := Lib.hid jn; have jb' := Lib.hid jb; clear jn jb; refine zab fun K HK => ?_; unfold Oper.wp; simp only [execOp, e23, e26]; go_simp; exact HK.out _ _ ⟨(), _, rfl, rfl, jn'.out, jb'.out⟩
     · intro _ L w' hL hpre hJ a ha
       obtain ⟨jn, jb⟩ := hJ; simp [Region.binds] at hpre; refine .inl ⟨zaa rfl, ?_⟩; have e27 : a.eval (.tmp 27) = .pointer (some ⟨Y.q d b, 0, none⟩) := evP ha 7 rfl (by simp [hpre]) (by simp) rfl; clear ha; have jn' := Lib.hid jn; have jb' := Lib.hid jb; clear jn jb; refine zab fun K HK => ?_; unfold Oper.wp; simp only [execOp, e27]; go_simp; exact HK.out _ _ ⟨(), _, rfl, rfl, jn'.out, jb'.out⟩
     · intro _ L w' hL hpre hJ a ha
       obtain ⟨jn, jb⟩ := hJ; simp [Region.binds] at hpre; refine .inl ⟨zaa rfl, ?_⟩; have e28 : a.eval (.tmp 28) = .pointer (some ⟨Y.q d b, 0, none⟩) := evP ha 8 rfl (by simp [hpre]) (by simp) rfl; clear ha; have jn' := Lib.hid jn; have jb' := Lib.hid jb; clear jn jb; refine zab fun K HK => ?_; unfold Oper.wp; simp only [execOp, e28]; go_simp; exact HK.out _ _ ⟨(), _, rfl, rfl, jn'.out, jb'.out⟩
     · intro _ L w' hL hpre hJ a ha
       obtain ⟨jn, jb⟩ := hJ; simp [Region.binds] at hpre; refine .inl ⟨zaa rfl, ?_⟩; have e29 : a.eval (.tmp 29) = .pointer (some ⟨Y.q d b, 0, none⟩) := evP ha 9 rfl (by simp [hpre]) (by simp) rfl; clear ha; have cc := blk_c0 jn hd hb; rw [HCv.out] at cc; have jn' := Lib.hid jn; have jb' := Lib.hid jb; clear jn jb; refine zab fun K HK => ?_; unfold Oper.wp; simp only [execOp, e29]; go_simp; exact HK.out _ _ ⟨(), _, rfl, rfl, jn'.out, jb'.out⟩
     · intro _ L w' hL hpre hJ a ha
       obtain ⟨jn, jb⟩ := hJ; simp [Region.binds] at hpre; refine .inl ⟨zaa rfl, ?_⟩; have e30 : a.eval (.tmp 30) = .slice Ac (N.blk d b).cells.length cc0 := evP ha 10 rfl (by simp [hpre]) (by simp) rfl; clear ha; have jn' := Lib.hid jn; have jb' := Lib.hid jb; clear jn jb; refine zab fun K HK => ?_; unfold Oper.wp; simp only [execOp, resolve, List.map_toArray, List.map_cons, List.map_nil, e30]; go_simp; exact HK.out _ _ ⟨(), _, rfl, rfl, jn'.out, jb'.out⟩
     · intro _ L w' hL hpre hJ a ha
       obtain ⟨jn, jb⟩ := hJ; simp [Region.binds] at hpre; refine .inl ⟨zaa rfl, ?_⟩; exact zah (.tmp 31) (.inr rfl) (.int .i64 ((N.blk d b).cells.length : Int)) (evP ha 11 rfl (by simp [hpre]) (by simp) rfl) ⟨(), _, rfl, rfl, jn, jb⟩
   · intro _ L w' hL hJ
     obtain ⟨jn, jb⟩ := hJ; clear hL; simp only [List.foldl_cons, List.foldl_nil]; go_simp; go_wp2_with fail
     go_ret
     exact ⟨rfl, jb⟩
set_option maxRecDepth 100000 in
set_option maxHeartbeats 4000000 in
theorem worn_any (h : NandAt w base g Y N) (d b : Nat) (hd : d < N.D) (hb : b < N.B) : Calls Tryz.prog 85 #[.pointer (some ⟨g, 0, none⟩), .int .i64 (d : Int), .int .i64 (b : Int)] w fun e w' => e = .returned (.int .i64 ((N.blk d b).worn : Int)) ∧ Below w.heap.size w w' := by
 have hnn := nonnil_eql
 obtain ⟨Ac, cc0, ecv, -, -⟩ := (h.body.rows d b hd hb).slice
 have HCv := Lib.hid ecv
 clear ecv
 go_enter Tryz.func85, Tryz.ntmps85
 go_upto_region 1 with fail
 refine zan (by kernel_rfl) (by kernel_rfl) (X := Unit) (fun _ => [(some 7, .pointer (some ⟨g, 0, none⟩)), (some 8, .bool false), (some 9, .bool false), (some 10, .pointer (some ⟨g, 0, none⟩)), (some 11, .pointer (some ⟨g, 0, none⟩)), (some 12, .pointer (some ⟨g, 3, none⟩)), (some 13, .map (some Y.mb)), (some 14, .int .i64 (d : Int)), (some 15, .int .i64 (b : Int)), (some 16, .agg (key (d : Int) (b : Int)).v.toArray), (some 17, .pointer (some ⟨Y.q d b, 0, none⟩)), (some 18, .bool false), (some 19, .bool false)])
  (fun _ L w' => NandAt w' base g Y N ∧ Below w.heap.size w w') (fun _ => rfl) (by kernel_rfl) ⟨(), fun _ _ => ⟨h.drew, (Below.refl _ w).drew⟩⟩ ?_ ?_
 · refine ⟨?_, ?_, ?_, ?_, ?_, ?_, ?_, ?_, ?_, ?_, ?_, ?_, ?_, trivial⟩
   · intro _ L w' hL hpre hJ a ha
     obtain ⟨jn, jb⟩ := hJ; simp [Region.binds] at hpre; refine .inl ⟨zaa rfl, ?_⟩; exact zah (.tmp 0) (.inl rfl) (.pointer (some ⟨g, 0, none⟩)) (by rw [ha, zac rfl]; rfl) ⟨(), _, rfl, rfl, jn, jb⟩
   · intro _ L w' hL hpre hJ a ha
     obtain ⟨jn, jb⟩ := hJ; simp [Region.binds] at hpre; refine .inl ⟨zaa rfl, ?_⟩; have e7 : a.eval (.tmp 7) = .pointer (some ⟨g, 0, none⟩) := evP ha 0 rfl (by simp [hpre]) (by simp) rfl; clear ha; have cc := nonnil_eql; have jn' := Lib.hid jn; have jb' := Lib.hid jb; clear jn jb; refine zab fun K HK => ?_; unfold Oper.wp; simp only [execOp, e7]; go_simp; exact HK.out _ _ ⟨(), _, rfl, rfl, jn'.out, jb'.out⟩
   · intro _ L w' hL hpre hJ a ha
     obtain ⟨jn, jb⟩ := hJ; simp [Region.binds] at hpre; refine .inl ⟨zaa rfl, ?_⟩; exact zah (.tmp 8) (.inl rfl) (.bool false) (evP ha 1 rfl (by simp [hpre]) (by simp) rfl) ⟨(), _, rfl, rfl, jn, jb⟩
   · intro _ L w' hL hpre hJ a ha
     obtain ⟨jn, jb⟩ := hJ; simp [Region.binds] at hpre; refine .inl ⟨zae (g := 2) (t := 9) (b := false) rfl rfl (evP ha 2 rfl (by simp [hpre]) (by simp) rfl), ?_⟩; exact zah (.tmp 0) (.inl rfl) (.pointer (some ⟨g, 0, none⟩)) (by rw [ha, zac rfl]; rfl) ⟨(), _, rfl, rfl, jn, jb⟩
   · intro _ L w' hL hpre hJ a ha
     obtain ⟨jn, jb⟩ := hJ; simp [Region.binds] at hpre; refine .inl ⟨zae (g := 2) (t := 9) (b := false) rfl rfl (evP ha 2 rfl (by simp [hpre]) (by simp) rfl), ?_⟩; have e10 : a.eval (.tmp 10) = .pointer (some ⟨g, 0, none⟩) := evP ha 3 rfl (by simp [hpre]) (by simp) rfl; clear ha; have jn' := Lib.hid jn; have jb' := Lib.hid jb; clear jn jb; refine zab fun K HK => ?_; unfold Oper.wp; simp only [execOp, e10]; go_simp; exact HK.out _ _ ⟨(), _, rfl, rfl, jn'.out, jb'.out⟩
   · intro _ L w' hL hpre hJ a ha
     obtain ⟨jn, jb⟩ := hJ; simp [Region.binds] at hpre; refine .inl ⟨zae (g := 2) (t := 9) (b := false) rfl rfl (evP ha 2 rfl (by simp [hpre]) (by simp) rfl), ?_⟩; have e11 : a.eval (.tmp 11) = .pointer (some ⟨g, 0, none⟩) := evP ha 4 rfl (by simp [hpre]) (by simp) rfl; clear ha; have jn' := Lib.hid jn; have jb' := Lib.hid jb; clear jn jb; refine zab fun K HK => ?_; unfold Oper.wp; simp only [execOp, e11]; go_simp; exact HK.out _ _ ⟨(), _, rfl, rfl, jn'.out, jb'.out⟩
   · intro _ L w' hL hpre hJ a ha
     obtain ⟨jn, jb⟩ := hJ; simp [Region.binds] at hpre; refine .inl ⟨zae (g := 2) (t := 9) (b := false) rfl rfl (evP ha 2 rfl (by simp [hpre]) (by simp) rfl), ?_⟩; have e12 : a.eval (.tmp 12) = .pointer (some ⟨g, 3, none⟩) := evP ha 5 rfl (by simp [hpre]) (by simp) rfl; clear ha; have cc := jn.c3; have jn' := Lib.hid jn; have jb' := Lib.hid jb; clear jn jb; refine zab fun K HK => ?_; unfold Oper.wp; simp only [execOp, e12]; go_simp; exact HK.out _ _ ⟨(), _, rfl, rfl, jn'.out, jb'.out⟩
   · intro _ L w' hL hpre hJ a ha
     obtain ⟨jn, jb⟩ := hJ; simp [Region.binds] at hpre; refine .inl ⟨zae (g := 2) (t := 9) (b := false) rfl rfl (evP ha 2 rfl (by simp [hpre]) (by simp) rfl), ?_⟩; exact zah (.tmp 1) (.inl rfl) (.int .i64 (d : Int)) (by rw [ha, zac rfl]; rfl) ⟨(), _, rfl, rfl, jn, jb⟩
   · intro _ L w' hL hpre hJ a ha
     obtain ⟨jn, jb⟩ := hJ; simp [Region.binds] at hpre; refine .inl ⟨zae (g := 2) (t := 9) (b := false) rfl rfl (evP ha 2 rfl (by simp [hpre]) (by simp) rfl), ?_⟩; exact zah (.tmp 2) (.inl rfl) (.int .i64 (b : Int)) (by rw [ha, zac rfl]; rfl) ⟨(), _, rfl, rfl, jn, jb⟩
   · intro _ L w' hL hpre hJ a ha
     obtain ⟨jn, jb⟩ := hJ; simp [Region.binds] at hpre; refine .inl ⟨zae (g := 2) (t := 9) (b := false) rfl rfl (evP ha 2 rfl (by simp [hpre]) (by simp) rfl), ?_⟩; have e14 : a.eval (.tmp 14) = .int .i64 (d : Int) := evP ha 7 rfl (by simp [hpre]) (by simp) rfl; have e15 : a.eval (.tmp 15) = .int .i64 (b : Int) := evP ha 8 rfl (by simp [hpre]) (by simp) rfl; clear ha; have jn' := Lib.hid jn; have jb' := Lib.hid jb; clear jn jb; refine zab fun K HK => ?_; unfold Oper.wp; simp only [execOp, resolve, List.map_toArray, List.map_cons, List.map_nil, e14, e15]; go_simp; refine (key_any (d : Int) (b : Int) w').mono ?_; rintro e w'' ⟨rfl, hb⟩; exact HK.out _ _ ⟨(), _, rfl, rfl, (NandAt.below jn'.out hb), jb'.out.trans (hb.mono jb'.out.size)⟩
   · intro _ L w' hL hpre hJ a ha
     obtain ⟨jn, jb⟩ := hJ; simp [Region.binds] at hpre; refine .inl ⟨zae (g := 2) (t := 9) (b := false) rfl rfl (evP ha 2 rfl (by simp [hpre]) (by simp) rfl), ?_⟩; have e13 : a.eval (.tmp 13) = .map (some Y.mb) := evP ha 6 rfl (by simp [hpre]) (by simp) rfl; have e16 : a.eval (.tmp 16) = .agg (key (d : Int) (b : Int)).v.toArray := evP ha 9 rfl (by simp [hpre]) (by simp) rfl; clear ha; have cc := look_db jn hd hb; have jn' := Lib.hid jn; have jb' := Lib.hid jb; clear jn jb; refine zab fun K HK => ?_; unfold Oper.wp; simp only [execOp, e13, e16]; go_simp; exact HK.out _ _ ⟨(), _, rfl, rfl, jn'.out, jb'.out⟩
   · intro _ L w' hL hpre hJ a ha
     obtain ⟨jn, jb⟩ := hJ; simp [Region.binds] at hpre; refine .inl ⟨zae (g := 2) (t := 9) (b := false) rfl rfl (evP ha 2 rfl (by simp [hpre]) (by simp) rfl), ?_⟩; have e17 : a.eval (.tmp 17) = .pointer (some ⟨Y.q d b, 0, none⟩) := evP ha 10 rfl (by simp [hpre]) (by simp) rfl; clear ha; have cc := bnonnil_eql; have jn' := Lib.hid jn; have jb' := Lib.hid jb; clear jn jb; refine zab fun K HK => ?_; unfold Oper.wp; simp only [execOp, e17]; go_simp; exact HK.out _ _ ⟨(), _, rfl, rfl, jn'.out, jb'.out⟩
   · intro _ L w' hL hpre hJ a ha
     obtain ⟨jn, jb⟩ := hJ; simp [Region.binds] at hpre; refine .inl ⟨zaa rfl, ?_⟩; have e9 : a.eval (.tmp 9) = .bool false := evP ha 2 rfl (by simp [hpre]) (by simp) rfl; have e18 : a.eval (.tmp 18) = .bool false := evP ha 11 rfl (by simp [hpre]) (by simp) rfl; clear ha; have jn' := Lib.hid jn; have jb' := Lib.hid jb; clear jn jb; refine zab fun K HK => ?_; unfold Oper.wp; simp only [execOp, e9, e18]; go_simp; exact HK.out _ _ ⟨(), _, rfl, rfl, jn'.out, jb'.out⟩
 · intro _ L w' hL hJ
   obtain ⟨jn, jb⟩ := hJ; clear hL; simp only [List.foldl_cons, List.foldl_nil]; go_simp; have HN1 := Lib.hid jn; have HB1 := Lib.hid jb; clear jn jb; go_upto_region 3 with fail
   refine zan (by kernel_rfl) (by kernel_rfl) (X := Unit) (fun _ => [(some 20, .pointer (some ⟨g, 0, none⟩)), (some 21, .pointer (some ⟨g, 0, none⟩)), (some 22, .pointer (some ⟨g, 3, none⟩)), (some 23, .map (some Y.mb)), (some 24, .int .i64 (d : Int)), (some 25, .int .i64 (b : Int)), (some 26, .agg (key (d : Int) (b : Int)).v.toArray), (some 27, .pointer (some ⟨Y.q d b, 0, none⟩)), (some 28, .pointer (some ⟨Y.q d b, 0, none⟩)), (some 29, .pointer (some ⟨Y.q d b, 1, none⟩)), (some 30, .int .i64 ((N.blk d b).worn : Int)), (some 6, .int .i64 ((N.blk d b).worn : Int))])
    (fun _ L w' => NandAt w' base g Y N ∧ Below w.heap.size w w') (fun _ => rfl) (by kernel_rfl) ⟨(), fun _ _ => ⟨HN1.out.drew, HB1.out.drew⟩⟩ ?_ ?_
   · refine ⟨?_, ?_, ?_, ?_, ?_, ?_, ?_, ?_, ?_, ?_, ?_, ?_, trivial⟩
     · intro _ L w' hL hpre hJ a ha
       obtain ⟨jn, jb⟩ := hJ; simp [Region.binds] at hpre; refine .inl ⟨zaa rfl, ?_⟩; exact zah (.tmp 0) (.inl rfl) (.pointer (some ⟨g, 0, none⟩)) (by rw [ha, zac rfl]; rfl) ⟨(), _, rfl, rfl, jn, jb⟩
     · intro _ L w' hL hpre hJ a ha
       obtain ⟨jn, jb⟩ := hJ; simp [Region.binds] at hpre; refine .inl ⟨zaa rfl, ?_⟩; have e20 : a.eval (.tmp 20) = .pointer (some ⟨g, 0, none⟩) := evP ha 0 rfl (by simp [hpre]) (by simp) rfl; clear ha; have jn' := Lib.hid jn; have jb' := Lib.hid jb; clear jn jb; refine zab fun K HK => ?_; unfold Oper.wp; simp only [execOp, e20]; go_simp; exact HK.out _ _ ⟨(), _, rfl, rfl, jn'.out, jb'.out⟩
     · intro _ L w' hL hpre hJ a ha
       obtain ⟨jn, jb⟩ := hJ; simp [Region.binds] at hpre; refine .inl ⟨zaa rfl, ?_⟩; have e21 : a.eval (.tmp 21) = .pointer (some ⟨g, 0, none⟩) := evP ha 1 rfl (by simp [hpre]) (by simp) rfl; clear ha; have jn' := Lib.hid jn; have jb' := Lib.hid jb; clear jn jb; refine zab fun K HK => ?_; unfold Oper.wp; simp only [execOp, e21]; go_simp; exact HK.out _ _ ⟨(), _, rfl, rfl, jn'.out, jb'.out⟩
     · intro _ L w' hL hpre hJ a ha
       obtain ⟨jn, jb⟩ := hJ; simp [Region.binds] at hpre; refine .inl ⟨zaa rfl, ?_⟩; have e22 : a.eval (.tmp 22) = .pointer (some ⟨g, 3, none⟩) := evP ha 2 rfl (by simp [hpre]) (by simp) rfl; clear ha; have cc := jn.c3; have jn' := Lib.hid jn; have jb' := Lib.hid jb; clear jn jb; refine zab fun K HK => ?_; unfold Oper.wp; simp only [execOp, e22]; go_simp; exact HK.out _ _ ⟨(), _, rfl, rfl, jn'.out, jb'.out⟩
     · intro _ L w' hL hpre hJ a ha
       obtain ⟨jn, jb⟩ := hJ; simp [Region.binds] at hpre; refine .inl ⟨zaa rfl, ?_⟩; exact zah (.tmp 1) (.inl rfl) (.int .i64 (d : Int)) (by rw [ha, zac rfl]; rfl) ⟨(), _, rfl, rfl, jn, jb⟩
     · intro _ L w' hL hpre hJ a ha
       obtain ⟨jn, jb⟩ := hJ; simp [Region.binds] at hpre; refine .inl ⟨zaa rfl, ?_⟩; exact zah (.tmp 2) (.inl rfl) (.int .i64 (b : Int)) (by rw [ha, zac rfl]; rfl) ⟨(), _, rfl, rfl, jn, jb⟩
     · intro _ L w' hL hpre hJ a ha
       obtain ⟨jn, jb⟩ := hJ; simp [Region.binds] at hpre; refine .inl ⟨zaa rfl, ?_⟩; have e24 : a.eval (.tmp 24) = .int .i64 (d : Int) := evP ha 4 rfl (by simp [hpre]) (by simp) rfl; have e25 : a.eval (.tmp 25) = .int .i64 (b : Int) := evP ha 5 rfl (by simp [hpre]) (by simp) rfl; clear ha; have jn' := Lib.hid jn; have jb' := Lib.hid jb; clear jn jb; refine zab fun K HK => ?_; unfold Oper.wp; simp only [execOp, resolve, List.map_toArray, List.map_cons, List.map_nil, e24, e25]; go_simp; refine (key_any (d : Int) (b : Int) w').mono ?_; rintro e w'' ⟨rfl, hb⟩; exact HK.out _ _ ⟨(), _, rfl, rfl, (NandAt.below jn'.out hb), jb'.out.trans (hb.mono jb'.out.size)⟩
     · intro _ L w' hL hpre hJ a ha
       obtain ⟨jn, jb⟩ := hJ; simp [Region.binds] at hpre; refine .inl ⟨zaa rfl, ?_⟩; have e23 : a.eval (.tmp 23) = .map (some Y.mb) := evP ha 3 rfl (by simp [hpre]) (by simp) rfl; have e26 : a.eval (.tmp 26) = .agg (key (d : Int) (b : Int)).v.toArray := evP ha 6 rfl (by simp [hpre]) (by simp) rfl; clear ha; have cc := look_db jn hd hb; have jn' := Lib.hid jn; have jb' := Lib.hid jb; clear jn jb; refine zab fun K HK => ?_; unfold Oper.wp; simp only [execOp, e23, e26]; go_simp; exact HK.out _ _ ⟨(), _, rfl, rfl, jn'.out, jb'.out⟩
     · intro _ L w' hL hpre hJ a ha
       obtain ⟨jn, jb⟩ := hJ; simp [Region.binds] at hpre; refine .inl ⟨zaa rfl, ?_⟩; have e27 : a.eval (.tmp 27) = .pointer (some ⟨Y.q d b, 0, none⟩) := evP ha 7 rfl (by simp [hpre]) (by simp) rfl; clear ha; have jn' := Lib.hid jn; have jb' := Lib.hid jb; clear jn jb; refine zab fun K HK => ?_; unfold Oper.wp; simp only [execOp, e27]; go_simp; exact HK.out _ _ ⟨(), _, rfl, rfl, jn'.out, jb'.out⟩
     · intro _ L w' hL hpre hJ a ha
       obtain ⟨jn, jb⟩ := hJ; simp [Region.binds] at hpre; refine .inl ⟨zaa rfl, ?_⟩; have e28 : a.eval (.tmp 28) = .pointer (some ⟨Y.q d b, 0, none⟩) := evP ha 8 rfl (by simp [hpre]) (by simp) rfl; clear ha; have jn' := Lib.hid jn; have jb' := Lib.hid jb; clear jn jb; refine zab fun K HK => ?_; unfold Oper.wp; simp only [execOp, e28]; go_simp; exact HK.out _ _ ⟨(), _, rfl, rfl, jn'.out, jb'.out⟩
     · intro _ L w' hL hpre hJ a ha
       obtain ⟨jn, jb⟩ := hJ; simp [Region.binds] at hpre; refine .inl ⟨zaa rfl, ?_⟩; have e29 : a.eval (.tmp 29) = .pointer (some ⟨Y.q d b, 1, none⟩) := evP ha 9 rfl (by simp [hpre]) (by simp) rfl; clear ha; have cc := blk_c1 jn hd hb; have jn' := Lib.hid jn; have jb' := Lib.hid jb; clear jn jb; refine zab fun K HK => ?_; unfold Oper.wp; simp only [execOp, e29]; go_simp; exact HK.out _ _ ⟨(), _, rfl, rfl, jn'.out, jb'.out⟩
     · intro _ L w' hL hpre hJ a ha
       obtain ⟨jn, jb⟩ := hJ; simp [Region.binds] at hpre; refine .inl ⟨zaa rfl, ?_⟩; exact zah (.tmp 30) (.inr rfl) (.int .i64 ((N.blk d b).worn : Int)) (evP ha 10 rfl (by simp [hpre]) (by simp) rfl) ⟨(), _, rfl, rfl, jn, jb⟩
   · intro _ L w' hL hJ
     obtain ⟨jn, jb⟩ := hJ; clear hL; simp only [List.foldl_cons, List.foldl_nil]; go_simp; go_wp2_with fail
     go_ret
     exact ⟨rfl, jb⟩
end
end Go.Proofs.YtpbigfopmompfaaGreat.nand
namespace Go.Proofs.YtpbigfopmompfaaGreat.nand
open Go.RowKit
set_option linter.unusedVariables false
end Go.Proofs.YtpbigfopmompfaaGreat.nand
namespace Go.Proofs.YtpbigfopmompfaaGreat.nand
open Go.RowKit
set_option linter.unusedVariables false
end Go.Proofs.YtpbigfopmompfaaGreat.nand
namespace Go.Proofs.YtpbigfopmompfaaGreat.nand
open Go.RowKit
set_option linter.unusedVariables false
end Go.Proofs.YtpbigfopmompfaaGreat.nand
namespace Go.Proofs.YtpbigfopmompfaaGreat.nand
open Go.RowKit
set_option linter.unusedVariables false
def geoV (d b p : Int) : List Value := [.int .i64 d, .int .i64 b, .int .i64 p]
theorem geo_one (d b p : Int) : ∀ v ∈ geoV d b p, v.oneCell' = true := by simp [geoV, Value.oneCell']
set_option maxRecDepth 100000 in
theorem geo_any {w : World} {base g : Nat} {Y : Lay} {N : Nd} (h : NandAt w base g Y N) : Calls Tryz.prog 83 #[.pointer (some ⟨g, 0, none⟩)] w fun e w' => e = .returned (.agg (geoV N.D N.B N.P).toArray) ∧ Below w.heap.size w w' := by
 have h1 := nonnil_eql
 have hbel := (Below.refl _ w).alloc (Nat.le_refl _) (.cells #[.int .i64 0, .int .i64 0, .int .i64 0] 39)
 have hr := geo_range (h.below hbel)
 clear h
 go_enter Tryz.func83, Tryz.ntmps83
 go_wp2_with (first | (refine wpList_load_mid rfl 39 (.tmp 8) rfl g 0 rfl (geoV N.D N.B N.P) _ hr Tryz.underlying39 rfl geoInfo ?_) | (refine zai rfl 39 (.tmp 2) (.tmp 9) rfl w.heap.size (geoV N.D N.B N.P) rfl rfl 39 _ (zak w _ _ rfl) geoInfo rfl (geo_one _ _ _) ?_; intro w5 hU5; have h5 := hU5.at_; have hb5 := hU5.below hbel (Nat.le_refl _); clear hU5))
 refine bodyPost_ret (v := .agg (geoV N.D N.B N.P).toArray) ?_ rfl ⟨rfl, hb5⟩
 rw [results_row1 rfl _ _ _ _ _ _ _ rfl h5 Tryz.underlying39 rfl geoInfo]
end Go.Proofs.YtpbigfopmompfaaGreat.nand
