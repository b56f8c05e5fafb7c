import Derived.Test.YtpbigfopmompfaaGreatRegion
import Derived.Test.YtpbigfopmompfaaGreatMem
/- What a claim's proof leans on: Region2, Region3. -/
namespace Go.Proofs.YtpbigfopmompfaaGreat
open Go.RowKit
set_option linter.unusedVariables false
def puts (L : Nat → Bool) : Nat → List (Option Tmp × Value) → Act → Act
 | _, [], a => a
 | k, p :: r, a => puts L (k + 1) r (if L k then a.put p.1 p.2 else a)
def distinctB : List (Option Tmp) → Bool
 | [] => true
 | d :: r => (d == none || !r.contains d) && distinctB r
theorem puts_put (L : Nat → Bool) : ∀ (k : Nat) (vs : List (Option Tmp × Value)) (a : Act) (d : Option Tmp) (v : Value), (d == none || !(vs.map (·.1)).contains d) = true → puts L k vs (a.put d v) = (puts L k vs a).put d v
 | _, [], _, _, _, _ => rfl
 | k, p :: r, a, d, v, h => by
  have hr : (d == none || !(r.map (·.1)).contains d) = true := by
   simp only [List.map_cons, List.contains_cons, Bool.or_eq_true, Bool.not_eq_true', Bool.or_eq_false_iff] at h ⊢; rcases h with h | h
   · exact .inl h
   · exact .inr h.2
  unfold puts; cases hL : L k with
  | false => simpa using puts_put L (k + 1) r a d v hr
  | true =>
   have hc : (a.put d v).put p.1 p.2 = (a.put p.1 p.2).put d v := Act.put_comm a v p.2 fun e he => by
    subst he; simp only [List.map_cons, List.contains_cons, Bool.or_eq_true, Bool.not_eq_true', Bool.or_eq_false_iff] at h; rcases h with h | h
    · cases h
    · intro e'; rw [e'] at h; simp at h
   simp only [if_true, hc]; exact puts_put L (k + 1) r _ d v hr
theorem puts_congr {L L' : Nat → Bool} : ∀ {k : Nat} {vs : List (Option Tmp × Value)} {a : Act}, (∀ j, k ≤ j → L j = L' j) → puts L k vs a = puts L' k vs a
 | _, [], _, _ => rfl
 | k, p :: r, a, h => by
  unfold puts; rw [h k (Nat.le_refl _)]; exact puts_congr fun j hj => h j (by omega)
theorem puts_do {L : Nat → Bool} : ∀ {k i : Nat} {vs : List (Option Tmp × Value)} {a : Act} {d : Option Tmp} {v : Value}, i < vs.length → (vs.map (·.1))[i]? = some d → distinctB (vs.map (·.1)) = true → L (k + i) = false →
 (puts L k vs a).put d v = puts (also L (k + i)) k (vs.set i (d, v)) a
 | k, 0, p :: r, a, d, v, _, hd, hdis, hL => by
  simp at hd; subst hd; rw [Nat.add_zero] at hL ⊢; simp only [List.map_cons, distinctB, Bool.and_eq_true] at hdis; rw [List.set_cons_zero]; unfold puts; have h1 : also L k k = true := by simp [also]
  rw [hL, h1]; simp only [if_true, Bool.false_eq_true, if_false]; rw [← puts_put L (k + 1) r a p.1 v hdis.1]; exact puts_congr fun j hj => by simp [also]; omega
 | k, i + 1, p :: r, a, d, v, hi, hd, hdis, hL => by
  simp only [List.map_cons, distinctB, Bool.and_eq_true] at hdis; rw [List.set_cons_succ]; unfold puts; have h1 : also L (k + (i + 1)) k = L k := by simp [also]
  rw [h1]; have := puts_do (L := L) (k := k + 1) (i := i) (vs := r) (a := if L k then a.put p.1 p.2 else a) (d := d) (v := v) (by simpa using hi) (by simpa using hd) hdis.2 (by rw [← hL]; congr 1; omega); rw [this]; congr 2; omega
theorem puts_all {L : Nat → Bool} : ∀ {k : Nat} {vs : List (Option Tmp × Value)} {a : Act}, (∀ j, k ≤ j → j < k + vs.length → L j = true) → puts L k vs a = vs.foldl (fun a p => a.put p.1 p.2) a
 | _, [], _, _ => rfl
 | k, p :: r, a, h => by
  unfold puts; rw [h k (Nat.le_refl _) (by simp), List.foldl_cons]; exact puts_all fun j h1 h2 => h j (by omega) (by simp; omega)
theorem puts_none {L : Nat → Bool} : ∀ {k : Nat} {vs : List (Option Tmp × Value)} {a : Act}, (∀ j, L j = false) → puts L k vs a = a
 | _, [], _, _ => rfl
 | k, p :: r, a, h => by
  unfold puts; rw [h k]; exact puts_none h
theorem zac {L : Nat → Bool} {t : Tmp} : ∀ {k : Nat} {vs : List (Option Tmp × Value)} {a : Act}, (vs.map (·.1)).contains (some t) = false → (puts L k vs a).eval (.tmp t) = a.eval (.tmp t)
 | _, [], _, _ => rfl
 | k, p :: r, a, h => by
  simp only [List.map_cons, List.contains_cons, Bool.or_eq_false_iff] at h; unfold puts; rw [zac h.2]; split
  · exact Act.eval_put fun d hd e => by injection e with e; subst e; rw [hd] at h; simp at h
  · rfl
theorem za2 {L : Nat → Bool} {t : Tmp} {v : Value} : ∀ {k i : Nat} {vs : List (Option Tmp × Value)} {a : Act}, vs[i]? = some (some t, v) → L (k + i) = true → t < a.tmps.size → distinctB (vs.map (·.1)) = true → (puts L k vs a).eval (.tmp t) = v
 | _, i, [], _, h, _, _, _ => by simp at h
 | k, 0, p :: r, a, h, hL, ht, hdis => by
  simp at h; subst h; simp only [List.map_cons, distinctB, Bool.and_eq_true] at hdis; unfold puts; rw [Nat.add_zero] at hL; rw [hL, zac (by simpa using hdis.1)]; simp [Act.eval, Act.put, ht]
 | k, i + 1, p :: r, a, h, hL, ht, hdis => by
  simp only [List.map_cons, distinctB, Bool.and_eq_true] at hdis; unfold puts; refine za2 (i := i) (by simpa using h) (by rw [← hL]; congr 1; omega) ?_ hdis.2; split
  · cases p.1 <;> simp [Act.put, ht]
  · exact ht
theorem evP {L : Nat → Bool} {t : Tmp} {v : Value} {vs : List (Option Tmp × Value)} {a a0 : Act} (ha : a = puts L 0 vs a0) (i : Nat) (h : vs[i]? = some (some t, v)) (hL : L i = true) (ht : t < a0.tmps.size) (hd : distinctB (vs.map (·.1)) = true) : a.eval (.tmp t) = v := by
 rw [ha]; exact za2 (i := i) h (by rw [Nat.zero_add]; exact hL) ht hd
section
variable {P : Program} {o : Oper} {a : Act} {w : World} {K : Act → World → Prop} {Q : Exit → Act → World → Prop}
theorem zab {R : Act → World → Prop} (h : ∀ K, Hid (∀ a w, R a w → K a w) → o.wp P a w K Q) : o.wp P a w R Q := h R (Lib.hid fun _ _ h => h)
theorem zah (x : Operand) (ho : o.op = .move x ∨ o.op = .assign x) (v : Value) (hv : a.eval x = v) (h : K (a.put o.dst v) w) : o.wp P a w K Q := by
 unfold Oper.wp execOp
 rcases ho with ho | ho <;> (simp only [ho, Sem.run_pure, hv]; exact h)
theorem wp_extract' (x : Operand) (i : Nat) (ho : o.op = .extract x i) (vs : Array Value) (hx : a.eval x = .tuple vs) (v : Value) (hv : vs[i]? = some v) (h : K (a.put o.dst v) w) : o.wp P a w K Q := by
 unfold Oper.wp execOp
 simp only [ho, hx, Instr.extract, hv, Sem.run_bind, Sem.run_pure, Result.andThen_ok]
 exact h
theorem wp_alloc' (e : TypeId) (ho : o.op = .alloc e) (z : Value) (s b : Nat) (hi : (P.info? e).map (fun i => (i.zero, i.size, i.bytes)) = some (some z, s, b)) (h : K (a.put o.dst (.pointer (some ⟨w.heap.size, 0, none⟩))) (w.alloc (.cells z.cells e))) : o.wp P a w K Q := by
 obtain ⟨i, hi, hz, -, -⟩ := info_parts hi
 unfold Oper.wp execOp
 have hzv : (zeroValue e).run P w = .ok z w := by simp [zeroValue, typeInfo, hi, hz]
 simp [ho, Instr.alloc, hzv, newVar, newRow, Sem.run_bind]
 exact h
theorem wp_put_row' (ty : TypeId) (x y : Operand) (ho : o.op = .store ty x y) (g : Nat) (new : List Value) (hx : a.eval x = .pointer (some ⟨g, 0, none⟩)) (hy : a.eval y = .agg new.toArray)
 (t : TypeId) (old : Array Value) (hg : w.heap[g]? = some (.cells old t (0, 0))) (hi : (P.info? ty).map (·.size) = some new.length) (hold : old.size = new.length) (h1 : ∀ v ∈ new, v.oneCell' = true)
 (h : ∀ w', Upd g (.cells new.toArray t (0, 0)) w w' → K (a.put o.dst undef) w') : o.wp P a w K Q :=
 wp_store_row ty x y ho g new.toArray hx hy t old hg (by simpa using hi) (by simpa using hold) (all_oneCell_toArray h1) (h _ (upd_setRow hg))
end
theorem wp_region_puts {P : Program} {ops : Array Oper} {Q : Exit → Act → World → Prop} {id : Nat} {a0 : Act} {w : World} (hm : P.follows .mixedOrders = true) (hd : downB ops = true) (hb : bareB ops = true) {X : Type} (VS : X → List (Option Tmp × Value)) (J : X → (Nat → Bool) → World → Prop)
 (hdst : ∀ x, (VS x).map (·.1) = ops.toList.map (·.dst)) (hdis : distinctB (ops.toList.map (·.dst)) = true)
 (h0 : ∃ x, ∀ L : Nat → Bool, (∀ i, L i = false) → J x L w.drew)
 (hs : EachOp (fun i o => ∀ (x : X) (L : Nat → Bool) (w : World), L i = false → (∀ e ∈ o.after.toList, Region.binds .any e = true → L e.on = true) → J x L w → ∀ a, a = puts L 0 (VS x) a0 →
  o.wp P a w (fun a' w' => ∃ x' v, a' = a.put o.dst v ∧ VS x' = (VS x).set i (o.dst, v) ∧ J x' (also L i) w') Q) 0 ops.toList)
 (he : ∀ x (L : Nat → Bool) (w : World), (∀ i, i < ops.size → L i = true) → J x L w → Q .normal ((VS x).foldl (fun a p => a.put p.1 p.2) a0) w) : (Code.region id ops true).wp P Q a0 w := by
 refine wp_region_law hm hd hb (fun L a w => ∃ x, a = puts L 0 (VS x) a0 ∧ J x L w) (fun L hL => ?_) ?_ (fun L a w hL hI => ?_)
 · obtain ⟨x, hx⟩ := h0
   exact ⟨x, (puts_none hL).symm, hx L hL⟩
 · have key : ∀ (k : Nat) (os : List Oper), (∀ j, os[j]? = ops.toList[k + j]?) → EachOp (fun i o => ∀ (x : X) (L : Nat → Bool) (w : World), L i = false → (∀ e ∈ o.after.toList, Region.binds .any e = true → L e.on = true) → J x L w → ∀ a, a = puts L 0 (VS x) a0 →
    o.wp P a w (fun a' w' => ∃ x' v, a' = a.put o.dst v ∧ VS x' = (VS x).set i (o.dst, v) ∧ J x' (also L i) w') Q) k os →
    EachOp (fun i o => ∀ (L : Nat → Bool) (a : Act) (w : World), L i = false → (∀ e ∈ o.after.toList, Region.binds .any e = true → L e.on = true) → (∃ x, a = puts L 0 (VS x) a0 ∧ J x L w) → o.wp P a w (fun a' w' => ∃ x, a' = puts (also L i) 0 (VS x) a0 ∧ J x (also L i) w') Q) k os := by
    intro k os; induction os generalizing k with
    | nil => intro _ _; trivial
    | cons o os ih =>
     intro ho h; refine ⟨fun L a w hL hpre ⟨x, ha, hJ⟩ => ?_, ih (k + 1) (fun j => ?_) h.2⟩
     · refine Oper.wp_mono (fun a' w' h' => ?_) (h.1 x L w hL hpre hJ a ha)
       obtain ⟨x', v, rfl, hv, hJ'⟩ := h'; have hk : ops.toList[k]? = some o := by have := ho 0; simpa using this.symm
       have hlen : (VS x).length = ops.toList.length := by have := congrArg List.length (hdst x); simpa using this
       have hkl : k < ops.toList.length := (List.getElem?_eq_some_iff.1 hk).1; refine ⟨x', ?_, hJ'⟩; rw [ha, hv]; have := puts_do (L := L) (k := 0) (i := k) (vs := VS x) (a := a0) (d := o.dst) (v := v) (by rw [hlen]; exact hkl) (by rw [hdst, List.getElem?_map, hk]; rfl) (by rw [hdst]; exact hdis) (by rw [Nat.zero_add]; exact hL); rw [Nat.zero_add] at this; exact this
     · have := ho (j + 1)
       rw [show k + 1 + j = k + (j + 1) by omega, ← this]; simp
   exact key 0 ops.toList (fun j => by rw [Nat.zero_add]) hs
 · obtain ⟨x, rfl, hJ⟩ := hI
   have hlen : (VS x).length = ops.size := by have := congrArg List.length (hdst x); simpa using this
   rw [puts_all fun j _ h2 => hL j (by rw [← hlen]; simpa using h2)]; exact he x L w hL hJ
end Go.Proofs.YtpbigfopmompfaaGreat
namespace Go.Proofs.YtpbigfopmompfaaGreat
open Go.RowKit
set_option linter.unusedVariables false
theorem zaa {o : Oper} {y : Nat → Option Bool} (h : o.guard = none) : Region.wanted o y = true := by simp [Region.wanted, h]
theorem yielded_of {ops : Array Oper} {a : Act} {g t : Nat} {b : Bool} (hg : (ops[g]?).bind (·.dst) = some t) (h : a.eval (.tmp t) = .bool b) : yielded ops a.tmps g = some b := by
 unfold yielded
 rw [hg]
 simp only [Act.eval, Option.bind_some] at h ⊢
 cases ht : a.tmps[t]? with
 | none => simp [ht] at h; cases h
 | some v =>
  simp [ht] at h; rw [h]
theorem zae {ops : Array Oper} {o : Oper} {a : Act} {g t : Nat} {b : Bool} (h : o.guard = some (g, b)) (hg : (ops[g]?).bind (·.dst) = some t) (hv : a.eval (.tmp t) = .bool b) : Region.wanted o (yielded ops a.tmps) = true := by
 simp [Region.wanted, h, yielded_of hg hv]
theorem zap {ops : Array Oper} {o : Oper} {a : Act} {g t : Nat} {b : Bool} (h : o.guard = some (g, b)) (hg : (ops[g]?).bind (·.dst) = some t) (hv : a.eval (.tmp t) = .bool (!b)) : Region.wanted o (yielded ops a.tmps) = false := by
 simp [Region.wanted, h, yielded_of hg hv]
theorem zan {P : Program} {ops : Array Oper} {Q : Exit → Act → World → Prop} {id : Nat} {a0 : Act} {w : World} (hm : P.follows .mixedOrders = true) (hd : downB ops = true) {X : Type} (VS : X → List (Option Tmp × Value)) (J : X → (Nat → Bool) → World → Prop)
 (hdst : ∀ x, (VS x).map (·.1) = ops.toList.map (·.dst)) (hdis : distinctB (ops.toList.map (·.dst)) = true)
 (h0 : ∃ x, ∀ L : Nat → Bool, (∀ i, L i = false) → J x L w.drew)
 (hs : EachOp (fun i o => ∀ (x : X) (L : Nat → Bool) (w : World), L i = false → (∀ e ∈ o.after.toList, Region.binds .any e = true → L e.on = true) → J x L w → ∀ a, a = puts L 0 (VS x) a0 →
  (Region.wanted o (yielded ops a.tmps) = true ∧ o.wp P a w (fun a' w' => ∃ x' v, a' = a.put o.dst v ∧ VS x' = (VS x).set i (o.dst, v) ∧ J x' (also L i) w') Q) ∨
  (Region.wanted o (yielded ops a.tmps) = false ∧ ∃ x', VS x' = (VS x).set i (o.dst, undef) ∧ J x' (also L i) w)) 0 ops.toList)
 (he : ∀ x (L : Nat → Bool) (w : World), (∀ i, i < ops.size → L i = true) → J x L w → Q .normal ((VS x).foldl (fun a p => a.put p.1 p.2) a0) w) : (Code.region id ops true).wp P Q a0 w := by
 refine wp_region_any hm ?_
 refine wpAny_law (fun L a w => ∃ x, a = puts L 0 (VS x) a0 ∧ J x L w) (downB_spec hd) (fun i o ho L a w hi hpre hI => ?_) (fun L a w hL hI => ?_) ops.size (Array.replicate ops.size false) a0 _ (by simp) (Nat.le_trans List.countP_le_length (by simp)) ?_
 · obtain ⟨x, rfl, hJ⟩ := hI
   have hk : ops.toList[i]? = some o := by simpa using ho
   have hlen : (VS x).length = ops.toList.length := by have := congrArg List.length (hdst x); simpa using this
   have hkl : i < ops.toList.length := (List.getElem?_eq_some_iff.1 hk).1
   have done : ∀ (x' : X) (v : Value), VS x' = (VS x).set i (o.dst, v) → (puts L 0 (VS x) a0).put o.dst v = puts (also L i) 0 (VS x') a0 := by
    intro x' v hv; rw [hv]; have := puts_do (L := L) (k := 0) (i := i) (vs := VS x) (a := a0) (d := o.dst) (v := v) (by rw [hlen]; exact hkl) (by rw [hdst, List.getElem?_map, hk]; rfl) (by rw [hdst]; exact hdis) (by rw [Nat.zero_add]; exact hi); rw [Nat.zero_add] at this; exact this
   have hT := hs.get (i := i) (o := o) hk; rw [Nat.zero_add] at hT; unfold wpOp; rw [ho]; rcases hT x L w hi (fun e he hb => hpre e (by simpa using he) hb) hJ _ rfl with ⟨hw, h⟩ | ⟨hw, x', hv, hJ'⟩
   · simp only [hw, if_true]
     refine .inl (Oper.wp_mono (fun a' w' h' => ?_) h); obtain ⟨x', v, rfl, hv, hJ'⟩ := h'; exact ⟨x', done x' v hv, hJ'⟩
   · simp only [hw, Bool.false_eq_true, if_false]
     exact ⟨x', done x' undef hv, hJ'⟩
 · obtain ⟨x, rfl, hJ⟩ := hI
   have hlen : (VS x).length = ops.size := by have := congrArg List.length (hdst x); simpa using this
   rw [puts_all fun j _ h2 => hL j (by rw [← hlen]; simpa using h2)]; exact he x L w hL hJ
 · obtain ⟨x, hx⟩ := h0
   have hn : ∀ i, seenB (Array.replicate ops.size false) i = false := by
    intro i; unfold seenB; by_cases h : i < ops.size
    · simp [h]
    · simp [h]
   exact ⟨x, (puts_none hn).symm, hx _ hn⟩
end Go.Proofs.YtpbigfopmompfaaGreat
