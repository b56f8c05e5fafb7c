import Derived.Orders
import Derived.RegionTactic
import Derived.RowKit
/- A law for regions that draw their order, no program in sight: what is known of each operation's value holds whichever come between; one goal for each operation, none for each order. -/
namespace Go.Proofs.YtpbigfopmompfaaGreat
open Go.RowKit
section
variable {P : Program} {ops : Array Oper} {Q : Exit → Act → World → Prop}
def also (L : Nat → Bool) (i : Nat) : Nat → Bool := fun j => j == i || L j
def seenB (l : Array Bool) : Nat → Bool := fun j => l.getD j false
theorem seen_set {l : Array Bool} {i : Nat} (h : i < l.size) : seenB (l.setIfInBounds i true) = also (seenB l) i := by
 funext j
 unfold seenB also
 by_cases hij : j = i
 · subst hij; simp [h]
 · rw [getD_set_ne false (Ne.symm hij), show (j == i) = false by simpa using hij, Bool.false_or]
theorem ready_nil {l : Array Bool} (hl : l.size = ops.size) (hd : ∀ i o, ops[i]? = some o → ∀ e ∈ o.after, Region.binds .any e = true → e.on < i) (h : Region.ready .any ops l = []) : ∀ i, i < ops.size → seenB l i = true := by
 intro i
 induction i using Nat.strongRecOn with
 | ind i ih =>
  intro hi; cases hs : seenB l i with
  | true => rfl
  | false =>
   have : i ∈ Region.ready .any ops l := by
    rw [mem_ready]; refine ⟨?_, ops[i], Array.getElem?_eq_getElem hi, fun e he hb => ?_⟩
    · have hi2 : i < l.size := by omega
      unfold seenB at hs; simp [hi2] at hs ⊢; exact hs
    · have hlt := hd i _ (Array.getElem?_eq_getElem hi) e he hb
      exact ih e.on hlt (by omega)
   rw [h] at this; cases this
theorem wpAny_law (I : (Nat → Bool) → Act → World → Prop) (hd : ∀ i o, ops[i]? = some o → ∀ e ∈ o.after, Region.binds .any e = true → e.on < i)
 (hs : ∀ i o, ops[i]? = some o → ∀ L a w, L i = false → (∀ e ∈ o.after, Region.binds .any e = true → L e.on = true) → I L a w → wpOp P ops Q i (fun a' w' => I (also L i) a' w') a w)
 (he : ∀ L a w, (∀ i, i < ops.size → L i = true) → I L a w → Q .normal a w) :
 ∀ (fuel : Nat) (l : Array Bool) (a : Act) (w : World), l.size = ops.size → l.toList.countP (fun b => !b) ≤ fuel → I (seenB l) a w → wpAny P .any ops Q fuel l a w := by
 intro fuel
 induction fuel with
 | zero =>
  intro l a w hl hc hI
  have hall : ∀ i, i < ops.size → seenB l i = true := by
   intro i hi; have hi2 : i < l.toList.length := by simp; omega
   have h0 : l.toList.countP (fun b => !b) = 0 := by omega
   rw [List.countP_eq_zero] at h0; have := h0 _ (List.getElem_mem hi2); unfold seenB; have hi3 : i < l.size := by omega
   simpa [hi3] using this
  refine ⟨?_, he _ _ _ hall hI⟩; rw [List.eq_nil_iff_forall_not_mem]; intro j hj; rw [mem_ready] at hj; obtain ⟨h1, o, ho, -⟩ := hj; have hlt := (Array.getElem?_eq_some_iff.1 ho).1; have := hall j hlt; unfold seenB at this; have hi3 : j < l.size := by omega
  simp [hi3] at this h1; rw [this] at h1; cases h1
 | succ fuel ih =>
  intro l a w hl hc hI; refine ⟨fun h => he _ _ _ (ready_nil hl hd h) hI, fun i hi => ?_⟩; rw [mem_ready] at hi; obtain ⟨h1, o, ho, hpre⟩ := hi; have hlt := (Array.getElem?_eq_some_iff.1 ho).1; have hlt2 : i < l.size := by omega
  have hfalse : seenB l i = false := by
   unfold seenB; simp [hlt2] at h1 ⊢; exact h1
  refine wpOp_mono (fun a' w' hI' => ?_) (hs i o ho (seenB l) a w hfalse hpre hI); refine ih _ a' w' (by simpa using hl) ?_ (by rw [seen_set hlt2]; exact hI'); have e : (l.setIfInBounds i true).toList = l.toList.set i true := by simp
  rw [e]; have hlt3 : i < l.toList.length := by simpa using hlt2
  have hf : l.toList[i] = false := by
   simp [hlt2] at h1; simpa using h1
  have key : ∀ (xs : List Bool) (i : Nat) (h : i < xs.length), xs[i] = false → (xs.set i true).countP (fun b => !b) + 1 = xs.countP (fun b => !b) := by
   intro xs; induction xs with
   | nil => intro i h; simp at h
   | cons x xs ihx =>
    intro i h hx; cases i with
    | zero =>
     simp at hx; subst hx; simp
    | succ i =>
     have := ihx i (by simpa using h) (by simpa using hx); rw [List.set_cons_succ, List.countP_cons, List.countP_cons]; omega
  have := key l.toList i hlt3 hf; omega
def downB (ops : Array Oper) : Bool := (ops.toList.zipIdx 0).all fun p => p.1.after.toList.all fun e => !Region.binds .any e || decide (e.on < p.2)
def bareB (ops : Array Oper) : Bool := ops.toList.all fun o => o.guard == none
theorem downB_spec (h : downB ops = true) : ∀ i o, ops[i]? = some o → ∀ e ∈ o.after, Region.binds .any e = true → e.on < i := by
 intro i o ho e he hb
 unfold downB at h
 rw [List.all_eq_true] at h
 have hm : (o, i) ∈ ops.toList.zipIdx 0 := by
  rw [List.mem_zipIdx_iff_getElem?]; simpa using ho
 have := h _ hm
 rw [List.all_eq_true] at this
 have := this e (by simpa using he)
 simpa [hb] using this
def EachOp (T : Nat → Oper → Prop) : Nat → List Oper → Prop
 | _, [] => True
 | k, o :: os => T k o ∧ EachOp T (k + 1) os
theorem EachOp.get {T : Nat → Oper → Prop} : ∀ {k : Nat} {os : List Oper}, EachOp T k os → ∀ {i : Nat} {o : Oper}, os[i]? = some o → T (k + i) o
 | _, [], _, i, o, h => by simp at h
 | k, x :: os, h, 0, o, ho => by
  simp at ho; subst ho; exact h.1
 | k, x :: os, h, i + 1, o, ho => by
  have := EachOp.get h.2 (i := i) (o := o) (by simpa using ho); rwa [show k + 1 + i = k + (i + 1) by omega] at this
theorem wp_region_law {id : Nat} {a : Act} {w : World} (hm : P.follows .mixedOrders = true) (hd : downB ops = true) (hb : bareB ops = true) (I : (Nat → Bool) → Act → World → Prop)
 (h0 : ∀ L : Nat → Bool, (∀ i, L i = false) → I L a w.drew)
 (hs : EachOp (fun i o => ∀ (L : Nat → Bool) (a : Act) (w : World), L i = false → (∀ e ∈ o.after.toList, Region.binds .any e = true → L e.on = true) → I L a w → o.wp P a w (fun a' w' => I (also L i) a' w') Q) 0 ops.toList)
 (he : ∀ (L : Nat → Bool) (a : Act) (w : World), (∀ i, i < ops.size → L i = true) → I L a w → Q .normal a w) : (Code.region id ops true).wp P Q a w := by
 refine wp_region_any hm ?_
 refine wpAny_law I (downB_spec hd) (fun i o ho L a w hi hpre hI => ?_) he ops.size (Array.replicate ops.size false) a _ (by simp) (Nat.le_trans List.countP_le_length (by simp)) (h0 _ (fun i => ?_))
 · have hg : o.guard = none := by
    unfold bareB at hb; rw [List.all_eq_true] at hb; have := hb o (by rw [Array.mem_toList_iff]; exact Array.mem_of_getElem? ho); simpa using this
   have hlt := hs.get (i := i) (o := o) (by simpa using ho); rw [Nat.zero_add] at hlt; unfold wpOp; rw [ho]; simp only [Region.wanted, hg, if_true]; exact .inl (hlt L a w hi (fun e he hb => hpre e (by simpa using he) hb) hI)
 · unfold seenB
   by_cases h : i < ops.size
   · simp [h]
   · simp [h]
end
end Go.Proofs.YtpbigfopmompfaaGreat
