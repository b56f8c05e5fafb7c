import Derived.Test.YtajjmlbhagiicaaRegion2
/- The law for drawn regions, with guards; no program in sight. -/
namespace Go.Proofs.Ytajjmlbhagiicaa
open Go.RowKit
set_option linter.unusedVariables false
theorem wanted_none {o : Oper} {y : Nat → Option Bool} (h : o.guard = none) : Region.wanted o y = true := by simp [Region.wanted, h]
theorem yielded_of {ops : Array Oper} {a : Act} {g t : Nat} {b : Bool} (hg : (ops[g]?).bind (·.dst) = some t) (h : a.eval (.tmp t) = .bool b) : yielded ops a.tmps g = some b := by
  unfold yielded
  rw [hg]
  simp only [Act.eval, Option.bind_some] at h ⊢
  cases ht : a.tmps[t]? with
  | none => simp [ht] at h; cases h
  | some v =>
    simp [ht] at h
    rw [h]
theorem wanted_yes {ops : Array Oper} {o : Oper} {a : Act} {g t : Nat} {b : Bool} (h : o.guard = some (g, b)) (hg : (ops[g]?).bind (·.dst) = some t) (hv : a.eval (.tmp t) = .bool b) : Region.wanted o (yielded ops a.tmps) = true := by
  simp [Region.wanted, h, yielded_of hg hv]
theorem wanted_no {ops : Array Oper} {o : Oper} {a : Act} {g t : Nat} {b : Bool} (h : o.guard = some (g, b)) (hg : (ops[g]?).bind (·.dst) = some t) (hv : a.eval (.tmp t) = .bool (!b)) : Region.wanted o (yielded ops a.tmps) = false := by
  simp [Region.wanted, h, yielded_of hg hv]
theorem wp_region_puts_g {P : Program} {ops : Array Oper} {Q : Exit → Act → World → Prop} {id : Nat} {a0 : Act} {w : World} (hm : P.follows .mixedOrders = true) (hd : downB ops = true) {X : Type} (VS : X → List (Option Tmp × Value)) (J : X → (Nat → Bool) → World → Prop)
    (hdst : ∀ x, (VS x).map (·.1) = ops.toList.map (·.dst)) (hdis : distinctB (ops.toList.map (·.dst)) = true)
    (h0 : ∃ x, ∀ L : Nat → Bool, (∀ i, L i = false) → J x L w.drew)
    (hs : EachOp (fun i o => ∀ (x : X) (L : Nat → Bool) (w : World), L i = false → (∀ e ∈ o.after.toList, Region.binds .any e = true → L e.on = true) → J x L w → ∀ a, a = puts L 0 (VS x) a0 →
      (Region.wanted o (yielded ops a.tmps) = true ∧ o.wp P a w (fun a' w' => ∃ x' v, a' = a.put o.dst v ∧ VS x' = (VS x).set i (o.dst, v) ∧ J x' (also L i) w') Q) ∨
      (Region.wanted o (yielded ops a.tmps) = false ∧ ∃ x', VS x' = (VS x).set i (o.dst, undef) ∧ J x' (also L i) w)) 0 ops.toList)
    (he : ∀ x (L : Nat → Bool) (w : World), (∀ i, i < ops.size → L i = true) → J x L w → Q .normal ((VS x).foldl (fun a p => a.put p.1 p.2) a0) w) : (Code.region id ops true).wp P Q a0 w := by
  refine wp_region_any hm ?_
  refine wpAny_law (fun L a w => ∃ x, a = puts L 0 (VS x) a0 ∧ J x L w) (downB_spec hd) (fun i o ho L a w hi hpre hI => ?_) (fun L a w hL hI => ?_) ops.size (Array.replicate ops.size false) a0 _ (by simp) (Nat.le_trans List.countP_le_length (by simp)) ?_
  · obtain ⟨x, rfl, hJ⟩ := hI
    have hk : ops.toList[i]? = some o := by simpa using ho
    have hlen : (VS x).length = ops.toList.length := by have := congrArg List.length (hdst x); simpa using this
    have hkl : i < ops.toList.length := (List.getElem?_eq_some_iff.1 hk).1
    have done : ∀ (x' : X) (v : Value), VS x' = (VS x).set i (o.dst, v) → (puts L 0 (VS x) a0).put o.dst v = puts (also L i) 0 (VS x') a0 := by
      intro x' v hv
      rw [hv]
      have := puts_do (L := L) (k := 0) (i := i) (vs := VS x) (a := a0) (d := o.dst) (v := v) (by rw [hlen]; exact hkl) (by rw [hdst, List.getElem?_map, hk]; rfl) (by rw [hdst]; exact hdis) (by rw [Nat.zero_add]; exact hi)
      rw [Nat.zero_add] at this
      exact this
    have hT := hs.get (i := i) (o := o) hk
    rw [Nat.zero_add] at hT
    unfold wpOp
    rw [ho]
    rcases hT x L w hi (fun e he hb => hpre e (by simpa using he) hb) hJ _ rfl with ⟨hw, h⟩ | ⟨hw, x', hv, hJ'⟩
    · simp only [hw, if_true]
      refine .inl (Oper.wp_mono (fun a' w' h' => ?_) h)
      obtain ⟨x', v, rfl, hv, hJ'⟩ := h'
      exact ⟨x', done x' v hv, hJ'⟩
    · simp only [hw, Bool.false_eq_true, if_false]
      exact ⟨x', done x' undef hv, hJ'⟩
  · obtain ⟨x, rfl, hJ⟩ := hI
    have hlen : (VS x).length = ops.size := by have := congrArg List.length (hdst x); simpa using this
    rw [puts_all fun j _ h2 => hL j (by rw [← hlen]; simpa using h2)]
    exact he x L w hL hJ
  · obtain ⟨x, hx⟩ := h0
    have hn : ∀ i, seenB (Array.replicate ops.size false) i = false := by
      intro i
      unfold seenB
      by_cases h : i < ops.size
      · simp [h]
      · simp [h]
    exact ⟨x, (puts_none hn).symm, hx _ hn⟩
end Go.Proofs.Ytajjmlbhagiicaa
