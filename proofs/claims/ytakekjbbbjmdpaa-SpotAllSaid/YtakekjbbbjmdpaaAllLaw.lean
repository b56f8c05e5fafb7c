import Derived.Test.YtakekjbbbjmdpaaSpotKeys
/- Places with numbers in their order: what stage 5's law keeps beside the map; no program in sight. -/
namespace Go.Proofs.Ytakekjbbbjmdpaa.spotAll
open Go.RowKit
set_option linter.unusedVariables false
abbrev Prs := List (Ad × Int)
def vals (R : Prs) : List (Ad × Value) := R.map fun x => (x.1, .int .i64 x.2)
def Tidy (R : Prs) : Prop := R.Pairwise fun x y => lessA x.1 y.1 = true
def Rep (f : List (Ad × Value)) (R : Prs) : Prop := f.Perm (vals R)
theorem less_trans {x y z : Ad} (h1 : lessA x y = true) (h2 : lessA y z = true) : lessA x z = true := by
  rw [less_iff] at *
  omega
theorem less_irr (x : Ad) : lessA x x = false := by
  rw [Bool.eq_false_iff]
  intro h
  rw [less_iff] at h
  omega
theorem less_ne {x y : Ad} (h : lessA x y = true) : x ≠ y := fun e => by rw [e, less_irr] at h; cases h
theorem less_or {x y : Ad} (h : lessA x y = false) (hne : x ≠ y) : lessA y x = true := by
  rw [less_iff]
  rw [Bool.eq_false_iff] at h
  have h' : ¬ (x.d < y.d ∨ (x.d = y.d ∧ (x.b < y.b ∨ (x.b = y.b ∧ x.p < y.p)))) := fun e => h ((less_iff x y).2 e)
  have : ¬ (x.d = y.d ∧ x.b = y.b ∧ x.p = y.p) := fun e => hne (by cases x; cases y; simp at e ⊢; exact e)
  omega
/-- k is where a stands, or would stand. -/
structure AtK (R : Prs) (a : Ad) (k : Nat) : Prop where
  le : k ≤ R.length
  low : ∀ x ∈ R.take k, lessA x.1 a = true
  stop : ∀ x, R[k]? = some x → lessA x.1 a = false
def inB (R : Prs) (a : Ad) (k : Nat) : Bool := (R[k]?.map fun x => decide (x.1 = a)).getD false
theorem low_next {R : Prs} {a : Ad} {k : Nat} (h : ∀ x ∈ R.take k, lessA x.1 a = true) {x : Ad × Int} (hx : R[k]? = some x) (hl : lessA x.1 a = true) : ∀ y ∈ R.take (k + 1), lessA y.1 a = true := by
  intro y hy
  rw [List.take_add_one, hx] at hy
  rcases List.mem_append.1 hy with hy | hy
  · exact h y hy
  · simp at hy; rw [hy]; exact hl
section
variable {R : Prs} {a : Ad} {k : Nat} {f : List (Ad × Value)}
theorem split_at (h : k < R.length) : R = R.take k ++ R[k] :: R.drop (k + 1) := by rw [← List.drop_eq_getElem_cons h, List.take_append_drop]
theorem inB_some (h : inB R a k = true) : ∃ (hk : k < R.length) (n : Int), R[k] = (a, n) ∧ R = R.take k ++ (a, n) :: R.drop (k + 1) := by
  unfold inB at h
  cases hq : R[k]? with
  | none => rw [hq] at h; simp at h
  | some x =>
    rw [hq] at h
    simp at h
    obtain ⟨hk, e⟩ := List.getElem?_eq_some_iff.1 hq
    refine ⟨hk, x.2, by rw [e, ← h], ?_⟩
    have := split_at hk
    rw [e] at this
    rw [← h]; exact this
theorem up_of (hT : Tidy R) (hA : AtK R a k) : ∀ y ∈ R.drop (if inB R a k then k + 1 else k), lessA a y.1 = true := by
  cases hi : inB R a k with
  | true =>
    obtain ⟨hk, n, -, e⟩ := inB_some hi
    simp only [if_true]
    intro y hy
    unfold Tidy at hT
    rw [e] at hT
    have h2 := (List.pairwise_append.1 hT).2.1
    exact (List.pairwise_cons.1 h2).1 y hy
  | false =>
    simp only [Bool.false_eq_true, if_false]
    by_cases hk : k < R.length
    · have e := split_at hk
      have h1 : lessA R[k].1 a = false := hA.stop _ (List.getElem?_eq_getElem hk)
      have h2 : R[k].1 ≠ a := by
        unfold inB at hi
        rw [List.getElem?_eq_getElem hk] at hi
        simpa using hi
      have h3 := less_or h1 h2
      unfold Tidy at hT
      rw [e] at hT
      have h4 := (List.pairwise_append.1 hT).2.1
      intro y hy
      rw [List.drop_eq_getElem_cons hk] at hy
      rcases List.mem_cons.1 hy with rfl | hy
      · exact h3
      · exact less_trans h3 ((List.pairwise_cons.1 h4).1 y hy)
    · intro y hy
      rw [List.drop_eq_nil_of_le (by omega)] at hy
      simp at hy
theorem mem_key (hT : Tidy R) (hA : AtK R a k) : a ∈ R.map (·.1) ↔ inB R a k = true := by
  constructor
  · intro h
    obtain ⟨x, hx, e⟩ := List.mem_map.1 h
    cases hi : inB R a k with
    | true => rfl
    | false =>
      exfalso
      have hu := up_of hT hA
      rw [hi] at hu
      simp only [Bool.false_eq_true, if_false] at hu
      rw [← List.take_append_drop k R] at hx
      rcases List.mem_append.1 hx with hx | hx
      · exact less_ne (hA.low x hx) e
      · exact less_ne (hu x hx) e.symm
  · intro h
    obtain ⟨hk, n, e, -⟩ := inB_some h
    exact List.mem_map.2 ⟨R[k], List.getElem_mem hk, by rw [e]⟩
theorem Rep.keys (h : Rep f R) : (f.map (·.1)).Perm (R.map (·.1)) := by
  have := h.map (·.1)
  unfold vals at this
  rw [List.map_map] at this
  exact this
theorem Rep.len (h : Rep f R) : f.length = R.length := by rw [List.Perm.length_eq h]; simp [vals]
theorem Tidy.nodup (hT : Tidy R) : (R.map (·.1)).Nodup := by
  unfold List.Nodup
  rw [List.pairwise_map]
  exact hT.imp fun h => less_ne h
theorem has_of (h : Rep f R) (hT : Tidy R) (hA : AtK R a k) : hasF f a = inB R a k := by
  unfold hasF
  rw [Bool.eq_iff_iff, decide_eq_true_iff, h.keys.mem_iff, mem_key hT hA]
theorem look_in (h : Rep f R) (hT : Tidy R) (hi : inB R a k = true) {n : Int} (hn : R[k]? = some (a, n)) (z : Value) : lookF f a z = .int .i64 n := by
  have hm : (a, (Value.int .i64 n)) ∈ f := h.mem_iff.2 (List.mem_map.2 ⟨(a, n), List.mem_of_getElem? hn, rfl⟩)
  unfold lookF
  rw [find_pair (h.keys.nodup_iff.2 hT.nodup) hm]; rfl
theorem look_out (h : Rep f R) (hT : Tidy R) (hA : AtK R a k) (hi : inB R a k = false) (z : Value) : lookF f a z = z := by
  unfold lookF
  rw [List.find?_eq_none.2]
  · rfl
  · intro p hp
    simp only [decide_eq_true_eq]
    intro e
    have : a ∈ f.map (·.1) := List.mem_map.2 ⟨p, hp, e⟩
    rw [h.keys.mem_iff, mem_key hT hA, hi] at this
    cases this
theorem del_rep (h : Rep f R) (a : Ad) : Rep (delF f a) (R.filter fun x => decide (x.1 ≠ a)) := by
  unfold Rep delF vals at *
  refine (h.filter _).trans ?_
  rw [List.filter_map]
  exact List.Perm.refl _
theorem filter_parts (hT : Tidy R) (hA : AtK R a k) : (R.filter fun x => decide (x.1 ≠ a)) = R.take k ++ R.drop (if inB R a k then k + 1 else k) := by
  have hu := up_of hT hA
  have h1 : (R.take k).filter (fun x => decide (x.1 ≠ a)) = R.take k := List.filter_eq_self.2 fun x hx => by simpa using less_ne (hA.low x hx)
  cases hi : inB R a k with
  | true =>
    obtain ⟨hk, n, -, e⟩ := inB_some hi
    rw [hi] at hu
    simp only [if_true] at hu ⊢
    have h2 : (R.drop (k + 1)).filter (fun x => decide (x.1 ≠ a)) = R.drop (k + 1) := List.filter_eq_self.2 fun x hx => by simpa using fun e => less_ne (hu x hx) e.symm
    conv => lhs; rw [e]
    rw [List.filter_append, List.filter_cons, h1, h2]
    simp
  | false =>
    rw [hi] at hu
    simp only [Bool.false_eq_true, if_false] at hu ⊢
    have h2 : (R.drop k).filter (fun x => decide (x.1 ≠ a)) = R.drop k := List.filter_eq_self.2 fun x hx => by simpa using fun e => less_ne (hu x hx) e.symm
    conv => lhs; rw [← List.take_append_drop k R]
    rw [List.filter_append, h1, h2]
theorem tidy_parts (hT : Tidy R) (hA : AtK R a k) : Tidy (R.take k ++ R.drop (if inB R a k then k + 1 else k)) := by
  rw [← filter_parts hT hA]
  exact List.Pairwise.filter _ hT
theorem put_parts (hT : Tidy R) (hA : AtK R a k) (h : Rep f R) (n : Int) :
    Tidy (R.take k ++ (a, n) :: R.drop (if inB R a k then k + 1 else k)) ∧ Rep (putF f a (.int .i64 n)) (R.take k ++ (a, n) :: R.drop (if inB R a k then k + 1 else k)) := by
  have hu := up_of hT hA
  have h1 := tidy_parts hT hA
  have h2 := del_rep h a
  rw [filter_parts hT hA] at h2
  constructor
  · unfold Tidy at h1 ⊢
    rw [List.pairwise_append] at h1 ⊢
    refine ⟨h1.1, List.pairwise_cons.2 ⟨hu, h1.2.1⟩, fun x hx y hy => ?_⟩
    rcases List.mem_cons.1 hy with rfl | hy
    · exact hA.low x hx
    · exact h1.2.2 x hx y hy
  · unfold Rep putF vals at *
    refine ((h2.cons _)).trans ?_
    rw [List.map_append, List.map_append, List.map_cons]
    exact (List.perm_middle).symm
/-- A place more. -/
theorem put_new (hT : Tidy R) (hA : AtK R a k) (h : Rep f R) (hi : inB R a k = false) (n : Int) : Tidy (R.take k ++ (a, n) :: R.drop k) ∧ Rep (putF f a (.int .i64 n)) (R.take k ++ (a, n) :: R.drop k) := by
  have := put_parts hT hA h n
  rw [hi] at this
  simpa using this
theorem put_old (hT : Tidy R) (hA : AtK R a k) (h : Rep f R) (hi : inB R a k = true) (n : Int) : Tidy (R.set k (a, n)) ∧ Rep (putF f a (.int .i64 n)) (R.set k (a, n)) := by
  have := put_parts hT hA h n
  rw [hi] at this
  simp only [if_true] at this
  obtain ⟨hk, m, e, -⟩ := inB_some hi
  rw [show R.set k (a, n) = R.take k ++ (a, n) :: R.drop (k + 1) from List.set_eq_take_append_cons_drop.trans (if_pos hk)]
  exact this
theorem drop_old (hT : Tidy R) (hA : AtK R a k) (h : Rep f R) (hi : inB R a k = true) : Tidy (R.take k ++ R.drop (k + 1)) ∧ Rep (delF f a) (R.take k ++ R.drop (k + 1)) := by
  have h1 := tidy_parts hT hA
  have h2 := del_rep h a
  rw [filter_parts hT hA] at h2
  rw [hi] at h1 h2
  simp only [if_true] at h1 h2
  exact ⟨h1, h2⟩
theorem drop_none (hT : Tidy R) (hA : AtK R a k) (h : Rep f R) (hi : inB R a k = false) : Rep (delF f a) R := by
  have h2 := del_rep h a
  rw [filter_parts hT hA, hi] at h2
  simpa using h2
theorem sorted_keys (hT : Tidy R) (h : Rep f R) : sortA (f.map (·.1)) = R.map (·.1) := by
  rw [sortA_perm h.keys]
  unfold sortA
  refine List.mergeSort_of_pairwise ?_
  rw [List.pairwise_map]
  refine hT.imp fun {x y} hxy => ?_
  rw [lt_ord]
  cases hq : lessA y.1 x.1 with
  | false => rfl
  | true => exact absurd (less_trans hxy hq) (by rw [less_irr]; simp)
end
end Go.Proofs.Ytakekjbbbjmdpaa.spotAll
