import Derived.Test.YtakekjbbbjmdpaaTwins
import Derived.Test.YtakekjbbbjmdpaaBegun5
import Derived.Test.YtakekjbbbjmdpaaSpotIn
/- What stage 5's law draws up by itself: each page's group, and whether it is the first of its kind. -/
namespace Go.Proofs.Ytakekjbbbjmdpaa.spotTwins
open Go.RowKit
open Go.Proofs.Ytakekjbbbjmdpaa.pg (wfP pgs idxs twinsK firstB idxs_succ idxs_len twins_succ twins_len rows_off)
open Go.Proofs.Ytakekjbbbjmdpaa.begun5 (cell1)
set_option linter.unusedVariables false
/-- The group of the page p that stands at i, when k places were looked at. -/
def gK (l : List (List Nat)) (p : List Nat) (i k : Nat) : List Nat := i :: (List.range k).filter fun j => decide (i < j) && decide (l[j]? = some p)
/-- None of the first k places ahead of i has p. -/
def fK (l : List (List Nat)) (p : List Nat) (i k : Nat) : Bool := (List.range k).all fun j => !(decide (j < i) && decide (l[j]? = some p))
theorem gK_zero (l : List (List Nat)) (p : List Nat) (i : Nat) : gK l p i 0 = [i] := rfl
theorem fK_zero (l : List (List Nat)) (p : List Nat) (i : Nat) : fK l p i 0 = true := rfl
theorem gK_succ (l : List (List Nat)) (p : List Nat) (i k : Nat) : gK l p i (k + 1) = gK l p i k ++ (if i < k ∧ l[k]? = some p then [k] else []) := by
  unfold gK
  rw [List.range_succ, List.filter_append, List.cons_append]
  by_cases h1 : i < k <;> by_cases h2 : l[k]? = some p <;> simp [h1, h2]
theorem fK_succ (l : List (List Nat)) (p : List Nat) (i k : Nat) : fK l p i (k + 1) = (fK l p i k && !(decide (k < i) && decide (l[k]? = some p))) := by
  unfold fK
  rw [List.range_succ, List.all_append]
  simp
theorem gK_len (l : List (List Nat)) (p : List Nat) (i k : Nat) : (gK l p i k).length ≤ k + 1 := by
  unfold gK
  have := List.length_filter_le (fun j => decide (i < j) && decide (l[j]? = some p)) (List.range k)
  simp at this ⊢
  omega
theorem gK_pos (l : List (List Nat)) (p : List Nat) (i k : Nat) : 0 < (gK l p i k).length := by simp [gK]
theorem fK_spec (l : List (List Nat)) (p : List Nat) (i k : Nat) : fK l p i k = true ↔ ∀ j, j < k → j < i → l[j]? ≠ some p := by
  unfold fK
  rw [List.all_eq_true]
  constructor
  · intro h j h1 h2 h3
    have := h j (List.mem_range.2 h1)
    simp [h2, h3] at this
  · intro h j hj
    have := h j (List.mem_range.1 hj)
    by_cases h1 : j < i <;> by_cases h2 : l[j]? = some p <;> simp [h1, h2]
    exact this h1 h2
theorem gK_early (l : List (List Nat)) (p : List Nat) (i : Nat) : ∀ k, k ≤ i + 1 → gK l p i k = [i]
  | 0, _ => rfl
  | k + 1, h => by rw [gK_succ, gK_early l p i k (by omega), if_neg (by omega), List.append_nil]
theorem gK_idxs (l : List (List Nat)) (p : List Nat) (i : Nat) (hi : l[i]? = some p) (hf : ∀ j, j < i → l[j]? ≠ some p) : ∀ k, idxs l p k = if i < k then gK l p i k else []
  | 0 => rfl
  | k + 1 => by
    rw [idxs_succ, gK_idxs l p i hi hf k]
    by_cases h1 : i < k
    · rw [if_pos h1, if_pos (show i < k + 1 by omega), gK_succ]
      congr 1
      by_cases h2 : l[k]? = some p <;> simp [h1, h2]
    · rw [if_neg h1]
      by_cases h2 : i = k
      · subst h2
        rw [if_pos hi, if_pos (show i < i + 1 by omega), gK_early _ _ _ _ (Nat.le_refl _)]; rfl
      · rw [if_neg (hf k (by omega)), if_neg (show ¬ i < k + 1 by omega)]; rfl
theorem gK_done {l : List (List Nat)} {p : List Nat} {i : Nat} (hi : l[i]? = some p) (hf : fK l p i l.length = true) : idxs l p l.length = gK l p i l.length := by
  have hl : i < l.length := (List.getElem?_eq_some_iff.1 hi).1
  rw [gK_idxs l p i hi (fun j hj => (fK_spec _ _ _ _).1 hf j (by omega) hj), if_pos hl]
theorem first_iff {l : List (List Nat)} {p : List Nat} {i : Nat} (hi : l[i]? = some p) : firstB l i p = (fK l p i l.length && decide (1 < (gK l p i l.length).length)) := by
  cases hf : fK l p i l.length with
  | true =>
    unfold firstB
    rw [gK_done hi hf]
    simp [gK]
  | false =>
    unfold firstB
    rw [Bool.false_and, Bool.and_eq_false_iff]
    left
    cases h : (idxs l p l.length).head? == some i with
    | false => rfl
    | true =>
      exfalso
      rw [beq_iff_eq] at h
      unfold idxs at h
      rw [List.head?_filter, List.find?_range_eq_some] at h
      rw [Bool.eq_false_iff] at hf
      exact hf ((fK_spec _ _ _ _).2 fun j _ h2 h3 => by have := h.2.2 j h2; simp [h3] at this)
theorem own_one (w : World) (v : Value) : (w.alloc (.cells #[v] 3)).ownsRow w.heap.size 3 1 (.slice (some ⟨w.heap.size, 0, none⟩) 1 1) 1 [v] := by
  refine ⟨by simp, .inr ⟨w.heap.size, 1, #[v], rfl, Nat.le_refl _, heap_alloc_new w _, Nat.le_refl _, ?_, ?_, ?_⟩⟩ <;> first | rfl | decide | simp
/-- The groups that are told: vs are their slices, T the pages. -/
def Rows (w : World) (B : Nat) (l T : List (List Nat)) (vs : List Value) : Prop :=
  vs.length = T.length ∧ ∀ (m : Nat) (p : List Nat) (v : Value), T[m]? = some p → vs[m]? = some v → w.ownsRow B 3 1 v (idxs l p l.length).length (nats .i64 (idxs l p l.length)) ∧ 0 < (idxs l p l.length).length
theorem Rows.nil (w : World) (B : Nat) (l : List (List Nat)) : Rows w B l [] [] := ⟨rfl, by simp⟩
theorem Rows.below {w w' : World} {B D : Nat} {l T : List (List Nat)} {vs : List Value} (h : Rows w B l T vs) (hb : Below D w w') (hD : w.heap.size ≤ D) : Rows w' B l T vs :=
  ⟨h.1, fun m p v h1 h2 => ⟨own_below (h.2 m p v h1 h2).1 (hb.mono hD), (h.2 m p v h1 h2).2⟩⟩
theorem Rows.grown {w w' : World} {B B' n : Nat} {l T : List (List Nat)} {vs xs : List Value} {o : Value} (h : Rows w B l T vs) (ho : w.ownsRow B' 27 1 o n xs) (hg : w.grownBy w' o.ownBlock) : Rows w' B l T vs :=
  ⟨h.1, fun m p v h1 h2 => ⟨(h.2 m p v h1 h2).1.kept hg (.inr (rows_off (h.2 m p v h1 h2).1 (h.2 m p v h1 h2).2 ho)), (h.2 m p v h1 h2).2⟩⟩
theorem Rows.snoc {w : World} {B : Nat} {l T : List (List Nat)} {vs : List Value} {p : List Nat} {v : Value} (h : Rows w B l T vs) (hv : w.ownsRow B 3 1 v (idxs l p l.length).length (nats .i64 (idxs l p l.length))) (hp : 0 < (idxs l p l.length).length) : Rows w B l (T ++ [p]) (vs ++ [v]) := by
  refine ⟨by simp [h.1], fun m q u h1 h2 => ?_⟩
  have hl := h.1
  by_cases hm : m < T.length
  · rw [List.getElem?_append_left hm] at h1
    rw [List.getElem?_append_left (by omega)] at h2
    exact h.2 m q u h1 h2
  · rw [List.getElem?_append_right (by omega)] at h1
    rw [List.getElem?_append_right (by omega)] at h2
    have e : m - T.length = 0 := by
      have := (List.getElem?_eq_some_iff.1 h1).1
      simp at this; omega
    rw [e] at h1
    rw [show m - vs.length = 0 by omega] at h2
    simp at h1 h2
    subst h1; subst h2
    exact ⟨hv, hp⟩
theorem getPgs {l : List (List Nat)} {k : Nat} {p : List Nat} (h : l[k]? = some p) : (pgs l)[k]? = some (nats .u8 p) := by rw [pgs, List.getElem?_map, h]; rfl
theorem open_page {cs : List Value} (h : okAll (List.replicate 32 (Kd.int .u8)) cs = true) : ∃ p : List Nat, cs = nats .u8 p ∧ wfP p := by
  obtain ⟨d, h1, h2, h3⟩ := pg.open_bytes' h
  exact ⟨d, h1, h2, h3⟩
theorem open_pgs {w : World} {a : Option Addr} {len cap : Nat} (h : IsRows (List.replicate 32 (Kd.int .u8)) w a len cap) : ∃ l : List (List Nat), Rds w w.heap.size a 32 len (pgs l) ∧ (∀ p ∈ l, wfP p) ∧ len ≤ cap ∧ cap ≤ maxLen := by
  obtain ⟨rows, h1, h2, h3, h4⟩ := h.rds (by simp)
  obtain ⟨l, rfl, hl⟩ := open_all (f := nats .u8) (p := wfP) (fun cs hc => open_page hc) h2
  exact ⟨l, h1, hl, h3, h4⟩
/-- Of a page that is told there are two at least. -/
theorem twins_pos {l : List (List Nat)} {m : Nat} {p : List Nat} (h : (twinsK l l.length)[m]? = some p) : 1 < (idxs l p l.length).length := by
  have hm := List.mem_of_getElem? h
  unfold twinsK at hm
  rw [List.mem_filterMap] at hm
  obtain ⟨j, -, hj⟩ := hm
  cases hq : l[j]? with
  | none => rw [hq] at hj; simp at hj
  | some q =>
    rw [hq] at hj
    simp only [Option.bind_some] at hj
    split at hj
    · rename_i hb
      have e := Option.some.inj hj
      subst e
      unfold firstB at hb
      simp only [Bool.and_eq_true, decide_eq_true_eq] at hb
      exact hb.2
    · cases hj
theorem flatPg : flat Try.prog 4 42 = some (List.replicate 32 (Kd.int .u8)) := by kernel_rfl
theorem eqPg : eqOk Try.prog 4 42 = true := by kernel_rfl
theorem nats_ok : ∀ {n : Nat} {p : List Nat}, p.length = n → (∀ x ∈ p, x < 256) → okAll (List.replicate n (Kd.int .u8)) (nats .u8 p) = true
  | 0, [], _, _ => rfl
  | n + 1, x :: p, h, hx => by
    rw [List.replicate_succ]
    have hw : (Lit.int .u8 (x : Int)).wf = true := by
      have := hx x (by simp)
      simp [Lit.wf, IntKind.min, IntKind.max, IntKind.bits, IntKind.signed]; omega
    show ((Kd.int .u8).ok (.int .u8 (x : Int)) && okAll (List.replicate n (Kd.int .u8)) (nats .u8 p)) = true
    rw [nats_ok (n := n) (p := p) (by simpa using h) (fun y hy => hx y (by simp [hy])), Bool.and_true]
    simp [Kd.ok, hw]
theorem eql_page (w : World) {p q : List Nat} (hp : wfP p) (hq : wfP q) : (binOp .eql 42 (.agg (nats .u8 p).toArray) (.agg (nats .u8 q).toArray)).run Try.prog w = .ok (.bool (decide (p = q))) w := by
  rw [run_eql_flat w flatPg eqPg (by kernel_rfl) (by decide) (nats_ok hp.1 hp.2) (nats_ok hq.1 hq.2)]
  congr 2
  rw [Bool.eq_iff_iff, lEq_iff (nats_ok hp.1 hp.2) (nats_ok hq.1 hq.2), decide_eq_true_iff]
  exact nats_inj
end Go.Proofs.Ytakekjbbbjmdpaa.spotTwins
