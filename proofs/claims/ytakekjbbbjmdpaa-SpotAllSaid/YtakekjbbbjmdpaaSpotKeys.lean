import Derived.Test.YtakekjbbbjmdpaaSpotOps
import Derived.Test.YtakekjbbbjmdpaaSortUse
/- The keys of a map by places, met one by one in whichever order. -/
namespace Go.Proofs.Ytakekjbbbjmdpaa
open Go.RowKit Go.Shelf Go.Lib Go.Sort
set_option linter.unusedVariables false
theorem invA (key : Value) (kl : Lit) (h : keyOf Try.prog 83 key = some kl) : ∃ a : Ad, key = .agg #[.int .i64 a.d, .int .i64 a.b, .int .i64 a.p] := by
  obtain ⟨a, e, -, -⟩ := key_ad h
  exact ⟨a, e⟩
def cellsL : Value → List Value
  | .agg cs => cs.toList
  | _ => []
theorem keyA {a : Ad} {kl : Lit} (h : keyOf Try.prog 83 (.agg #[.int .i64 a.d, .int .i64 a.b, .int .i64 a.p]) = some kl) : a.wf ∧ kl = klA a := by
  obtain ⟨a', e, hw, rfl⟩ := key_ad h
  have : a = a' := Ad.v_inj (congrArg cellsL e)
  subst this
  exact ⟨hw, rfl⟩
structure KeysIn (D : DataW Value) (left : Lit → Bool) (ks : List Ad) : Prop where
  met : ∀ a ∈ ks, a.wf ∧ Maps.has D (klA a) = true ∧ left (klA a) = false
  nodup : ks.Nodup
  rest : ∀ a : Ad, a.wf → Maps.has D (klA a) = true → a ∈ ks ∨ left (klA a) = true
theorem KeysIn.start (D : DataW Value) : KeysIn D (Maps.has D) [] := ⟨by simp, by simp, fun a _ h => .inr h⟩
theorem KeysIn.next {D : DataW Value} {left : Lit → Bool} {ks : List Ad} (h : KeysIn D left ks) {x : Ad} (hw : x.wf) (hl : left (klA x) = true) {y : DataW Value} (hat : ∀ zd, D.atKey (klA x) zd = y) : KeysIn D (fun z => left z && !z.sameKey (klA x)) (ks ++ [x]) where
  met a ha := by
    rcases List.mem_append.1 ha with ha | ha
    · obtain ⟨h1, h2, h3⟩ := h.met a ha
      exact ⟨h1, h2, by rw [h3]; rfl⟩
    · rw [List.mem_singleton] at ha
      subst ha
      exact ⟨hw, Maps.has_true_of_atKey hat, by rw [WideAt.sameKey_self (klA_lit _)]; simp⟩
  nodup := by
    rw [List.nodup_append]
    refine ⟨h.nodup, by simp, fun a ha b hb => ?_⟩
    rw [List.mem_singleton] at hb
    subst hb
    intro e
    subst e
    rw [(h.met _ ha).2.2] at hl
    cases hl
  rest a ha hD := by
    by_cases e : a = x
    · exact .inl (by simp [e])
    · rcases h.rest a ha hD with h1 | h1
      · exact .inl (by simp [h1])
      · refine .inr ?_
        rw [h1, Maps.sameKey_ne (klA_ne ha hw e)]; rfl
theorem sortA_perm {l l' : List Ad} (h : l.Perm l') : sortA l = sortA l' := by
  have tr : ∀ a b c : Ad, (!(ltOf ordA) b a) = true → (!(ltOf ordA) c b) = true → (!(ltOf ordA) c a) = true := fun a b c h1 h2 => by
    simp only [Bool.not_eq_true'] at *
    exact swoA.ntrans c b a h2 h1
  have to : ∀ a b : Ad, ((!(ltOf ordA) b a) || (!(ltOf ordA) a b)) = true := fun a b => by
    rw [lt_ord, lt_ord, Bool.or_eq_true, Bool.not_eq_true', Bool.not_eq_true', Bool.eq_false_iff, Bool.eq_false_iff, ne_eq, ne_eq, less_iff, less_iff]; omega
  unfold sortA
  refine List.Perm.eq_of_pairwise (le := fun x y => (!(ltOf ordA) y x) = true) (fun a b _ _ h1 h2 => totA a b (by simpa using h2) (by simpa using h1)) (List.pairwise_mergeSort tr to l) (List.pairwise_mergeSort tr to l') ?_
  exact (List.mergeSort_perm l _).trans (h.trans (List.mergeSort_perm l' _).symm)
theorem KeysIn.done {D : DataW Value} {left : Lit → Bool} {ks : List Ad} {f : List (Ad × Value)} (h : KeysIn D left ks) (hR : Rel D f) (hl : ∀ kl, left kl = false) : sortA ks = sortA (f.map (·.1)) ∧ ks.length = f.length := by
  have hp : ks.Perm (f.map (·.1)) := by
    rw [List.perm_ext_iff_of_nodup h.nodup hR.nodup]
    intro a
    constructor
    · intro ha
      obtain ⟨h1, h2, -⟩ := h.met a ha
      exact (hR.has a h1).1 h2
    · intro ha
      obtain ⟨p, hp, rfl⟩ := List.mem_map.1 ha
      rcases h.rest _ (hR.wf p hp) ((hR.has _ (hR.wf p hp)).2 ha) with h1 | h1
      · exact h1
      · rw [hl] at h1; cases h1
  exact ⟨sortA_perm hp, by rw [hp.length_eq, List.length_map]⟩
theorem nodup_len : ∀ {l m : List Ad}, l.Nodup → (∀ a ∈ l, a ∈ m) → l.length ≤ m.length
  | [], _, _, _ => Nat.zero_le _
  | a :: l, m, h, hs => by
    obtain ⟨h1, h2⟩ := List.nodup_cons.1 h
    have ha := hs a (by simp)
    have := nodup_len (m := m.erase a) h2 fun b hb => by
      have : b ≠ a := fun e => h1 (e ▸ hb)
      rw [List.mem_erase_of_ne this]
      exact hs b (by simp [hb])
    rw [List.length_erase_of_mem ha] at this
    have hp : 0 < m.length := List.length_pos_of_mem ha
    simp; omega
theorem KeysIn.len {D : DataW Value} {left : Lit → Bool} {ks : List Ad} {f : List (Ad × Value)} (h : KeysIn D left ks) (hR : Rel D f) : ks.length ≤ f.length := by
  have := nodup_len (m := f.map (·.1)) h.nodup fun a ha => by
    obtain ⟨h1, h2, -⟩ := h.met a ha
    exact (hR.has a h1).1 h2
  simpa using this
theorem OwnRows.grown {w w' : World} {base C n : Nat} {e : TypeId} {v : Value} {rows : List (List Value)} {row : Option Nat} (h : OwnRows w base e C v n rows) (hg : w.grownBy w' row) (hne : ∀ k, row = some k → v.ownBlock ≠ some k) : OwnRows w' base e C v n rows := by
  refine ⟨⟨h.1.1, ?_⟩, h.2⟩
  rcases h.1.2 with h0 | ⟨g, cap, cur, hv, hb, hh, r⟩
  · exact .inl h0
  · exact .inr ⟨g, cap, cur, hv, hb, (hg.block g (lt_of_cells hh) (fun e => hne g e.symm (by rw [hv]; rfl))).trans hh, r⟩
theorem OwnRows.block_ge {w : World} {base C n : Nat} {e : TypeId} {v : Value} {rows : List (List Value)} (h : OwnRows w base e C v n rows) : ∀ k, v.ownBlock = some k → base ≤ k := by
  intro k hk
  rcases h.1.2 with ⟨rfl, -⟩ | ⟨g, cap, cur, rfl, hb, -⟩
  · cases hk
  · cases hk; exact hb
theorem OwnRows.ne5 {w : World} {base C n : Nat} {e : TypeId} {v : Value} {rows : List (List Value)} (h : OwnRows w base e C v n rows) {g : Nat} (hg : g < base) : v.ownBlock ≠ some g := by
  intro hv
  have := h.block_ge g hv
  omega
theorem OwnRows.fresh5 {w : World} {base C n : Nat} {e : TypeId} {v : Value} {rows : List (List Value)} (h : OwnRows w base e C v n rows) : v.ownBlock ≠ some w.heap.size := by
  intro hv
  have := (h.1.lt _ hv).2
  omega
theorem Upd.grown {g : Nat} {o : Obj} {w w' : World} (h : Upd g o w w') : w.grownBy w' (some g) := ⟨h.os, h.tape, h.output, by rw [h.size]; exact Nat.le_refl _, fun i _ hne => h.block i fun e => hne (by rw [e])⟩
theorem aInfo : (Try.prog.info? 83).map (·.size) = some 3 := by kernel_rfl
theorem aInfo3 : (Try.prog.info? 83).map (fun i => (i.zero, i.size, i.bytes)) = some (some (.agg #[.int .i64 0, .int .i64 0, .int .i64 0]), 3, 24) := by kernel_rfl
end Go.Proofs.Ytakekjbbbjmdpaa
