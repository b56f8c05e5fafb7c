import Derived.Test.YtakekjbbbjmdpaaSpotRel
import Derived.Deep.RegionLaw
import Derived.Deep.Cut
import Derived.Laws.Pointers
/- Maps by places: words for the heap, and the operations. -/
namespace Go.Proofs.Ytakekjbbbjmdpaa
open Go.RowKit
open Go.Maps (Keyed)
set_option linter.unusedVariables false
def Spot (w : World) (T : TypeId) (g b n : Nat) (f : List (Ad × Value)) : Prop :=
  w.heap[g]? = some (.cells #[.map (some b)] T (0, 0)) ∧ ∃ D, w.ownsMap Try.prog 83 anyElem b n D ∧ Rel D f
theorem owns_below {w w' : World} {b n : Nat} {D : DataW Value} (h : w.ownsMap Try.prog 83 anyElem b n D) (hb : Below w.heap.size w w') : w'.ownsMap Try.prog 83 anyElem b n D := by
  obtain ⟨es, clock, h1, h2⟩ := h
  exact ⟨es, clock, blk_below h1 hb, h2⟩
theorem Spot.below {w w' : World} {T : TypeId} {g b n : Nat} {f : List (Ad × Value)} (h : Spot w T g b n f) (hb : Below w.heap.size w w') : Spot w' T g b n f := by
  obtain ⟨h1, D, h2, h3⟩ := h
  exact ⟨blk_below h1 hb, D, owns_below h2 hb, h3⟩
theorem Spot.lt {w : World} {T : TypeId} {g b n : Nat} {f : List (Ad × Value)} (h : Spot w T g b n f) : g < w.heap.size ∧ b < w.heap.size := by
  obtain ⟨h1, D, h2, h3⟩ := h
  exact ⟨lt_of_cells h1, h2.lt⟩
theorem Spot.mono {w : World} {T : TypeId} {g b n n' : Nat} {f : List (Ad × Value)} (h : Spot w T g b n f) (hn : n ≤ n') : Spot w T g b n' f := by
  obtain ⟨h1, D, h2, h3⟩ := h
  exact ⟨h1, D, h2.mono hn, h3⟩
theorem Spot.perm {w : World} {T : TypeId} {g b n : Nat} {f f' : List (Ad × Value)} (h : Spot w T g b n f) (hp : f.Perm f') : Spot w T g b n f' := by
  obtain ⟨h1, D, h2, h3⟩ := h
  exact ⟨h1, D, h2, h3.perm hp⟩
theorem ad_at {w : World} {g : Nat} {a : Ad} {t : TypeId} {fr : Nat × Nat} (h : w.heap[g]? = some (.cells a.v.toArray t fr)) :
    w.cell? ⟨g, 0, none⟩ = some (.int .i64 a.d) ∧ w.cell? ⟨g, 1, none⟩ = some (.int .i64 a.b) ∧ w.cell? ⟨g, 2, none⟩ = some (.int .i64 a.p) := by
  refine ⟨by rw [blk_cell h]; rfl, by rw [blk_cell h]; rfl, by rw [blk_cell h]; rfl⟩
theorem owns_ne {w : World} {b n g : Nat} {D : DataW Value} {cs : Array Value} {t : TypeId} {fr : Nat × Nat} (h : w.ownsMap Try.prog 83 anyElem b n D) (hg : w.heap[g]? = some (.cells cs t fr)) : g ≠ b := by
  obtain ⟨es, clock, h1, -⟩ := h
  intro e
  rw [e, h1] at hg
  cases hg
theorem grown_undrew {w w' : World} {row : Option Nat} (h : w.drew.grownBy w' row) : w.grownBy w' row := ⟨h.os, h.tape, h.output, h.size, h.block⟩
def lookF (f : List (Ad × Value)) (a : Ad) (z : Value) : Value := ((f.find? fun p => decide (p.1 = a)).map (·.2)).getD z
theorem find_pair : ∀ {f : List (Ad × Value)} {a : Ad} {v : Value}, (f.map (·.1)).Nodup → (a, v) ∈ f → f.find? (fun p => decide (p.1 = a)) = some (a, v)
  | [], _, _, _, h => by simp at h
  | p :: f, a, v, hn, h => by
    rw [List.map_cons, List.nodup_cons] at hn
    rcases List.mem_cons.1 h with e | h
    · rw [← e]; simp
    · have : p.1 ≠ a := fun e => hn.1 (by rw [e]; exact List.mem_map.2 ⟨(a, v), h, rfl⟩)
      rw [List.find?_cons_of_neg (by simpa using this)]
      exact find_pair hn.2 h
theorem look_run {w : World} {b n : Nat} {D : DataW Value} {f : List (Ad × Value)} {t e : TypeId} (h : w.ownsMap Try.prog 83 anyElem b n D) (hR : Rel D f) {a : Ad} (ha : a.wf) (ht : Try.prog.underlying t = some (.map 83 e)) {z : Value} (hz : (zeroValue e).run Try.prog w = .ok z w) :
    (Instr.lookup t (.map (some b)) (.agg #[.int .i64 a.d, .int .i64 a.b, .int .i64 a.p]) true).run Try.prog w = .ok (.tuple #[lookF f a z, .bool (hasF f a)]) w := by
  have hk : keyOf Try.prog 83 (.agg #[.int .i64 a.d, .int .i64 a.b, .int .i64 a.p]) = some (klA a) := keyOf_ad ha
  obtain ⟨es, clock, hb, F, hs, rfl⟩ := h
  rcases Maps.fit_look true adKeyed ht hz hb F hk with ⟨hrun, -, hat⟩ | ⟨e0, y, -, -, hrun, hRv, hat, -⟩
  · have h0 := Maps.has_false_of_atKey hat
    have hn : ¬ a ∈ f.map (·.1) := fun h' => by rw [(hR.has a ha).2 h'] at h0; cases h0
    rw [hrun]
    have e1 : hasF f a = false := by unfold hasF; simpa using hn
    have e2 : f.find? (fun p => decide (p.1 = a)) = none := by
      rw [List.find?_eq_none]
      intro p hp
      simp
      intro e
      exact hn (List.mem_map.2 ⟨p, hp, e⟩)
    rw [e1]
    unfold lookF
    rw [e2]; rfl
  · have h1 := Maps.has_true_of_atKey hat
    obtain ⟨p, hp, e⟩ := List.mem_map.1 ((hR.has a ha).1 h1)
    obtain ⟨a', v⟩ := p
    simp only at e
    subst e
    have h2 := hR.at_ _ v hp (.held v)
    rw [hat] at h2
    have h3 : y = (DataW.held e0.val, []) := (Option.some.inj (show some ((DataW.held e0.val : DataW Value), ([] : List MemPlace)) = some y from hRv)).symm
    rw [h3] at h2
    have h3 : e0.val = v := DataW.held.inj h2
    rw [hrun]
    have e1 : hasF f a' = true := by unfold hasF; simpa using ⟨v, hp⟩
    rw [e1]
    unfold lookF
    rw [find_pair hR.nodup hp, h3]; rfl
theorem below_grown {w w' : World} (h : Below w.heap.size w w') (row : Option Nat) : w.grownBy w' row := ⟨h.os, h.tape, h.output, h.size, fun i hi _ => h.block i hi⟩
theorem turned_grown {w w' : World} {b : Nat} (h : w.mapTurned w' b) : w.grownBy w' (some b) := by
  obtain ⟨es, clock, es', clock', hb, rfl⟩ := h
  exact ⟨rfl, rfl, rfl, by simp [ChangeMaps.setBlock], fun i _ hi => ChangeMaps.heap_setBlock_other hb _ (fun e => hi (by rw [e]))⟩
section
variable {P : Program} {ops : Array Oper} {o : Oper} {a : Act} {w : World} {Q : Exit → Act → World → Prop}
theorem step_put {K : Act → World → Prop} {E : Prop} (hgd : o.guard = none) (m x v : Operand) (t : TypeId) (hop : o.op = Op.mapUpdate t m x v)
    (k e : TypeId) (Kd : Keyed P k) (ht : P.underlying t = some (.map k e)) (b n : Nat) (D : DataW Value)
    (hm : a.eval m = .map (some b)) (hown : w.ownsMap P k anyElem b n D) (hn : n < maxLen) (key val : Value) (kl : Lit) (hx : a.eval x = key) (hv : a.eval v = val) (hkey : keyOf P k key = some kl)
    (h : ∀ w', w'.ownsMap P k anyElem b (n + 1) (D.put kl (.held val)) → w.grownBy w' (some b) → K (a.put o.dst undef) w') : if Region.wanted o (yielded ops a.tmps) = true then Oper.wp P o a w K Q else E := by
  rw [if_pos (by simp [Region.wanted, hgd])]
  obtain ⟨w', hrun, r1, r2⟩ := hown.update Kd ht hn hkey (show anyElem val = some (.held val, []) from rfl)
  unfold Oper.wp
  simp [execOp, hop, hm, hx, hv, hrun, Result.andThen]
  exact h w' r1 r2
end
end Go.Proofs.Ytakekjbbbjmdpaa
