import Derived.Test.YtpbigfopmompfaaGreatBunH
import Derived.Test.YtpbigfopmompfaaGreatPg
import Derived.WideKeyEntry
/- Maps by pages: what they hold, as a list. -/
namespace Go.Proofs.YtpbigfopmompfaaGreat.pg
open Go.RowKit
open Go.Maps (Keyed)
set_option linter.unusedVariables false
structure Rel (D : DataW Value) (f : List (List Nat × Value)) : Prop where
 tidy : Maps.Tidy D
 wf : ∀ p ∈ f, wfP p.1
 nodup : (f.map (·.1)).Nodup
 at_ : ∀ a v, (a, v) ∈ f → ∀ z, D.atKey (klP a) z = .held v
 has : ∀ a : List Nat, wfP a → (Maps.has D (klP a) = true ↔ a ∈ f.map (·.1))
 size : Maps.size D = f.length
theorem Rel.nil : Rel (.map []) [] := ⟨Maps.tidy_empty, by simp, by simp, by simp, fun a _ => by rw [Maps.has_eq]; simp, rfl⟩
set_option maxRecDepth 100000 in
theorem klP_lit {a : List Nat} (h : wfP a) : WideAt.IsKeyLit (klP a) := keyed.key (keyOf_pg h)
theorem klP_ne {a a' : List Nat} (h : wfP a) (h' : wfP a') (hne : a ≠ a') : klP a ≠ klP a' := fun e => hne (klP_inj h h' e)
def delF (f : List (List Nat × Value)) (a : List Nat) : List (List Nat × Value) := f.filter fun p => decide (p.1 ≠ a)
def putF (f : List (List Nat × Value)) (a : List Nat) (v : Value) : List (List Nat × Value) := (a, v) :: delF f a
def hasF (f : List (List Nat × Value)) (a : List Nat) : Bool := decide (a ∈ f.map (·.1))
theorem zbh {f : List (List Nat × Value)} {a : List Nat} {p : List Nat × Value} : p ∈ delF f a ↔ p ∈ f ∧ p.1 ≠ a := by simp [delF]
theorem zbl (f : List (List Nat × Value)) (a : List Nat) : (delF f a).map (·.1) = (f.map (·.1)).filter fun b => decide (b ≠ a) := by
 unfold delF
 rw [List.filter_map]; rfl
theorem len_filter : ∀ {l : List (List Nat)} (a : List Nat), l.Nodup → (l.filter fun b => decide (b ≠ a)).length + (if a ∈ l then 1 else 0) = l.length
 | [], a, _ => by simp
 | b :: l, a, h => by
  have h2 := (List.nodup_cons.1 h); have ih := len_filter a h2.2; by_cases e : b = a
  · subst e
    have : b ∉ l := h2.1; simp [this] at ih ⊢; exact ih
  · have e' : a ≠ b := fun h => e h.symm
    rw [List.filter_cons_of_pos (by simpa using e)]; simp only [List.length_cons, List.mem_cons, e', false_or]; omega
theorem Rel.len_del {D : DataW Value} {f : List (List Nat × Value)} (h : Rel D f) (a : List Nat) : (delF f a).length + (if a ∈ f.map (·.1) then 1 else 0) = f.length := by
 have := len_filter a h.nodup
 rw [← zbl, List.length_map, List.length_map] at this
 exact this
theorem Rel.del {D : DataW Value} {f : List (List Nat × Value)} (h : Rel D f) {a : List Nat} (ha : wfP a) : Rel (D.del (klP a)) (delF f a) where
 tidy := h.tidy.del _
 wf p hp := h.wf p (zbh.1 hp).1
 nodup := by rw [zbl]; exact h.nodup.filter _
 at_ b v hb z := by
  obtain ⟨h1, h2⟩ := zbh.1 hb; rw [Maps.atKey_del_other (klP_ne (h.wf _ h1) ha h2)]; exact h.at_ b v h1 z
 has b hb := by
  rw [zbl]; by_cases e : b = a
  · subst e
    rw [Maps.has_del_same]; simp
  · rw [Maps.has_del_other (klP_ne hb ha e), h.has b hb]; simp [e]
 size := by
  have h1 := Maps.size_del h.tidy (k := klP a); have h2 := h.len_del a; rw [h.size] at h1; by_cases e : a ∈ f.map (·.1)
  · rw [if_pos ((h.has a ha).2 e)] at h1; rw [if_pos e] at h2; omega
  · rw [if_neg (fun h' => e ((h.has a ha).1 h'))] at h1; rw [if_neg e] at h2; omega
set_option maxRecDepth 100000 in
theorem Rel.put {D : DataW Value} {f : List (List Nat × Value)} (h : Rel D f) {a : List Nat} (ha : wfP a) (v : Value) : Rel (D.put (klP a) (.held v)) (putF f a v) where
 tidy := h.tidy.put (klP_lit ha) _
 wf p hp := (List.mem_cons.1 hp).elim (fun e => by rw [e]; exact ha) (fun hp => h.wf p (zbh.1 hp).1)
 nodup := by
  show (a :: (delF f a).map (·.1)).Nodup
  rw [List.nodup_cons, zbl]; exact ⟨by simp, h.nodup.filter _⟩
 at_ b u hb z := by
  rcases List.mem_cons.1 hb with e | hb
  · simp at e
    obtain ⟨rfl, rfl⟩ := e; exact Maps.atKey_put_same h.tidy.isMap (klP_lit ha) _ _
  · obtain ⟨h1, h2⟩ := zbh.1 hb
    rw [Maps.atKey_put_other (klP_ne (h.wf _ h1) ha h2)]; exact h.at_ b u h1 z
 has b hb := by
  show _ ↔ b ∈ a :: (delF f a).map (·.1)
  rw [zbl]; by_cases e : b = a
  · subst e
    rw [Maps.has_put_same h.tidy.isMap (klP_lit ha)]; simp
  · rw [Maps.has_put_other (klP_ne hb ha e), h.has b hb]; simp [e]
 size := by
  rw [Maps.size_put h.tidy, h.size]; have h2 := h.len_del a; show _ = (delF f a).length + 1
  by_cases e : a ∈ f.map (·.1)
  · rw [if_pos ((h.has a ha).2 e)]; rw [if_pos e] at h2; omega
  · rw [if_neg (fun h' => e ((h.has a ha).1 h'))]; rw [if_neg e] at h2; omega
theorem Rel.hasB {D : DataW Value} {f : List (List Nat × Value)} (h : Rel D f) {a : List Nat} (ha : wfP a) : Maps.has D (klP a) = hasF f a := by
 unfold hasF
 rw [Bool.eq_iff_iff, h.has a ha]; simp
def lookF (f : List (List Nat × Value)) (a : List Nat) (z : Value) : Value := ((f.find? fun p => decide (p.1 = a)).map (·.2)).getD z
theorem find_pair : ∀ {f : List (List Nat × Value)} {a : List Nat} {v : Value}, (f.map (·.1)).Nodup → (a, v) ∈ f → f.find? (fun p => decide (p.1 = a)) = some (a, v)
 | [], _, _, _, h => by simp at h
 | p :: f, a, v, hn, h => by
  rw [List.map_cons, List.nodup_cons] at hn; rcases List.mem_cons.1 h with e | h
  · rw [← e]; simp
  · have : p.1 ≠ a := fun e => hn.1 (by rw [e]; exact List.mem_map.2 ⟨(a, v), h, rfl⟩)
    rw [List.find?_cons_of_neg (by simpa using this)]; exact find_pair hn.2 h
theorem lookF_in {f : List (List Nat × Value)} {a : List Nat} {v z : Value} (hn : (f.map (·.1)).Nodup) (h : (a, v) ∈ f) : lookF f a z = v := by unfold lookF; rw [find_pair hn h]; rfl
theorem lookF_out {f : List (List Nat × Value)} {a : List Nat} {z : Value} (h : a ∉ f.map (·.1)) : lookF f a z = z := by
 unfold lookF
 have : f.find? (fun p => decide (p.1 = a)) = none := by
  rw [List.find?_eq_none]; intro p hp; simp; intro e; exact h (List.mem_map.2 ⟨p, hp, e⟩)
 rw [this]; rfl
set_option maxRecDepth 100000 in
theorem lawP : WideMaps.KeyLaw Tryz.prog 90 := deep_law_laid ad_laidOut (m := 2) (by omega) pg_row pg_kt pg_wide
theorem val_of {w : World} {b n : Nat} {D : DataW Value} {f : List (List Nat × Value)} {t e : TypeId} (h : w.ownsMap Tryz.prog 90 anyElem b n D) (hR : Rel D f) {p : List Nat} (hp : wfP p) (ht : Tryz.prog.underlying t = some (.map 90 e)) {z : Value} (hz : (zeroValue e).run Tryz.prog w = .ok z w) :
 (Instr.lookup t (.map (some b)) (.agg (nats .u8 p).toArray) false).run Tryz.prog w = .ok (lookF f p z) w := by
 have hk := keyOf_pg hp
 obtain ⟨es, clock, hb, F, hs, rfl⟩ := h
 rcases Maps.fit_look false keyed ht hz hb F hk with ⟨hrun, -, hat⟩ | ⟨e0, y, -, -, hrun, hRv, hat, -⟩
 · have h0 := Maps.has_false_of_atKey hat
   have hn : ¬ p ∈ f.map (·.1) := fun h' => by rw [(hR.has p hp).2 h'] at h0; cases h0
   rw [hrun, lookF_out hn]; rfl
 · have h1 := Maps.has_true_of_atKey hat
   obtain ⟨q, hq, e⟩ := List.mem_map.1 ((hR.has p hp).1 h1); obtain ⟨a', v⟩ := q; simp only at e; subst e; have h2 := hR.at_ _ v hq (.held v); rw [hat] at h2; have h3 : y = (DataW.held e0.val, []) := (Option.some.inj (show some ((DataW.held e0.val : DataW Value), ([] : List MemPlace)) = some y from hRv)).symm; rw [h3] at h2; have h3 : e0.val = v := DataW.held.inj h2; rw [hrun, lookF_in hR.nodup hq, h3]; rfl
theorem entry_run {w : World} {b n : Nat} {D : DataW Value} {f : List (List Nat × Value)} {t e : TypeId} (h : w.ownsMap Tryz.prog 90 anyElem b n D) (hR : Rel D f) {p : List Nat} (hp : wfP p) (ht : Tryz.prog.underlying t = some (.map 90 e)) {z : Value} (hz : ∀ u : World, (zeroValue e).run Tryz.prog u = .ok z u) (hn : n < maxLen) :
 ∃ (st : Nat) (w1 : World), (Instr.mapEntry t (.map (some b)) (.agg (nats .u8 p).toArray)).run Tryz.prog w = .ok (.tuple #[lookF f p z, .int .i64 (st : Int)]) w1 ∧ w.grownBy w1 (some b) ∧ w1.heap.size = w.heap.size ∧
  ∀ (w2 : World) (val : Value), w2.heap[b]? = w1.heap[b]? → ∃ w3, (Instr.entryStore t (.map (some b)) (.int .i64 (st : Int)) val).run Tryz.prog w2 = .ok () w3 ∧ w3.ownsMap Tryz.prog 90 anyElem b (n + 1) (D.put (klP p) (.held val)) ∧ w2.grownBy w3 (some b) := by
 have hk := keyOf_pg hp
 have hlook := val_of h hR hp ht (hz w)
 have hown := h
 obtain ⟨es, clock, hb, F, hs, hD⟩ := h
 obtain ⟨v0, st, es1, clock1, hrun, hv0, hst⟩ := WideElems.entry_then_store lawP ht hz hb F hk
 have he : v0 = lookF f p z := by
  rcases Maps.fit_look false keyed ht (hz w) hb F hk with ⟨hr2, hno, -⟩ | ⟨e0, y, hm0, hk0, hr2, -, -, -⟩
  · rw [hr2] at hlook
    have hz' : z = lookF f p z := by injection hlook
    rcases hv0 with ⟨e1, hm, hk1, -⟩ | ⟨-, e2⟩
    · exact absurd hk1 (hno e1 hm)
    · rw [e2]; exact hz'
  · rw [hr2] at hlook
    have hz' : e0.val = lookF f p z := by injection hlook
    rcases hv0 with ⟨e1, hm, hk1, e2⟩ | ⟨hno, -⟩
    · have : e1 = e0 := entry_eq_of_key ((MapKept.stamped_iff es clock).1 F.stamped).2.2 hm hm0 (hk1.trans hk0.symm)
      rw [e2, this]; exact hz'
    · exact absurd hk0 (hno e0 hm0)
 have hgrow : ∀ (u : World) (es0 : Array MapEntry) (c0 : Nat) (o : Obj), u.heap[b]? = some (.map es0 c0) → u.grownBy (ChangeMaps.setBlock u b o) (some b) := fun u es0 c0 o hu =>
  ⟨rfl, rfl, rfl, by simp [ChangeMaps.setBlock], fun i _ hi => ChangeMaps.heap_setBlock_other hu _ (fun e => hi (by rw [e]))⟩
 refine ⟨st, _, by rw [hrun, he]; rfl, hgrow w es clock _ hb, by simp [ChangeMaps.setBlock], fun w2 val hw2 => ?_⟩
 rw [ChangeMaps.heap_setBlock_same hb] at hw2
 obtain ⟨es', clock', hrun2, hup⟩ := hst w2 val hw2
 obtain ⟨w', hrun3, hown3, -⟩ := hown.update keyed ht hn hk (show anyElem val = some (.held val, []) from rfl)
 rw [hup] at hrun3
 have hw' : ChangeMaps.setBlock w b (.map es' clock') = w' := by injection hrun3
 subst hw'
 obtain ⟨es3, clock3, h3, rest⟩ := hown3
 rw [ChangeMaps.heap_setBlock_same hb] at h3
 cases h3
 exact ⟨_, hrun2, ⟨es', clock', ChangeMaps.heap_setBlock_same hw2 _, rest⟩, hgrow w2 es1 clock1 _ hw2⟩
end Go.Proofs.YtpbigfopmompfaaGreat.pg
