import Derived.Test.YtpbigfopmompfaaGreatAd
/- Maps by places: what they hold, as a list. -/
namespace Go.Proofs.YtpbigfopmompfaaGreat
open Go.RowKit
open Go.Maps (Keyed)
set_option linter.unusedVariables false
def anyElem (v : Value) : Option (DataW Value × List MemPlace) := some (.held v, [])
structure Rel (D : DataW Value) (f : List (Ad × Value)) : Prop where
 tidy : Maps.Tidy D
 wf : ∀ p ∈ f, p.1.wf
 nodup : (f.map (·.1)).Nodup
 at_ : ∀ a v, (a, v) ∈ f → ∀ z, D.atKey (klA a) z = .held v
 has : ∀ a : Ad, a.wf → (Maps.has D (klA a) = true ↔ a ∈ f.map (·.1))
 size : Maps.size D = f.length
theorem Rel.nil : Rel (.map []) [] := ⟨Maps.tidy_empty, by simp, by simp, by simp, fun a _ => by rw [Maps.has_eq]; simp, rfl⟩
theorem klA_lit (a : Ad) : WideAt.IsKeyLit (klA a) := trivial
theorem klA_ne {a a' : Ad} (h : a.wf) (h' : a'.wf) (hne : a ≠ a') : klA a ≠ klA a' := fun e => hne (klA_inj h h' e)
def delF (f : List (Ad × Value)) (a : Ad) : List (Ad × Value) := f.filter fun p => decide (p.1 ≠ a)
def putF (f : List (Ad × Value)) (a : Ad) (v : Value) : List (Ad × Value) := (a, v) :: delF f a
def hasF (f : List (Ad × Value)) (a : Ad) : Bool := decide (a ∈ f.map (·.1))
theorem zbh {f : List (Ad × Value)} {a : Ad} {p : Ad × Value} : p ∈ delF f a ↔ p ∈ f ∧ p.1 ≠ a := by simp [delF]
theorem zbl (f : List (Ad × Value)) (a : Ad) : (delF f a).map (·.1) = (f.map (·.1)).filter fun b => decide (b ≠ a) := by
 unfold delF
 rw [List.filter_map]; rfl
theorem len_filter : ∀ {l : List Ad} (a : Ad), l.Nodup → (l.filter fun b => decide (b ≠ a)).length + (if a ∈ l then 1 else 0) = l.length
 | [], a, _ => by simp
 | b :: l, a, h => by
  have h2 := (List.nodup_cons.1 h); have ih := len_filter a h2.2; by_cases e : b = a
  · subst e
    have : b ∉ l := h2.1; simp [this] at ih ⊢; exact ih
  · have e' : a ≠ b := fun h => e h.symm
    rw [List.filter_cons_of_pos (by simpa using e)]; simp only [List.length_cons, List.mem_cons, e', false_or]; omega
theorem Rel.len_del {D : DataW Value} {f : List (Ad × Value)} (h : Rel D f) (a : Ad) : (delF f a).length + (if a ∈ f.map (·.1) then 1 else 0) = f.length := by
 have := len_filter a h.nodup
 rw [← zbl, List.length_map, List.length_map] at this
 exact this
theorem Rel.del {D : DataW Value} {f : List (Ad × Value)} (h : Rel D f) {a : Ad} (ha : a.wf) : Rel (D.del (klA a)) (delF f a) where
 tidy := h.tidy.del _
 wf p hp := h.wf p (zbh.1 hp).1
 nodup := by rw [zbl]; exact h.nodup.filter _
 at_ b v hb z := by
  obtain ⟨h1, h2⟩ := zbh.1 hb; rw [Maps.atKey_del_other (klA_ne (h.wf _ h1) ha h2)]; exact h.at_ b v h1 z
 has b hb := by
  rw [zbl]; by_cases e : b = a
  · subst e
    rw [Maps.has_del_same]; simp
  · rw [Maps.has_del_other (klA_ne hb ha e), h.has b hb]; simp [e]
 size := by
  have h1 := Maps.size_del h.tidy (k := klA a); have h2 := h.len_del a; rw [h.size] at h1; by_cases e : a ∈ f.map (·.1)
  · rw [if_pos ((h.has a ha).2 e)] at h1; rw [if_pos e] at h2; omega
  · rw [if_neg (fun h' => e ((h.has a ha).1 h'))] at h1; rw [if_neg e] at h2; omega
theorem Rel.put {D : DataW Value} {f : List (Ad × Value)} (h : Rel D f) {a : Ad} (ha : a.wf) (v : Value) : Rel (D.put (klA a) (.held v)) (putF f a v) where
 tidy := h.tidy.put (klA_lit a) _
 wf p hp := (List.mem_cons.1 hp).elim (fun e => by rw [e]; exact ha) (fun hp => h.wf p (zbh.1 hp).1)
 nodup := by
  show (a :: (delF f a).map (·.1)).Nodup
  rw [List.nodup_cons, zbl]; exact ⟨by simp, h.nodup.filter _⟩
 at_ b u hb z := by
  rcases List.mem_cons.1 hb with e | hb
  · simp at e
    obtain ⟨rfl, rfl⟩ := e; exact Maps.atKey_put_same h.tidy.isMap (klA_lit _) _ _
  · obtain ⟨h1, h2⟩ := zbh.1 hb
    rw [Maps.atKey_put_other (klA_ne (h.wf _ h1) ha h2)]; exact h.at_ b u h1 z
 has b hb := by
  show _ ↔ b ∈ a :: (delF f a).map (·.1)
  rw [zbl]; by_cases e : b = a
  · subst e
    rw [Maps.has_put_same h.tidy.isMap (klA_lit _)]; simp
  · rw [Maps.has_put_other (klA_ne hb ha e), h.has b hb]; simp [e]
 size := by
  rw [Maps.size_put h.tidy, h.size]; have h2 := h.len_del a; show _ = (delF f a).length + 1
  by_cases e : a ∈ f.map (·.1)
  · rw [if_pos ((h.has a ha).2 e)]; rw [if_pos e] at h2; omega
  · rw [if_neg (fun h' => e ((h.has a ha).1 h'))]; rw [if_neg e] at h2; omega
theorem Rel.hasB {D : DataW Value} {f : List (Ad × Value)} (h : Rel D f) {a : Ad} (ha : a.wf) : Maps.has D (klA a) = hasF f a := by
 unfold hasF
 rw [Bool.eq_iff_iff, h.has a ha]; simp
end Go.Proofs.YtpbigfopmompfaaGreat
