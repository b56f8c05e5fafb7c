import Derived.Test.YtakekjbbbjmdpaaOrderAd
import Derived.Test.YtakekjbbbjmdpaaOwnRows
/- Places, put in their order. -/
namespace Go.Proofs.Ytakekjbbbjmdpaa
open Go.RowKit Go.Shelf Go.Lib Go.Sort
set_option linter.unusedVariables false
instance : Inhabited Ad := ⟨⟨0, 0, 0⟩⟩
def lessA (x y : Ad) : Bool := if x.d ≠ y.d then decide (x.d < y.d) else if x.b ≠ y.b then decide (x.b < y.b) else decide (x.p < y.p)
theorem lt_ord (x y : Ad) : ltOf ordA x y = lessA x y := by
  unfold ltOf ordA lessA orI orI orI orI cmpI
  rw [Bool.eq_iff_iff]
  simp only [decide_eq_true_eq]
  repeat' split
  all_goals simp_all
  all_goals omega
theorem less_iff (x y : Ad) : lessA x y = true ↔ x.d < y.d ∨ (x.d = y.d ∧ (x.b < y.b ∨ (x.b = y.b ∧ x.p < y.p))) := by
  unfold lessA
  repeat' split
  all_goals simp_all
  all_goals omega
theorem swoA : SWO (ltOf ordA) where
  irrefl x := by rw [lt_ord, Bool.eq_false_iff, ne_eq, less_iff]; omega
  trans x y z h1 h2 := by rw [lt_ord, less_iff] at *; omega
  ntrans x y z h1 h2 := by rw [lt_ord, Bool.eq_false_iff, ne_eq, less_iff] at *; omega
theorem totA (x y : Ad) (h1 : ltOf ordA x y = false) (h2 : ltOf ordA y x = false) : x = y := by
  rw [lt_ord, Bool.eq_false_iff, ne_eq, less_iff] at h1 h2
  obtain ⟨d, b, p⟩ := x
  obtain ⟨d', b', p'⟩ := y
  simp only at h1 h2
  obtain rfl : d = d' := by omega
  obtain rfl : b = b' := by omega
  obtain rfl : p = p' := by omega
  rfl
def ads (l : List Ad) : List (List Value) := l.map Ad.v
theorem ads_len (l : List Ad) : ∀ r ∈ ads l, r.length = 3 := by
  intro r hr
  obtain ⟨x, _, rfl⟩ := List.mem_map.1 hr
  rfl
theorem one_ad (x : Ad) : ∀ v ∈ x.v, v.oneCell' = true := by
  intro v hv
  simp [Ad.v] at hv
  rcases hv with rfl | rfl | rfl <;> rfl
theorem one_ads (l : List Ad) : ∀ r ∈ ads l, ∀ u ∈ r, u.oneCell' = true := by
  intro r hr
  obtain ⟨x, _, rfl⟩ := List.mem_map.1 hr
  exact one_ad x
def sortA (l : List Ad) : List Ad := l.mergeSort fun x y => !(ltOf ordA) y x
theorem cmpLays (g off size : Nat) (w : World) : CmpLays Try.prog 105 #[] Ad.v 3 ordA g off size w := fun _ _ _ _ x y => order_any x y _
theorem flatK_ads (l : List Ad) : (flatK Ad.v 3 l.toArray).toList = (ads l).flatten := by
  apply List.ext_getElem?
  intro j
  have hl : (ads l).flatten.length = l.length * 3 := by rw [flat_len (ads_len l)]; simp [ads]
  by_cases hj : j < l.length * 3
  · have h1 : j / 3 < l.length := by omega
    have h2 : j % 3 < 3 := by omega
    have e := flat_get (C := 3) (ads_len l) (i := j / 3) (j := j % 3) (r := l[j / 3].v) (by rw [ads, List.getElem?_map, List.getElem?_eq_getElem h1]; rfl) h2
    rw [show j / 3 * 3 + j % 3 = j by omega] at e
    rw [e]
    have h3 : j % 3 < l[j / 3].v.length := h2
    rw [List.getElem?_eq_getElem h3]
    simp [flatK, hj, h1]
    rw [List.getElem?_eq_getElem h3]; rfl
  · rw [List.getElem?_eq_none (by simp [flatK]; omega), List.getElem?_eq_none (by omega)]
theorem heap_sort {enc : Ad → List Value} {k : Nat} {w : World} {g m : Nat} {d : Array Ad} {os : Array Obj} {cur : Array Value} {e : TypeId} {fr : Nat × Nat} (hh : w.heap[g]? = some (.cells cur e fr)) :
    (sortWorldK enc k w g 0 m d os).heap[g]? = some (.cells (putCells id 0 (flatK enc k d) cur) e fr) := by
  have hlt := lt_of_cells hh
  change (w.heap.modify g (onCells (putCells id 0 (flatK enc k d))) ++ os)[g]? = _
  rw [Array.getElem?_append_left (by simpa using hlt), Array.getElem?_modify, hh]
  simp [onCells]
theorem heap_sort_other {enc : Ad → List Value} {k : Nat} {w : World} {g m i : Nat} {d : Array Ad} {os : Array Obj} (hi : i < w.heap.size) (hne : i ≠ g) : (sortWorldK enc k w g 0 m d os).heap[i]? = w.heap[i]? := by
  change (w.heap.modify g (onCells (putCells id 0 (flatK enc k d))) ++ os)[i]? = _
  rw [Array.getElem?_append_left (by simpa using hi), Array.getElem?_modify, if_neg (fun e => hne e.symm)]
theorem sort_own (base : Nat) (v : Value) (ks : List Ad) (w : World) (h : OwnRows w base 83 3 v ks.length (ads ks)) (hn : ks.length ≤ 1000000) :
    Calls Try.prog 104 #[v, .func (.func 105) #[] #[]] w fun e w' => e = .returned (.tuple #[]) ∧ OwnRows w' base 83 3 v ks.length (ads (sortA ks)) ∧ w.grownBy w' v.ownBlock := by
  rcases h.1.2 with ⟨rfl, h0⟩ | ⟨g, cap, cur, rfl, hg, hh, h1, h2, h3, h4⟩
  · have : ks = [] := List.eq_nil_of_length_eq_zero h0
    subst this
    exact (AnyF.slices_SortFunc_none Try.sortAd none 0 _ w).mono fun e w' ⟨he, hw⟩ => by
      subst hw
      exact ⟨he, by simpa [sortA] using h, World.grownBy.refl _ _⟩
  · have hblk := lt_of_cells hh
    have hH : HoldsK Ad.v 3 w g 0 ks.toArray := by
      intro j hj
      refine ⟨?_, blk_frozen hh _⟩
      rw [Nat.zero_add, blk_cell hh]
      have e := flatK_ads ks
      have hj' : j < (flatK Ad.v 3 ks.toArray).toList.length := by simpa using hj
      rw [getElem!_pos (flatK Ad.v 3 ks.toArray) j hj, ← Array.getElem?_toList, ← List.getElem?_take_of_lt (j := ks.length * 3) (by simpa using hj), h4, ← e, List.getElem?_eq_getElem hj']
      simp
    have eg : ∀ args w, (callFunc 105 args).run Try.prog w = .ok (.enter 105 args) w := enters_of Try.func105 (by kernel_rfl) rfl
    have hc := AnyQ.slices_SortFunc_total Try.sortAd 3 Try.isAgg83 Try.sizeOf83 Ad.v (fun _ => rfl) one_ad ordA swoA 105 #[] g 0 cap ks.toArray w eg (cmpLays g 0 _ w) hH hblk (by simp; omega) totA
    have hs : ks.toArray.size = ks.length := by simp
    rw [hs] at hc
    refine hc.mono fun e w' ⟨he, m, os, hw⟩ => ⟨he, ?_, ?_⟩
    · have hw2 := heap_sort (enc := Ad.v) (k := 3) (m := m) (d := (sortA ks).toArray) (os := os) hh
      have hl : (sortA ks).length = ks.length := by unfold sortA; exact List.length_mergeSort _
      refine ⟨⟨?_, .inr ⟨g, cap, _, rfl, hg, by rw [hw]; exact hw2, h1, h2, by simp [putCells, h3], ?_⟩⟩, by simp [ads, hl], ads_len _⟩
      · rw [flat_len (ads_len _)]; simp [ads, hl]
      · rw [← flatK_ads]
        apply List.ext_getElem?
        intro j
        have hcs : cur.size = cap * 3 := h3
        by_cases hj : j < ks.length * 3
        · have hjf : j < (flatK Ad.v 3 (sortA ks).toArray).size := by simp [hl]; omega
          rw [List.getElem?_take_of_lt hj, Array.getElem?_toList, Array.getElem?_toList, Array.getElem?_eq_getElem hjf]
          unfold putCells
          rw [Array.getElem?_mapIdx, Array.getElem?_eq_getElem (by omega)]
          simp only [Option.map_some, Nat.zero_le, Nat.zero_add, true_and, Nat.sub_zero, id]
          rw [if_pos hjf, getElem!_pos (flatK Ad.v 3 (sortA ks).toArray) j hjf]
        · rw [List.getElem?_eq_none (by simp [putCells]; omega), List.getElem?_eq_none (by simp [hl]; omega)]
    · have hsz : w.heap.size ≤ w'.heap.size := by rw [hw]; exact size_sortWorldK_c _ _ _ _ _ _ _ _
      exact ⟨by rw [hw]; rfl, by rw [hw]; rfl, by rw [hw]; rfl, hsz, fun i hi hne => by rw [hw]; exact heap_sort_other hi (fun e => hne (by rw [e]; rfl))⟩
end Go.Proofs.Ytakekjbbbjmdpaa
