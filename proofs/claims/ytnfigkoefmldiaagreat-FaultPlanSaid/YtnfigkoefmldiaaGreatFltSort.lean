import Derived.Test.YtnfigkoefmldiaaGreatBunM
import Derived.Test.YtnfigkoefmldiaaGreatOrderAd
import Derived.Shelf.SlSortCmp.NoneTotal
import Derived.Ground.SlsfProg
/- Faults, put in the order of their times: the sort keeps those of one time as they came. -/
namespace Go.Proofs.YtnfigkoefmldiaaGreat.nand
open Go.RowKit Go.Shelf Go.Lib Go.Sort
set_option linter.unusedVariables false
set_option linter.unusedSimpArgs false
instance : Inhabited Flt := ⟨⟨0, 0, 0, 0, 0, 0, 0⟩⟩
def ltF (x y : Flt) : Bool := decide (x.at_ < y.at_)
def insF (x : Flt) (acc : List Flt) : List Flt := acc.takeWhile (ltF x) ++ x :: acc.dropWhile (ltF x)
def stepF (acc : List Flt) (x : Flt) : List Flt := insF x acc
def sortF (l : List Flt) : List Flt := (l.foldl stepF []).reverse
theorem getBang {d : Array Flt} {A B : List Flt} {x : Flt} (h : d.toList = A ++ x :: B) : d[A.length]! = x := by
  have h1 : A.length < d.size := by rw [← Array.length_toList, h]; simp
  rw [getElem!_pos d _ h1, ← Array.getElem_toList]
  simp [h]
theorem insInner_ins (x : Flt) (acc : List Flt) : ∀ (B : List Flt) (d : Array Flt), d.toList = acc.reverse ++ x :: B → (insInner ltF 0 acc.length d).toList = (insF x acc).reverse ++ B := by
  induction acc with
  | nil => intro B d h; simp [insInner, insF, h]
  | cons y acc ih =>
    intro B d h
    have e1 : d[acc.length + 1]! = x := by
      have := getBang (A := (y :: acc).reverse) h
      simpa using this
    have e2 : d[acc.length]! = y := by
      have := getBang (d := d) (A := acc.reverse) (x := y) (B := x :: B) (by simpa using h)
      simpa using this
    simp only [List.length_cons, insInner, e1, e2]
    by_cases hl : ltF x y = true
    · rw [if_pos (by simp [hl])]
      have hs : (swp d (acc.length + 1) acc.length).toList = acc.reverse ++ x :: (y :: B) := by
        unfold swp
        rw [e1, e2, Array.toList_setIfInBounds, Array.toList_setIfInBounds, h]
        have e3 : (y :: acc).reverse ++ x :: B = acc.reverse ++ (y :: x :: B) := by simp
        rw [e3, List.set_append_right _ _ (by simp), List.set_append_right _ _ (by simp)]
        simp
      rw [ih _ _ hs]
      simp [insF, List.takeWhile_cons, List.dropWhile_cons, hl]
    · rw [if_neg (by simp [hl]), h]
      simp [insF, List.takeWhile_cons, List.dropWhile_cons, hl]
theorem insF_perm (x : Flt) (acc : List Flt) : (insF x acc).Perm (x :: acc) := by
  unfold insF
  refine List.perm_middle.trans ?_
  rw [List.takeWhile_append_dropWhile]
theorem insOuter_ins (rest : List Flt) : ∀ (acc : List Flt) (d : Array Flt) (b : Nat), d.toList = acc.reverse ++ rest → b = acc.length + rest.length → (insOuter ltF 0 b acc.length d).toList = (rest.foldl stepF acc).reverse := by
  induction rest with
  | nil => intro acc d b h hb; rw [insOuter, if_neg (by simp [hb]), h]; simp
  | cons x rest ih =>
    intro acc d b h hb
    rw [insOuter, if_pos (by simp [hb])]
    have hl : (insF x acc).length = acc.length + 1 := (insF_perm x acc).length_eq
    have := ih (insF x acc) (insInner ltF 0 acc.length d) b (insInner_ins x acc rest d h) (by rw [hl]; simp at hb; omega)
    rw [hl] at this
    rw [this]; rfl
theorem insertion_sortF (d : Array Flt) : (insertionSort ltF d 0 d.size).toList = sortF d.toList := by
  unfold insertionSort sortF
  cases h : d.toList with
  | nil =>
    have : d.size = 0 := by rw [← Array.length_toList, h]; rfl
    rw [insOuter, if_neg (by omega), h]; rfl
  | cons x r =>
    have := insOuter_ins r [x] d d.size (by simpa using h) (by rw [← Array.length_toList, h]; simp; omega)
    simpa [stepF, insF] using this
def desc (l : List Flt) : Prop := l.Pairwise fun a b => b.at_ ≤ a.at_
theorem mem_tw {x : Flt} {l : List Flt} {y : Flt} (h : y ∈ l.takeWhile (ltF x)) : x.at_ < y.at_ := by
  have := List.all_takeWhile (p := ltF x) (l := l)
  rw [List.all_eq_true] at this
  simpa [ltF] using this y h
theorem dw_le {x : Flt} {l : List Flt} (hs : desc l) {y : Flt} (h : y ∈ l.dropWhile (ltF x)) : y.at_ ≤ x.at_ := by
  induction l with
  | nil => cases h
  | cons z l ih =>
    rw [desc, List.pairwise_cons] at hs
    rw [List.dropWhile_cons] at h
    split at h
    · exact ih hs.2 h
    · rename_i hz
      have hz : z.at_ ≤ x.at_ := by simpa [ltF] using hz
      rcases List.mem_cons.1 h with rfl | h
      · exact hz
      · exact Int.le_trans (hs.1 y h) hz
theorem insF_desc {x : Flt} {acc : List Flt} (h : desc acc) : desc (insF x acc) := by
  unfold desc insF
  rw [List.pairwise_append, List.pairwise_cons]
  refine ⟨h.sublist (List.takeWhile_sublist _), ⟨fun y hy => dw_le h hy, h.sublist (List.dropWhile_sublist _)⟩, fun a ha b hb => ?_⟩
  have h1 := mem_tw ha
  rcases List.mem_cons.1 hb with rfl | hb
  · omega
  · have := dw_le h hb; omega
theorem fold_desc (l : List Flt) : ∀ acc, desc acc → desc (l.foldl stepF acc) := by
  induction l with
  | nil => intro acc h; exact h
  | cons x l ih => intro acc h; exact ih _ (insF_desc h)
theorem fold_perm (l : List Flt) : ∀ acc, (l.foldl stepF acc).Perm (l ++ acc) := by
  induction l with
  | nil => intro acc; exact .rfl
  | cons x l ih => intro acc; exact (ih _).trans (((insF_perm x acc).append_left l).trans List.perm_middle)
theorem sortF_perm (l : List Flt) : (sortF l).Perm l := by
  unfold sortF
  have := fold_perm l []
  rw [List.append_nil] at this
  exact (List.reverse_perm _).trans this
/-- By a bound: what is kept of an insertion. -/
theorem insF_low (t : Int) {x : Flt} {acc : List Flt} (h : desc acc) : (insF x acc).filter (fun f => decide (f.at_ ≤ t)) = if x.at_ ≤ t then insF x (acc.filter fun f => decide (f.at_ ≤ t)) else acc.filter fun f => decide (f.at_ ≤ t) := by
  induction acc with
  | nil => by_cases hx : x.at_ ≤ t <;> simp [insF, hx]
  | cons y acc ih =>
    rw [desc, List.pairwise_cons] at h
    have ih := ih h.2
    by_cases hl : ltF x y = true
    · have e : insF x (y :: acc) = y :: insF x acc := by simp [insF, List.takeWhile_cons, List.dropWhile_cons, hl]
      rw [e, List.filter_cons, ih]
      have hlt : x.at_ < y.at_ := by simpa [ltF] using hl
      by_cases hx : x.at_ ≤ t
      · by_cases hy : y.at_ ≤ t
        · simp [hx, hy, insF, List.takeWhile_cons, List.dropWhile_cons, hl]
        · simp [hx, hy]
      · have hy : ¬ y.at_ ≤ t := by omega
        simp [hx, hy]
    · have hge : y.at_ ≤ x.at_ := by simpa [ltF] using hl
      have e : insF x (y :: acc) = x :: y :: acc := by simp [insF, List.takeWhile_cons, List.dropWhile_cons, hl]
      rw [e, List.filter_cons]
      by_cases hx : x.at_ ≤ t
      · have hy : y.at_ ≤ t := by omega
        simp [hx, hy, insF, List.takeWhile_cons, List.dropWhile_cons, hl]
      · simp [hx]
theorem insF_high (t : Int) {x : Flt} {acc : List Flt} (h : desc acc) : (insF x acc).filter (fun f => decide (t < f.at_)) = if t < x.at_ then insF x (acc.filter fun f => decide (t < f.at_)) else acc.filter fun f => decide (t < f.at_) := by
  induction acc with
  | nil => by_cases hx : t < x.at_ <;> simp [insF, hx]
  | cons y acc ih =>
    rw [desc, List.pairwise_cons] at h
    have ih := ih h.2
    by_cases hl : ltF x y = true
    · have e : insF x (y :: acc) = y :: insF x acc := by simp [insF, List.takeWhile_cons, List.dropWhile_cons, hl]
      rw [e, List.filter_cons, ih]
      have hlt : x.at_ < y.at_ := by simpa [ltF] using hl
      by_cases hx : t < x.at_
      · have hy : t < y.at_ := by omega
        simp [hx, hy, insF, List.takeWhile_cons, List.dropWhile_cons, hl]
      · by_cases hy : t < y.at_
        · simp [hx, hy]
        · simp [hx, hy]
    · have hge : y.at_ ≤ x.at_ := by simpa [ltF] using hl
      have e : insF x (y :: acc) = x :: y :: acc := by simp [insF, List.takeWhile_cons, List.dropWhile_cons, hl]
      rw [e, List.filter_cons]
      by_cases hx : t < x.at_
      · have hn : ∀ z ∈ acc, z.at_ ≤ y.at_ := h.1
        by_cases hy : t < y.at_
        · simp [hx, hy, insF, List.takeWhile_cons, List.dropWhile_cons, hl]
        · have : (y :: acc).filter (fun f => decide (t < f.at_)) = [] := by
            rw [List.filter_eq_nil_iff]
            intro z hz
            rcases List.mem_cons.1 hz with rfl | hz
            · simpa using hy
            · have := hn z hz; simp; omega
          rw [this]; simp [hx, insF]
      · simp [hx]
theorem fold_low (t : Int) (l : List Flt) : ∀ acc, desc acc → (l.foldl stepF acc).filter (fun f => decide (f.at_ ≤ t)) = (l.filter fun f => decide (f.at_ ≤ t)).foldl stepF (acc.filter fun f => decide (f.at_ ≤ t)) := by
  induction l with
  | nil => intro acc h; rfl
  | cons x l ih =>
    intro acc h
    rw [List.foldl_cons, show stepF acc x = insF x acc from rfl, ih _ (insF_desc h), insF_low t h, List.filter_cons]
    by_cases hx : x.at_ ≤ t <;> simp [hx, stepF]
theorem fold_high (t : Int) (l : List Flt) : ∀ acc, desc acc → (l.foldl stepF acc).filter (fun f => decide (t < f.at_)) = (l.filter fun f => decide (t < f.at_)).foldl stepF (acc.filter fun f => decide (t < f.at_)) := by
  induction l with
  | nil => intro acc h; rfl
  | cons x l ih =>
    intro acc h
    rw [List.foldl_cons, show stepF acc x = insF x acc from rfl, ih _ (insF_desc h), insF_high t h, List.filter_cons]
    by_cases hx : t < x.at_ <;> simp [hx, stepF]
theorem sortF_low (t : Int) (l : List Flt) : (sortF l).filter (fun f => decide (f.at_ ≤ t)) = sortF (l.filter fun f => decide (f.at_ ≤ t)) := by
  unfold sortF
  rw [List.filter_reverse, fold_low t l [] List.Pairwise.nil]; rfl
theorem sortF_high (t : Int) (l : List Flt) : (sortF l).filter (fun f => decide (t < f.at_)) = sortF (l.filter fun f => decide (t < f.at_)) := by
  unfold sortF
  rw [List.filter_reverse, fold_high t l [] List.Pairwise.nil]; rfl
def asc (l : List Flt) : Prop := l.Pairwise fun a b => a.at_ ≤ b.at_
theorem sortF_asc (l : List Flt) : asc (sortF l) := by
  unfold asc sortF
  rw [List.pairwise_reverse]
  exact fold_desc l [] List.Pairwise.nil
theorem tw_low (t : Int) {l : List Flt} (h : asc l) : l.takeWhile (fun f => decide (f.at_ ≤ t)) = l.filter (fun f => decide (f.at_ ≤ t)) ∧ l.dropWhile (fun f => decide (f.at_ ≤ t)) = l.filter (fun f => decide (t < f.at_)) := by
  induction l with
  | nil => exact ⟨rfl, rfl⟩
  | cons x l ih =>
    rw [asc, List.pairwise_cons] at h
    have ih := ih h.2
    by_cases hx : x.at_ ≤ t
    · have : ¬ t < x.at_ := by omega
      simp [List.takeWhile_cons, List.dropWhile_cons, List.filter_cons, hx, this, ih.1, ih.2]
    · have h2 : t < x.at_ := by omega
      have e1 : l.filter (fun f => decide (f.at_ ≤ t)) = [] := by
        rw [List.filter_eq_nil_iff]; intro z hz; have := h.1 z hz; simp; omega
      have e2 : l.filter (fun f => decide (t < f.at_)) = l := by
        rw [List.filter_eq_self]; intro z hz; have := h.1 z hz; simp; omega
      simp [List.takeWhile_cons, List.dropWhile_cons, List.filter_cons, hx, h2, e1, e2]
/-- What is due, what is left. -/
theorem due_low (t : Int) (l : List Flt) : (sortF l).takeWhile (fun f => decide (f.at_ ≤ t)) = sortF (l.filter fun f => decide (f.at_ ≤ t)) := by
  rw [(tw_low t (sortF_asc l)).1, sortF_low]
theorem due_high (t : Int) (l : List Flt) : (sortF l).dropWhile (fun f => decide (f.at_ ≤ t)) = sortF (l.filter fun f => decide (t < f.at_)) := by
  rw [(tw_low t (sortF_asc l)).2, sortF_high]
def stab_ren : Go.Shelf.Ren := ⟨fun | 20 => 87 | n => n, fun | 22 => 47 | 24 => 44 | 25 => 89 | 3 => 3 | 0 => 0 | 4 => 4 | n => n, fun | n => n⟩
theorem stabLays : SlLaysF0.n20 Tryz.prog stab_ren := {
  mixed := by kernel_rfl
  f20 := ⟨Tryz.f87.name, by decide, Tryz.func87.trans (congrArg some (by kernel_rfl))⟩
  t0 := Tryz.underlying0
  a0 := Tryz.isAgg0
  z0 := Tryz.sizeOf0
  v0 := Tryz.zeroValue0
  t3 := Tryz.underlying3
  a3 := Tryz.isAgg3
  z3 := Tryz.sizeOf3
  v3 := Tryz.zeroValue3
  t4 := Tryz.underlying4
  a4 := Tryz.isAgg4
  z4 := Tryz.sizeOf4
  v4 := Tryz.zeroValue4
  t22 := Tryz.underlying47
  a22 := Tryz.isAgg47
  z22 := Tryz.sizeOf47
  v22 := Tryz.zeroValue47
  t25 := Tryz.underlying89
  a25 := Tryz.isAgg89
  z25 := Tryz.sizeOf89
  v25 := Tryz.zeroValue89 }
def ordF (a b : Flt) : Int := cmpI a.at_ b.at_
theorem lt_ordF : ltOf ordF = ltF := by
  funext x y
  unfold ltOf ordF ltF cmpI
  rw [Bool.eq_iff_iff]
  simp only [decide_eq_true_eq]
  repeat' split
  all_goals omega
set_option maxRecDepth 100000 in
set_option maxHeartbeats 4000000 in
theorem ordF_any (x y : Flt) (w : World) : Calls Tryz.prog 57 #[.agg x.v.toArray, .agg y.v.toArray] w fun e w' => e = .returned (.int .i64 (ordF x y)) ∧ ∃ q os', w' = grow (w.drewN q) os' := by
  have ha := heap_at1 w (.cells x.v.toArray 44) (.cells y.v.toArray 44)
  have hb := heap_new' (w.alloc (.cells x.v.toArray 44)) (.cells y.v.toArray 44) (w.heap.size + 1) (by simp)
  have hw : ∃ os, (w.alloc (.cells x.v.toArray 44)).alloc (.cells y.v.toArray 44) = grow w os := ⟨_, by rw [alloc_eq_grow, alloc_eq_grow, grow_grow]⟩
  obtain ⟨os, hos⟩ := hw
  have HOS := Lib.hid hos
  clear hos
  go_enter Tryz.func57, Tryz.ntmps57
  go_upto_region 1 with fail
  generalize hw1 : (w.alloc (.cells x.v.toArray 44)).alloc (.cells y.v.toArray 44) = w1 at *
  clear hw1
  have c0 := flt_c0 ha
  have c1 := flt_c0 hb
  have HC := fun W => Lib.hid (cmp_any x.at_ y.at_ W)
  clear ha hb
  go_wp2_with fail
  refine (HC _).out.mono ?_
  rintro e w' ⟨rfl, rfl⟩
  go_wp2_with fail
  go_ret
  exact ⟨rfl, 0, os, HOS.out⟩
theorem flatK_flts (l : List Flt) : (flatK Flt.v 7 l.toArray).toList = (flts l).flatten := by
  apply List.ext_getElem?
  intro j
  have hl : (flts l).flatten.length = l.length * 7 := by rw [flat_len flts_len]; simp [flts]
  by_cases hj : j < l.length * 7
  · have h1 : j / 7 < l.length := by omega
    have h2 : j % 7 < 7 := by omega
    have e := flat_get (C := 7) (flts_len (l := l)) (i := j / 7) (j := j % 7) (r := l[j / 7].v) (by rw [flts, List.getElem?_map, List.getElem?_eq_getElem h1]; rfl) h2
    rw [show j / 7 * 7 + j % 7 = j by omega] at e
    rw [e]
    have h3 : j % 7 < l[j / 7].v.length := h2
    rw [List.getElem?_eq_getElem h3]
    simp [flatK, hj, h1]
    rw [List.getElem?_eq_getElem h3]; rfl
  · rw [List.getElem?_eq_none (by simp [flatK]; omega), List.getElem?_eq_none (by omega)]
theorem heap_sortF {enc : Flt → List Value} {k : Nat} {w : World} {g m : Nat} {d : Array Flt} {os : Array Obj} {cur : Array Value} {e : TypeId} {fr : Nat × Nat} (hh : w.heap[g]? = some (.cells cur e fr)) :
    (sortWorldK enc k w g 0 m d os).heap[g]? = some (.cells (putCells id 0 (flatK enc k d) cur) e fr) := by
  have hlt := lt_of_cells hh
  change (w.heap.modify g (onCells (putCells id 0 (flatK enc k d))) ++ os)[g]? = _
  rw [Array.getElem?_append_left (by simpa using hlt), Array.getElem?_modify, hh]
  simp [onCells]
theorem heap_sortF_other {enc : Flt → List Value} {k : Nat} {w : World} {g m i : Nat} {d : Array Flt} {os : Array Obj} (hi : i < w.heap.size) (hne : i ≠ g) : (sortWorldK enc k w g 0 m d os).heap[i]? = w.heap[i]? := by
  change (w.heap.modify g (onCells (putCells id 0 (flatK enc k d))) ++ os)[i]? = _
  rw [Array.getElem?_append_left (by simpa using hi), Array.getElem?_modify, if_neg (fun e => hne e.symm)]
theorem cmpLaysF (g off size : Nat) (w : World) : CmpLays Tryz.prog 57 #[] Flt.v 7 ordF g off size w := fun _ _ _ _ x y => ordF_any x y _
/-- One insertion sort over a part of a slice that one owns. -/
theorem ins_own (base : Nat) (g cap : Nat) (ks ks' : List Flt) (a b : Nat) (w : World) (h : OwnRows w base 44 7 (.slice (some ⟨g, 0, none⟩) ks.length cap) ks.length (flts ks)) (hn : ks.length ≤ 1000000) (hab : a ≤ b) (hb : b ≤ ks.length) (hks : (insertionSort ltF ks.toArray a b).toList = ks') (hl : ks'.length = ks.length) :
    Calls Tryz.prog 87 #[.slice (some ⟨g, 0, none⟩) ks.length cap, .int .i64 (a : Int), .int .i64 (b : Int), .func (.func 57) #[] #[]] w fun e w' => e = .returned (.tuple #[]) ∧ OwnRows w' base 44 7 (.slice (some ⟨g, 0, none⟩) ks.length cap) ks.length (flts ks') ∧ w.grownBy w' (some g) := by
  rcases h.1.2 with ⟨e, -⟩ | ⟨g', cap', cur, e, hg, hh, h1, h2, h3, h4⟩
  · cases e
  cases e
  have hblk := lt_of_cells hh
  have hH : HoldsK Flt.v 7 w g 0 ks.toArray := by
    intro j hj
    refine ⟨?_, blk_frozen hh _⟩
    rw [Nat.zero_add, blk_cell hh]
    have e := flatK_flts ks
    have hj' : j < (flatK Flt.v 7 ks.toArray).toList.length := by simpa using hj
    rw [getElem!_pos (flatK Flt.v 7 ks.toArray) j hj, ← Array.getElem?_toList, ← List.getElem?_take_of_lt (j := ks.length * 7) (by simpa using hj), h4, ← e, List.getElem?_eq_getElem hj']
    simp
  have eg : ∀ args w, (callFunc 57 args).run Tryz.prog w = .ok (.enter 57 args) w := enters_of Tryz.func57 (by kernel_rfl) rfl
  have hc := AnyQ.insertionSortCmpFunc stabLays 7 Tryz.isAgg44 Tryz.sizeOf44 Flt.v (fun _ => rfl) one_flt ordF 57 #[] g 0 cap a b ks.toArray w eg (cmpLaysF g 0 _ w) hH hblk hab (by simpa using hb) (by simp; omega)
  have hs : ks.toArray.size = ks.length := by simp
  rw [hs, lt_ordF] at hc
  obtain ⟨D, hD⟩ : ∃ D, D = insertionSort ltF ks.toArray a b := ⟨_, rfl⟩
  rw [← hD] at hc hks
  have hDe : D = ks'.toArray := by rw [← hks]
  subst hDe
  refine hc.mono fun e w' ⟨he, m, os, hw⟩ => ⟨he, ?_, ?_⟩
  · have hw2 := heap_sortF (enc := Flt.v) (k := 7) (m := m) (d := ks'.toArray) (os := os) hh
    refine ⟨⟨?_, .inr ⟨g, cap, _, rfl, hg, by rw [hw]; exact hw2, h1, h2, by simp [putCells, h3], ?_⟩⟩, by simp [flts, hl], flts_len⟩
    · rw [flat_len flts_len]; simp [flts, hl]
    · rw [← flatK_flts]
      apply List.ext_getElem?
      intro j
      have hcs : cur.size = cap * 7 := h3
      by_cases hj : j < ks.length * 7
      · have hjf : j < (flatK Flt.v 7 ks'.toArray).size := by simp [hl]; omega
        rw [List.getElem?_take_of_lt hj, Array.getElem?_toList, Array.getElem?_toList, Array.getElem?_eq_getElem hjf]
        unfold putCells
        rw [Array.getElem?_mapIdx, Array.getElem?_eq_getElem (by omega)]
        simp only [Option.map_some, Nat.zero_le, Nat.zero_add, true_and, Nat.sub_zero, id]
        rw [if_pos hjf, getElem!_pos (flatK Flt.v 7 ks'.toArray) j hjf]
      · rw [List.getElem?_eq_none (by simp [putCells]; omega), List.getElem?_eq_none (by simp [hl]; omega)]
  · have hsz : w.heap.size ≤ w'.heap.size := by rw [hw]; exact size_sortWorldK_c _ _ _ _ _ _ _ _
    exact ⟨by rw [hw]; rfl, by rw [hw]; rfl, by rw [hw]; rfl, hsz, fun i hi hne => by rw [hw]; exact heap_sortF_other hi (fun e => hne (by rw [e]))⟩
theorem sortF_len (l : List Flt) : (sortF l).length = l.length := (sortF_perm l).length_eq
theorem ins_all (l : List Flt) : (insertionSort ltF l.toArray 0 l.length).toList = sortF l := by
  have := insertion_sortF l.toArray
  simpa using this
theorem ins_none (l : List Flt) (a : Nat) : (insertionSort ltF l.toArray a a).toList = l := by
  unfold insertionSort
  rw [insOuter, if_neg (by omega)]
def StR (base g cap : Nat) (ks : List Flt) (w : World) (a b : Value) (wr : World) : Prop :=
  (a = .int .i64 0 ∧ b = .int .i64 20 ∧ wr = w) ∨ (a = .int .i64 20 ∧ b = .int .i64 40 ∧ OwnRows wr base 44 7 (.slice (some ⟨g, 0, none⟩) 20 cap) 20 (flts (sortF ks)) ∧ w.grownBy wr (some g))
set_option maxRecDepth 100000 in
set_option maxHeartbeats 4000000 in
theorem stable_own (base : Nat) (g cap : Nat) (ks : List Flt) (n : Nat) (w : World) (hkn : ks.length = n) (h : OwnRows w base 44 7 (.slice (some ⟨g, 0, none⟩) n cap) n (flts ks)) (hn : n ≤ 20) :
    Calls Tryz.prog 68 #[.slice (some ⟨g, 0, none⟩) n cap, .int .i64 (n : Int), .func (.func 57) #[] #[]] w fun e w' => e = .returned (.tuple #[]) ∧ OwnRows w' base 44 7 (.slice (some ⟨g, 0, none⟩) n cap) n (flts (sortF ks)) ∧ w.grownBy w' (some g) := by
  have hsl := sortF_len ks
  by_cases h20 : n = 20
  · have h1 := ins_own base g cap ks (sortF ks) 0 20 w (by rw [hkn]; exact h) (by omega) (by omega) (by omega) (by have := ins_all ks; rw [hkn, h20] at this; exact this) hsl
    rw [hkn, h20] at h1
    have h2 := fun w' (h' : OwnRows w' base 44 7 (.slice (some ⟨g, 0, none⟩) 20 cap) 20 (flts (sortF ks))) => by
      have := ins_own base g cap (sortF ks) (sortF ks) 20 20 w' (by rw [hsl, hkn, h20]; exact h') (by omega) (by omega) (by omega) (ins_none _ _) rfl
      rw [hsl, hkn, h20] at this
      exact this
    have H1 := Lib.hid h1
    have H2 := Lib.hid h2
    subst h20
    clear h1 h2 h hkn hsl
    go_enter Tryz.func68, Tryz.ntmps68
    go_wp2_with fail
    go_loopw [7, 8] (fun a b wr => StR base g cap ks w a b wr) (fun a _ _ => 40 - (intOf a).toNat)
    case atStart => exact .inl ⟨rfl, rfl, rfl⟩
    case round =>
      rcases hrel with ⟨rfl, rfl, rfl⟩ | ⟨rfl, rfl, ho, hg⟩
      · go_wp2_with fail
        refine H1.out.mono ?_
        rintro e w6 ⟨rfl, ho, hg⟩
        have HO := Lib.hid (And.intro ho hg)
        clear ho hg
        go_wp2_with fail
        go_roundw
        case rel => (repeat apply Exists.intro); exact ⟨.inr ⟨rfl, rfl, HO.out⟩, rfl⟩
        case measure => simp [intOf]
      · have HO := Lib.hid (And.intro ho hg)
        clear ho hg
        go_wp2_with fail
        refine (H2.out _ HO.out.1).mono ?_
        rintro e w6 ⟨rfl, ho, hg⟩
        have HP := Lib.hid (And.intro ho (HO.out.2.andThen hg (fun j hj => .inr hj)))
        clear ho hg
        go_wp2_with fail
        go_loopw [6] (fun a wx => a = .int .i64 20 ∧ wx = w6) (fun _ _ => 0)
        case atStart => exact ⟨rfl, rfl⟩
        case round =>
          obtain ⟨rfl, rfl⟩ := hrel
          go_wp2_with fail
          go_end0
          exact ⟨rfl, HP.out⟩
  · have h1 := ins_own base g cap ks (sortF ks) 0 n w (by rw [hkn]; exact h) (by omega) (by omega) (by omega) (by have := ins_all ks; rw [hkn] at this; exact this) hsl
    rw [hkn] at h1
    have H1 := Lib.hid h1
    have n1 : ¬ (20 : Int) ≤ (n : Int) := by omega
    have n2 : ¬ (20 : Int) < (n : Int) := by omega
    clear h1 h hkn hsl
    go_enter Tryz.func68, Tryz.ntmps68
    go_wp2_with fail
    go_loopw [7, 8] (fun a b wr => a = .int .i64 0 ∧ b = .int .i64 20 ∧ wr = w) (fun _ _ _ => 0)
    case atStart => exact ⟨rfl, rfl, rfl⟩
    case round =>
      obtain ⟨rfl, rfl, rfl⟩ := hrel
      go_wp2_with fail
      refine H1.out.mono ?_
      rintro e w6 ⟨rfl, ho, hg⟩
      have HO := Lib.hid (And.intro ho hg)
      clear ho hg
      go_wp2_with fail
      go_loopw [6] (fun a wx => a = .int .i64 20 ∧ wx = w6) (fun _ _ => 0)
      case atStart => exact ⟨rfl, rfl⟩
      case round =>
        obtain ⟨rfl, rfl⟩ := hrel
        go_wp2_with fail
        go_end0
        exact ⟨rfl, HO.out⟩
theorem sort_stable (v : Value) (base : Nat) (ks : List Flt) (w : World) (h : OwnRows w base 44 7 v ks.length (flts ks)) (hn : ks.length ≤ 20) :
    Calls Tryz.prog 56 #[v, .func (.func 57) #[] #[]] w fun e w' => e = .returned (.tuple #[]) ∧ OwnRows w' base 44 7 v ks.length (flts (sortF ks)) ∧ w.grownBy w' v.ownBlock := by
  rcases h.1.2 with ⟨rfl, h0⟩ | ⟨g, cap, cur, rfl, hg, hh, h1, h2, h3, h4⟩
  · have : ks = [] := List.eq_nil_of_length_eq_zero h0
    subst this
    refine (sort_le1 none 0 0 _ w (by omega)).mono ?_
    rintro e w' ⟨rfl, rfl⟩
    exact ⟨rfl, h, World.grownBy.refl _ _⟩
  · obtain ⟨n, hkn⟩ : ∃ n, ks.length = n := ⟨_, rfl⟩
    rw [hkn] at h hn ⊢
    have hI := Lib.hid (stable_own base g cap ks n w hkn h hn)
    clear h hh h1 h2 h3 h4 hg hkn
    go_enter Tryz.func56, Tryz.ntmps56
    go_wp2_with fail
    refine hI.out.mono ?_
    rintro e w6 ⟨rfl, ho, hg⟩
    have HO := Lib.hid (And.intro ho hg)
    clear ho hg
    go_wp2_with fail
    go_end0
    exact ⟨rfl, HO.out⟩
end Go.Proofs.YtnfigkoefmldiaaGreat.nand
