import Derived.Test.YtpbigfopmompfaaGreatOrderAd
import Derived.Test.YtpbigfopmompfaaGreatOwnRows
import Derived.Test.YtpbigfopmompfaaGreatBunH
/- What a claim's proof leans on: SortUse, SpotKeys. -/
namespace Go.Proofs.YtpbigfopmompfaaGreat
open Go.RowKit Go.Shelf Go.Lib Go.Sort
set_option linter.unusedVariables false
instance : Inhabited Ad := ⟨⟨0, 0, 0⟩⟩
def lessA (x y : Ad) : Bool := if x.d ≠ y.d then decide (x.d < y.d) else if x.b ≠ y.b then decide (x.b < y.b) else decide (x.p < y.p)
theorem lt_ord (x y : Ad) : ltOf ordA x y = lessA x y := by
 unfold ltOf ordA lessA orI orI orI orI cmpI
 rw [Bool.eq_iff_iff]
 simp only [decide_eq_true_eq]
 repeat' split
 all_goals simp_all
 all_goals omega
theorem less_iff (x y : Ad) : lessA x y = true ↔ x.d < y.d ∨ (x.d = y.d ∧ (x.b < y.b ∨ (x.b = y.b ∧ x.p < y.p))) := by
 unfold lessA
 repeat' split
 all_goals simp_all
 all_goals omega
theorem swoA : SWO (ltOf ordA) where
 irrefl x := by rw [lt_ord, Bool.eq_false_iff, ne_eq, less_iff]; omega
 trans x y z h1 h2 := by rw [lt_ord, less_iff] at *; omega
 ntrans x y z h1 h2 := by rw [lt_ord, Bool.eq_false_iff, ne_eq, less_iff] at *; omega
theorem totA (x y : Ad) (h1 : ltOf ordA x y = false) (h2 : ltOf ordA y x = false) : x = y := by
 rw [lt_ord, Bool.eq_false_iff, ne_eq, less_iff] at h1 h2
 obtain ⟨d, b, p⟩ := x
 obtain ⟨d', b', p'⟩ := y
 simp only at h1 h2
 obtain rfl : d = d' := by omega
 obtain rfl : b = b' := by omega
 obtain rfl : p = p' := by omega
 rfl
def ads (l : List Ad) : List (List Value) := l.map Ad.v
theorem zbf (l : List Ad) : ∀ r ∈ ads l, r.length = 3 := by
 intro r hr
 obtain ⟨x, _, rfl⟩ := List.mem_map.1 hr
 rfl
theorem one_ad (x : Ad) : ∀ v ∈ x.v, v.oneCell' = true := by
 intro v hv
 simp [Ad.v] at hv
 rcases hv with rfl | rfl | rfl <;> rfl
def sortA (l : List Ad) : List Ad := l.mergeSort fun x y => !(ltOf ordA) y x
theorem cmpLays (g off size : Nat) (w : World) : CmpLays Tryz.prog 125 #[] Ad.v 3 ordA g off size w := fun _ _ _ _ x y => order_any x y _
theorem flatK_ads (l : List Ad) : (flatK Ad.v 3 l.toArray).toList = (ads l).flatten := by
 apply List.ext_getElem?
 intro j
 have hl : (ads l).flatten.length = l.length * 3 := by rw [zbp (zbf l)]; simp [ads]
 by_cases hj : j < l.length * 3
 · have h1 : j / 3 < l.length := by omega
   have h2 : j % 3 < 3 := by omega
   have e := zbd (C := 3) (zbf l) (i := j / 3) (j := j % 3) (r := l[j / 3].v) (by rw [ads, List.getElem?_map, List.getElem?_eq_getElem h1]; rfl) h2; rw [show j / 3 * 3 + j % 3 = j by omega] at e; rw [e]; have h3 : j % 3 < l[j / 3].v.length := h2; rw [List.getElem?_eq_getElem h3]; simp [flatK, hj, h1]; rw [List.getElem?_eq_getElem h3]; rfl
 · rw [List.getElem?_eq_none (by simp [flatK]; omega), List.getElem?_eq_none (by omega)]
theorem heap_sort {enc : Ad → List Value} {k : Nat} {w : World} {g m : Nat} {d : Array Ad} {os : Array Obj} {cur : Array Value} {e : TypeId} {fr : Nat × Nat} (hh : w.heap[g]? = some (.cells cur e fr)) :
 (sortWorldK enc k w g 0 m d os).heap[g]? = some (.cells (putCells id 0 (flatK enc k d) cur) e fr) := by
 have hlt := zag hh
 change (w.heap.modify g (onCells (putCells id 0 (flatK enc k d))) ++ os)[g]? = _
 rw [Array.getElem?_append_left (by simpa using hlt), Array.getElem?_modify, hh]
 simp [onCells]
theorem heap_sort_other {enc : Ad → List Value} {k : Nat} {w : World} {g m i : Nat} {d : Array Ad} {os : Array Obj} (hi : i < w.heap.size) (hne : i ≠ g) : (sortWorldK enc k w g 0 m d os).heap[i]? = w.heap[i]? := by
 change (w.heap.modify g (onCells (putCells id 0 (flatK enc k d))) ++ os)[i]? = _
 rw [Array.getElem?_append_left (by simpa using hi), Array.getElem?_modify, if_neg (fun e => hne e.symm)]
theorem sort_own (base : Nat) (v : Value) (ks : List Ad) (w : World) (h : OwnRows w base 85 3 v ks.length (ads ks)) (hn : ks.length ≤ 1000000) :
 Calls Tryz.prog 124 #[v, .func (.func 125) #[] #[]] w fun e w' => e = .returned (.tuple #[]) ∧ OwnRows w' base 85 3 v ks.length (ads (sortA ks)) ∧ w.grownBy w' v.ownBlock := by
 rcases h.1.2 with ⟨rfl, h0⟩ | ⟨g, cap, cur, rfl, hg, hh, h1, h2, h3, h4⟩
 · have : ks = [] := List.eq_nil_of_length_eq_zero h0
   subst this
   exact (AnyF.slices_SortFunc_none Tryz.sortAd none 0 _ w).mono fun e w' ⟨he, hw⟩ => by
    subst hw; exact ⟨he, by simpa [sortA] using h, World.grownBy.refl _ _⟩
 · have hblk := zag hh
   have hH : HoldsK Ad.v 3 w g 0 ks.toArray := by
    intro j hj; refine ⟨?_, zar hh _⟩; rw [Nat.zero_add, zaf hh]; have e := flatK_ads ks; have hj' : j < (flatK Ad.v 3 ks.toArray).toList.length := by simpa using hj
    rw [getElem!_pos (flatK Ad.v 3 ks.toArray) j hj, ← Array.getElem?_toList, ← List.getElem?_take_of_lt (j := ks.length * 3) (by simpa using hj), h4, ← e, List.getElem?_eq_getElem hj']; simp
   have eg : ∀ args w, (callFunc 125 args).run Tryz.prog w = .ok (.enter 125 args) w := enters_of Tryz.func125 (by kernel_rfl) rfl; have hc := AnyQ.slices_SortFunc_total Tryz.sortAd 3 Tryz.isAgg85 Tryz.sizeOf85 Ad.v (fun _ => rfl) one_ad ordA swoA 125 #[] g 0 cap ks.toArray w eg (cmpLays g 0 _ w) hH hblk (by simp; omega) totA; have hs : ks.toArray.size = ks.length := by simp
   rw [hs] at hc; refine hc.mono fun e w' ⟨he, m, os, hw⟩ => ⟨he, ?_, ?_⟩
   · have hw2 := heap_sort (enc := Ad.v) (k := 3) (m := m) (d := (sortA ks).toArray) (os := os) hh
     have hl : (sortA ks).length = ks.length := by unfold sortA; exact List.length_mergeSort _
     refine ⟨⟨?_, .inr ⟨g, cap, _, rfl, hg, by rw [hw]; exact hw2, h1, h2, by simp [putCells, h3], ?_⟩⟩, by simp [ads, hl], zbf _⟩
     · rw [zbp (zbf _)]; simp [ads, hl]
     · rw [← flatK_ads]
       apply List.ext_getElem?
       intro j; have hcs : cur.size = cap * 3 := h3; by_cases hj : j < ks.length * 3
       · have hjf : j < (flatK Ad.v 3 (sortA ks).toArray).size := by simp [hl]; omega
         rw [List.getElem?_take_of_lt hj, Array.getElem?_toList, Array.getElem?_toList, Array.getElem?_eq_getElem hjf]; unfold putCells; rw [Array.getElem?_mapIdx, Array.getElem?_eq_getElem (by omega)]; simp only [Option.map_some, Nat.zero_le, Nat.zero_add, true_and, Nat.sub_zero, id]; rw [if_pos hjf, getElem!_pos (flatK Ad.v 3 (sortA ks).toArray) j hjf]
       · rw [List.getElem?_eq_none (by simp [putCells]; omega), List.getElem?_eq_none (by simp [hl]; omega)]
   · have hsz : w.heap.size ≤ w'.heap.size := by rw [hw]; exact size_sortWorldK_c _ _ _ _ _ _ _ _
     exact ⟨by rw [hw]; rfl, by rw [hw]; rfl, by rw [hw]; rfl, hsz, fun i hi hne => by rw [hw]; exact heap_sort_other hi (fun e => hne (by rw [e]; rfl))⟩
end Go.Proofs.YtpbigfopmompfaaGreat
namespace Go.Proofs.YtpbigfopmompfaaGreat
open Go.RowKit Go.Shelf Go.Lib Go.Sort
set_option linter.unusedVariables false
theorem invA (key : Value) (kl : Lit) (h : keyOf Tryz.prog 85 key = some kl) : ∃ a : Ad, key = .agg #[.int .i64 a.d, .int .i64 a.b, .int .i64 a.p] := by
 obtain ⟨a, e, -, -⟩ := key_ad h
 exact ⟨a, e⟩
def cellsL : Value → List Value
 | .agg cs => cs.toList
 | _ => []
theorem keyA {a : Ad} {kl : Lit} (h : keyOf Tryz.prog 85 (.agg #[.int .i64 a.d, .int .i64 a.b, .int .i64 a.p]) = some kl) : a.wf ∧ kl = klA a := by
 obtain ⟨a', e, hw, rfl⟩ := key_ad h
 have : a = a' := Ad.v_inj (congrArg cellsL e)
 subst this
 exact ⟨hw, rfl⟩
structure KeysIn (D : DataW Value) (left : Lit → Bool) (ks : List Ad) : Prop where
 met : ∀ a ∈ ks, a.wf ∧ Maps.has D (klA a) = true ∧ left (klA a) = false
 nodup : ks.Nodup
 rest : ∀ a : Ad, a.wf → Maps.has D (klA a) = true → a ∈ ks ∨ left (klA a) = true
theorem KeysIn.start (D : DataW Value) : KeysIn D (Maps.has D) [] := ⟨by simp, by simp, fun a _ h => .inr h⟩
theorem KeysIn.next {D : DataW Value} {left : Lit → Bool} {ks : List Ad} (h : KeysIn D left ks) {x : Ad} (hw : x.wf) (hl : left (klA x) = true) {y : DataW Value} (hat : ∀ zd, D.atKey (klA x) zd = y) : KeysIn D (fun z => left z && !z.sameKey (klA x)) (ks ++ [x]) where
 met a ha := by
  rcases List.mem_append.1 ha with ha | ha
  · obtain ⟨h1, h2, h3⟩ := h.met a ha
    exact ⟨h1, h2, by rw [h3]; rfl⟩
  · rw [List.mem_singleton] at ha
    subst ha; exact ⟨hw, Maps.has_true_of_atKey hat, by rw [WideAt.sameKey_self (klA_lit _)]; simp⟩
 nodup := by
  rw [List.nodup_append]; refine ⟨h.nodup, by simp, fun a ha b hb => ?_⟩; rw [List.mem_singleton] at hb; subst hb; intro e; subst e; rw [(h.met _ ha).2.2] at hl; cases hl
 rest a ha hD := by
  by_cases e : a = x
  · exact .inl (by simp [e])
  · rcases h.rest a ha hD with h1 | h1
    · exact .inl (by simp [h1])
    · refine .inr ?_
      rw [h1, Maps.sameKey_ne (klA_ne ha hw e)]; rfl
theorem sortA_perm {l l' : List Ad} (h : l.Perm l') : sortA l = sortA l' := by
 have tr : ∀ a b c : Ad, (!(ltOf ordA) b a) = true → (!(ltOf ordA) c b) = true → (!(ltOf ordA) c a) = true := fun a b c h1 h2 => by
  simp only [Bool.not_eq_true'] at *; exact swoA.ntrans c b a h2 h1
 have to : ∀ a b : Ad, ((!(ltOf ordA) b a) || (!(ltOf ordA) a b)) = true := fun a b => by
  rw [lt_ord, lt_ord, Bool.or_eq_true, Bool.not_eq_true', Bool.not_eq_true', Bool.eq_false_iff, Bool.eq_false_iff, ne_eq, ne_eq, less_iff, less_iff]; omega
 unfold sortA
 refine List.Perm.eq_of_pairwise (le := fun x y => (!(ltOf ordA) y x) = true) (fun a b _ _ h1 h2 => totA a b (by simpa using h2) (by simpa using h1)) (List.pairwise_mergeSort tr to l) (List.pairwise_mergeSort tr to l') ?_
 exact (List.mergeSort_perm l _).trans (h.trans (List.mergeSort_perm l' _).symm)
theorem KeysIn.done {D : DataW Value} {left : Lit → Bool} {ks : List Ad} {f : List (Ad × Value)} (h : KeysIn D left ks) (hR : Rel D f) (hl : ∀ kl, left kl = false) : sortA ks = sortA (f.map (·.1)) ∧ ks.length = f.length := by
 have hp : ks.Perm (f.map (·.1)) := by
  rw [List.perm_ext_iff_of_nodup h.nodup hR.nodup]; intro a; constructor
  · intro ha
    obtain ⟨h1, h2, -⟩ := h.met a ha; exact (hR.has a h1).1 h2
  · intro ha
    obtain ⟨p, hp, rfl⟩ := List.mem_map.1 ha; rcases h.rest _ (hR.wf p hp) ((hR.has _ (hR.wf p hp)).2 ha) with h1 | h1
    · exact h1
    · rw [hl] at h1; cases h1
 exact ⟨sortA_perm hp, by rw [hp.length_eq, List.length_map]⟩
theorem nodup_len : ∀ {l m : List Ad}, l.Nodup → (∀ a ∈ l, a ∈ m) → l.length ≤ m.length
 | [], _, _, _ => Nat.zero_le _
 | a :: l, m, h, hs => by
  obtain ⟨h1, h2⟩ := List.nodup_cons.1 h; have ha := hs a (by simp)
  have := nodup_len (m := m.erase a) h2 fun b hb => by
   have : b ≠ a := fun e => h1 (e ▸ hb)
   rw [List.mem_erase_of_ne this]; exact hs b (by simp [hb])
  rw [List.length_erase_of_mem ha] at this; have hp : 0 < m.length := List.length_pos_of_mem ha; simp; omega
theorem KeysIn.len {D : DataW Value} {left : Lit → Bool} {ks : List Ad} {f : List (Ad × Value)} (h : KeysIn D left ks) (hR : Rel D f) : ks.length ≤ f.length := by
 have := nodup_len (m := f.map (·.1)) h.nodup fun a ha => by
  obtain ⟨h1, h2, -⟩ := h.met a ha; exact (hR.has a h1).1 h2
 simpa using this
theorem OwnRows.grown {w w' : World} {base C n : Nat} {e : TypeId} {v : Value} {rows : List (List Value)} {row : Option Nat} (h : OwnRows w base e C v n rows) (hg : w.grownBy w' row) (hne : ∀ k, row = some k → v.ownBlock ≠ some k) : OwnRows w' base e C v n rows := by
 refine ⟨⟨h.1.1, ?_⟩, h.2⟩
 rcases h.1.2 with h0 | ⟨g, cap, cur, hv, hb, hh, r⟩
 · exact .inl h0
 · exact .inr ⟨g, cap, cur, hv, hb, (hg.block g (zag hh) (fun e => hne g e.symm (by rw [hv]; rfl))).trans hh, r⟩
theorem OwnRows.block_ge {w : World} {base C n : Nat} {e : TypeId} {v : Value} {rows : List (List Value)} (h : OwnRows w base e C v n rows) : ∀ k, v.ownBlock = some k → base ≤ k := by
 intro k hk
 rcases h.1.2 with ⟨rfl, -⟩ | ⟨g, cap, cur, rfl, hb, -⟩
 · cases hk
 · cases hk; exact hb
theorem OwnRows.ne5 {w : World} {base C n : Nat} {e : TypeId} {v : Value} {rows : List (List Value)} (h : OwnRows w base e C v n rows) {g : Nat} (hg : g < base) : v.ownBlock ≠ some g := by
 intro hv
 have := h.block_ge g hv
 omega
theorem OwnRows.fresh5 {w : World} {base C n : Nat} {e : TypeId} {v : Value} {rows : List (List Value)} (h : OwnRows w base e C v n rows) : v.ownBlock ≠ some w.heap.size := by
 intro hv
 have := (h.1.lt _ hv).2
 omega
theorem Upd.grown {g : Nat} {o : Obj} {w w' : World} (h : Upd g o w w') : w.grownBy w' (some g) := ⟨h.os, h.tape, h.output, by rw [h.size]; exact Nat.le_refl _, fun i _ hne => h.block i fun e => hne (by rw [e])⟩
theorem zbx : (Tryz.prog.info? 85).map (·.size) = some 3 := by kernel_rfl
theorem aInfo3 : (Tryz.prog.info? 85).map (fun i => (i.zero, i.size, i.bytes)) = some (some (.agg #[.int .i64 0, .int .i64 0, .int .i64 0]), 3, 24) := by kernel_rfl
end Go.Proofs.YtpbigfopmompfaaGreat
