import Derived.Test.YtpbigfopmompfaaGreatPgRel
import Derived.Test.YtpbigfopmompfaaGreatBunO
import Derived.Test.YtpbigfopmompfaaGreatBunE
/- Pages that are alike. -/
namespace Go.Proofs.YtpbigfopmompfaaGreat.pg
open Go.RowKit
set_option linter.unusedVariables false
def idxs (l : List (List Nat)) (p : List Nat) (k : Nat) : List Nat := (List.range k).filter fun j => decide (l[j]? = some p)
theorem idxs_succ (l : List (List Nat)) (p : List Nat) (k : Nat) : idxs l p (k + 1) = idxs l p k ++ (if l[k]? = some p then [k] else []) := by
 unfold idxs
 rw [List.range_succ, List.filter_append]
 by_cases h : l[k]? = some p <;> simp [h]
theorem idxs_len (l : List (List Nat)) (p : List Nat) (k : Nat) : (idxs l p k).length ≤ k := by
 unfold idxs
 exact Nat.le_trans (List.length_filter_le _ _) (by simp)
structure Grp (w : World) (base : Nat) (f : List (List Nat × Value)) (l : List (List Nat)) (k : Nat) : Prop where
 keys : ∀ p, p ∈ f.map (·.1) ↔ idxs l p k ≠ []
 rows : ∀ p v, (p, v) ∈ f → w.ownsRow base 3 1 v (idxs l p k).length (nats .i64 (idxs l p k))
 apart : ∀ p v p' v', (p, v) ∈ f → (p', v') ∈ f → p ≠ p' → v.ownBlock ≠ v'.ownBlock
theorem Grp.start (w : World) (base : Nat) (l : List (List Nat)) : Grp w base [] l 0 := ⟨by simp [idxs], by simp, by simp⟩
theorem Grp.grown {w w' : World} {base : Nat} {f : List (List Nat × Value)} {l : List (List Nat)} {k : Nat} {row : Option Nat} (h : Grp w base f l k) (hg : w.grownBy w' row) (hne : ∀ p v, (p, v) ∈ f → v.ownBlock ≠ row) : Grp w' base f l k :=
 ⟨h.keys, fun p v hv => (h.rows p v hv).kept hg (.inr (hne p v hv)), h.apart⟩
theorem zbn {w : World} {base n : Nat} {e : TypeId} {v : Value} {xs : List Value} (h : w.ownsRow base e 1 v n xs) (hn : 0 < n) : ∃ g, v.ownBlock = some g ∧ base ≤ g ∧ g < w.heap.size := by
 obtain ⟨g, c, rfl, h1, h2, -, -⟩ := za7 h hn
 exact ⟨g, rfl, h1, h2⟩
theorem Grp.pos {w : World} {base : Nat} {f : List (List Nat × Value)} {l : List (List Nat)} {k : Nat} (h : Grp w base f l k) {p : List Nat} {v : Value} (hv : (p, v) ∈ f) : 0 < (idxs l p k).length :=
 List.length_pos_iff.2 ((h.keys p).1 (List.mem_map.2 ⟨(p, v), hv, rfl⟩))
theorem Grp.at_ {w : World} {base : Nat} {f : List (List Nat × Value)} {l : List (List Nat)} {k : Nat} (h : Grp w base f l k) (hn : (f.map (·.1)).Nodup) (p : List Nat) :
 w.ownsRow base 3 1 (lookF f p (.slice none 0 0)) (idxs l p k).length (nats .i64 (idxs l p k)) := by
 by_cases hp : p ∈ f.map (·.1)
 · obtain ⟨q, hq, e⟩ := List.mem_map.1 hp
   obtain ⟨p', v⟩ := q; simp only at e; subst e; rw [lookF_in hn hq]; exact h.rows _ _ hq
 · rw [lookF_out hp]
   have : idxs l p k = [] := by
    cases hi : idxs l p k with
    | nil => rfl
    | cons a r => exact absurd ((h.keys p).2 (by rw [hi]; simp)) hp
   rw [this]; exact World.ownsRow_nil _ _ _ _
theorem Grp.other {w : World} {base : Nat} {f : List (List Nat × Value)} {l : List (List Nat)} {k : Nat} (h : Grp w base f l k) (hn : (f.map (·.1)).Nodup) {p q : List Nat} {v : Value} (hv : (q, v) ∈ f) (hne : q ≠ p) : v.ownBlock ≠ (lookF f p (.slice none 0 0)).ownBlock := by
 by_cases hp : p ∈ f.map (·.1)
 · obtain ⟨q', hq, e⟩ := List.mem_map.1 hp
   obtain ⟨p', v'⟩ := q'; simp only at e; subst e; rw [lookF_in hn hq]; exact h.apart _ _ _ _ hv hq hne
 · rw [lookF_out hp]
   obtain ⟨g, e, -⟩ := zbn (h.rows _ _ hv) (h.pos hv); rw [e]; simp [Value.ownBlock]
theorem Grp.next {w w' : World} {base : Nat} {f : List (List Nat × Value)} {l : List (List Nat)} {k : Nat} (h : Grp w base f l k) (hn : (f.map (·.1)).Nodup) {p : List Nat} (hp : l[k]? = some p) {v' : Value}
 (hg : w.grownBy w' (lookF f p (.slice none 0 0)).ownBlock) (hrow : w'.ownsRow base 3 1 v' ((idxs l p k).length + 1) (nats .i64 (idxs l p k) ++ [.int .i64 (k : Int)]))
 (hat : v'.ownBlock = (lookF f p (.slice none 0 0)).ownBlock ∨ ∃ g, v'.ownBlock = some g ∧ w.heap.size ≤ g) : Grp w' base (putF f p v') l (k + 1) := by
 have hsame : ∀ q, q ≠ p → idxs l q (k + 1) = idxs l q k := fun q hq => by
  rw [idxs_succ, if_neg (by rw [hp]; intro e; exact hq (Option.some.inj e).symm), List.append_nil]
 have hme : idxs l p (k + 1) = idxs l p k ++ [k] := by rw [idxs_succ, if_pos hp]
 refine ⟨fun q => ?_, fun q v hv => ?_, fun q v q' v2 hv hv2 hne => ?_⟩
 · show q ∈ p :: (delF f p).map (·.1) ↔ _
   rw [zbl]; by_cases e : q = p
   · subst e
     rw [hme]; simp
   · rw [hsame q e, ← h.keys q]
     simp [e]
 · rcases List.mem_cons.1 hv with e | hv
   · simp at e
     obtain ⟨rfl, rfl⟩ := e; rw [hme]; simpa [nats] using hrow
   · obtain ⟨h1, h2⟩ := zbh.1 hv
     rw [hsame q h2]; exact (h.rows q v h1).kept hg (.inr (h.other hn h1 h2))
 · have key : ∀ q v, (q, v) ∈ delF f p → v.ownBlock ≠ v'.ownBlock := by
    intro q v hv; obtain ⟨h1, h2⟩ := zbh.1 hv; obtain ⟨g, e, -, hlt⟩ := zbn (h.rows _ _ h1) (h.pos h1); rcases hat with ha | ⟨g', ha, hge⟩
    · rw [ha]; exact h.other hn h1 h2
    · rw [ha, e]
      intro e2; have := Option.some.inj e2; omega
   rcases List.mem_cons.1 hv with e | hd
   · simp at e
     obtain ⟨rfl, rfl⟩ := e; rcases List.mem_cons.1 hv2 with e2 | hd2
     · simp at e2; exact absurd e2.1.symm hne
     · exact fun e => key _ _ hd2 e.symm
   · rcases List.mem_cons.1 hv2 with e2 | hd2
     · simp at e2
       obtain ⟨rfl, rfl⟩ := e2; exact key _ _ hd
     · exact h.apart _ _ _ _ (zbh.1 hd).1 (zbh.1 hd2).1 hne
theorem Grp.off {w : World} {base b : Nat} {f : List (List Nat × Value)} {l : List (List Nat)} {k : Nat} (h : Grp w base f l k) (hb : b < base) : ∀ q v, (q, v) ∈ f → v.ownBlock ≠ some b := fun q v hv => by
 obtain ⟨gg, e, hge, -⟩ := zbn (h.rows _ _ hv) (h.pos hv)
 rw [e]
 intro e2
 have := Option.some.inj e2
 omega
theorem out_off {w : World} {base n : Nat} {e : TypeId} {v : Value} {xs : List Value} (h : w.ownsRow base e 1 v n xs) : v.ownBlock = none ∨ v.ownBlock ≠ some w.heap.size := by
 rcases h.2 with ⟨rfl, -⟩ | ⟨gg, cap, cur, rfl, hb, hh, -⟩
 · exact .inl rfl
 · refine .inr fun e => ?_
   have := Option.some.inj e; have := zag hh; simp at *; omega
theorem map_off {w : World} {base n b N : Nat} {D : DataW Value} {e : TypeId} {v : Value} {xs : List Value} (h : w.ownsMap Tryz.prog 90 anyElem b N D) (ho : w.ownsRow base e 1 v n xs) : some b ≠ v.ownBlock := by
 obtain ⟨es, clock, hb, -⟩ := h
 rcases ho.2 with ⟨rfl, -⟩ | ⟨gg, cap, cur, rfl, -, hh, -⟩
 · simp [Value.ownBlock]
 · intro e
   have := Option.some.inj e; simp at this; rw [← this, hb] at hh; cases hh
theorem rows_off {w : World} {base base' n m : Nat} {v o : Value} {xs ys : List Value} (h : w.ownsRow base 3 1 v n xs) (hn : 0 < n) (ho : w.ownsRow base' 53 1 o m ys) : v.ownBlock ≠ o.ownBlock := by
 rcases ho.2 with ⟨rfl, -⟩ | ⟨gg, cap, cur, rfl, -, hh, -⟩
 · obtain ⟨g, e, -⟩ := zbn h hn
   rw [e]; simp [Value.ownBlock]
 · exact own_ne h hh (by decide)
def pgs (l : List (List Nat)) : List (List Value) := l.map (nats .u8)
theorem iInfo1 : (Tryz.prog.info? 3).map (fun i => (i.zero, i.size, i.bytes)) = some (some (.int .i64 0), 1, 8) := by kernel_rfl
theorem zero_ints (w : World) : (zeroValue 53).run Tryz.prog w = .ok (.slice none 0 0) w := by kernel_rfl
def firstB (l : List (List Nat)) (j : Nat) (p : List Nat) : Bool := (idxs l p l.length).head? == some j && decide (1 < (idxs l p l.length).length)
def twinsK (l : List (List Nat)) (k : Nat) : List (List Nat) := (List.range k).filterMap fun j => (l[j]?).bind fun p => if firstB l j p then some p else none
theorem twins_succ (l : List (List Nat)) (k : Nat) (p : List Nat) (hp : l[k]? = some p) : twinsK l (k + 1) = twinsK l k ++ (if firstB l k p then [p] else []) := by
 unfold twinsK
 rw [List.range_succ, List.filterMap_append]
 congr 1
 simp only [List.filterMap_cons, List.filterMap_nil, hp, Option.bind_some]
 cases firstB l k p <;> rfl
theorem twins_len (l : List (List Nat)) (k : Nat) : (twinsK l k).length ≤ k := by
 unfold twinsK
 exact Nat.le_trans (List.length_filterMap_le _ _) (by simp)
theorem idxs_has {l : List (List Nat)} {p : List Nat} {k : Nat} (hk : k < l.length) (hp : l[k]? = some p) : ∃ h r, idxs l p l.length = h :: r := by
 cases hi : idxs l p l.length with
 | cons a r => exact ⟨a, r, rfl⟩
 | nil =>
  have : k ∈ idxs l p l.length := by unfold idxs; rw [List.mem_filter]; exact ⟨List.mem_range.2 hk, by simp only [decide_eq_true_eq]; exact hp⟩
  rw [hi] at this; simp at this
theorem sInfo1 : (Tryz.prog.info? 53).map (fun i => (i.zero, i.size, i.bytes)) = some (some (.slice none 0 0), 1, 24) := by kernel_rfl
set_option maxRecDepth 100000 in
set_option maxHeartbeats 8000000 in
theorem twins_any (A : Option Addr) (n c B : Nat) (l : List (List Nat)) (w : World) (hr : Rds w B A 32 n (pgs l)) (hB : B ≤ w.heap.size) (hok : ∀ p ∈ l, wfP p) (hn : n ≤ 1000) :
 Calls Tryz.prog 154 #[.slice A n c] w fun e w' => ∃ (v : Value) (f : List (List Nat × Value)), e = .returned v ∧ w'.ownsRow (w.heap.size + 1) 53 1 v (twinsK l l.length).length ((twinsK l l.length).map fun p => lookF f p (.slice none 0 0)) ∧
  (∀ p, w'.ownsRow (w.heap.size + 1) 3 1 (lookF f p (.slice none 0 0)) (idxs l p l.length).length (nats .i64 (idxs l p l.length))) ∧ Below w.heap.size w w' := by
 have hl : l.length = n := by have := hr.1; simpa [pgs] using this
 have hmm := @run_makeMap Tryz.prog
 have hown0 := World.ownsMap_made (H := Value) w Tryz.prog 90 anyElem
 have hb0 := (Below.refl _ w).alloc (Nat.le_refl _) (.map #[] 0)
 have HR := Lib.hid hr
 have HL := Lib.hid hl
 have HB := Lib.hid hB
 have HOk := Lib.hid hok
 clear hr hl hB hok
 go_enter Tryz.func154, Tryz.ntmps154
 go_wp2_with fail
 go_loopw [13] (fun i wr => ∃ (k : Nat) (f : List (List Nat × Value)) (D : DataW Value), k ≤ n ∧ i = .int .i64 k ∧ wr.ownsMap Tryz.prog 90 anyElem w.heap.size k D ∧ Rel D f ∧ Grp wr (w.heap.size + 1) f l k ∧ Below w.heap.size w wr) (fun i _ => n - (intOf i).toNat)
 case atStart => exact ⟨0, [], _, by omega, rfl, hown0, Rel.nil, Grp.start _ _ _, hb0⟩
 case round =>
  clear hown0 hb0; obtain ⟨k, f, D, hk, rfl, hown, hR, hG, hb⟩ := hrel; by_cases hlt : k < n
  · have hkl : k < l.length := by rw [HL.out]; exact hlt
    have hr' := HR.out.below hb HB.out; obtain ⟨bb, oo, rfl, hbb, hRr⟩ := za8 hr' hlt (r := nats .u8 l[k]) (by rw [pgs, List.getElem?_map, List.getElem?_eq_getElem hkl]; rfl); have hpw := HOk.out l[k] (List.getElem_mem hkl); have HK := Lib.hid (show l[k]? = some l[k] from List.getElem?_eq_getElem hkl); have hlt2 : (k : Int) < (n : Int) := by omega
    clear hr'; generalize l[k] = p at *; have iP := zbe hpw.1; have HW := Lib.hid hpw; have HRl := Lib.hid hR; have HPl := Lib.hid hpw.1; have hsz := hown.lt; clear hpw hR; go_upto_region 5 with (first | (refine wpList_load_mid rfl 90 (.tmp 16) rfl bb (oo + k * 32) rfl _ _ hRr Tryz.underlying90 rfl iP ?_) | (refine zai rfl 90 (.tmp 5) (.tmp 17) rfl wr.heap.size (nats .u8 p) rfl rfl 90 _ (zak wr _ _ rfl) iP (by rw [zaj, HPl.out]; rfl) (za1 _ _) ?_; intro w5 hU5; have h55 := hU5.at_; have hown5 := (hown.alloc (.cells (nats .u8 zero32).toArray 90)).kept hU5.grown (fun e => by have := Option.some.inj e; omega); have hG5 := (hG.grown (World.grownBy_alloc wr (.cells (nats .u8 zero32).toArray 90) none) (fun q v hv => by obtain ⟨gg, e, -⟩ := zbn (hG.rows _ _ hv) (hG.pos hv); rw [e]; simp)).grown hU5.grown (fun q v hv => by obtain ⟨gg, e, -, hlt⟩ := zbn (hG.rows _ _ hv) (hG.pos hv); rw [e]; intro e2; have := Option.some.inj e2; omega); have hb5 := hU5.below (hb.alloc hb.size _) hb.size; have hs5 : w5.heap.size = wr.heap.size + 1 := (by rw [hU5.size]; simp); clear hU5 hRr hown hG hb))
    have hown6 := hown5.alloc (.cells #[.int .i64 (k : Int)] 3); have hG6 := hG5.grown (World.grownBy_alloc w5 (.cells #[.int .i64 (k : Int)] 3) none) (fun q v hv => by obtain ⟨gg, e, -⟩ := zbn (hG5.rows _ _ hv) (hG5.pos hv); rw [e]; simp); have hb6 := hb5.alloc hb5.size (.cells #[.int .i64 (k : Int)] 3); have hs6 : (w5.alloc (.cells #[.int .i64 (k : Int)] 3)).heap.size = w5.heap.size + 1 := by simp
    obtain ⟨st, w7, hrun7, hg7, hs7, hst⟩ := entry_run hown6 HRl.out HW.out Tryz.underlying237 zero_ints (by unfold maxLen; omega); have hG7 := hG6.grown hg7 (hG6.off (by omega)); have hrow7 := hG7.at_ HRl.out.nodup p; have hblk7 : w7.heap[w5.heap.size]? = some (.cells #[.int .i64 (k : Int)] 3 (0, 0)) := (hg7.block _ (by omega) (fun e => by have := Option.some.inj e; omega)).trans (zak _ _ _ rfl); have hrd : Rd w7 w7.heap.size (some ⟨w5.heap.size, 0, none⟩) 1 [.int .i64 (k : Int)] := rd_of_range (zal hblk7) rfl (zag hblk7); have hb7 := hb6.grown hg7 hb6.size (fun j hj => by cases hj; omega); have hil := idxs_len l p k
    have hv0b : (lookF f p (.slice none 0 0)).ownBlock ≠ some w.heap.size := by
     intro e; rcases hrow7.2 with ⟨e0, -⟩ | ⟨gg, cap, cur, e0, hge, -⟩
     · rw [e0] at e; cases e
     · rw [e0] at e
       have := Option.some.inj e; simp at this; omega
    have HG7 := Lib.hid hG7; have hblk : w.heap.size < w7.heap.size := by omega
    have hsz7 : w.heap.size + 1 ≤ w7.heap.size := by omega
    generalize hv0 : lookF f p (.slice none 0 0) = v0 at hrun7 hrow7 hv0b; have HV0 := Lib.hid hv0; have HST := Lib.hid hst; have HS7 := Lib.hid hs7; clear hown5 hG5 hb5 hown6 hG6 hb6 hG7 hblk7 hg7 hv0 hst hs6 hs7 hs5; go_wp2_with (first | (refine wpList_load_mid rfl 90 (.tmp 5) rfl wr.heap.size 0 rfl _ _ (zal h55) Tryz.underlying90 rfl iP ?_) | (at_builtin; refine wpList_appendN rfl (.tmp 20) (.tmp 22) 53 rfl 3 _ _ Tryz.underlying53 iInfo1 rfl hrow7 hb7 rfl rfl hrd (fun u hu => by rw [List.mem_singleton.1 hu]; rfl) (by unfold maxLen; omega) (by omega) hsz7 (by omega) ?_; intro v8 w8 hrow8 hb8 hgr8 hat8; obtain ⟨w9, hrun9, hown9, hg9⟩ := HST.out w8 v8 (hgr8.block _ hblk (fun e => hv0b e.symm)); have hG8 := HG7.out.next HRl.out.nodup HK.out (by rw [HV0.out]; exact hgr8) hrow8 (by rw [HV0.out]; exact hat8); have hG9 := hG8.grown hg9 (hG8.off (by omega)); have hb9 := hb8.grown hg9 hb8.size (fun j hj => by cases hj; omega)))
    go_roundw
    case rel => exact ⟨k + 1, putF f p v8, _, by omega, by go_num, hown9, HRl.out.put HW.out v8, hG9, hb9⟩
    case measure => simp [intOf]; omega
  · obtain rfl : k = n := by omega
    have HRl := Lib.hid hR; clear hR; have hsz0 := hb.size; have hown' := hown; have hlt0 := hown.lt; have HL2 := Lib.hid (show idxs l = idxs l from rfl); rw [← HL.out] at hG; go_wp2_with fail
    go_loopw [6, 29] (fun o i wr => ∃ (j : Nat) (m : Nat), j ≤ k ∧ i = .int .i64 j ∧ wr.ownsMap Tryz.prog 90 anyElem w.heap.size k D ∧ Grp wr (w.heap.size + 1) f l l.length ∧ wr.ownsRow (w.heap.size + 1) 53 1 o (twinsK l j).length ((twinsK l j).map fun p => lookF f p (.slice none 0 0)) ∧ Below w.heap.size w wr) (fun _ i _ => k - (intOf i).toNat)
    case atStart => exact ⟨0, 0, by omega, rfl, hown, hG, World.ownsRow_nil _ _ _ _, hb⟩
    case round =>
     clear hown hown' hG hb hsz0 hlt0; obtain ⟨j, m, hj, rfl, hown, hG, hout, hb⟩ := hrel; by_cases hlt : j < k
     · have hkl : j < l.length := by rw [HL.out]; exact hlt
       have hr' := HR.out.below hb HB.out; obtain ⟨bb, oo, rfl, hbb, hRr⟩ := za8 hr' hlt (r := nats .u8 l[j]) (by rw [pgs, List.getElem?_map, List.getElem?_eq_getElem hkl]; rfl); have hpw := HOk.out l[j] (List.getElem_mem hkl); have HK := Lib.hid (show l[j]? = some l[j] from List.getElem?_eq_getElem hkl); have hlt2 : (j : Int) < (k : Int) := by omega
       clear hr'; generalize l[j] = p at *; have iP := zbe hpw.1; have HW := Lib.hid hpw; have HPl := Lib.hid hpw.1; have hsz := hown.lt; clear hpw; go_upto_region 11 with (first | (refine wpList_load_mid rfl 90 (.tmp 32) rfl bb (oo + j * 32) rfl _ _ hRr Tryz.underlying90 rfl iP ?_) | (refine zai rfl 90 (.tmp 8) (.tmp 33) rfl wr.heap.size (nats .u8 p) rfl rfl 90 _ (zak wr _ _ rfl) iP (by rw [zaj, HPl.out]; rfl) (za1 _ _) ?_; intro w5 hU5; have h85 := hU5.at_; have hown5 := (hown.alloc (.cells (nats .u8 zero32).toArray 90)).kept hU5.grown (fun e => by have := Option.some.inj e; omega); have hG5 := (hG.grown (World.grownBy_alloc wr (.cells (nats .u8 zero32).toArray 90) none) (fun q v hv => by obtain ⟨gg, e, -⟩ := zbn (hG.rows _ _ hv) (hG.pos hv); rw [e]; simp)).grown hU5.grown (fun q v hv => by obtain ⟨gg, e, -, hlt⟩ := zbn (hG.rows _ _ hv) (hG.pos hv); rw [e]; intro e2; have := Option.some.inj e2; omega); have hout5 := (hout.alloc (.cells (nats .u8 zero32).toArray 90)).kept hU5.grown (out_off hout); have hb5 := hU5.below (hb.alloc hb.size _) hb.size; clear hU5 hRr hown hG hb hout))
       have hlook := val_of hown5 HRl.out HW.out Tryz.underlying237 (zero_ints _); have hrow := hG5.at_ HRl.out.nodup p; obtain ⟨h0, rest, hidx⟩ := idxs_has hkl HK.out; have hpos : 0 < (idxs l p l.length).length := by rw [hidx]; simp
       obtain ⟨g9, c9, e9, -, -, hnc9, hcm9⟩ := za7 hrow hpos; have HRow := Lib.hid hrow; rw [e9] at hlook hrow; obtain ⟨b9, o9, eA, -, hcq⟩ := (Rd.of_own hrow).at_ hpos; cases eA
       have hc9 : w5.cell? ⟨g9, 0, none⟩ = some (.int .i64 (h0 : Int)) := by rw [show (nats .i64 (idxs l p l.length))[0]? = some (.int .i64 (h0 : Int)) by rw [hidx]; rfl] at hcq; exact hcq
       clear hcq; have HFst := Lib.hid (show firstB l j p = (h0 == j && decide (1 < (idxs l p l.length).length)) by unfold firstB; rw [hidx]; simp); have HTs := Lib.hid (twins_succ l j p HK.out); have HE9 := Lib.hid e9; have hil := idxs_len l p l.length; rw [HL.out] at hil; generalize (idxs l p l.length).length = M at *; have hposI : (0 : Int) < (M : Int) := by omega
       clear hrow e9 hidx; by_cases e0 : h0 = j
       · subst e0
         by_cases e1 : 1 < M
         · have HT := Lib.hid (show twinsK l (h0 + 1) = twinsK l h0 ++ [p] by rw [HTs.out, HFst.out]; simp [e1])
           have e1I : (1 : Int) < (M : Int) := by omega
           have htl := twins_len l h0; have hone := hout5.1; go_wp2_with (first | (refine wpList_load_mid rfl 90 (.tmp 8) rfl wr.heap.size 0 rfl _ _ (zal h85) Tryz.underlying90 rfl iP ?_) | (at_builtin; refine zbm rfl (.tmp 47) (.tmp 49) 211 rfl 53 _ _ Tryz.underlying211 sInfo1 rfl hout5 hb5 rfl rfl rfl (by unfold maxLen; omega) (by omega) (by have := hb5.size; have := hown5.lt; omega) (by omega) ?_; intro v7 w7 hout7 hb7 hgr7 hat7))
           have hown7 := (hown5.alloc (.cells #[.slice (some ⟨g9, 0, none⟩) M c9] 53)).kept hgr7 (map_off hown5 hout5); have hG6 := hG5.grown (World.grownBy_alloc w5 (.cells #[.slice (some ⟨g9, 0, none⟩) M c9] 53) none) (fun q v hv => by obtain ⟨gg, e, -⟩ := zbn (hG5.rows _ _ hv) (hG5.pos hv); rw [e]; simp); have hG7 := hG6.grown hgr7 (fun q v hv => rows_off (hG5.rows _ _ hv) (hG5.pos hv) hout5); go_roundw
           case rel => exact ⟨h0 + 1, m, by omega, by go_num, hown7, hG7, by rw [HT.out, List.map_append, List.length_append, List.map_cons, HE9.out]; exact hout7, hb7⟩
           case measure => simp [intOf]; omega
         · have HT := Lib.hid (show twinsK l (h0 + 1) = twinsK l h0 by rw [HTs.out, HFst.out]; simp [e1])
           have e1I : ¬ (1 : Int) < (M : Int) := by omega
           go_wp2_with (first | (refine wpList_load_mid rfl 90 (.tmp 8) rfl wr.heap.size 0 rfl _ _ (zal h85) Tryz.underlying90 rfl iP ?_))
           go_roundw
           case rel => exact ⟨h0 + 1, m, by omega, by go_num, hown5, hG5, by rw [HT.out]; exact hout5, hb5⟩
           case measure => simp [intOf]; omega
       · have HT := Lib.hid (show twinsK l (j + 1) = twinsK l j by rw [HTs.out, HFst.out]; simp [e0])
         have e0I : ((h0 : Int) == (j : Int)) = false := by simp; omega
         go_wp2_with (first | (refine wpList_load_mid rfl 90 (.tmp 8) rfl wr.heap.size 0 rfl _ _ (zal h85) Tryz.underlying90 rfl iP ?_))
         go_roundw
         case rel => exact ⟨j + 1, m, by omega, by go_num, hown5, hG5, by rw [HT.out]; exact hout5, hb5⟩
         case measure => simp [intOf]; omega
     · obtain rfl : j = k := by omega
       have HLk := HL.out; go_wp2_with fail
       go_ret
       refine ⟨_, f, rfl, ?_, fun p => hG.at_ HRl.out.nodup p, hb⟩; rw [HL.out]; exact hout
end Go.Proofs.YtpbigfopmompfaaGreat.pg
