import Derived.Test.YtpbigfopmompfaaGreatBunO
import Derived.Test.YtpbigfopmompfaaGreatBunE
import Derived.Lib.SliceRun
/- What a claim's proof leans on: DelAd, SpotBool, SpotStr. -/
namespace Go.Proofs.YtpbigfopmompfaaGreat
open Go.RowKit
set_option linter.unusedVariables false
def offB (d b : Int) (x : Ad) : Bool := x.d != d || x.b != b
def keepL (d b : Int) (l : List Ad) : List Ad := l.filter fun x => !offB d b x
def idxI (p : Ad → Bool) (l : List Ad) : Int := match l.findIdx? p with | some i => (i : Int) | none => -1
theorem idx_hit {p : Ad → Bool} {l : List Ad} {k : Nat} (hk : k < l.length) (hall : ∀ (j : Nat) (x : Ad), l[j]? = some x → j < k → p x = false) (hp : p l[k] = true) : l.findIdx? p = some k := by
 rw [List.findIdx?_eq_some_iff_getElem]
 exact ⟨hk, hp, fun j hj => by rw [hall j _ (List.getElem?_eq_getElem (by omega)) hj]; simp⟩
theorem idx_none {p : Ad → Bool} {l : List Ad} (hall : ∀ (j : Nat) (x : Ad), l[j]? = some x → p x = false) : l.findIdx? p = none := by
 rw [List.findIdx?_eq_none_iff]
 intro x hx
 obtain ⟨j, hj, rfl⟩ := List.getElem_of_mem hx
 exact hall j _ (List.getElem?_eq_getElem hj)
structure DelI (d b : Int) (l arr : List Ad) (i j : Nat) : Prop where
 len : arr.length = l.length
 lt : i < j
 le : j ≤ l.length
 front : arr.take i = keepL d b (l.take j)
 back : arr.drop j = l.drop j
theorem keep_snoc (d b : Int) (l : List Ad) (j : Nat) (x : Ad) (hx : l[j]? = some x) : keepL d b (l.take (j + 1)) = keepL d b (l.take j) ++ (if offB d b x then [] else [x]) := by
 rw [List.take_add_one, hx]
 unfold keepL
 rw [List.filter_append]
 cases h : offB d b x <;> simp [h]
theorem DelI.start {d b : Int} {l : List Ad} {i : Nat} (h : l.findIdx? (offB d b) = some i) : DelI d b l l i (i + 1) := by
 rw [List.findIdx?_eq_some_iff_getElem] at h
 obtain ⟨hi, hp, hall⟩ := h
 refine ⟨rfl, by omega, by omega, ?_, rfl⟩
 rw [keep_snoc d b l i l[i] (List.getElem?_eq_getElem hi), hp]
 simp only [if_true, List.append_nil]
 unfold keepL
 symm
 refine List.filter_eq_self.2 fun x hx => ?_
 obtain ⟨j, hj, rfl⟩ := List.getElem_of_mem hx
 have hji : j < i := by simp at hj; omega
 rw [List.getElem_take]
 have := hall j hji
 simpa using this
theorem DelI.at_ {d b : Int} {l arr : List Ad} {i j : Nat} (h : DelI d b l arr i j) (hj : j < l.length) : arr[j]? = l[j]? := by
 have := congrArg (·[0]?) h.back
 simpa using this
theorem DelI.off {d b : Int} {l arr : List Ad} {i j : Nat} (h : DelI d b l arr i j) {x : Ad} (hx : l[j]? = some x) (hp : offB d b x = true) : DelI d b l arr i (j + 1) := by
 have hj := (List.getElem?_eq_some_iff.1 hx).1
 refine ⟨h.len, by have := h.lt; omega, by omega, ?_, ?_⟩
 · rw [keep_snoc d b l j x hx, hp, h.front]; simp
 · have := congrArg (List.drop 1) h.back
   rw [List.drop_drop, List.drop_drop] at this; exact this
theorem DelI.on {d b : Int} {l arr : List Ad} {i j : Nat} (h : DelI d b l arr i j) {x : Ad} (hx : l[j]? = some x) (hp : offB d b x = false) : DelI d b l (arr.set i x) (i + 1) (j + 1) := by
 have hj := (List.getElem?_eq_some_iff.1 hx).1
 have hlt := h.lt
 have hi : i < arr.length := by rw [h.len]; omega
 refine ⟨by simp [h.len], by omega, by omega, ?_, ?_⟩
 · rw [keep_snoc d b l j x hx, hp, ← h.front, List.take_add_one, List.take_set_of_le (Nat.le_refl _)]
   simp [hi]
 · rw [List.drop_set_of_lt (by omega)]
   have := congrArg (List.drop 1) h.back; rw [List.drop_drop, List.drop_drop] at this; exact this
theorem DelI.done {d b : Int} {l arr : List Ad} {i : Nat} (h : DelI d b l arr i l.length) : arr.take i = keepL d b l ∧ (keepL d b l).length = i := by
 have := h.front
 rw [List.take_length] at this
 refine ⟨this, ?_⟩
 rw [← this, List.length_take, h.len]
 have := h.lt
 omega
theorem own_parts {w : World} {base g n c : Nat} {rows : List (List Value)} (h : OwnRows w base 85 3 (.slice (some ⟨g, 0, none⟩) n c) n rows) : ∃ cur : List Value, w.heap[g]? = some (.cells cur.toArray 85 (0, 0)) ∧ base ≤ g ∧ n ≤ c ∧ c ≤ maxLen ∧ cur.length = c * 3 ∧ cur.take (n * 3) = rows.flatten := by
 rcases h.1.2 with ⟨h0, -⟩ | ⟨g', cap, cur, hv, hb, hh, h1, h2, h3, h4⟩
 · cases h0
 · cases hv
   exact ⟨cur.toList, by simpa using hh, hb, h1, h2, by simpa using h3, h4⟩
theorem flat_set {l : List Ad} {i : Nat} (hi : i < l.length) (x : Ad) : (ads (l.set i x)).flatten = splice (ads l).flatten (i * 3) x.v := by
 apply List.ext_getElem?
 intro j
 have hl : (ads l).flatten.length = l.length * 3 := by rw [zbp (zbf l)]; simp [ads]
 have hl2 : (ads (l.set i x)).flatten.length = l.length * 3 := by rw [zbp (zbf _)]; simp [ads]
 have hx3 : x.v.length = 3 := rfl
 rw [splice_get _ _ _ (by rw [hl, hx3]; omega), hx3]
 by_cases hj : j < l.length * 3
 · have h1 : j / 3 < l.length := by omega
   have h2 : j % 3 < 3 := by omega
   have ej : j / 3 * 3 + j % 3 = j := by omega
   have e1 := zbd (C := 3) (zbf l) (i := j / 3) (j := j % 3) (r := l[j / 3].v) (by rw [ads, List.getElem?_map, List.getElem?_eq_getElem h1]; rfl) h2; rw [ej] at e1; by_cases hq : j / 3 = i
   · have e2 := zbd (C := 3) (zbf (l.set i x)) (i := j / 3) (j := j % 3) (r := x.v) (by rw [ads, List.getElem?_map, hq, List.getElem?_set_self hi]; rfl) h2
     rw [ej] at e2; rw [e2, if_neg (by omega), if_pos (by omega)]; congr 1
     omega
   · have e2 := zbd (C := 3) (zbf (l.set i x)) (i := j / 3) (j := j % 3) (r := l[j / 3].v) (by rw [ads, List.getElem?_map, List.getElem?_set_ne (fun e => hq e.symm), List.getElem?_eq_getElem h1]; rfl) h2
     rw [ej] at e2; rw [e2, ← e1]; by_cases h3 : j < i * 3
     · rw [if_pos h3]
     · rw [if_neg h3, if_neg (by omega)]
 · rw [List.getElem?_eq_none (by omega)]
   rw [if_neg (by omega), if_neg (by omega), List.getElem?_eq_none (by omega)]
theorem take_splice {L cs : List Value} {off k : Nat} (h : off + cs.length ≤ L.length) (hk : off + cs.length ≤ k) : (splice L off cs).take k = splice (L.take k) off cs := by
 apply List.ext_getElem?
 intro j
 by_cases hj : j < k
 · have hl2 : off + cs.length ≤ (L.take k).length := by rw [List.length_take]; omega
   rw [List.getElem?_take_of_lt hj, splice_get _ _ _ h, splice_get _ _ _ hl2, List.getElem?_take_of_lt hj]
 · have l1 : (splice L off cs).length = L.length := by simp [splice]; omega
   have hl2 : off + cs.length ≤ (L.take k).length := by rw [List.length_take]; omega
   have l2 : (splice (L.take k) off cs).length = (L.take k).length := by simp [splice]; omega
   rw [List.getElem?_eq_none (by rw [List.length_take]; omega), List.getElem?_eq_none (by rw [l2, List.length_take]; omega)]
theorem own_set {w w' : World} {base g n c i : Nat} {arr : List Ad} {cur : List Value} (h : OwnRows w base 85 3 (.slice (some ⟨g, 0, none⟩) n c) n (ads arr)) (hcur : cur.take (n * 3) = (ads arr).flatten) (hl : cur.length = c * 3) (hi : i < n) (x : Ad)
 (hU : Upd g (.cells (splice cur (i * 3) x.v).toArray 85 (0, 0)) w w') : OwnRows w' base 85 3 (.slice (some ⟨g, 0, none⟩) n c) n (ads (arr.set i x)) := by
 obtain ⟨cur', h1, hb, h2, h3, h4, h5⟩ := own_parts h
 have hal : arr.length = n := by have := h.2.1; simpa [ads] using this
 have hx3 : x.v.length = 3 := rfl
 refine ⟨⟨by rw [zbp (zbf _)]; simp [ads, hal], .inr ⟨g, c, _, rfl, hb, hU.at_, h2, h3, by simp [splice, hx3]; omega, ?_⟩⟩, by simp [ads, hal], zbf _⟩
 rw [flat_set (by omega), ← hcur, List.toList_toArray, take_splice (by rw [hx3, hl]; omega) (by rw [hx3]; omega)]
theorem rds_front {w : World} {g k : Nat} {L : List Ad} {cur : List Value} {t : TypeId} {fr : Nat × Nat} (h : w.heap[g]? = some (.cells cur.toArray t fr)) (hL : L.length = k) (hc : cur.take (k * 3) = (ads L).flatten) : Rds w w.heap.size (some ⟨g, 0, none⟩) 3 k (ads L) := by
 refine ⟨by simp [ads, hL], zbf L, fun _ => ⟨g, 0, rfl, zag h, fun i r j u h1 h2 => ?_⟩⟩
 have hj : j < 3 := by rw [← zbf L r (List.mem_of_getElem? h1)]; exact (List.getElem?_eq_some_iff.1 h2).1
 have hi : i < k := by have := (List.getElem?_eq_some_iff.1 h1).1; simpa [ads, hL] using this
 have e := zbd (C := 3) (zbf L) h1 hj
 rw [zaf h, Nat.zero_add, List.getElem?_toArray, ← List.getElem?_take_of_lt (j := k * 3) (by omega), hc, e, h2]
theorem clear_run {w : World} {g o n c : Nat} {cur : List Value} (hg : w.heap[g]? = some (.cells cur.toArray 85 (0, 0))) (hn : 0 < n) (hfit : o + n * 3 ≤ cur.length) :
 ∃ w', (∀ ty, (Builtin.clear_ #[124] ty #[.slice (some ⟨g, o, none⟩) n c]).run Tryz.prog w = .ok (.tuple #[]) w') ∧ ∃ zs : List Value, zs.length = n * 3 ∧ Upd g (.cells (splice cur o zs).toArray 85 (0, 0)) w w' := by
 generalize hz : (Builtin.zeroCells (Value.agg #[.int .i64 0, .int .i64 0, .int .i64 0]).cells n).toList = zs
 have hl : zs.length = n * 3 := by rw [← hz]; simp [Builtin.zeroCells, Value.cells]
 have h1 : ∀ v ∈ zs, v.oneCell' = true := by
  intro v hv; rw [← hz] at hv; simp [Builtin.zeroCells, Value.cells] at hv; obtain ⟨i, -, rfl⟩ := hv; have : i % 3 = 0 ∨ i % 3 = 1 ∨ i % 3 = 2 := by omega
  rcases this with e | e | e <;> rw [e] <;> rfl
 have hst := run_storeCells_cells (P := Tryz.prog) g o zs 0 w (fun j hj => by
  rw [zaf hg, List.getElem?_toArray, List.getElem?_eq_getElem (by omega)]; rfl) (fun j hj => zar hg _) h1
 simp only [Nat.add_zero] at hst
 refine ⟨w.setCells g o zs, fun ty => ?_, zs, hl, upd_setCells hg (by omega)⟩
 obtain ⟨m, rfl⟩ : ∃ m, n = m + 1 := ⟨n - 1, by omega⟩
 simp [Builtin.clear_, run_underlying Tryz.underlying124, hz, hst]
end Go.Proofs.YtpbigfopmompfaaGreat
namespace Go.Proofs.YtpbigfopmompfaaGreat.spotBool
open Go.RowKit
open Go.Maps (Keyed)
set_option linter.unusedVariables false
theorem ptr : Tryz.prog.underlying 111 = some (.pointer (Tryz.prog.pointee 111)) := by kernel_rfl
theorem nonnil_neq (x : Addr) (w : World) : (binOp .neq 111 (.pointer (some x)) (.pointer none)).run Tryz.prog w = .ok (.bool true) w := run_neq_pointer_nil w 111 (some x) ptr
theorem nonnil_eql (x : Addr) (w : World) : (binOp .eql 111 (.pointer (some x)) (.pointer none)).run Tryz.prog w = .ok (.bool false) w := run_eql_pointer_nil w 111 (some x) ptr
theorem nil_neq (w : World) : (binOp .neq 111 (.pointer none) (.pointer none)).run Tryz.prog w = .ok (.bool false) w := run_neq_pointer_nil w 111 none ptr
set_option maxRecDepth 100000 in
theorem new (w : World) : Calls Tryz.prog 74 #[] w fun e w' => e = .returned (.pointer (some ⟨w.heap.size + 1, 0, none⟩)) ∧ Spot w' 142 (w.heap.size + 1) w.heap.size 0 [] ∧ Below w.heap.size w w' := by
 have hmm := @run_makeMap Tryz.prog
 have hB : ∀ x : Nat, Tryz.prog.built 142 [(0, .map (some x))] = some #[.map (some x)] := fun x => by kernel_rfl
 go_enter Tryz.func74, Tryz.ntmps74
 go_wp2_with (refine zao rfl 142 _ rfl _ rfl _ (hB _) ?_)
 go_ret
 refine ⟨rfl, ⟨zak _ _ _ (by simp), .map [], ?_, Rel.nil⟩, below2 _ _ _⟩
 exact (World.ownsMap_made w _ _ _).alloc _
set_option maxRecDepth 100000 in
set_option maxHeartbeats 4000000 in
theorem set (g b n : Nat) (f : List (Ad × Value)) (a : Ad) (v : Value) (w : World) (h : Spot w 142 g b n f) (ha : a.wf) (hn : n ≤ 100000) (hv : v.oneCell' = true) :
 Calls Tryz.prog 81 #[.pointer (some ⟨g, 0, none⟩), .agg a.v.toArray, v] w fun e w' => e = .returned (.tuple #[]) ∧ Spot w' 142 g b (n + 1) (putF f a v) ∧ w.grownBy w' (some b) := by
 obtain ⟨hg, D, hown, hR⟩ := h
 have hk := zb7 ha
 have hnn := nonnil_neq
 have hown1 := hown.alloc (.cells a.v.toArray 85)
 have hg1 := zam hg (.cells a.v.toArray 85)
 have ha1 := heap_alloc_new w (.cells a.v.toArray 85)
 have hgr1 := World.grownBy_alloc w (.cells a.v.toArray 85) (some b)
 have hs1 : (w.alloc (.cells a.v.toArray 85)).heap.size = w.heap.size + 1 := by simp
 have hbl := hown.lt
 go_enter Tryz.func81, Tryz.ntmps81
 go_upto_region 2 with fail
 generalize w.alloc (.cells a.v.toArray 85) = w1 at *
 have hc : w1.cell? ⟨g, 0, none⟩ = some (.map (some b)) := by rw [zaf hg1]; rfl
 obtain ⟨c0, c1, c2⟩ := ad_at ha1
 have hk : keyOf Tryz.prog 85 (.agg #[.int .i64 a.d, .int .i64 a.b, .int .i64 a.p]) = some (klA a) := zb7 ha
 obtain ⟨w2, hrun, hown2, hgr2⟩ := hown1.drew.update (val := v) adKeyed Tryz.underlying140 (by unfold maxLen; omega) hk (show anyElem v = some (.held v, []) from rfl)
 have hgr2 := zb4 hgr2
 have hne := owns_ne hown1 hg1
 have fin : Spot w2 142 g b (n + 1) (putF f a v) ∧ w.grownBy w2 (some b) := ⟨⟨(hgr2.block g (zag hg1) (fun e => hne (Option.some.inj e))).trans hg1, _, hown2, hR.put ha v⟩, hgr1.andThen hgr2 (fun j hj => .inr hj)⟩
 have HF := Lib.hid fin
 clear hgr1 hgr2 hown1 hown2 hg1 ha1 hR fin
 go_region
 all_goals
  go_end0
  exact ⟨rfl, HF.out⟩
theorem zero_run (w : World) : (zeroValue 4).run Tryz.prog w = .ok (.bool false) w := by kernel_rfl
set_option maxRecDepth 100000 in
set_option maxHeartbeats 4000000 in
theorem get (g b n : Nat) (f : List (Ad × Value)) (a : Ad) (w : World) (h : Spot w 142 g b n f) (ha : a.wf) :
 Calls Tryz.prog 82 #[.pointer (some ⟨g, 0, none⟩), .agg a.v.toArray] w fun e w' => e = .returned (.tuple #[lookF f a (.bool false), .bool (hasF f a)]) ∧ Below w.heap.size w w' := by
 obtain ⟨hg, D, hown, hR⟩ := h
 have hnn := nonnil_eql
 have hown1 := hown.alloc (.cells a.v.toArray 85)
 have hg1 := zam hg (.cells a.v.toArray 85)
 have ha1 := heap_alloc_new w (.cells a.v.toArray 85)
 have hbel := (Below.refl _ w).alloc (Nat.le_refl _) (.cells a.v.toArray 85)
 go_enter Tryz.func82, Tryz.ntmps82
 go_upto_region 4 with fail
 generalize w.alloc (.cells a.v.toArray 85) = w1 at *
 have hc : w1.cell? ⟨g, 0, none⟩ = some (.map (some b)) := by rw [zaf hg1]; rfl
 obtain ⟨c0, c1, c2⟩ := ad_at ha1
 have hrun := look_run hown1.drew hR ha Tryz.underlying140 (zero_run _)
 generalize hlv : lookF f a (.bool false) = lv at hrun
 generalize hlb : hasF f a = lb at hrun
 have HLV := Lib.hid hlv
 have HLB := Lib.hid hlb
 clear hlv hlb
 clear hown hown1 hg hg1 ha1
 go_region
 all_goals
  go_wp2_with fail
  go_ret2
  exact ⟨by rw [HLV.out, HLB.out]; rfl, hbel.drew⟩
set_option maxRecDepth 100000 in
set_option maxHeartbeats 4000000 in
theorem drop (g b n : Nat) (f : List (Ad × Value)) (a : Ad) (w : World) (h : Spot w 142 g b n f) (ha : a.wf) :
 Calls Tryz.prog 79 #[.pointer (some ⟨g, 0, none⟩), .agg a.v.toArray] w fun e w' => e = .returned (.bool (hasF f a)) ∧ Spot w' 142 g b n (delF f a) ∧ w.grownBy w' (some b) := by
 have h1 := h.below ((Below.refl _ w).alloc (Nat.le_refl _) (.cells a.v.toArray 85))
 have ha1 := heap_alloc_new w (.cells a.v.toArray 85)
 have hbel := (Below.refl _ w).alloc (Nat.le_refl _) (.cells a.v.toArray 85)
 clear h
 go_enter Tryz.func79, Tryz.ntmps79
 go_upto_region 1 with fail
 generalize w.alloc (.cells a.v.toArray 85) = w1 at *
 obtain ⟨c0, c1, c2⟩ := ad_at ha1
 go_wp2_with fail
 refine (get g b n f a w1 h1 ha).mono ?_
 rintro e w2 ⟨rfl, hb⟩
 have h2 := h1.below hb
 have ha2 := zad ha1 hb
 have hbel2 := hbel.trans (hb.mono hbel.size)
 clear c0 c1 c2 h1 ha1 hb hbel
 cases hB : hasF f a with
 | false =>
  have HF := Lib.hid (show delF f a = f by
   unfold delF; refine List.filter_eq_self.2 fun p hp => ?_; simp; intro e; unfold hasF at hB; simp at hB; exact hB p.2 (by rw [← e]; exact hp))
  have HB := Lib.hid hB; clear hB; go_wp2_with fail
  go_ret
  rw [HF.out]; exact ⟨by rw [HB.out]; rfl, h2, below_grown hbel2 _⟩
 | true =>
  obtain ⟨hg, D, hown, hR⟩ := h2; obtain ⟨c0, c1, c2⟩ := ad_at ha2; have hc : w2.cell? ⟨g, 0, none⟩ = some (.map (some b)) := by rw [zaf hg]; rfl
  have hk : keyOf Tryz.prog 85 (.agg #[.int .i64 a.d, .int .i64 a.b, .int .i64 a.p]) = some (klA a) := zb7 ha; obtain ⟨w3, hrun, hown3, ht⟩ := hown.drew.drop adKeyed Tryz.underlying140 hk 0; have hgr3 := zb4 (turned_grown ht); have hne := owns_ne hown hg; have fin : Spot w3 142 g b n (delF f a) ∧ w.grownBy w3 (some b) := ⟨⟨(hgr3.block g (zag hg) (fun e => hne (Option.some.inj e))).trans hg, _, hown3, hR.del ha⟩, (below_grown hbel2 (some b)).andThen hgr3 (fun j hj => .inr hj)⟩; have HF := Lib.hid fin; have HB := Lib.hid hB; clear hgr3 hown3 hown hg hR fin ha2 hbel2 ht hB; go_upto_region 3 with fail
  go_region
  all_goals
   go_wp2_with fail
   go_ret
   exact ⟨by rw [HB.out]; rfl, HF.out⟩
set_option maxRecDepth 100000 in
set_option maxHeartbeats 4000000 in
theorem all (g b n : Nat) (f : List (Ad × Value)) (w : World) (h : Spot w 142 g b n f) (hn : n ≤ 100000) :
 Calls Tryz.prog 100 #[.pointer (some ⟨g, 0, none⟩)] w fun e w' => ∃ v, e = .returned v ∧ OwnRows w' (w.heap.size + 1) 85 3 v f.length (ads (sortA (f.map (·.1)))) ∧ Below w.heap.size w w' ∧ w.heap.size + 1 ≤ w'.heap.size := by
 obtain ⟨hg, D, hown, hR⟩ := h
 have hnn := nonnil_eql
 have hc : w.cell? ⟨g, 0, none⟩ = some (.map (some b)) := by rw [zaf hg]; rfl
 have HR := Lib.hid hR
 have hbl := hown.lt
 have hszf := hown.size_le
 rw [hR.size] at hszf
 clear hR
 go_enter Tryz.func100, Tryz.ntmps100
 go_wp2_with (first | (at_range; refine wpList_range_own _ rfl _ 140 rfl 85 4 adKeyed Tryz.underlying140 anyElem b n D rfl hown ?_; intro w0 hrg0 hg0 hs0))
 go_frame
 have hb0 : Below w.heap.size w w0 := ⟨hg0.os, hg0.tape, hg0.output, hg0.size, fun k hk => hg0.block k hk (by simp)⟩
 clear hown hc hg hg0
 go_loopw [3] (fun l wr => ∃ (ks : List Ad) (cnt : Nat) (left : Lit → Bool), wr.ranges Tryz.prog 85 anyElem b w.heap.size n D left cnt ∧ OwnRows wr (w.heap.size + 1) 85 3 l ks.length (ads ks) ∧ Below w.heap.size w wr ∧ w.heap.size + 1 ≤ wr.heap.size ∧ KeysIn D left ks) (fun _ wr => wr.rangeLeft b w.heap.size)
 case atStart => exact ⟨[], _, _, hrg0, OwnRows.nil, hb0, by omega, KeysIn.start D⟩
 case round =>
  clear hrg0 hs0 hb0; obtain ⟨ks, cnt, left, hrg, hrow, hb, hsz, hk⟩ := hrel; go_wp2_with (first | (at_next; refine wpList_next_ranges (α := Ad) (β := Value) _ rfl _ rfl 85 adKeyed anyElem (fun a => .agg #[.int .i64 a.d, .int .i64 a.b, .int .i64 a.p]) id invA (fun v y h => ⟨v, rfl⟩) b w.heap.size n D left cnt rfl hrg ?_ ?_))
  · intro hc0 hl0
    obtain ⟨e1, e2⟩ := hk.done HR.out hl0; have HK := Lib.hid (And.intro e1 e2); have hrow' := sort_own _ _ ks _ hrow (by omega); have HS := Lib.hid hrow'; clear hrg hc0 hl0 hrow' e1 e2 hk; go_wp2_with fail
    refine HS.out.mono ?_; rintro e w2 ⟨rfl, hrow2, hgr⟩; have hb2 := hb.grown hgr hb.size (fun k hk => by have := hrow.block_ge k hk; omega); have hsz2 := Nat.le_trans hsz hgr.size; clear HS hb hgr hrow; go_wp2_with fail
    go_ret
    exact ⟨u3, rfl, by rw [← HK.out.1, ← HK.out.2]; exact hrow2, hb2, hsz2⟩
  · intro x c kl y yp w1 cnt1 hkx hlx hyc hat hrg1 hlt hg1 hs1 hen
    obtain ⟨hwx, rfl⟩ := keyA hkx; have hk1 := Lib.hid (hk.next hwx hlx hat); have hlen := hk.len HR.out; have HW := Lib.hid hlen; have hrow1 := hrow.grown hg1 (fun k hk => hrow.ne5 (by cases hk; omega)); have hb1 := hb.grown hg1 hb.size (fun k hk => by cases hk; omega); have hm := Lib.hid (And.intro hrg.left_eq hlt); have hbw : b < w1.heap.size := hrg1.owns.lt; have hrw : w.heap.size < w1.heap.size := hrg1.lt; have hW : w.heap.size ≤ w.heap.size + 1 := by omega
    clear hrg hrow hb hk hkx hlx hyc hat hlt hg1 hs1; have hrow2 := (hrow1.alloc (.cells #[.int .i64 x.d, .int .i64 x.b, .int .i64 x.p] 85)).alloc (.cells #[.int .i64 x.d, .int .i64 x.b, .int .i64 x.p] 85); have hrg2 := (hrg1.alloc (.cells #[.int .i64 x.d, .int .i64 x.b, .int .i64 x.p] 85)).alloc (.cells #[.int .i64 x.d, .int .i64 x.b, .int .i64 x.p] 85); have hb2 := (hb1.alloc hb1.size (.cells #[.int .i64 x.d, .int .i64 x.b, .int .i64 x.p] 85)).alloc (by simp; omega) (.cells #[.int .i64 x.d, .int .i64 x.b, .int .i64 x.p] 85); have hrd : Rds ((w1.alloc (.cells #[.int .i64 x.d, .int .i64 x.b, .int .i64 x.p] 85)).alloc (.cells #[.int .i64 x.d, .int .i64 x.b, .int .i64 x.p] 85)) _ (some ⟨w1.heap.size + 1, 0, none⟩) 3 1 [x.v] := rds_one (row := x.v) (zak (w1.alloc (.cells #[.int .i64 x.d, .int .i64 x.b, .int .i64 x.p] 85)) (.cells #[.int .i64 x.d, .int .i64 x.b, .int .i64 x.p] 85) _ (by simp)); have hs2 : w1.heap.size ≤ ((w1.alloc (.cells #[.int .i64 x.d, .int .i64 x.b, .int .i64 x.p] 85)).alloc (.cells #[.int .i64 x.d, .int .i64 x.b, .int .i64 x.p] 85)).heap.size := by simp; omega
    clear hrow1 hrg1 hb1; go_wp2_with (at_builtin; refine za9 rfl (.tmp 16) (.tmp 18) 124 rfl 85 _ 3 24 Tryz.underlying124 aInfo3 rfl (by decide) hrow2 hb2 rfl rfl hrd (fun r hr => by rw [List.mem_singleton.1 hr]; exact one_ad x) (by unfold maxLen; omega) (by omega) (by omega) hW ?_; intro v6 w6 hown6 hb6 hgr6 hat6; have hrg6 := hrg2.kept hgr6 (by intro e; exact hrow2.ne5 (by omega) e.symm) (by intro e; exact hrow2.ne5 (by omega) e.symm); have hsz6 := hgr6.size; clear hgr6 hrow2 hb2 hrg2 hrd)
    rw [show ads ks ++ [x.v] = ads (ks ++ [x]) by simp [ads], show ks.length + 1 = (ks ++ [x]).length by simp] at hown6; go_roundw
    case rel => exact ⟨ks ++ [x], cnt1, _, hrg6, hown6, hb6, by omega, hk1.out⟩
    case measure =>
     rw [hrg6.left_eq]; have := hm.out; omega
set_option maxRecDepth 100000 in
theorem pred (x : Ad) (g1 g2 : Nat) (d b : Int) (w : World) (h1 : w.cell? ⟨g1, 0, none⟩ = some (.int .i64 d)) (h2 : w.cell? ⟨g2, 0, none⟩ = some (.int .i64 b)) :
 Calls Tryz.prog 101 #[.agg x.v.toArray, .pointer (some ⟨g1, 0, none⟩), .pointer (some ⟨g2, 0, none⟩)] w fun e w' => e = .returned (.bool (offB d b x)) ∧ Below w.heap.size w w' := by
 have hx := heap_alloc_new w (.cells x.v.toArray 85)
 have hbel := (Below.refl _ w).alloc (Nat.le_refl _) (.cells x.v.toArray 85)
 have k1 := cell_alloc h1 (.cells x.v.toArray 85)
 have k2 := cell_alloc h2 (.cells x.v.toArray 85)
 clear h1 h2
 go_enter Tryz.func101, Tryz.ntmps101
 go_upto_region 1 with fail
 generalize w.alloc (.cells x.v.toArray 85) = w1 at *
 obtain ⟨c0, c1, c2⟩ := ad_at hx
 have HO : Hid (offB d b x = (x.d != d || x.b != b)) := Lib.hid rfl
 by_cases e1 : x.d = d
 · have t1 : (x.d != d) = false := by simpa using e1
   rw [t1, Bool.false_or] at HO; clear e1 hx; go_wp2_with fail
   go_ret
   exact ⟨by rw [HO.out]; rfl, hbel⟩
 · have t1 : (x.d != d) = true := by simpa using e1
   rw [t1, Bool.true_or] at HO; clear e1 hx; go_wp2_with fail
   go_ret
   exact ⟨by rw [HO.out]; rfl, hbel⟩
set_option maxRecDepth 100000 in
set_option maxHeartbeats 4000000 in
theorem idx (A : Option Addr) (n c B : Nat) (l : List Ad) (g1 g2 : Nat) (d b : Int) (w : World) (hr : Rds w B A 3 n (ads l)) (hB : B ≤ w.heap.size) (h1 : w.cell? ⟨g1, 0, none⟩ = some (.int .i64 d)) (h2 : w.cell? ⟨g2, 0, none⟩ = some (.int .i64 b)) (hn : n ≤ 1000000) :
 Calls Tryz.prog 123 #[.slice A n c, (.func (.func 101) #[] #[.pointer (some ⟨g1, 0, none⟩), .pointer (some ⟨g2, 0, none⟩)])] w fun e w' => e = .returned (.int .i64 (idxI (offB d b) l)) ∧ Below w.heap.size w w' := by
 have hl : l.length = n := by have := hr.1; simpa [ads] using this
 have HR := Lib.hid hr
 have HL := Lib.hid hl
 have q1 := World.block_lt_of_cell? w _ h1
 have q2 := World.block_lt_of_cell? w _ h2
 have H1 := Lib.hid h1
 have H2 := Lib.hid h2
 have HB := Lib.hid hB
 clear hr hl h1 h2 hB
 go_enter Tryz.func123, Tryz.ntmps123
 go_wp2_with fail
 go_loopw [8] (fun i wr => ∃ k : Nat, k ≤ n ∧ i = .int .i64 k ∧ Below w.heap.size w wr ∧ ∀ (j : Nat) (x : Ad), l[j]? = some x → j < k → offB d b x = false) (fun i _ => n - (intOf i).toNat)
 case atStart => exact ⟨0, by omega, rfl, Below.refl _ _, fun _ _ _ h => by omega⟩
 case round =>
  obtain ⟨k, hk, rfl, hb, hall⟩ := hrel; have HA := Lib.hid hall; clear hall; by_cases hlt : k < n
  · have hkl : k < l.length := by rw [HL.out]; exact hlt
    have hr' := HR.out.below hb HB.out; obtain ⟨bb, oo, rfl, hbb, hRr⟩ := za8 hr' hlt (r := l[k].v) (by rw [ads, List.getElem?_map, List.getElem?_eq_getElem hkl]; rfl); have CP := Lib.hid (pred l[k] g1 g2 d b wr ((hb.cell q1).trans H1.out) ((hb.cell q2).trans H2.out)); have hlt2 : (k : Int) < (n : Int) := by omega
    have HK := Lib.hid (show l[k]? = some l[k] from List.getElem?_eq_getElem hkl); clear hr'; generalize l[k] = x at *; go_wp2_with (first | (refine wpList_load_mid rfl 85 (.tmp 14) rfl bb (oo + k * 3) rfl x.v _ hRr Tryz.underlying85 rfl zbx ?_))
    refine CP.out.mono ?_; rintro e w2 ⟨rfl, hb2⟩; have hb3 := hb.trans (hb2.mono hb.size); clear hb hb2 CP hRr; cases hp : offB d b x with
    | true =>
     have HI := Lib.hid (show idxI (offB d b) l = (k : Int) by
      unfold idxI; obtain ⟨hk', e⟩ := List.getElem?_eq_some_iff.1 HK.out; rw [idx_hit hk' HA.out (by rw [e]; exact hp)])
     clear hp; go_wp2_with fail
     go_ret
     exact ⟨by rw [HI.out]; rfl, hb3⟩
    | false =>
     have HP := Lib.hid hp; clear hp; go_wp2_with fail
     go_roundw
     case rel => exact ⟨k + 1, by omega, by go_num, hb3, fun j y hy hj => by
      by_cases e : j = k
      · subst e; rw [HK.out] at hy; cases hy; exact HP.out
      · exact HA.out j y hy (by omega)⟩
     case measure => simp [intOf]; omega
  · obtain rfl : k = n := by omega
    have HI := Lib.hid (show idxI (offB d b) l = -1 by
     unfold idxI; rw [idx_none fun j x hx => HA.out j x hx (by rw [← HL.out]; exact (List.getElem?_eq_some_iff.1 hx).1)])
    go_wp2_with fail
    go_ret
    exact ⟨by rw [HI.out]; rfl, hb⟩
set_option maxRecDepth 100000 in
set_option maxHeartbeats 8000000 in
theorem del (base : Nat) (v : Value) (l : List Ad) (g1 g2 : Nat) (d b : Int) (w : World) (h : OwnRows w base 85 3 v l.length (ads l)) (hbase : base ≤ w.heap.size) (h1 : w.cell? ⟨g1, 0, none⟩ = some (.int .i64 d)) (h2 : w.cell? ⟨g2, 0, none⟩ = some (.int .i64 b)) (q1 : g1 < base) (q2 : g2 < base) (hn : l.length ≤ 1000000) :
 Calls Tryz.prog 99 #[v, (.func (.func 101) #[] #[.pointer (some ⟨g1, 0, none⟩), .pointer (some ⟨g2, 0, none⟩)])] w fun e w' => ∃ A c, e = .returned (.slice A (keepL d b l).length c) ∧ Rds w' w'.heap.size A 3 (keepL d b l).length (ads (keepL d b l)) ∧ Below base w w' := by
 have H1 := Lib.hid h1
 have H2 := Lib.hid h2
 have HLn := Lib.hid hn
 cases hi : l.findIdx? (offB d b) with
 | none =>
  have HK := Lib.hid (show keepL d b l = l by
   unfold keepL; rw [List.findIdx?_eq_none_iff] at hi; exact List.filter_eq_self.2 fun x hx => by simpa using hi x hx)
  have E : idxI (offB d b) l = -1 := by unfold idxI; rw [hi]
  obtain ⟨A, c, rfl, -, -⟩ := h.slice; have C := idx A l.length c w.heap.size l g1 g2 d b w h.rds (Nat.le_refl _) h1 h2 hn; rw [E] at C; have HC := Lib.hid C; have HO := Lib.hid h; clear hi E C h h1 h2; go_enter Tryz.func99, Tryz.ntmps99
  go_wp2_with fail
  refine HC.out.mono ?_; rintro e w1 ⟨rfl, hb⟩; go_wp2_with fail
  go_ret
  refine ⟨A, c, by rw [HK.out]; rfl, by rw [HK.out]; exact (HO.out.below hb).rds, hb.mono hbase⟩
 | some i0 =>
  have hD := DelI.start hi; have E : idxI (offB d b) l = (i0 : Int) := by unfold idxI; rw [hi]
  have hi0 : i0 < l.length := by have := hD.le; omega
  obtain ⟨g, c, rfl, hgb, hgs, hnc, hcm⟩ := za7 h.1 (by omega); have C := idx (some ⟨g, 0, none⟩) l.length c w.heap.size l g1 g2 d b w h.rds (Nat.le_refl _) h1 h2 hn; rw [E] at C; have HC := Lib.hid C; have HO := Lib.hid h; unfold maxLen at hcm; obtain ⟨N, hN⟩ : ∃ N, l.length = N := ⟨_, rfl⟩; have HN := Lib.hid hN; have HD := Lib.hid hD; rw [hN] at HO HC hi0 hnc hn ⊢; clear hi E C h h1 h2 hD hN hgs; go_enter Tryz.func99, Tryz.ntmps99
  go_wp2_with fail
  refine HC.out.mono ?_; rintro e w1 ⟨rfl, hb⟩; have own1 := HO.out.below hb; have hb1 := hb.mono hbase; have hs1 := Nat.le_trans hbase hb.size; have ht : ((i0 : Int) == -1) = false := by simp
  clear hb; go_wp2_with fail
  go_loopw [5, 6, 7] (fun i j _ wr => ∃ (I J : Nat) (arr : List Ad), i = .int .i64 I ∧ j = .int .i64 J ∧ DelI d b l arr I J ∧ OwnRows wr base 85 3 (.slice (some ⟨g, 0, none⟩) N c) N (ads arr) ∧ Below base w wr ∧ base ≤ wr.heap.size) (fun _ j _ _ => N - (intOf j).toNat)
  case atStart => exact ⟨i0, i0 + 1, l, rfl, by go_num, HD.out, own1, hb1, hs1⟩
  case round =>
   clear own1 hb1 hs1; obtain ⟨I, J, arr, rfl, rfl, hD, own, hb, hs⟩ := hrel; have hIJ := hD.lt; have hJN := hD.le; rw [HN.out] at hJN; have HDI := Lib.hid hD; by_cases hlt : J < N
   · obtain ⟨x, hx⟩ : ∃ x, l[J]? = some x := ⟨_, List.getElem?_eq_getElem (by rw [HN.out]; exact hlt)⟩
     have hax := (hD.at_ (by rw [HN.out]; exact hlt)).trans hx; have HX := Lib.hid hx; obtain ⟨bb, oo, eA, hbb, hRr⟩ := za8 own.rds hlt (r := x.v) (by rw [ads, List.getElem?_map, hax]; rfl); cases eA
     rw [Nat.zero_add] at hRr; have hlt2 : (J : Int) < (N : Int) := by omega
     have hI2 : (I : Int) < (N : Int) := by omega
     clear hD hx hax; go_wp2_with (first | (refine wpList_load_mid rfl 85 (.tmp 24) rfl g (J * 3) rfl x.v _ hRr Tryz.underlying85 rfl zbx ?_) | (refine zai rfl 85 (.tmp 7) (.tmp 25) rfl wr.heap.size x.v rfl rfl 85 _ (zak wr _ _ rfl) zbx rfl (one_ad _) ?_; intro w5 hU5; have h75 := hU5.at_; have own5 := (own.alloc (.cells #[.int .i64 0, .int .i64 0, .int .i64 0] 85)).upd hU5 own.fresh5; have hb5 := hU5.below (hb.alloc hs _) hs; have hs5 : base ≤ w5.heap.size := (by rw [hU5.size]; simp; omega); clear hU5 hRr hb own) | (refine wpList_load_mid rfl 85 (.tmp 7) rfl wr.heap.size 0 rfl x.v _ (zal h75) Tryz.underlying85 rfl zbx ?_))
     refine (pred x g1 g2 d b w5 ((hb5.cell q1).trans H1.out) ((hb5.cell q2).trans H2.out)).mono ?_; rintro e w6 ⟨rfl, hbb6⟩; have own6 := own5.below hbb6; have h76 := zad h75 hbb6; have hb6 := hb5.trans (hbb6.mono hs5); have hs6 := Nat.le_trans hs5 hbb6.size; clear hbb6 own5 h75 hb5 hs5; cases hp : offB d b x with
     | true =>
      have HI := Lib.hid (HDI.out.off HX.out hp); clear hp; go_wp2_with fail
      go_roundw
      case rel => exact ⟨I, J + 1, arr, rfl, by go_num, HI.out, own6, hb6, hs6⟩
      case measure => simp [intOf]; omega
     | false =>
      have HI := Lib.hid (HDI.out.on HX.out hp); obtain ⟨cur, hg6, -, -, -, hcl, hct⟩ := own_parts own6; have hN1 : 0 + I * 3 = I * 3 := Nat.zero_add _; clear hp; go_wp2_with (first | (refine wpList_load_mid rfl 85 (.tmp 7) rfl wr.heap.size 0 rfl x.v _ (zal h76) Tryz.underlying85 rfl zbx ?_) | (refine wpList_put_mid rfl 85 (.tmp 33) (.tmp 32) rfl g (I * 3) x.v rfl rfl 85 cur hg6 zbx (by show I * 3 + 3 ≤ cur.length; omega) (one_ad _) ?_; intro w7 hU7; have own7 := own_set own6 hct hcl (show I < N by omega) x hU7; have hb7 := hU7.below hb6 hgb; have hs7 : base ≤ w7.heap.size := (by rw [hU7.size]; exact hs6); clear hU7))
      go_roundw
      case rel => exact ⟨I + 1, J + 1, arr.set I x, by go_num, by go_num, HI.out, own7, hb7, hs7⟩
      case measure => simp [intOf]; omega
   · obtain rfl : J = N := by omega
     have hDn : DelI d b l arr I l.length := by rw [HN.out]; exact hD
     obtain ⟨f1, f2⟩ := hDn.done; obtain ⟨cur, hg6, -, -, -, hcl, hct⟩ := own_parts own; obtain ⟨w7, hrun, zs, hzl, hU⟩ := clear_run (n := J - I) (c := c - I) (o := I * 3) hg6 (by omega) (by rw [hcl]; omega); have hlr : arr.length = J := by have := own.2.1; simpa [ads] using this
     have hrd := Lib.hid (rds_front (k := I) (L := arr.take I) hU.at_ (by rw [List.length_take, hlr]; omega) (by
      have e1 : (splice cur (I * 3) zs).take (I * 3) = cur.take (I * 3) := by
       unfold splice; rw [List.take_append_of_le_length (by rw [List.length_take, hcl]; omega), List.take_take, Nat.min_self]
      have e2 : (ads (arr.take I)).flatten = (ads arr).flatten.take (I * 3) := by
       apply List.ext_getElem?
       intro q; have hl1 : (ads arr).flatten.length = J * 3 := by rw [zbp (zbf _)]; simp [ads, hlr]
       have hl2 : (ads (arr.take I)).flatten.length = I * 3 := by rw [zbp (zbf _)]; simp [ads, hlr]; omega
       by_cases hq : q < I * 3
       · have hq3 : q / 3 < I := by omega
         have hq4 : q / 3 < arr.length := by omega
         have hm : q % 3 < 3 := by omega
         have e5 : q / 3 * 3 + q % 3 = q := by omega
         have e3 := zbd (C := 3) (zbf (arr.take I)) (i := q / 3) (j := q % 3) (r := arr[q / 3].v) (by rw [ads, List.getElem?_map, List.getElem?_take_of_lt hq3, List.getElem?_eq_getElem hq4]; rfl) hm; have e4 := zbd (C := 3) (zbf arr) (i := q / 3) (j := q % 3) (r := arr[q / 3].v) (by rw [ads, List.getElem?_map, List.getElem?_eq_getElem hq4]; rfl) hm; rw [e5] at e3 e4; rw [List.getElem?_take_of_lt hq, e3, e4]
       · rw [List.getElem?_eq_none (by omega), List.getElem?_eq_none (by rw [List.length_take]; omega)]
      rw [e1, e2, ← hct, List.take_take]; congr 1
      omega))
     rw [f1] at hrd; have hb7 := hU.below hb hgb; have HF := Lib.hid f2; have hIc : ¬ c = I := by omega
     have hIJ2 : (I : Int) ≤ (J : Int) := by omega
     have hIJ3 : I ≤ J := by omega
     have hIc2 : I ≤ c := by omega
     clear hU hg6 hct hcl hD hDn f1 f2 hzl own hb; go_wp2_with fail
     go_ret
     exact ⟨some ⟨g, 0, none⟩, c, by rw [HF.out]; rfl, by rw [HF.out]; exact hrd.out, hb7⟩
set_option maxRecDepth 100000 in
set_option maxHeartbeats 4000000 in
theorem block (g m n : Nat) (f : List (Ad × Value)) (d b : Int) (w : World) (h : Spot w 142 g m n f) (hn : n ≤ 100000) :
 Calls Tryz.prog 78 #[.pointer (some ⟨g, 0, none⟩), .int .i64 d, .int .i64 b] w fun e w' => ∃ A c, e = .returned (.slice A (keepL d b (sortA (f.map (·.1)))).length c) ∧ Rds w' w'.heap.size A 3 (keepL d b (sortA (f.map (·.1)))).length (ads (keepL d b (sortA (f.map (·.1))))) ∧ Below w.heap.size w w' := by
 have hb2 := below2 w (.cells #[.int .i64 d] 3) (.cells #[.int .i64 b] 3)
 have h1 : ((w.alloc (.cells #[.int .i64 d] 3)).alloc (.cells #[.int .i64 b] 3)).cell? ⟨w.heap.size, 0, none⟩ = some (.int .i64 d) := by rw [zaf (zbi _ _ _)]; rfl
 have h2 : ((w.alloc (.cells #[.int .i64 d] 3)).alloc (.cells #[.int .i64 b] 3)).cell? ⟨w.heap.size + 1, 0, none⟩ = some (.int .i64 b) := by rw [zaf (zak (w.alloc _) _ _ (by simp))]; rfl
 have hS := h.below hb2
 have hsz : ((w.alloc (.cells #[.int .i64 d] 3)).alloc (.cells #[.int .i64 b] 3)).heap.size = w.heap.size + 2 := by simp
 have hlen : f.length ≤ n := by
  obtain ⟨-, D, ho, hR⟩ := h; have := ho.size_le; rwa [hR.size] at this
 have HSZ := Lib.hid hsz
 clear h hsz
 go_enter Tryz.func78, Tryz.ntmps78
 go_upto_region 1 with fail
 generalize (w.alloc (.cells #[.int .i64 d] 3)).alloc (.cells #[.int .i64 b] 3) = w1 at *
 have CA := Lib.hid (all g m n f w1 hS hn)
 clear hS
 go_wp2_with fail
 refine CA.out.mono ?_
 rintro e w2 ⟨v, rfl, hown, hb, hs2⟩
 have hls : (sortA (f.map (·.1))).length = f.length := by unfold sortA; rw [List.length_mergeSort, List.length_map]
 generalize hLQ : sortA (f.map (·.1)) = L at hls hown
 have HLQ := Lib.hid hLQ
 clear hLQ
 rw [← hls] at hown
 have q1 : w.heap.size < w1.heap.size := by have := HSZ.out; omega
 have q2 : w.heap.size + 1 < w1.heap.size := by have := HSZ.out; omega
 have HCD := Lib.hid (del (w1.heap.size + 1) v L w.heap.size (w.heap.size + 1) d b w2 hown hs2 ((hb.cell q1).trans h1) ((hb.cell q2).trans h2) (by omega) (by omega) (by omega))
 have hb3 := hb2.trans (hb.mono hb2.size)
 clear CA hown h1 h2
 go_wp2_with fail
 refine HCD.out.mono ?_
 rintro e w3 ⟨A, c, rfl, hrd, hbd⟩
 go_wp2_with fail
 go_ret
 rw [HLQ.out]
 exact ⟨A, c, rfl, hrd, hb3.trans (hbd.mono (by omega))⟩
end Go.Proofs.YtpbigfopmompfaaGreat.spotBool
namespace Go.Proofs.YtpbigfopmompfaaGreat.spotStr
open Go.RowKit
open Go.Maps (Keyed)
set_option linter.unusedVariables false
theorem ptr : Tryz.prog.underlying 206 = some (.pointer (Tryz.prog.pointee 206)) := by kernel_rfl
theorem nonnil_neq (x : Addr) (w : World) : (binOp .neq 206 (.pointer (some x)) (.pointer none)).run Tryz.prog w = .ok (.bool true) w := run_neq_pointer_nil w 206 (some x) ptr
theorem nonnil_eql (x : Addr) (w : World) : (binOp .eql 206 (.pointer (some x)) (.pointer none)).run Tryz.prog w = .ok (.bool false) w := run_eql_pointer_nil w 206 (some x) ptr
theorem nil_neq (w : World) : (binOp .neq 206 (.pointer none) (.pointer none)).run Tryz.prog w = .ok (.bool false) w := run_neq_pointer_nil w 206 none ptr
set_option maxRecDepth 100000 in
theorem new (w : World) : Calls Tryz.prog 150 #[] w fun e w' => e = .returned (.pointer (some ⟨w.heap.size + 1, 0, none⟩)) ∧ Spot w' 236 (w.heap.size + 1) w.heap.size 0 [] ∧ Below w.heap.size w w' := by
 have hmm := @run_makeMap Tryz.prog
 have hB : ∀ x : Nat, Tryz.prog.built 236 [(0, .map (some x))] = some #[.map (some x)] := fun x => by kernel_rfl
 go_enter Tryz.func150, Tryz.ntmps150
 go_wp2_with (refine zao rfl 236 _ rfl _ rfl _ (hB _) ?_)
 go_ret
 refine ⟨rfl, ⟨zak _ _ _ (by simp), .map [], ?_, Rel.nil⟩, below2 _ _ _⟩
 exact (World.ownsMap_made w _ _ _).alloc _
set_option maxRecDepth 100000 in
set_option maxHeartbeats 4000000 in
theorem set (g b n : Nat) (f : List (Ad × Value)) (a : Ad) (v : Value) (w : World) (h : Spot w 236 g b n f) (ha : a.wf) (hn : n ≤ 100000) (hv : v.oneCell' = true) :
 Calls Tryz.prog 151 #[.pointer (some ⟨g, 0, none⟩), .agg a.v.toArray, v] w fun e w' => e = .returned (.tuple #[]) ∧ Spot w' 236 g b (n + 1) (putF f a v) ∧ w.grownBy w' (some b) := by
 obtain ⟨hg, D, hown, hR⟩ := h
 have hk := zb7 ha
 have hnn := nonnil_neq
 have hown1 := hown.alloc (.cells a.v.toArray 85)
 have hg1 := zam hg (.cells a.v.toArray 85)
 have ha1 := heap_alloc_new w (.cells a.v.toArray 85)
 have hgr1 := World.grownBy_alloc w (.cells a.v.toArray 85) (some b)
 have hs1 : (w.alloc (.cells a.v.toArray 85)).heap.size = w.heap.size + 1 := by simp
 have hbl := hown.lt
 go_enter Tryz.func151, Tryz.ntmps151
 go_upto_region 2 with fail
 generalize w.alloc (.cells a.v.toArray 85) = w1 at *
 have hc : w1.cell? ⟨g, 0, none⟩ = some (.map (some b)) := by rw [zaf hg1]; rfl
 obtain ⟨c0, c1, c2⟩ := ad_at ha1
 have hk : keyOf Tryz.prog 85 (.agg #[.int .i64 a.d, .int .i64 a.b, .int .i64 a.p]) = some (klA a) := zb7 ha
 obtain ⟨w2, hrun, hown2, hgr2⟩ := hown1.drew.update (val := v) adKeyed Tryz.underlying234 (by unfold maxLen; omega) hk (show anyElem v = some (.held v, []) from rfl)
 have hgr2 := zb4 hgr2
 have hne := owns_ne hown1 hg1
 have fin : Spot w2 236 g b (n + 1) (putF f a v) ∧ w.grownBy w2 (some b) := ⟨⟨(hgr2.block g (zag hg1) (fun e => hne (Option.some.inj e))).trans hg1, _, hown2, hR.put ha v⟩, hgr1.andThen hgr2 (fun j hj => .inr hj)⟩
 have HF := Lib.hid fin
 clear hgr1 hgr2 hown1 hown2 hg1 ha1 hR fin
 go_region
 all_goals
  go_end0
  exact ⟨rfl, HF.out⟩
theorem zero_run (w : World) : (zeroValue 9).run Tryz.prog w = .ok (.string ⟨#[]⟩) w := by kernel_rfl
set_option maxRecDepth 100000 in
set_option maxHeartbeats 4000000 in
theorem get (g b n : Nat) (f : List (Ad × Value)) (a : Ad) (w : World) (h : Spot w 236 g b n f) (ha : a.wf) :
 Calls Tryz.prog 152 #[.pointer (some ⟨g, 0, none⟩), .agg a.v.toArray] w fun e w' => e = .returned (.tuple #[lookF f a (.string ⟨#[]⟩), .bool (hasF f a)]) ∧ Below w.heap.size w w' := by
 obtain ⟨hg, D, hown, hR⟩ := h
 have hnn := nonnil_eql
 have hown1 := hown.alloc (.cells a.v.toArray 85)
 have hg1 := zam hg (.cells a.v.toArray 85)
 have ha1 := heap_alloc_new w (.cells a.v.toArray 85)
 have hbel := (Below.refl _ w).alloc (Nat.le_refl _) (.cells a.v.toArray 85)
 go_enter Tryz.func152, Tryz.ntmps152
 go_upto_region 4 with fail
 generalize w.alloc (.cells a.v.toArray 85) = w1 at *
 have hc : w1.cell? ⟨g, 0, none⟩ = some (.map (some b)) := by rw [zaf hg1]; rfl
 obtain ⟨c0, c1, c2⟩ := ad_at ha1
 have hrun := look_run hown1.drew hR ha Tryz.underlying234 (zero_run _)
 generalize hlv : lookF f a (.string ⟨#[]⟩) = lv at hrun
 generalize hlb : hasF f a = lb at hrun
 have HLV := Lib.hid hlv
 have HLB := Lib.hid hlb
 clear hlv hlb
 clear hown hown1 hg hg1 ha1
 go_region
 all_goals
  go_wp2_with fail
  go_ret2
  exact ⟨by rw [HLV.out, HLB.out]; rfl, hbel.drew⟩
set_option maxRecDepth 100000 in
theorem len (g b n : Nat) (f : List (Ad × Value)) (w : World) (h : Spot w 236 g b n f) :
 Calls Tryz.prog 155 #[.pointer (some ⟨g, 0, none⟩)] w fun e w' => e = .returned (.int .i64 (f.length : Int)) ∧ w = w' := by
 obtain ⟨hg, D, hown, hR⟩ := h
 have hnn := nonnil_eql
 have hc : w.cell? ⟨g, 0, none⟩ = some (.map (some b)) := by rw [zaf hg]; rfl
 have hl := fun ty => hown.len Tryz.underlying234 ty
 rw [hR.size] at hl
 clear hown hg
 go_enter Tryz.func155, Tryz.ntmps155
 go_wp2_with fail
 go_ret
 exact ⟨rfl, rfl⟩
set_option maxRecDepth 100000 in
set_option maxHeartbeats 4000000 in
theorem drop (g b n : Nat) (f : List (Ad × Value)) (a : Ad) (w : World) (h : Spot w 236 g b n f) (ha : a.wf) :
 Calls Tryz.prog 157 #[.pointer (some ⟨g, 0, none⟩), .agg a.v.toArray] w fun e w' => e = .returned (.bool (hasF f a)) ∧ Spot w' 236 g b n (delF f a) ∧ w.grownBy w' (some b) := by
 have h1 := h.below ((Below.refl _ w).alloc (Nat.le_refl _) (.cells a.v.toArray 85))
 have ha1 := heap_alloc_new w (.cells a.v.toArray 85)
 have hbel := (Below.refl _ w).alloc (Nat.le_refl _) (.cells a.v.toArray 85)
 clear h
 go_enter Tryz.func157, Tryz.ntmps157
 go_upto_region 1 with fail
 generalize w.alloc (.cells a.v.toArray 85) = w1 at *
 obtain ⟨c0, c1, c2⟩ := ad_at ha1
 go_wp2_with fail
 refine (get g b n f a w1 h1 ha).mono ?_
 rintro e w2 ⟨rfl, hb⟩
 have h2 := h1.below hb
 have ha2 := zad ha1 hb
 have hbel2 := hbel.trans (hb.mono hbel.size)
 clear c0 c1 c2 h1 ha1 hb hbel
 cases hB : hasF f a with
 | false =>
  have HF := Lib.hid (show delF f a = f by
   unfold delF; refine List.filter_eq_self.2 fun p hp => ?_; simp; intro e; unfold hasF at hB; simp at hB; exact hB p.2 (by rw [← e]; exact hp))
  have HB := Lib.hid hB; clear hB; go_wp2_with fail
  go_ret
  rw [HF.out]; exact ⟨by rw [HB.out]; rfl, h2, below_grown hbel2 _⟩
 | true =>
  obtain ⟨hg, D, hown, hR⟩ := h2; obtain ⟨c0, c1, c2⟩ := ad_at ha2; have hc : w2.cell? ⟨g, 0, none⟩ = some (.map (some b)) := by rw [zaf hg]; rfl
  have hk : keyOf Tryz.prog 85 (.agg #[.int .i64 a.d, .int .i64 a.b, .int .i64 a.p]) = some (klA a) := zb7 ha; obtain ⟨w3, hrun, hown3, ht⟩ := hown.drew.drop adKeyed Tryz.underlying234 hk 0; have hgr3 := zb4 (turned_grown ht); have hne := owns_ne hown hg; have fin : Spot w3 236 g b n (delF f a) ∧ w.grownBy w3 (some b) := ⟨⟨(hgr3.block g (zag hg) (fun e => hne (Option.some.inj e))).trans hg, _, hown3, hR.del ha⟩, (below_grown hbel2 (some b)).andThen hgr3 (fun j hj => .inr hj)⟩; have HF := Lib.hid fin; have HB := Lib.hid hB; clear hgr3 hown3 hown hg hR fin ha2 hbel2 ht hB; go_upto_region 3 with fail
  go_region
  all_goals
   go_wp2_with fail
   go_ret
   exact ⟨by rw [HB.out]; rfl, HF.out⟩
set_option maxRecDepth 100000 in
set_option maxHeartbeats 4000000 in
theorem all (g b n : Nat) (f : List (Ad × Value)) (w : World) (h : Spot w 236 g b n f) (hn : n ≤ 100000) :
 Calls Tryz.prog 153 #[.pointer (some ⟨g, 0, none⟩)] w fun e w' => ∃ v, e = .returned v ∧ OwnRows w' (w.heap.size + 1) 85 3 v f.length (ads (sortA (f.map (·.1)))) ∧ Below w.heap.size w w' ∧ w.heap.size + 1 ≤ w'.heap.size := by
 obtain ⟨hg, D, hown, hR⟩ := h
 have hnn := nonnil_eql
 have hc : w.cell? ⟨g, 0, none⟩ = some (.map (some b)) := by rw [zaf hg]; rfl
 have HR := Lib.hid hR
 have hbl := hown.lt
 have hszf := hown.size_le
 rw [hR.size] at hszf
 clear hR
 go_enter Tryz.func153, Tryz.ntmps153
 go_wp2_with (first | (at_range; refine wpList_range_own _ rfl _ 234 rfl 85 9 adKeyed Tryz.underlying234 anyElem b n D rfl hown ?_; intro w0 hrg0 hg0 hs0))
 go_frame
 have hb0 : Below w.heap.size w w0 := ⟨hg0.os, hg0.tape, hg0.output, hg0.size, fun k hk => hg0.block k hk (by simp)⟩
 clear hown hc hg hg0
 go_loopw [3] (fun l wr => ∃ (ks : List Ad) (cnt : Nat) (left : Lit → Bool), wr.ranges Tryz.prog 85 anyElem b w.heap.size n D left cnt ∧ OwnRows wr (w.heap.size + 1) 85 3 l ks.length (ads ks) ∧ Below w.heap.size w wr ∧ w.heap.size + 1 ≤ wr.heap.size ∧ KeysIn D left ks) (fun _ wr => wr.rangeLeft b w.heap.size)
 case atStart => exact ⟨[], _, _, hrg0, OwnRows.nil, hb0, by omega, KeysIn.start D⟩
 case round =>
  clear hrg0 hs0 hb0; obtain ⟨ks, cnt, left, hrg, hrow, hb, hsz, hk⟩ := hrel; go_wp2_with (first | (at_next; refine wpList_next_ranges (α := Ad) (β := Value) _ rfl _ rfl 85 adKeyed anyElem (fun a => .agg #[.int .i64 a.d, .int .i64 a.b, .int .i64 a.p]) id invA (fun v y h => ⟨v, rfl⟩) b w.heap.size n D left cnt rfl hrg ?_ ?_))
  · intro hc0 hl0
    obtain ⟨e1, e2⟩ := hk.done HR.out hl0; have HK := Lib.hid (And.intro e1 e2); have hrow' := sort_own _ _ ks _ hrow (by omega); have HS := Lib.hid hrow'; clear hrg hc0 hl0 hrow' e1 e2 hk; go_wp2_with fail
    refine HS.out.mono ?_; rintro e w2 ⟨rfl, hrow2, hgr⟩; have hb2 := hb.grown hgr hb.size (fun k hk => by have := hrow.block_ge k hk; omega); have hsz2 := Nat.le_trans hsz hgr.size; clear HS hb hgr hrow; go_wp2_with fail
    go_ret
    exact ⟨u3, rfl, by rw [← HK.out.1, ← HK.out.2]; exact hrow2, hb2, hsz2⟩
  · intro x c kl y yp w1 cnt1 hkx hlx hyc hat hrg1 hlt hg1 hs1 hen
    obtain ⟨hwx, rfl⟩ := keyA hkx; have hk1 := Lib.hid (hk.next hwx hlx hat); have hlen := hk.len HR.out; have HW := Lib.hid hlen; have hrow1 := hrow.grown hg1 (fun k hk => hrow.ne5 (by cases hk; omega)); have hb1 := hb.grown hg1 hb.size (fun k hk => by cases hk; omega); have hm := Lib.hid (And.intro hrg.left_eq hlt); have hbw : b < w1.heap.size := hrg1.owns.lt; have hrw : w.heap.size < w1.heap.size := hrg1.lt; have hW : w.heap.size ≤ w.heap.size + 1 := by omega
    clear hrg hrow hb hk hkx hlx hyc hat hlt hg1 hs1; have hrow2 := (hrow1.alloc (.cells #[.int .i64 x.d, .int .i64 x.b, .int .i64 x.p] 85)).alloc (.cells #[.int .i64 x.d, .int .i64 x.b, .int .i64 x.p] 85); have hrg2 := (hrg1.alloc (.cells #[.int .i64 x.d, .int .i64 x.b, .int .i64 x.p] 85)).alloc (.cells #[.int .i64 x.d, .int .i64 x.b, .int .i64 x.p] 85); have hb2 := (hb1.alloc hb1.size (.cells #[.int .i64 x.d, .int .i64 x.b, .int .i64 x.p] 85)).alloc (by simp; omega) (.cells #[.int .i64 x.d, .int .i64 x.b, .int .i64 x.p] 85); have hrd : Rds ((w1.alloc (.cells #[.int .i64 x.d, .int .i64 x.b, .int .i64 x.p] 85)).alloc (.cells #[.int .i64 x.d, .int .i64 x.b, .int .i64 x.p] 85)) _ (some ⟨w1.heap.size + 1, 0, none⟩) 3 1 [x.v] := rds_one (row := x.v) (zak (w1.alloc (.cells #[.int .i64 x.d, .int .i64 x.b, .int .i64 x.p] 85)) (.cells #[.int .i64 x.d, .int .i64 x.b, .int .i64 x.p] 85) _ (by simp)); have hs2 : w1.heap.size ≤ ((w1.alloc (.cells #[.int .i64 x.d, .int .i64 x.b, .int .i64 x.p] 85)).alloc (.cells #[.int .i64 x.d, .int .i64 x.b, .int .i64 x.p] 85)).heap.size := by simp; omega
    clear hrow1 hrg1 hb1; go_wp2_with (at_builtin; refine za9 rfl (.tmp 16) (.tmp 18) 124 rfl 85 _ 3 24 Tryz.underlying124 aInfo3 rfl (by decide) hrow2 hb2 rfl rfl hrd (fun r hr => by rw [List.mem_singleton.1 hr]; exact one_ad x) (by unfold maxLen; omega) (by omega) (by omega) hW ?_; intro v6 w6 hown6 hb6 hgr6 hat6; have hrg6 := hrg2.kept hgr6 (by intro e; exact hrow2.ne5 (by omega) e.symm) (by intro e; exact hrow2.ne5 (by omega) e.symm); have hsz6 := hgr6.size; clear hgr6 hrow2 hb2 hrg2 hrd)
    rw [show ads ks ++ [x.v] = ads (ks ++ [x]) by simp [ads], show ks.length + 1 = (ks ++ [x]).length by simp] at hown6; go_roundw
    case rel => exact ⟨ks ++ [x], cnt1, _, hrg6, hown6, hb6, by omega, hk1.out⟩
    case measure =>
     rw [hrg6.left_eq]; have := hm.out; omega
set_option maxRecDepth 100000 in
theorem pred (x : Ad) (g1 g2 : Nat) (d b : Int) (w : World) (h1 : w.cell? ⟨g1, 0, none⟩ = some (.int .i64 d)) (h2 : w.cell? ⟨g2, 0, none⟩ = some (.int .i64 b)) :
 Calls Tryz.prog 182 #[.agg x.v.toArray, .pointer (some ⟨g1, 0, none⟩), .pointer (some ⟨g2, 0, none⟩)] w fun e w' => e = .returned (.bool (offB d b x)) ∧ Below w.heap.size w w' := by
 have hx := heap_alloc_new w (.cells x.v.toArray 85)
 have hbel := (Below.refl _ w).alloc (Nat.le_refl _) (.cells x.v.toArray 85)
 have k1 := cell_alloc h1 (.cells x.v.toArray 85)
 have k2 := cell_alloc h2 (.cells x.v.toArray 85)
 clear h1 h2
 go_enter Tryz.func182, Tryz.ntmps182
 go_upto_region 1 with fail
 generalize w.alloc (.cells x.v.toArray 85) = w1 at *
 obtain ⟨c0, c1, c2⟩ := ad_at hx
 have HO : Hid (offB d b x = (x.d != d || x.b != b)) := Lib.hid rfl
 by_cases e1 : x.d = d
 · have t1 : (x.d != d) = false := by simpa using e1
   rw [t1, Bool.false_or] at HO; clear e1 hx; go_wp2_with fail
   go_ret
   exact ⟨by rw [HO.out]; rfl, hbel⟩
 · have t1 : (x.d != d) = true := by simpa using e1
   rw [t1, Bool.true_or] at HO; clear e1 hx; go_wp2_with fail
   go_ret
   exact ⟨by rw [HO.out]; rfl, hbel⟩
set_option maxRecDepth 100000 in
set_option maxHeartbeats 4000000 in
theorem idx (A : Option Addr) (n c B : Nat) (l : List Ad) (g1 g2 : Nat) (d b : Int) (w : World) (hr : Rds w B A 3 n (ads l)) (hB : B ≤ w.heap.size) (h1 : w.cell? ⟨g1, 0, none⟩ = some (.int .i64 d)) (h2 : w.cell? ⟨g2, 0, none⟩ = some (.int .i64 b)) (hn : n ≤ 1000000) :
 Calls Tryz.prog 123 #[.slice A n c, (.func (.func 182) #[] #[.pointer (some ⟨g1, 0, none⟩), .pointer (some ⟨g2, 0, none⟩)])] w fun e w' => e = .returned (.int .i64 (idxI (offB d b) l)) ∧ Below w.heap.size w w' := by
 have hl : l.length = n := by have := hr.1; simpa [ads] using this
 have HR := Lib.hid hr
 have HL := Lib.hid hl
 have q1 := World.block_lt_of_cell? w _ h1
 have q2 := World.block_lt_of_cell? w _ h2
 have H1 := Lib.hid h1
 have H2 := Lib.hid h2
 have HB := Lib.hid hB
 clear hr hl h1 h2 hB
 go_enter Tryz.func123, Tryz.ntmps123
 go_wp2_with fail
 go_loopw [8] (fun i wr => ∃ k : Nat, k ≤ n ∧ i = .int .i64 k ∧ Below w.heap.size w wr ∧ ∀ (j : Nat) (x : Ad), l[j]? = some x → j < k → offB d b x = false) (fun i _ => n - (intOf i).toNat)
 case atStart => exact ⟨0, by omega, rfl, Below.refl _ _, fun _ _ _ h => by omega⟩
 case round =>
  obtain ⟨k, hk, rfl, hb, hall⟩ := hrel; have HA := Lib.hid hall; clear hall; by_cases hlt : k < n
  · have hkl : k < l.length := by rw [HL.out]; exact hlt
    have hr' := HR.out.below hb HB.out; obtain ⟨bb, oo, rfl, hbb, hRr⟩ := za8 hr' hlt (r := l[k].v) (by rw [ads, List.getElem?_map, List.getElem?_eq_getElem hkl]; rfl); have CP := Lib.hid (pred l[k] g1 g2 d b wr ((hb.cell q1).trans H1.out) ((hb.cell q2).trans H2.out)); have hlt2 : (k : Int) < (n : Int) := by omega
    have HK := Lib.hid (show l[k]? = some l[k] from List.getElem?_eq_getElem hkl); clear hr'; generalize l[k] = x at *; go_wp2_with (first | (refine wpList_load_mid rfl 85 (.tmp 14) rfl bb (oo + k * 3) rfl x.v _ hRr Tryz.underlying85 rfl zbx ?_))
    refine CP.out.mono ?_; rintro e w2 ⟨rfl, hb2⟩; have hb3 := hb.trans (hb2.mono hb.size); clear hb hb2 CP hRr; cases hp : offB d b x with
    | true =>
     have HI := Lib.hid (show idxI (offB d b) l = (k : Int) by
      unfold idxI; obtain ⟨hk', e⟩ := List.getElem?_eq_some_iff.1 HK.out; rw [idx_hit hk' HA.out (by rw [e]; exact hp)])
     clear hp; go_wp2_with fail
     go_ret
     exact ⟨by rw [HI.out]; rfl, hb3⟩
    | false =>
     have HP := Lib.hid hp; clear hp; go_wp2_with fail
     go_roundw
     case rel => exact ⟨k + 1, by omega, by go_num, hb3, fun j y hy hj => by
      by_cases e : j = k
      · subst e; rw [HK.out] at hy; cases hy; exact HP.out
      · exact HA.out j y hy (by omega)⟩
     case measure => simp [intOf]; omega
  · obtain rfl : k = n := by omega
    have HI := Lib.hid (show idxI (offB d b) l = -1 by
     unfold idxI; rw [idx_none fun j x hx => HA.out j x hx (by rw [← HL.out]; exact (List.getElem?_eq_some_iff.1 hx).1)])
    go_wp2_with fail
    go_ret
    exact ⟨by rw [HI.out]; rfl, hb⟩
set_option maxRecDepth 100000 in
set_option maxHeartbeats 8000000 in
theorem del (base : Nat) (v : Value) (l : List Ad) (g1 g2 : Nat) (d b : Int) (w : World) (h : OwnRows w base 85 3 v l.length (ads l)) (hbase : base ≤ w.heap.size) (h1 : w.cell? ⟨g1, 0, none⟩ = some (.int .i64 d)) (h2 : w.cell? ⟨g2, 0, none⟩ = some (.int .i64 b)) (q1 : g1 < base) (q2 : g2 < base) (hn : l.length ≤ 1000000) :
 Calls Tryz.prog 99 #[v, (.func (.func 182) #[] #[.pointer (some ⟨g1, 0, none⟩), .pointer (some ⟨g2, 0, none⟩)])] w fun e w' => ∃ A c, e = .returned (.slice A (keepL d b l).length c) ∧ Rds w' w'.heap.size A 3 (keepL d b l).length (ads (keepL d b l)) ∧ Below base w w' := by
 have H1 := Lib.hid h1
 have H2 := Lib.hid h2
 have HLn := Lib.hid hn
 cases hi : l.findIdx? (offB d b) with
 | none =>
  have HK := Lib.hid (show keepL d b l = l by
   unfold keepL; rw [List.findIdx?_eq_none_iff] at hi; exact List.filter_eq_self.2 fun x hx => by simpa using hi x hx)
  have E : idxI (offB d b) l = -1 := by unfold idxI; rw [hi]
  obtain ⟨A, c, rfl, -, -⟩ := h.slice; have C := idx A l.length c w.heap.size l g1 g2 d b w h.rds (Nat.le_refl _) h1 h2 hn; rw [E] at C; have HC := Lib.hid C; have HO := Lib.hid h; clear hi E C h h1 h2; go_enter Tryz.func99, Tryz.ntmps99
  go_wp2_with fail
  refine HC.out.mono ?_; rintro e w1 ⟨rfl, hb⟩; go_wp2_with fail
  go_ret
  refine ⟨A, c, by rw [HK.out]; rfl, by rw [HK.out]; exact (HO.out.below hb).rds, hb.mono hbase⟩
 | some i0 =>
  have hD := DelI.start hi; have E : idxI (offB d b) l = (i0 : Int) := by unfold idxI; rw [hi]
  have hi0 : i0 < l.length := by have := hD.le; omega
  obtain ⟨g, c, rfl, hgb, hgs, hnc, hcm⟩ := za7 h.1 (by omega); have C := idx (some ⟨g, 0, none⟩) l.length c w.heap.size l g1 g2 d b w h.rds (Nat.le_refl _) h1 h2 hn; rw [E] at C; have HC := Lib.hid C; have HO := Lib.hid h; unfold maxLen at hcm; obtain ⟨N, hN⟩ : ∃ N, l.length = N := ⟨_, rfl⟩; have HN := Lib.hid hN; have HD := Lib.hid hD; rw [hN] at HO HC hi0 hnc hn ⊢; clear hi E C h h1 h2 hD hN hgs; go_enter Tryz.func99, Tryz.ntmps99
  go_wp2_with fail
  refine HC.out.mono ?_; rintro e w1 ⟨rfl, hb⟩; have own1 := HO.out.below hb; have hb1 := hb.mono hbase; have hs1 := Nat.le_trans hbase hb.size; have ht : ((i0 : Int) == -1) = false := by simp
  clear hb; go_wp2_with fail
  go_loopw [5, 6, 7] (fun i j _ wr => ∃ (I J : Nat) (arr : List Ad), i = .int .i64 I ∧ j = .int .i64 J ∧ DelI d b l arr I J ∧ OwnRows wr base 85 3 (.slice (some ⟨g, 0, none⟩) N c) N (ads arr) ∧ Below base w wr ∧ base ≤ wr.heap.size) (fun _ j _ _ => N - (intOf j).toNat)
  case atStart => exact ⟨i0, i0 + 1, l, rfl, by go_num, HD.out, own1, hb1, hs1⟩
  case round =>
   clear own1 hb1 hs1; obtain ⟨I, J, arr, rfl, rfl, hD, own, hb, hs⟩ := hrel; have hIJ := hD.lt; have hJN := hD.le; rw [HN.out] at hJN; have HDI := Lib.hid hD; by_cases hlt : J < N
   · obtain ⟨x, hx⟩ : ∃ x, l[J]? = some x := ⟨_, List.getElem?_eq_getElem (by rw [HN.out]; exact hlt)⟩
     have hax := (hD.at_ (by rw [HN.out]; exact hlt)).trans hx; have HX := Lib.hid hx; obtain ⟨bb, oo, eA, hbb, hRr⟩ := za8 own.rds hlt (r := x.v) (by rw [ads, List.getElem?_map, hax]; rfl); cases eA
     rw [Nat.zero_add] at hRr; have hlt2 : (J : Int) < (N : Int) := by omega
     have hI2 : (I : Int) < (N : Int) := by omega
     clear hD hx hax; go_wp2_with (first | (refine wpList_load_mid rfl 85 (.tmp 24) rfl g (J * 3) rfl x.v _ hRr Tryz.underlying85 rfl zbx ?_) | (refine zai rfl 85 (.tmp 7) (.tmp 25) rfl wr.heap.size x.v rfl rfl 85 _ (zak wr _ _ rfl) zbx rfl (one_ad _) ?_; intro w5 hU5; have h75 := hU5.at_; have own5 := (own.alloc (.cells #[.int .i64 0, .int .i64 0, .int .i64 0] 85)).upd hU5 own.fresh5; have hb5 := hU5.below (hb.alloc hs _) hs; have hs5 : base ≤ w5.heap.size := (by rw [hU5.size]; simp; omega); clear hU5 hRr hb own) | (refine wpList_load_mid rfl 85 (.tmp 7) rfl wr.heap.size 0 rfl x.v _ (zal h75) Tryz.underlying85 rfl zbx ?_))
     refine (pred x g1 g2 d b w5 ((hb5.cell q1).trans H1.out) ((hb5.cell q2).trans H2.out)).mono ?_; rintro e w6 ⟨rfl, hbb6⟩; have own6 := own5.below hbb6; have h76 := zad h75 hbb6; have hb6 := hb5.trans (hbb6.mono hs5); have hs6 := Nat.le_trans hs5 hbb6.size; clear hbb6 own5 h75 hb5 hs5; cases hp : offB d b x with
     | true =>
      have HI := Lib.hid (HDI.out.off HX.out hp); clear hp; go_wp2_with fail
      go_roundw
      case rel => exact ⟨I, J + 1, arr, rfl, by go_num, HI.out, own6, hb6, hs6⟩
      case measure => simp [intOf]; omega
     | false =>
      have HI := Lib.hid (HDI.out.on HX.out hp); obtain ⟨cur, hg6, -, -, -, hcl, hct⟩ := own_parts own6; have hN1 : 0 + I * 3 = I * 3 := Nat.zero_add _; clear hp; go_wp2_with (first | (refine wpList_load_mid rfl 85 (.tmp 7) rfl wr.heap.size 0 rfl x.v _ (zal h76) Tryz.underlying85 rfl zbx ?_) | (refine wpList_put_mid rfl 85 (.tmp 33) (.tmp 32) rfl g (I * 3) x.v rfl rfl 85 cur hg6 zbx (by show I * 3 + 3 ≤ cur.length; omega) (one_ad _) ?_; intro w7 hU7; have own7 := own_set own6 hct hcl (show I < N by omega) x hU7; have hb7 := hU7.below hb6 hgb; have hs7 : base ≤ w7.heap.size := (by rw [hU7.size]; exact hs6); clear hU7))
      go_roundw
      case rel => exact ⟨I + 1, J + 1, arr.set I x, by go_num, by go_num, HI.out, own7, hb7, hs7⟩
      case measure => simp [intOf]; omega
   · obtain rfl : J = N := by omega
     have hDn : DelI d b l arr I l.length := by rw [HN.out]; exact hD
     obtain ⟨f1, f2⟩ := hDn.done; obtain ⟨cur, hg6, -, -, -, hcl, hct⟩ := own_parts own; obtain ⟨w7, hrun, zs, hzl, hU⟩ := clear_run (n := J - I) (c := c - I) (o := I * 3) hg6 (by omega) (by rw [hcl]; omega); have hlr : arr.length = J := by have := own.2.1; simpa [ads] using this
     have hrd := Lib.hid (rds_front (k := I) (L := arr.take I) hU.at_ (by rw [List.length_take, hlr]; omega) (by
      have e1 : (splice cur (I * 3) zs).take (I * 3) = cur.take (I * 3) := by
       unfold splice; rw [List.take_append_of_le_length (by rw [List.length_take, hcl]; omega), List.take_take, Nat.min_self]
      have e2 : (ads (arr.take I)).flatten = (ads arr).flatten.take (I * 3) := by
       apply List.ext_getElem?
       intro q; have hl1 : (ads arr).flatten.length = J * 3 := by rw [zbp (zbf _)]; simp [ads, hlr]
       have hl2 : (ads (arr.take I)).flatten.length = I * 3 := by rw [zbp (zbf _)]; simp [ads, hlr]; omega
       by_cases hq : q < I * 3
       · have hq3 : q / 3 < I := by omega
         have hq4 : q / 3 < arr.length := by omega
         have hm : q % 3 < 3 := by omega
         have e5 : q / 3 * 3 + q % 3 = q := by omega
         have e3 := zbd (C := 3) (zbf (arr.take I)) (i := q / 3) (j := q % 3) (r := arr[q / 3].v) (by rw [ads, List.getElem?_map, List.getElem?_take_of_lt hq3, List.getElem?_eq_getElem hq4]; rfl) hm; have e4 := zbd (C := 3) (zbf arr) (i := q / 3) (j := q % 3) (r := arr[q / 3].v) (by rw [ads, List.getElem?_map, List.getElem?_eq_getElem hq4]; rfl) hm; rw [e5] at e3 e4; rw [List.getElem?_take_of_lt hq, e3, e4]
       · rw [List.getElem?_eq_none (by omega), List.getElem?_eq_none (by rw [List.length_take]; omega)]
      rw [e1, e2, ← hct, List.take_take]; congr 1
      omega))
     rw [f1] at hrd; have hb7 := hU.below hb hgb; have HF := Lib.hid f2; have hIc : ¬ c = I := by omega
     have hIJ2 : (I : Int) ≤ (J : Int) := by omega
     have hIJ3 : I ≤ J := by omega
     have hIc2 : I ≤ c := by omega
     clear hU hg6 hct hcl hD hDn f1 f2 hzl own hb; go_wp2_with fail
     go_ret
     exact ⟨some ⟨g, 0, none⟩, c, by rw [HF.out]; rfl, by rw [HF.out]; exact hrd.out, hb7⟩
set_option maxRecDepth 100000 in
set_option maxHeartbeats 4000000 in
theorem block (g m n : Nat) (f : List (Ad × Value)) (d b : Int) (w : World) (h : Spot w 236 g m n f) (hn : n ≤ 100000) :
 Calls Tryz.prog 156 #[.pointer (some ⟨g, 0, none⟩), .int .i64 d, .int .i64 b] w fun e w' => ∃ A c, e = .returned (.slice A (keepL d b (sortA (f.map (·.1)))).length c) ∧ Rds w' w'.heap.size A 3 (keepL d b (sortA (f.map (·.1)))).length (ads (keepL d b (sortA (f.map (·.1))))) ∧ Below w.heap.size w w' := by
 have hb2 := below2 w (.cells #[.int .i64 d] 3) (.cells #[.int .i64 b] 3)
 have h1 : ((w.alloc (.cells #[.int .i64 d] 3)).alloc (.cells #[.int .i64 b] 3)).cell? ⟨w.heap.size, 0, none⟩ = some (.int .i64 d) := by rw [zaf (zbi _ _ _)]; rfl
 have h2 : ((w.alloc (.cells #[.int .i64 d] 3)).alloc (.cells #[.int .i64 b] 3)).cell? ⟨w.heap.size + 1, 0, none⟩ = some (.int .i64 b) := by rw [zaf (zak (w.alloc _) _ _ (by simp))]; rfl
 have hS := h.below hb2
 have hsz : ((w.alloc (.cells #[.int .i64 d] 3)).alloc (.cells #[.int .i64 b] 3)).heap.size = w.heap.size + 2 := by simp
 have hlen : f.length ≤ n := by
  obtain ⟨-, D, ho, hR⟩ := h; have := ho.size_le; rwa [hR.size] at this
 have HSZ := Lib.hid hsz
 clear h hsz
 go_enter Tryz.func156, Tryz.ntmps156
 go_upto_region 1 with fail
 generalize (w.alloc (.cells #[.int .i64 d] 3)).alloc (.cells #[.int .i64 b] 3) = w1 at *
 have CA := Lib.hid (all g m n f w1 hS hn)
 clear hS
 go_wp2_with fail
 refine CA.out.mono ?_
 rintro e w2 ⟨v, rfl, hown, hb, hs2⟩
 have hls : (sortA (f.map (·.1))).length = f.length := by unfold sortA; rw [List.length_mergeSort, List.length_map]
 generalize hLQ : sortA (f.map (·.1)) = L at hls hown
 have HLQ := Lib.hid hLQ
 clear hLQ
 rw [← hls] at hown
 have q1 : w.heap.size < w1.heap.size := by have := HSZ.out; omega
 have q2 : w.heap.size + 1 < w1.heap.size := by have := HSZ.out; omega
 have HCD := Lib.hid (del (w1.heap.size + 1) v L w.heap.size (w.heap.size + 1) d b w2 hown hs2 ((hb.cell q1).trans h1) ((hb.cell q2).trans h2) (by omega) (by omega) (by omega))
 have hb3 := hb2.trans (hb.mono hb2.size)
 clear CA hown h1 h2
 go_wp2_with fail
 refine HCD.out.mono ?_
 rintro e w3 ⟨A, c, rfl, hrd, hbd⟩
 go_wp2_with fail
 go_ret
 rw [HLQ.out]
 exact ⟨A, c, rfl, hrd, hb3.trans (hbd.mono (by omega))⟩
end Go.Proofs.YtpbigfopmompfaaGreat.spotStr
