import Derived.Test.YtpbigfopmompfaaGreatSpotRel
import Derived.Test.YtpbigfopmompfaaGreatNandNew
import Derived.Test.YtpbigfopmompfaaGreatSherdMay
import Derived.Deep.DeepCutAuto
import Derived.Test.YtpbigfopmompfaaGreatLane
import Derived.Test.YtpbigfopmompfaaGreatBunC
import Derived.Test.YtpbigfopmompfaaGreatBunK
import Derived.Test.YtpbigfopmompfaaGreatBunM
import Derived.Deep.OwnRows
import Derived.Test.YtpbigfopmompfaaGreatOwnRows
import Derived.Test.YtpbigfopmompfaaGreatOrderAd
import Derived.Test.YtpbigfopmompfaaGreatBunN
/- What a claim's proof leans on: MapI, Tab, TabGet, TabPut, Tally, Tally2, Made, Tally3, Pick1, Pick2, Pick3, Pick4, Pick5, Pick6, PickLaw, MapOne, TabLaw. -/
namespace Go.Proofs.YtpbigfopmompfaaGreat
open Go.RowKit
open Go.Maps (Keyed)
set_option linter.unusedVariables false
def klI (a : Int) : Lit := .int .i64 a
def wfI (a : Int) : Prop := (Lit.int .i64 a).wf = true
theorem intKeyed : Keyed Tryz.prog 3 := Maps.int_keyed Tryz.underlying3
theorem keyOf_int {a : Int} (h : wfI a) : keyOf Tryz.prog 3 (.int .i64 a) = some (klI a) := Maps.keyOf_int_mk Tryz.underlying3 h
structure RelI (D : DataW Value) (f : List (Int × Value)) : Prop where
 tidy : Maps.Tidy D
 wf : ∀ p ∈ f, wfI p.1
 nodup : (f.map (·.1)).Nodup
 at_ : ∀ a v, (a, v) ∈ f → ∀ z, D.atKey (klI a) z = .held v
 has : ∀ a : Int, wfI a → (Maps.has D (klI a) = true ↔ a ∈ f.map (·.1))
 size : Maps.size D = f.length
theorem RelI.nil : RelI (.map []) [] := ⟨Maps.tidy_empty, by simp, by simp, by simp, fun a _ => by rw [Maps.has_eq]; simp, rfl⟩
theorem klI_lit (a : Int) : WideAt.IsKeyLit (klI a) := trivial
theorem klI_ne {a a' : Int} (hne : a ≠ a') : klI a ≠ klI a' := fun e => hne (by unfold klI at e; injection e)
def delI (f : List (Int × Value)) (a : Int) : List (Int × Value) := f.filter fun p => decide (p.1 ≠ a)
def putI (f : List (Int × Value)) (a : Int) (v : Value) : List (Int × Value) := (a, v) :: delI f a
def hasI (f : List (Int × Value)) (a : Int) : Bool := decide (a ∈ f.map (·.1))
def lookI (f : List (Int × Value)) (a : Int) (z : Value) : Value := ((f.find? fun p => decide (p.1 = a)).map (·.2)).getD z
theorem mem_delI {f : List (Int × Value)} {a : Int} {p : Int × Value} : p ∈ delI f a ↔ p ∈ f ∧ p.1 ≠ a := by simp [delI]
theorem delI_keys (f : List (Int × Value)) (a : Int) : (delI f a).map (·.1) = (f.map (·.1)).filter fun b => decide (b ≠ a) := by
 unfold delI
 rw [List.filter_map]; rfl
theorem len_filterI : ∀ {l : List Int} (a : Int), l.Nodup → (l.filter fun b => decide (b ≠ a)).length + (if a ∈ l then 1 else 0) = l.length
 | [], a, _ => by simp
 | b :: l, a, h => by
  have h2 := (List.nodup_cons.1 h); have ih := len_filterI a h2.2; by_cases e : b = a
  · subst e
    have : b ∉ l := h2.1; simp [this] at ih ⊢; exact ih
  · have e' : a ≠ b := fun h => e h.symm
    rw [List.filter_cons_of_pos (by simpa using e)]; simp only [List.length_cons, List.mem_cons, e', false_or]; omega
theorem RelI.len_del {D : DataW Value} {f : List (Int × Value)} (h : RelI D f) (a : Int) : (delI f a).length + (if a ∈ f.map (·.1) then 1 else 0) = f.length := by
 have := len_filterI a h.nodup
 rw [← delI_keys, List.length_map, List.length_map] at this
 exact this
theorem RelI.del {D : DataW Value} {f : List (Int × Value)} (h : RelI D f) {a : Int} (ha : wfI a) : RelI (D.del (klI a)) (delI f a) where
 tidy := h.tidy.del _
 wf p hp := h.wf p (mem_delI.1 hp).1
 nodup := by rw [delI_keys]; exact h.nodup.filter _
 at_ b v hb z := by
  obtain ⟨h1, h2⟩ := mem_delI.1 hb; rw [Maps.atKey_del_other (klI_ne h2)]; exact h.at_ b v h1 z
 has b hb := by
  rw [delI_keys]; by_cases e : b = a
  · subst e
    rw [Maps.has_del_same]; simp
  · rw [Maps.has_del_other (klI_ne e), h.has b hb]; simp [e]
 size := by
  have h1 := Maps.size_del h.tidy (k := klI a); have h2 := h.len_del a; rw [h.size] at h1; by_cases e : a ∈ f.map (·.1)
  · rw [if_pos ((h.has a ha).2 e)] at h1; rw [if_pos e] at h2; omega
  · rw [if_neg (fun h' => e ((h.has a ha).1 h'))] at h1; rw [if_neg e] at h2; omega
theorem RelI.put {D : DataW Value} {f : List (Int × Value)} (h : RelI D f) {a : Int} (ha : wfI a) (v : Value) : RelI (D.put (klI a) (.held v)) (putI f a v) where
 tidy := h.tidy.put (klI_lit a) _
 wf p hp := (List.mem_cons.1 hp).elim (fun e => by rw [e]; exact ha) (fun hp => h.wf p (mem_delI.1 hp).1)
 nodup := by
  show (a :: (delI f a).map (·.1)).Nodup
  rw [List.nodup_cons, delI_keys]; exact ⟨by simp, h.nodup.filter _⟩
 at_ b u hb z := by
  rcases List.mem_cons.1 hb with e | hb
  · simp at e
    obtain ⟨rfl, rfl⟩ := e; exact Maps.atKey_put_same h.tidy.isMap (klI_lit _) _ _
  · obtain ⟨h1, h2⟩ := mem_delI.1 hb
    rw [Maps.atKey_put_other (klI_ne h2)]; exact h.at_ b u h1 z
 has b hb := by
  show _ ↔ b ∈ a :: (delI f a).map (·.1)
  rw [delI_keys]; by_cases e : b = a
  · subst e
    rw [Maps.has_put_same h.tidy.isMap (klI_lit _)]; simp
  · rw [Maps.has_put_other (klI_ne e), h.has b hb]; simp [e]
 size := by
  rw [Maps.size_put h.tidy, h.size]; have h2 := h.len_del a; show _ = (delI f a).length + 1
  by_cases e : a ∈ f.map (·.1)
  · rw [if_pos ((h.has a ha).2 e)]; rw [if_pos e] at h2; omega
  · rw [if_neg (fun h' => e ((h.has a ha).1 h'))]; rw [if_neg e] at h2; omega
theorem RelI.hasB {D : DataW Value} {f : List (Int × Value)} (h : RelI D f) {a : Int} (ha : wfI a) : Maps.has D (klI a) = hasI f a := by
 unfold hasI
 rw [Bool.eq_iff_iff, h.has a ha]; simp
theorem find_pairI : ∀ {f : List (Int × Value)} {a : Int} {v : Value}, (f.map (·.1)).Nodup → (a, v) ∈ f → f.find? (fun p => decide (p.1 = a)) = some (a, v)
 | [], _, _, _, h => by simp at h
 | p :: f, a, v, hn, h => by
  rw [List.map_cons, List.nodup_cons] at hn; rcases List.mem_cons.1 h with e | h
  · rw [← e]; simp
  · have : p.1 ≠ a := fun e => hn.1 (by rw [e]; exact List.mem_map.2 ⟨(a, v), h, rfl⟩)
    rw [List.find?_cons_of_neg (by simpa using this)]; exact find_pairI hn.2 h
theorem lookI_none {f : List (Int × Value)} {a : Int} (h : hasI f a = false) (z : Value) : lookI f a z = z := by
 have : f.find? (fun p => decide (p.1 = a)) = none := by
  rw [List.find?_eq_none]; intro p hp; simp; intro e; unfold hasI at h; simp at h; exact h p.2 (by rw [← e]; exact hp)
 unfold lookI
 rw [this]; rfl
theorem lookI_put_same (f : List (Int × Value)) (a : Int) (v z : Value) : lookI (putI f a v) a z = v := by simp [lookI, putI]
theorem find_delI {f : List (Int × Value)} {a b : Int} (h : b ≠ a) : (delI f a).find? (fun p => decide (p.1 = b)) = f.find? (fun p => decide (p.1 = b)) := by
 unfold delI
 rw [List.find?_filter]
 congr 1
 funext p
 by_cases e : p.1 = b
 · simp [e, h]
 · simp [e]
theorem lookI_put_other {f : List (Int × Value)} {a b : Int} (h : b ≠ a) (v z : Value) : lookI (putI f a v) b z = lookI f b z := by
 unfold lookI putI
 rw [List.find?_cons_of_neg (by simpa using fun e => h e.symm), find_delI h]
theorem look_runI {w : World} {b n : Nat} {D : DataW Value} {f : List (Int × Value)} {t e : TypeId} (h : w.ownsMap Tryz.prog 3 anyElem b n D) (hR : RelI D f) {a : Int} (ha : wfI a) (ht : Tryz.prog.underlying t = some (.map 3 e)) {z : Value} (hz : (zeroValue e).run Tryz.prog w = .ok z w) (ok : Bool) :
 (Instr.lookup t (.map (some b)) (.int .i64 a) ok).run Tryz.prog w = .ok (if ok then .tuple #[lookI f a z, .bool (hasI f a)] else lookI f a z) w := by
 have hk := keyOf_int ha
 obtain ⟨es, clock, hb, F, hs, rfl⟩ := h
 rcases Maps.fit_look ok intKeyed ht hz hb F hk with ⟨hrun, -, hat⟩ | ⟨e0, y, -, -, hrun, hRv, hat, -⟩
 · have h0 := Maps.has_false_of_atKey hat
   have hn : ¬ a ∈ f.map (·.1) := fun h' => by rw [(hR.has a ha).2 h'] at h0; cases h0
   have e1 : hasI f a = false := by unfold hasI; simpa using hn
   rw [hrun, e1, lookI_none e1]
 · have h1 := Maps.has_true_of_atKey hat
   obtain ⟨p, hp, e⟩ := List.mem_map.1 ((hR.has a ha).1 h1); obtain ⟨a', v⟩ := p; simp only at e; subst e; have h2 := hR.at_ _ v hp (.held v); rw [hat] at h2; have h3 : y = (DataW.held e0.val, []) := (Option.some.inj (show some ((DataW.held e0.val : DataW Value), ([] : List MemPlace)) = some y from hRv)).symm; rw [h3] at h2; have h3 : e0.val = v := DataW.held.inj h2; have e1 : hasI f a' = true := by unfold hasI; simpa using ⟨v, hp⟩
   have e2 : lookI f a' z = v := by unfold lookI; rw [find_pairI hR.nodup hp]; rfl
   rw [hrun, e1, e2, h3]
end Go.Proofs.YtpbigfopmompfaaGreat
namespace Go.Proofs.YtpbigfopmompfaaGreat.tab
open Go.RowKit
open Go.Proofs.YtpbigfopmompfaaGreat.nand (kindO za3 zax)
set_option linter.unusedVariables false
structure At6 where
 (b r s m q o : Int)
def At6.v (a : At6) : List Value := [.int .i64 a.b, .int .i64 a.r, .int .i64 a.s, .int .i64 a.m, .int .i64 a.q, .int .i64 a.o]
def At6.zero : At6 := ⟨0, 0, 0, 0, 0, 0⟩
abbrev Ents := List (Int × At6)
def valsOf (f : Ents) : List (Int × Value) := f.map fun p => (p.1, .agg p.2.v.toArray)
def getE (f : Ents) (k : Int) : Option At6 := (f.find? fun p => decide (p.1 = k)).map (·.2)
def delE (f : Ents) (k : Int) : Ents := f.filter fun p => decide (p.1 ≠ k)
def putE (f : Ents) (k : Int) (a : At6) : Ents := (k, a) :: delE f k
def cntE (f : Ents) (b : Int) : Nat := (f.filter fun p => decide (p.2.b = b)).length
structure Tb where
 logical : Nat
 f : Ents
 next : Int
structure Tb.ok (T : Tb) : Prop where
 log : T.logical ≤ 65536
 keys : ∀ p ∈ T.f, 0 ≤ p.1 ∧ p.1 < (T.logical : Int)
 nodup : (T.f.map (·.1)).Nodup
 bwf : ∀ p ∈ T.f, wfI p.2.b
theorem valsOf_keys (f : Ents) : (valsOf f).map (·.1) = f.map (·.1) := by simp [valsOf]
theorem look_vals (f : Ents) (k : Int) (z : Value) : lookI (valsOf f) k z = (match getE f k with | some a => .agg a.v.toArray | none => z) := by
 unfold lookI getE valsOf
 rw [List.find?_map]
 simp only [Function.comp_def]
 cases f.find? (fun p => decide (p.1 = k)) <;> rfl
theorem has_vals (f : Ents) (k : Int) : hasI (valsOf f) k = (getE f k).isSome := by
 unfold hasI getE
 rw [valsOf_keys, Bool.eq_iff_iff]
 simp
theorem put_vals (f : Ents) (k : Int) (a : At6) : putI (valsOf f) k (.agg a.v.toArray) = valsOf (putE f k a) := by
 unfold putI putE delI delE valsOf
 rw [List.map_cons, List.filter_map]
 rfl
theorem get_mem {f : Ents} {k : Int} {a : At6} (h : getE f k = some a) : (k, a) ∈ f := by
 unfold getE at h
 obtain ⟨p, hp, rfl⟩ := Option.map_eq_some_iff.1 h
 have h1 := List.mem_of_find?_eq_some hp
 have h2 := List.find?_some hp
 simp at h2
 rw [← h2]; exact h1
theorem get_none {f : Ents} {k : Int} (h : getE f k = none) : ∀ a, (k, a) ∉ f := by
 intro a ha
 unfold getE at h
 rw [Option.map_eq_none_iff, List.find?_eq_none] at h
 have := h _ ha
 simp at this
theorem mem_delE {f : Ents} {k : Int} {p : Int × At6} : p ∈ delE f k ↔ p ∈ f ∧ p.1 ≠ k := by simp [delE]
theorem cnt_del_none {f : Ents} {k : Int} (h : getE f k = none) : delE f k = f := by
 unfold delE
 refine List.filter_eq_self.2 fun p hp => ?_
 simp
 intro e
 exact get_none h p.2 (by rw [← e]; exact hp)
theorem cnt_del_some : ∀ {f : Ents} {k : Int} {a : At6}, (f.map (·.1)).Nodup → getE f k = some a → ∀ b, cntE (delE f k) b + (if a.b = b then 1 else 0) = cntE f b
 | [], _, _, _, h, _ => by simp [getE] at h
 | p :: f, k, a, hn, h, b => by
  rw [List.map_cons, List.nodup_cons] at hn; by_cases e : p.1 = k
  · have h1 : p.2 = a := by
     unfold getE at h; rw [List.find?_cons_of_pos (by simpa using e)] at h; simpa using h
    have h2 : delE (p :: f) k = f := by
     unfold delE; rw [List.filter_cons_of_neg (by simpa using e)]; refine List.filter_eq_self.2 fun q hq => ?_; simp; intro e2; exact hn.1 (by rw [e, ← e2]; exact List.mem_map.2 ⟨q, hq, rfl⟩)
    rw [h2]; unfold cntE; rw [List.filter_cons, h1]; by_cases hb : a.b = b <;> simp [hb]
  · have h1 : getE f k = some a := by
     unfold getE at h ⊢; rwa [List.find?_cons_of_neg (by simpa using e)] at h
    have ih := cnt_del_some hn.2 h1 b; have h2 : delE (p :: f) k = p :: delE f k := by unfold delE; rw [List.filter_cons_of_pos (by simpa using e)]
    rw [h2]; unfold cntE at ih ⊢; rw [List.filter_cons, List.filter_cons]; by_cases hb : p.2.b = b
    · simp [hb] at ih ⊢; omega
    · simp [hb] at ih ⊢; omega
theorem cnt_put (f : Ents) (k : Int) (a : At6) (b : Int) : cntE (putE f k a) b = cntE (delE f k) b + (if a.b = b then 1 else 0) := by
 unfold cntE putE
 rw [List.filter_cons]
 by_cases hb : a.b = b <;> simp [hb]
def TabF (g mb cb k : Nat) : Prop := k = g ∨ k = mb ∨ k = cb
structure TabAt (w : World) (g mb cb n : Nat) (T : Tb) : Prop where
 ok : T.ok
 head : w.heap[g]? = some (.cells #[.int .i64 (T.logical : Int), .map (some mb), .map (some cb), .int .i64 T.next] 95 (0, 0))
 at_ : ∃ D, w.ownsMap Tryz.prog 3 anyElem mb n D ∧ RelI D (valsOf T.f)
 cnt : ∃ D c, w.ownsMap Tryz.prog 3 anyElem cb n D ∧ RelI D c ∧ ∀ b, lookI c b (.int .i64 0) = .int .i64 (cntE T.f b : Int)
 ne : mb ≠ cb
theorem mapI_same {w w' : World} {b n : Nat} {D : DataW Value} (h : w.ownsMap Tryz.prog 3 anyElem b n D) (hb : w'.heap[b]? = w.heap[b]?) : w'.ownsMap Tryz.prog 3 anyElem b n D := by
 obtain ⟨es, clock, h1, h2⟩ := h
 exact ⟨es, clock, hb.trans h1, h2⟩
theorem mapI_ne {w : World} {b n g : Nat} {D : DataW Value} {cs : Array Value} {t : TypeId} {fr : Nat × Nat} (h : w.ownsMap Tryz.prog 3 anyElem b n D) (hg : w.heap[g]? = some (.cells cs t fr)) : g ≠ b := by
 obtain ⟨es, clock, h1, -⟩ := h
 intro e
 rw [e, h1] at hg
 cases hg
section
variable {w w' : World} {g mb cb n : Nat} {T : Tb}
theorem TabAt.lt (h : TabAt w g mb cb n T) : g < w.heap.size ∧ mb < w.heap.size ∧ cb < w.heap.size := by
 obtain ⟨D, h1, -⟩ := h.at_
 obtain ⟨D2, c, h2, -⟩ := h.cnt
 exact ⟨zag h.head, h1.lt, h2.lt⟩
theorem TabAt.same (h : TabAt w g mb cb n T) (hb : ∀ k, TabF g mb cb k → w'.heap[k]? = w.heap[k]?) : TabAt w' g mb cb n T :=
 ⟨h.ok, (hb g (.inl rfl)).trans h.head, by obtain ⟨D, h1, h2⟩ := h.at_; exact ⟨D, mapI_same h1 (hb _ (.inr (.inl rfl))), h2⟩, by obtain ⟨D, c, h1, h2⟩ := h.cnt; exact ⟨D, c, mapI_same h1 (hb _ (.inr (.inr rfl))), h2⟩, h.ne⟩
theorem TabAt.below (h : TabAt w g mb cb n T) (hb : Below w.heap.size w w') : TabAt w' g mb cb n T := h.same fun k hk => hb.block k (by have := h.lt; rcases hk with rfl | rfl | rfl <;> omega)
theorem TabAt.keep {S : Nat → Prop} (h : TabAt w g mb cb n T) (hk : Keep S w w') (hn : ∀ k, TabF g mb cb k → ¬ S k) : TabAt w' g mb cb n T := h.same fun k hf => hk.block k (by have := h.lt; rcases hf with rfl | rfl | rfl <;> omega) (hn k hf)
theorem TabAt.drew (h : TabAt w g mb cb n T) : TabAt w.drew g mb cb n T := h.below (Below.refl _ w).drew
theorem TabAt.drewN (h : TabAt w g mb cb n T) (k : Nat) : TabAt (w.drewN k) g mb cb n T := h.below (zau (Below.refl _ w) k)
theorem TabAt.mono (h : TabAt w g mb cb n T) {n' : Nat} (hn : n ≤ n') : TabAt w g mb cb n' T :=
 ⟨h.ok, h.head, by obtain ⟨D, h1, h2⟩ := h.at_; exact ⟨D, h1.mono hn, h2⟩, by obtain ⟨D, c, h1, h2⟩ := h.cnt; exact ⟨D, c, h1.mono hn, h2⟩, h.ne⟩
theorem TabAt.c0 (h : TabAt w g mb cb n T) : w.cell? ⟨g, 0, none⟩ = some (.int .i64 (T.logical : Int)) := by rw [zaf h.head]; rfl
theorem TabAt.c1 (h : TabAt w g mb cb n T) : w.cell? ⟨g, 1, none⟩ = some (.map (some mb)) := by rw [zaf h.head]; rfl
theorem TabAt.c2 (h : TabAt w g mb cb n T) : w.cell? ⟨g, 2, none⟩ = some (.map (some cb)) := by rw [zaf h.head]; rfl
theorem TabAt.c3 (h : TabAt w g mb cb n T) : w.cell? ⟨g, 3, none⟩ = some (.int .i64 T.next) := by rw [zaf h.head]; rfl
end
theorem ptr : Tryz.prog.underlying 23 = some (.pointer (Tryz.prog.pointee 23)) := by kernel_rfl
theorem nonnil_eql (x : Addr) (w : World) : (binOp .eql 23 (.pointer (some x)) (.pointer none)).run Tryz.prog w = .ok (.bool false) w := run_eql_pointer_nil w 23 (some x) ptr
theorem zero_at (w : World) : (zeroValue 33).run Tryz.prog w = .ok (.agg At6.zero.v.toArray) w := by kernel_rfl
theorem zero_int (w : World) : (zeroValue 3).run Tryz.prog w = .ok (.int .i64 0) w := by kernel_rfl
def At6.of : Option At6 → At6
 | some a => a
 | none => .zero
section
variable {w : World} {g mb cb n : Nat} {T : Tb}
theorem TabAt.lookAt (h : TabAt w g mb cb n T) {k : Int} (hk : wfI k) : (Instr.lookup 92 (.map (some mb)) (.int .i64 k) true).run Tryz.prog w = .ok (.tuple #[.agg (At6.of (getE T.f k)).v.toArray, .bool (getE T.f k).isSome]) w := by
 obtain ⟨D, h1, h2⟩ := h.at_
 have := look_runI h1 h2 hk Tryz.underlying92 (zero_at w) true
 rw [this, look_vals, has_vals]
 cases getE T.f k <;> rfl
theorem TabAt.lookCnt (h : TabAt w g mb cb n T) {b : Int} (hb : wfI b) : (Instr.lookup 93 (.map (some cb)) (.int .i64 b) false).run Tryz.prog w = .ok (.int .i64 (cntE T.f b : Int)) w := by
 obtain ⟨D, c, h1, h2, h3⟩ := h.cnt
 have := look_runI h1 h2 hb Tryz.underlying93 (zero_int w) false
 rw [this, h3]; rfl
theorem zb8 (h : TabAt w g mb cb n T) (b : Int) (hb : wfI b) : Calls Tryz.prog 26 #[.pointer (some ⟨g, 0, none⟩), .int .i64 b] w fun e w' => e = .returned (.int .i64 (cntE T.f b : Int)) ∧ w = w' := by
 have hnn := nonnil_eql
 have c := h.c2
 have hl := h.lookCnt hb
 clear h
 go_enter Tryz.func26, Tryz.ntmps26
 go_wp2_with fail
 go_ret
 exact ⟨rfl, rfl⟩
theorem len_any (h : TabAt w g mb cb n T) : Calls Tryz.prog 24 #[.pointer (some ⟨g, 0, none⟩)] w fun e w' => e = .returned (.int .i64 (T.f.length : Int)) ∧ w = w' := by
 have hnn := nonnil_eql
 have c := h.c1
 obtain ⟨D, h1, h2⟩ := h.at_
 have hl := fun ty => h1.len Tryz.underlying92 ty
 rw [h2.size, show (valsOf T.f).length = T.f.length by simp [valsOf]] at hl
 clear h h1 h2
 go_enter Tryz.func24, Tryz.ntmps24
 go_wp2_with fail
 go_ret
 exact ⟨rfl, rfl⟩
theorem next_any (h : TabAt w g mb cb n T) : Calls Tryz.prog 18 #[.pointer (some ⟨g, 0, none⟩)] w fun e w' => e = .returned (.int .i64 T.next) ∧ w = w' := by
 have hnn := nonnil_eql
 have c := h.c3
 clear h
 go_enter Tryz.func18, Tryz.ntmps18
 go_wp2_with fail
 go_ret
 exact ⟨rfl, rfl⟩
end
end Go.Proofs.YtpbigfopmompfaaGreat.tab
namespace Go.Proofs.YtpbigfopmompfaaGreat.tab
open Go.RowKit
open Go.Proofs.YtpbigfopmompfaaGreat.nand (kindO za3 zax)
set_option linter.unusedVariables false
theorem atInfo : (Tryz.prog.info? 33).map (·.size) = some 6 := by kernel_rfl
theorem one_at (a : At6) : ∀ u ∈ a.v, u.oneCell' = true := by
 intro u hu
 simp [At6.v] at hu
 rcases hu with rfl | rfl | rfl | rfl | rfl | rfl <;> rfl
section
variable {w : World} {g mb cb n : Nat} {T : Tb}
set_option maxRecDepth 100000 in
theorem get_any (h : TabAt w g mb cb n T) (k : Int) (hk : wfI k) : Calls Tryz.prog 17 #[.pointer (some ⟨g, 0, none⟩), .int .i64 k] w fun e w' => e = .returned (.tuple #[.agg (At6.of (getE T.f k)).v.toArray, .bool (getE T.f k).isSome]) ∧ Below w.heap.size w w' := by
 have hnn := nonnil_eql
 have hb0 := zax w (.cells At6.zero.v.toArray 33)
 have h1 := h.below hb0
 have hl := h1.lookAt hk
 have c := h1.c1
 have hz := zak w (.cells At6.zero.v.toArray 33) _ rfl
 have hlt := h1.lt
 generalize At6.of (getE T.f k) = a at *
 generalize (getE T.f k).isSome = s at *
 have HB := Lib.hid hb0
 have HZ := Lib.hid hz
 clear h h1 hb0 hz
 go_enter Tryz.func17, Tryz.ntmps17
 go_upto_region 3 with fail
 change Code.wp _ _ _ _ (w.alloc (.cells At6.zero.v.toArray 33))
 generalize w.alloc (.cells At6.zero.v.toArray 33) = w1 at *
 obtain ⟨x4, hx4⟩ : ∃ x, x = w.heap.size := ⟨_, rfl⟩
 rw [← hx4] at HZ ⊢
 have HX := Lib.hid (show w.heap.size ≤ x4 by omega)
 have hne : x4 ≠ w1.heap.size := Nat.ne_of_lt (zag HZ.out)
 clear hx4
 go_wp2_with (first | (refine zai rfl 33 (.tmp 6) (.tmp 18) rfl w1.heap.size a.v rfl rfl 33 _ (zak w1 _ _ rfl) atInfo rfl (one_at a) ?_; intro w5 hU5; have h5 := hU5.at_; have h45 := hU5.old (zam HZ.out _) hne; have hb5 := hU5.below (HB.out.alloc HB.out.size _) HB.out.size; have h5r := zal h5; clear hU5 hl c) | (refine wpList_load_mid rfl 33 (.tmp 6) rfl w1.heap.size 0 rfl a.v _ h5r Tryz.underlying33 rfl atInfo ?_) | (refine zai rfl 33 (.tmp 4) (.tmp 20) rfl x4 a.v rfl rfl 33 _ h45 atInfo rfl (one_at a) ?_; intro w6 hU6; have h6 := hU6.at_; have hb6 := hU6.below hb5 HX.out; clear hU6))
 refine bodyPost_ret (v := .tuple #[.agg a.v.toArray, .bool s]) ?_ rfl ⟨rfl, hb6⟩
 rw [zav rfl _ _ _ _ _ _ _ rfl h6 Tryz.underlying33 rfl atInfo]
 rfl
def inTo (f : Ents) (b : Int) (k : Nat) : List Nat := (List.range k).filter fun j => (getE f (j : Int)).any fun a => decide (a.b = b)
theorem inTo_succ (f : Ents) (b : Int) (k : Nat) : inTo f b (k + 1) = inTo f b k ++ (if (getE f (k : Int)).any (fun a => decide (a.b = b)) then [k] else []) := by
 unfold inTo
 rw [List.range_succ, List.filter_append]
 congr 1
 simp only [List.filter_cons, List.filter_nil]
theorem own_fresh {w : World} {B m C : Nat} {e : TypeId} {v : Value} {xs : List Value} (h : w.ownsRow B e C v m xs) : v.ownBlock ≠ some w.heap.size := by
 intro he
 obtain ⟨cur, hc, -⟩ := nand.za5 h he
 have := zag hc
 omega
theorem inTo_len (f : Ents) (b : Int) (k : Nat) : (inTo f b k).length ≤ k := by
 have := List.length_filter_le (fun j => (getE f ((j : Nat) : Int)).any fun a => decide (a.b = b)) (List.range k)
 simpa [inTo] using this
theorem inTo_zero {f : Ents} {b : Int} (h : cntE f b = 0) (k : Nat) : inTo f b k = [] := by
 unfold inTo
 rw [List.filter_eq_nil_iff]
 intro j _ hj
 cases hg : getE f (j : Int) with
 | none => rw [hg] at hj; simp at hj
 | some a =>
  rw [hg] at hj; have ha : a.b = b := by simpa using hj
  have hm := get_mem hg; unfold cntE at h; rw [List.length_eq_zero_iff, List.filter_eq_nil_iff] at h; exact h _ hm (by simpa using ha)
def Tb.inL (T : Tb) (b : Int) : List Nat := inTo T.f b T.logical
set_option maxRecDepth 100000 in
set_option maxHeartbeats 4000000 in
theorem in_any (h : TabAt w g mb cb n T) (b : Int) (hb : wfI b) : Calls Tryz.prog 25 #[.pointer (some ⟨g, 0, none⟩), .int .i64 b] w fun e w' => ∃ v, e = .returned v ∧ w'.ownsRow w.heap.size 3 1 v (T.inL b).length (nats .i64 (T.inL b)) ∧ Below w.heap.size w w' := by
 have HC := Lib.hid (zb8 h b hb)
 have h0 := h.c0
 have hlog := h.ok.log
 by_cases hc : cntE T.f b = 0
 · have HE := Lib.hid (show T.inL b = [] from inTo_zero hc _)
   rw [hc] at HC; clear h h0 hc; go_enter Tryz.func25, Tryz.ntmps25
   go_wp2_with fail
   refine HC.out.mono ?_; rintro e w1 ⟨rfl, rfl⟩; go_wp2_with fail
   go_ret
   exact ⟨_, rfl, by rw [HE.out]; exact World.ownsRow_nil _ _ _ _, Below.refl _ _⟩
 · have hcb : ((cntE T.f b : Int) == 0) = false := by simpa using hc
   obtain ⟨cn, hcn⟩ : ∃ cn, cn = cntE T.f b := ⟨_, rfl⟩; rw [← hcn] at HC hcb; have HT := Lib.hid h; obtain ⟨N, hN⟩ : ∃ N, N = T.logical := ⟨_, rfl⟩; have HIn := Lib.hid (show T.inL b = inTo T.f b N by rw [hN]; rfl); rw [← hN] at h0 hlog; clear h hc hcn hN; go_enter Tryz.func25, Tryz.ntmps25
   go_wp2_with fail
   refine HC.out.mono ?_; rintro e w1 ⟨rfl, rfl⟩; go_wp2_with fail
   go_loopw [5, 17] (fun v i wr => ∃ k : Nat, k ≤ N ∧ i = .int .i64 k ∧ wr.ownsRow w.heap.size 3 1 v (inTo T.f b k).length (nats .i64 (inTo T.f b k)) ∧ Below w.heap.size w wr) (fun _ i _ => N - (intOf i).toNat)
   case atStart => exact ⟨0, by omega, rfl, World.ownsRow_nil _ _ _ _, Below.refl _ _⟩
   case round =>
    obtain ⟨k, hk, rfl, hown, hbel⟩ := hrel; by_cases hlt : k < N
    · have hltI : (k : Int) < (N : Int) := by omega
      have h1 := HT.out.below hbel; have hkw : wfI (k : Int) := by unfold wfI; simp [Lit.wf, IntKind.min, IntKind.max, IntKind.bits, IntKind.signed]; omega
      have hl := h1.lookAt hkw; have c := h1.c1; have hs := inTo_succ T.f b k; have hln := inTo_len T.f b k; obtain ⟨m, hm⟩ : ∃ m, m = (inTo T.f b k).length := ⟨_, rfl⟩; rw [← hm] at hown hln; have HM := Lib.hid hm; have HO := Lib.hid hown; have HB := Lib.hid hbel; have hwr : w.heap.size ≤ wr.heap.size := hbel.size; have hbr := (hbel.alloc hbel.size (.cells At6.zero.v.toArray 33)); cases hg : getE T.f (k : Int) with
      | none =>
       rw [hg] at hl hs; have HS := Lib.hid hs; have hl : (Instr.lookup 92 (.map (some mb)) (.int .i64 (k : Int)) true).run Tryz.prog wr = .ok (.tuple #[.agg At6.zero.v.toArray, .bool false]) wr := hl; clear hs hg hm hown hbel h1; go_wp2_with (first | (refine zai rfl 33 (.tmp 7) (.tmp 27) rfl wr.heap.size At6.zero.v rfl rfl 33 _ (zak wr _ _ rfl) atInfo rfl (one_at _) ?_; intro w5 hU5; have hb5 := hU5.below hbr hwr; have ho5 := Lib.hid (hU5.own (HO.out.alloc _) (own_fresh HO.out)); clear hU5 hl c))
       go_roundw
       case rel => exact ⟨k + 1, by omega, by go_num, by rw [HS.out]; simp only [Option.any_none, Bool.false_eq_true, if_false, List.append_nil]; rw [← HM.out]; exact ho5.out, hb5⟩
       case measure => simp [intOf]; omega
      | some a =>
       rw [hg] at hl hs; have hl : (Instr.lookup 92 (.map (some mb)) (.int .i64 (k : Int)) true).run Tryz.prog wr = .ok (.tuple #[.agg a.v.toArray, .bool true]) wr := hl; by_cases hab : a.b = b
       · have HS := Lib.hid (show inTo T.f b (k + 1) = inTo T.f b k ++ [k] by rw [hs]; simp [hab])
         have hq : (a.b == b) = true := by simpa using hab
         clear hs hg hm hown hbel h1 hab; go_wp2_with (first | (refine zai rfl 33 (.tmp 7) (.tmp 27) rfl wr.heap.size a.v rfl rfl 33 _ (zak wr _ _ rfl) atInfo rfl (one_at _) ?_; intro w5 hU5; have hb5 := hU5.below hbr hwr; have hc5 : w5.cell? ⟨wr.heap.size, 0, none⟩ = some (.int .i64 a.b) := (by rw [zaf hU5.at_]; rfl); have ho5 := hU5.own (HO.out.alloc _) (own_fresh HO.out); have hs5 := hb5.size; clear hU5 hl c) | (at_builtin; go_must (refine zbm rfl (.tmp 37) (.tmp 39) 53 rfl 3 _ _ Tryz.underlying53 intInfo rfl ho5 hb5 rfl rfl rfl (by unfold maxLen; omega) (by omega) hs5 (Nat.le_refl _) ?_)))
         intro v8 w8 hown8 hb8 hgr8 _; have HO8 := Lib.hid (show w8.ownsRow w.heap.size 3 1 v8 (m + 1) (nats .i64 (inTo T.f b k ++ [k])) by have := hown8; rw [show nats .i64 (inTo T.f b k ++ [k]) = nats .i64 (inTo T.f b k) ++ [.int .i64 (k : Int)] by simp [nats]]; exact this); have HB8 := Lib.hid hb8; clear hown8 hb8 hgr8 hb5 ho5 hc5 hs5; go_wp2_with fail
         go_roundw
         case rel => exact ⟨k + 1, by omega, by go_num, by rw [HS.out, List.length_append, ← HM.out]; exact HO8.out, HB8.out⟩
         case measure => simp [intOf]; omega
       · have HS := Lib.hid (show inTo T.f b (k + 1) = inTo T.f b k by rw [hs]; simp [hab])
         have hq : (a.b == b) = false := by simpa using hab
         clear hs hg hm hown hbel h1 hab; go_wp2_with (first | (refine zai rfl 33 (.tmp 7) (.tmp 27) rfl wr.heap.size a.v rfl rfl 33 _ (zak wr _ _ rfl) atInfo rfl (one_at _) ?_; intro w5 hU5; have hb5 := hU5.below hbr hwr; have hc5 : w5.cell? ⟨wr.heap.size, 0, none⟩ = some (.int .i64 a.b) := (by rw [zaf hU5.at_]; rfl); have ho5 := Lib.hid (hU5.own (HO.out.alloc _) (own_fresh HO.out)); clear hU5 hl c))
         go_roundw
         case rel => exact ⟨k + 1, by omega, by go_num, by rw [HS.out, ← HM.out]; exact ho5.out, hb5⟩
         case measure => simp [intOf]; omega
    · obtain rfl : k = N := by omega
      have HO := Lib.hid hown; have HB := Lib.hid hbel; clear hown hbel; go_wp2_with fail
      go_ret
      exact ⟨_, rfl, by rw [HIn.out]; exact HO.out, HB.out⟩
end
end Go.Proofs.YtpbigfopmompfaaGreat.tab
namespace Go.Proofs.YtpbigfopmompfaaGreat.tab
open Go.RowKit
open Go.Maps (Keyed)
open Go.Proofs.YtpbigfopmompfaaGreat.nand (kindO za3 zax)
set_option linter.unusedVariables false
def roleB (r : Int) : Bool := r == 1 || r == 2 || r == 4
def Tb.putB (T : Tb) (l s r : Int) : Bool := decide (0 ≤ l ∧ l < (T.logical : Int)) && roleB r && !(getE T.f l).any (fun a => decide (s < a.q))
def nextS (x s : Int) : Int := if x ≤ s then wrap64 (s + 1) else x
def Tb.putT (T : Tb) (l s r : Int) (b row slot m : Int) : Tb := if T.putB l s r then { T with f := putE T.f l ⟨b, row, slot, m, s, r⟩, next := nextS T.next s } else T
set_option maxRecDepth 100000 in
theorem new_any (w : World) (N : Nat) (hN : N ≤ 65536) : Calls Tryz.prog 15 #[.int .i64 (N : Int)] w fun e w' => ∃ g mb cb, e = .returned (.pointer (some ⟨g, 0, none⟩)) ∧ TabAt w' g mb cb 0 ⟨N, [], 1⟩ ∧ w.heap.size ≤ g ∧ w.heap.size ≤ mb ∧ w.heap.size ≤ cb ∧ Below w.heap.size w w' := by
 have hmm := @run_makeMap Tryz.prog
 have hmin : min (N : Int) 65536 = (N : Int) := by omega
 have ok : Tb.ok ⟨N, [], 1⟩ := ⟨hN, by simp, by simp, by simp⟩
 have HOK := Lib.hid ok
 clear ok hN
 go_enter Tryz.func15, Tryz.ntmps15
 go_wp2_with fail
 go_ret
 refine ⟨w.heap.size + 2, w.heap.size, w.heap.size + 1, rfl, ⟨HOK.out, ?_, ?_, ?_, by omega⟩, by omega, by omega, by omega, ?_⟩
 · exact zak _ _ _ (by simp)
 · refine ⟨.map [], ?_, RelI.nil⟩
   exact ((World.ownsMap_made w _ _ _).alloc _).alloc _
 · refine ⟨.map [], [], ?_, RelI.nil, fun b => rfl⟩
   have := (World.ownsMap_made (w.alloc (.map #[] 0)) Tryz.prog 3 anyElem).alloc (.cells #[.int .i64 (N : Int), .map (some w.heap.size), .map (some (w.heap.size + 1)), .int .i64 1] 95); rw [show (w.alloc (.map #[] 0)).heap.size = w.heap.size + 1 by simp] at this; exact this
 · exact below3 w _ _ _
structure TabC (w : World) (g mb cb n N : Nat) (f : Ents) (nx : Int) (cf : Int → Int) : Prop where
 head : w.heap[g]? = some (.cells #[.int .i64 (N : Int), .map (some mb), .map (some cb), .int .i64 nx] 95 (0, 0))
 at_ : ∃ D, w.ownsMap Tryz.prog 3 anyElem mb n D ∧ RelI D (valsOf f)
 cnt : ∃ D c, w.ownsMap Tryz.prog 3 anyElem cb n D ∧ RelI D c ∧ ∀ b, lookI c b (.int .i64 0) = .int .i64 (cf b)
 ne : mb ≠ cb
section
variable {w w' : World} {g mb cb n N : Nat} {f : Ents} {nx : Int} {cf : Int → Int} {T : Tb}
theorem TabAt.toC (h : TabAt w g mb cb n T) : TabC w g mb cb n T.logical T.f T.next (fun b => (cntE T.f b : Int)) := ⟨h.head, h.at_, h.cnt, h.ne⟩
theorem TabC.lt (h : TabC w g mb cb n N f nx cf) : g < w.heap.size ∧ mb < w.heap.size ∧ cb < w.heap.size := by
 obtain ⟨D, h1, -⟩ := h.at_
 obtain ⟨D2, c, h2, -⟩ := h.cnt
 exact ⟨zag h.head, h1.lt, h2.lt⟩
theorem TabC.mono (h : TabC w g mb cb n N f nx cf) {n' : Nat} (hn : n ≤ n') : TabC w g mb cb n' N f nx cf :=
 ⟨h.head, by obtain ⟨D, h1, h2⟩ := h.at_; exact ⟨D, h1.mono hn, h2⟩, by obtain ⟨D, c, h1, h2, h3⟩ := h.cnt; exact ⟨D, c, h1.mono hn, h2, h3⟩, h.ne⟩
theorem TabAt.len_le (h : TabAt w g mb cb n T) : T.f.length ≤ n := by
 obtain ⟨D, h1, h2⟩ := h.at_
 have := h1.size_le
 rw [h2.size] at this
 simpa [valsOf] using this
theorem TabC.cf_eq (h : TabC w g mb cb n N f nx cf) {cf' : Int → Int} (hc : ∀ x, cf x = cf' x) : TabC w g mb cb n N f nx cf' := by rwa [← funext hc]
theorem TabC.below (h : TabC w g mb cb n N f nx cf) (hb : Below w.heap.size w w') : TabC w' g mb cb n N f nx cf := by
 have hl := h.lt
 refine ⟨zad h.head hb, ?_, ?_, h.ne⟩
 · obtain ⟨D, h1, h2⟩ := h.at_; exact ⟨D, mapI_same h1 (hb.block _ hl.2.1), h2⟩
 · obtain ⟨D, c, h1, h2⟩ := h.cnt; exact ⟨D, c, mapI_same h1 (hb.block _ hl.2.2), h2⟩
theorem TabC.drew (h : TabC w g mb cb n N f nx cf) : TabC w.drew g mb cb n N f nx cf := h.below (Below.refl _ w).drew
theorem TabC.drewN (h : TabC w g mb cb n N f nx cf) (k : Nat) : TabC (w.drewN k) g mb cb n N f nx cf := h.below (zau (Below.refl _ w) k)
theorem TabC.c1 (h : TabC w g mb cb n N f nx cf) : w.cell? ⟨g, 1, none⟩ = some (.map (some mb)) := by rw [zaf h.head]; rfl
theorem TabC.c2 (h : TabC w g mb cb n N f nx cf) : w.cell? ⟨g, 2, none⟩ = some (.map (some cb)) := by rw [zaf h.head]; rfl
theorem TabC.c3 (h : TabC w g mb cb n N f nx cf) : w.cell? ⟨g, 3, none⟩ = some (.int .i64 nx) := by rw [zaf h.head]; rfl
theorem TabC.lookC (h : TabC w g mb cb n N f nx cf) {b : Int} (hb : wfI b) : (Instr.lookup 93 (.map (some cb)) (.int .i64 b) false).run Tryz.prog w = .ok (.int .i64 (cf b)) w := by
 obtain ⟨D, c, h1, h2, h3⟩ := h.cnt
 have := look_runI h1 h2 hb Tryz.underlying93 (zero_int w) false
 rw [this, h3]; rfl
theorem TabC.bump (h : TabC w g mb cb n N f nx cf) {b : Int} (v : Int) (hb : wfI b) (hn : n ≤ 2000000000000000) : ∃ w3, (Instr.mapUpdate 93 (.map (some cb)) (.int .i64 b) (.int .i64 v)).run Tryz.prog w.drew = .ok () w3 ∧ TabC w3 g mb cb (n + 1) N f nx (fun x => if x = b then v else cf x) ∧ w.grownBy w3 (some cb) := by
 obtain ⟨D, c, h1, h2, h3⟩ := h.cnt
 obtain ⟨w3, hrun, hown, hgr⟩ := h1.drew.update (val := .int .i64 v) intKeyed Tryz.underlying93 (by unfold maxLen; omega) (keyOf_int hb) (show anyElem (.int .i64 v) = some (.held (.int .i64 v), []) from rfl)
 have hgr := zb4 hgr
 have hl := h.lt
 refine ⟨w3, hrun, ⟨zbw h.head hgr (fun e => mapI_ne h1 h.head (Option.some.inj e)), ?_, ⟨_, _, hown, h2.put hb _, fun x => ?_⟩, h.ne⟩, hgr⟩
 · obtain ⟨D1, q1, q2⟩ := h.at_
   exact ⟨D1, (mapI_same q1 (hgr.block _ hl.2.1 (fun e => h.ne (Option.some.inj e)))).mono (by omega), q2⟩
 · by_cases e : x = b
   · subst e; rw [lookI_put_same, if_pos rfl]
   · rw [lookI_put_other e, if_neg e, h3]
theorem TabC.place (h : TabC w g mb cb n N f nx cf) {l : Int} (a : At6) (hl : wfI l) (hn : n ≤ 2000000000000000) : ∃ w3, (Instr.mapUpdate 92 (.map (some mb)) (.int .i64 l) (.agg a.v.toArray)).run Tryz.prog w.drew = .ok () w3 ∧ TabC w3 g mb cb (n + 1) N (putE f l a) nx cf ∧ w.grownBy w3 (some mb) := by
 obtain ⟨D, h1, h2⟩ := h.at_
 obtain ⟨w3, hrun, hown, hgr⟩ := h1.drew.update (val := .agg a.v.toArray) intKeyed Tryz.underlying92 (by unfold maxLen; omega) (keyOf_int hl) (show anyElem (.agg a.v.toArray) = some (.held (.agg a.v.toArray), []) from rfl)
 have hgr := zb4 hgr
 have hlt := h.lt
 refine ⟨w3, hrun, ⟨zbw h.head hgr (fun e => mapI_ne h1 h.head (Option.some.inj e)), ⟨_, hown, ?_⟩, ?_, h.ne⟩, hgr⟩
 · have := h2.put hl (.agg a.v.toArray)
   rwa [put_vals] at this
 · obtain ⟨D1, c, q1, q2, q3⟩ := h.cnt
   exact ⟨D1, c, (mapI_same q1 (hgr.block _ hlt.2.2 (fun e => h.ne (Option.some.inj e).symm))).mono (by omega), q2, q3⟩
theorem TabC.next (h : TabC w g mb cb n N f nx cf) (v : Int) : TabC (w.setCell ⟨g, 3, none⟩ (.int .i64 v)) g mb cb n N f v cf ∧ Keep (TabF g mb cb) w (w.setCell ⟨g, 3, none⟩ (.int .i64 v)) := by
 have hU := zas (i := 3) (cs := [.int .i64 (N : Int), .map (some mb), .map (some cb), .int .i64 nx]) h.head (.int .i64 v)
 refine ⟨⟨hU.at_, ?_, ?_, h.ne⟩, hU.keep (.inl rfl)⟩
 · obtain ⟨D, q1, q2⟩ := h.at_
   exact ⟨D, mapI_same q1 (hU.block _ (mapI_ne q1 h.head).symm), q2⟩
 · obtain ⟨D, c, q1, q2⟩ := h.cnt
   exact ⟨D, c, mapI_same q1 (hU.block _ (mapI_ne q1 h.head).symm), q2⟩
theorem TabC.of (h : TabC w g mb cb n T.logical T.f T.next cf) (ok : T.ok) (hc : ∀ b, cf b = (cntE T.f b : Int)) : TabAt w g mb cb n T :=
 ⟨ok, h.head, h.at_, by obtain ⟨D, c, q1, q2, q3⟩ := h.cnt; exact ⟨D, c, q1, q2, fun b => by rw [q3, hc]⟩, h.ne⟩
end
theorem ok_put {T : Tb} (h : T.ok) {l s r b row slot m : Int} (hl : 0 ≤ l ∧ l < (T.logical : Int)) (hb : wfI b) (nx : Int) : Tb.ok { T with f := putE T.f l ⟨b, row, slot, m, s, r⟩, next := nx } := by
 refine ⟨h.log, fun p hp => ?_, ?_, fun p hp => ?_⟩
 · rcases List.mem_cons.1 hp with rfl | hp
   · exact hl
   · exact h.keys p (mem_delE.1 hp).1
 · show ((l, _) :: delE T.f l).map (·.1) |>.Nodup
   rw [List.map_cons, List.nodup_cons]; refine ⟨?_, ?_⟩
   · intro hm
     obtain ⟨p, hp, e⟩ := List.mem_map.1 hm; exact (mem_delE.1 hp).2 e
   · exact h.nodup.sublist (List.Sublist.map _ List.filter_sublist)
 · rcases List.mem_cons.1 hp with rfl | hp
   · exact hb
   · exact h.bwf p (mem_delE.1 hp).1
theorem cnt_le (f : Ents) (b : Int) : cntE f b ≤ f.length := List.length_filter_le _ _
section
variable {w : World} {g mb cb n : Nat} {T : Tb}
set_option maxRecDepth 100000 in
set_option maxHeartbeats 4000000 in
theorem put_any (h : TabAt w g mb cb n T) (l s r b row slot m : Int) (d : List Nat) (hd : d.length = 16) (hl : wfI l) (hs : wfI s) (hb : wfI b) (hn : n ≤ 1000000000000000) : Calls Tryz.prog 16 #[.pointer (some ⟨g, 0, none⟩), .agg (enV l s r d).toArray, .agg #[.int .i64 b, .int .i64 row, .int .i64 slot], .int .i64 m] w fun e w' => e = .returned (.bool (T.putB l s r)) ∧ TabAt w' g mb cb (n + 3) (T.putT l s r b row slot m) ∧ Keep (TabF g mb cb) w w' := by
 have hnn := nonnil_eql
 have hb0 := below2 w (.cells (enV l s r d).toArray 29) (.cells #[.int .i64 b, .int .i64 row, .int .i64 slot] 31)
 have he := zbi w (.cells (enV l s r d).toArray 29) (.cells #[.int .i64 b, .int .i64 row, .int .i64 slot] 31)
 have hp := zak (w.alloc (.cells (enV l s r d).toArray 29)) (.cells #[.int .i64 b, .int .i64 row, .int .i64 slot] 31) (w.heap.size + 1) (by simp)
 have h2 := h.below hb0
 have HB0 := Lib.hid hb0
 have HT := Lib.hid h2
 have HK0 := Lib.hid (Keep.of_new (S := TabF g mb cb) hb0)
 clear hb0
 go_enter Tryz.func16, Tryz.ntmps16
 go_upto_region 1 with fail
 change Code.wp _ _ _ _ ((w.alloc (.cells (enV l s r d).toArray 29)).alloc (.cells #[.int .i64 b, .int .i64 row, .int .i64 slot] 31))
 generalize (w.alloc (.cells (enV l s r d).toArray 29)).alloc (.cells #[.int .i64 b, .int .i64 row, .int .i64 slot] 31) = w2 at *
 have e0 : w2.cell? ⟨w.heap.size, 0, none⟩ = some (.int .i64 l) := by rw [zaf he]; rfl
 have e2 : w2.cell? ⟨w.heap.size, 2, none⟩ = some (.int .i64 r) := by rw [zaf he]; rfl
 have c0 := h2.c0
 have HE := Lib.hid he
 have HP := Lib.hid hp
 have HW := Lib.hid h
 obtain ⟨N, hN⟩ : ∃ N, N = T.logical := ⟨_, rfl⟩
 rw [← hN] at c0
 have HN := Lib.hid hN
 have no : T.putB l s r = false → ∀ k, (Ending.returned (.bool false) = .returned (.bool (T.putB l s r)) ∧ TabAt (w2.drewN k) g mb cb (n + 3) (T.putT l s r b row slot m) ∧ Keep (TabF g mb cb) w (w2.drewN k)) := by
  intro hf k; unfold Tb.putT; rw [hf]; exact ⟨rfl, (HT.out.drewN k).mono (by omega), HK0.out.drewN k⟩
 have NO := Lib.hid no
 clear no he hp h2 h hN
 by_cases a1 : l < 0
 · have hf := Lib.hid (show T.putB l s r = false by unfold Tb.putB; simp; omega)
   go_quiet (fail)
   go_wp2_with fail
   go_ret
   exact NO.out hf.out _
 · by_cases a2 : (N : Int) ≤ l
   · have hf := Lib.hid (show T.putB l s r = false by unfold Tb.putB; rw [← HN.out]; simp; omega)
     go_quiet (fail)
     go_wp2_with fail
     go_ret
     exact NO.out hf.out _
   · cases hr : roleB r with
     | false =>
      have hf := Lib.hid (show T.putB l s r = false by unfold Tb.putB; simp [hr]); unfold roleB at hr; simp only [Bool.or_eq_false_iff] at hr; obtain ⟨⟨r1, r2⟩, r3⟩ := hr; have q1 : (r != (1 : Int)) = true := by simpa using r1
      have q2 : (r != (2 : Int)) = true := by simpa using r2
      have q3 : (r != (4 : Int)) = true := by simpa using r3
      clear r1 r2 r3; go_quiet (fail)
      go_wp2_with fail
      go_ret
      exact NO.out hf.out _
     | true =>
      have HR := Lib.hid hr; go_cut [41] (fun v wx => v = .bool false ∧ ∃ k, wx = w2.drewN k)
      case first =>
       unfold roleB at hr; by_cases r1 : r = 1
       · have q1 : (r != (1 : Int)) = false := by simp [r1]
         clear r1 hr; go_quiet (fail)
         go_wp2_with fail
         go_meet
         exact ⟨rfl, _, rfl⟩
       · have q1 : (r != (1 : Int)) = true := by simpa using r1
         by_cases r2 : r = 2
         · have q2 : (r != (2 : Int)) = false := by simp [r2]
           clear r1 r2 hr; go_quiet (fail)
           go_wp2_with fail
           go_meet
           exact ⟨rfl, _, rfl⟩
         · have q2 : (r != (2 : Int)) = true := by simpa using r2
           have q3 : (r != (4 : Int)) = false := by simp [r1, r2] at hr; simp [hr]
           clear r1 r2 hr; go_quiet (fail)
           go_wp2_with fail
           go_meet
           exact ⟨rfl, _, rfl⟩
      case rest =>
       obtain ⟨rfl, k0, rfl⟩ := hcut; have HTk := Lib.hid (HT.out.drewN k0); have hek : (w2.drewN k0).heap[w.heap.size]? = some (.cells (enV l s r d).toArray 29 (0, 0)) := HE.out; have hpk : (w2.drewN k0).heap[w.heap.size + 1]? = some (.cells #[.int .i64 b, .int .i64 row, .int .i64 slot] 31 (0, 0)) := HP.out; have HKk := Lib.hid (HK0.out.drewN k0); generalize w2.drewN k0 = wa at *; have e0 : wa.cell? ⟨w.heap.size, 0, none⟩ = some (.int .i64 l) := by rw [zaf hek]; rfl
       have c1 := HTk.out.c1; have hl1 := HTk.out.drew.lookAt hl; have hl2 := (HTk.out.below (zax wa (.cells At6.zero.v.toArray 33))).drew.lookAt hl; have HEk := Lib.hid hek; have HPk := Lib.hid hpk; obtain ⟨a, ha⟩ : ∃ a, a = At6.of (getE T.f l) := ⟨_, rfl⟩; obtain ⟨s0, hs0⟩ : ∃ s0, s0 = (getE T.f l).isSome := ⟨_, rfl⟩; rw [← ha, ← hs0] at hl1 hl2; have HA := Lib.hid ha; have HS := Lib.hid hs0; clear ha hs0; replace hl1 : (Instr.lookup 92 (.map (some mb)) (.int .i64 l) true).run Tryz.prog wa.drew = .ok (.tuple #[.agg #[.int .i64 a.b, .int .i64 a.r, .int .i64 a.s, .int .i64 a.m, .int .i64 a.q, .int .i64 a.o], .bool s0]) wa.drew := hl1; replace hl2 : (Instr.lookup 92 (.map (some mb)) (.int .i64 l) true).run Tryz.prog (wa.alloc (.cells #[.int .i64 0, .int .i64 0, .int .i64 0, .int .i64 0, .int .i64 0, .int .i64 0] 33)).drew = .ok (.tuple #[.agg #[.int .i64 a.b, .int .i64 a.r, .int .i64 a.s, .int .i64 a.m, .int .i64 a.q, .int .i64 a.o], .bool s0]) (wa.alloc (.cells #[.int .i64 0, .int .i64 0, .int .i64 0, .int .i64 0, .int .i64 0, .int .i64 0] 33)).drew := hl2; have e0' : (wa.alloc (.cells #[.int .i64 0, .int .i64 0, .int .i64 0, .int .i64 0, .int .i64 0, .int .i64 0] 33)).cell? ⟨w.heap.size, 0, none⟩ = some (.int .i64 l) := by rw [zaf (zam hek _)]; rfl
       have c1' := (HTk.out.below (zax wa (.cells #[.int .i64 0, .int .i64 0, .int .i64 0, .int .i64 0, .int .i64 0, .int .i64 0] 33))).c1; clear hek hpk HT HE HP HK0 HB0 e2 c0; go_upto_region 3 with fail
       go_cut [9, 10] (fun p v wx => p = .pointer (some ⟨wa.heap.size, 0, none⟩) ∧ v = .bool s0 ∧ wx = (wa.alloc (.cells a.v.toArray 33)).drew)
       case first =>
        go_region
        all_goals go_wp2_with fail
        all_goals go_meet
        all_goals exact ⟨rfl, rfl, rfl⟩
       case rest =>
       obtain ⟨rfl, rfl, rfl⟩ := hcut; clear hl1 hl2 e0' c1'; go_upto_region 4 with fail
       have hla := HTk.out.lt; have hwa := HKk.out.size; obtain ⟨xA, hxA⟩ : ∃ x, x = wa.heap.size := ⟨_, rfl⟩; have hA := (show (wa.alloc (.cells a.v.toArray 33)).drew.heap[xA]? = some (.cells a.v.toArray 33 (0, 0)) from by rw [hxA]; exact zak wa _ _ rfl); have hBa := (zax wa (.cells a.v.toArray 33)).drew; have HTC := Lib.hid (HTk.out.below hBa); have hE := zad HEk.out hBa; have hP := zad HPk.out hBa; have HKc := Lib.hid (HKk.out.trans (Keep.of_new (S := TabF g mb cb) hBa) (fun _ h => h) (fun _ _ h => h)); rw [← hxA] at hBa; simp only [← hxA]; generalize (wa.alloc (.cells a.v.toArray 33)).drew = wc at *; clear hxA HTk HEk HPk HKk hBa hla hwa e0 c1; have e1 : wc.cell? ⟨w.heap.size, 1, none⟩ = some (.int .i64 s) := by rw [zaf hE]; rfl
       have a4 : wc.cell? ⟨xA, 4, none⟩ = some (.int .i64 a.q) := by rw [zaf hA]; rfl
       by_cases hbad : s0 = true ∧ s < a.q
       · obtain ⟨hs0, hlt⟩ := hbad
         have hf := Lib.hid (show T.putB l s r = false from by
          have h1 := HA.out; have h2 := HS.out; unfold Tb.putB; cases hg : getE T.f l with
          | none => rw [hg, hs0] at h2; simp at h2
          | some a' => rw [hg] at h1; simp only [At6.of] at h1; subst h1; simp [hlt])
         have HTK := Lib.hid (show Keep (TabF g mb cb) w wc ∧ TabAt wc g mb cb n T from ⟨HKc.out, HTC.out⟩); subst hs0; clear hE hP hA HTC HKc; go_wp2_with fail
         go_ret
         unfold Tb.putT; rw [hf.out]; exact ⟨rfl, HTK.out.2.mono (by omega), HTK.out.1⟩
       · have HOK := Lib.hid (show T.putB l s r = true from by
          have h1 := HA.out; have h2 := HS.out; have h3 := HN.out; unfold Tb.putB; rw [HR.out, ← h3]; cases hg : getE T.f l with
          | none => simp; omega
          | some a' =>
           rw [hg] at h1 h2; simp only [At6.of, Option.isSome] at h1 h2; subst h1; simp [h2] at hbad ⊢; omega)
         go_cut [59] (fun v wx => v = .bool false ∧ wx = wc)
         case first =>
          cases s0 with
          | false =>
           go_wp2_with fail
           go_meet
           exact ⟨rfl, rfl⟩
          | true =>
           have hlt : ¬ s < a.q := by simpa using hbad
           go_wp2_with fail
           go_meet
           exact ⟨rfl, rfl⟩
         case rest =>
          obtain ⟨rfl, rfl⟩ := hcut; clear e1 a4 hbad; have HEH := Lib.hid hE; have HPH := Lib.hid hP; have HAH := Lib.hid hA; clear hE hP hA
          have hcl : ∀ b, cntE T.f b ≤ 1000000000000000 := fun b => by
           have h1 := cnt_le T.f b; have h2 := HTC.out.len_le; omega
          have hTC := HTC.out.toC; rw [← HN.out] at hTC
          have HAB := Lib.hid (show s0 = true → wfI a.b from fun e => by
           have h1 := HA.out; have h2 := HS.out; cases hg : getE T.f l with
           | none => rw [hg, e] at h2; simp at h2
           | some a' =>
            rw [hg] at h1; simp only [At6.of] at h1; subst h1; exact HTC.out.ok.bwf _ (get_mem hg))
          have HOk := Lib.hid HTC.out.ok; clear HTC; have hEd := HEH.out; have hPd := HPH.out; have hAd := HAH.out; have hKd := HKc.out; go_upto_if 60 with fail
          go_cut [] (fun wx => TabC wx g mb cb (n + 1) N T.f T.next (fun x => if s0 = true ∧ x = a.b then (cntE T.f x : Int) - 1 else (cntE T.f x : Int)) ∧ wx.heap[w.heap.size]? = some (.cells (enV l s r d).toArray 29 (0, 0)) ∧ wx.heap[w.heap.size + 1]? = some (.cells #[.int .i64 b, .int .i64 row, .int .i64 slot] 31 (0, 0)) ∧ Keep (TabF g mb cb) w wx)
          case first =>
           cases s0 with
           | false =>
            have HC := Lib.hid (And.intro hTC (And.intro hEd (And.intro hPd hKd))); clear hTC hEd hPd hAd hKd; go_wp2_with fail
            go_meet
            obtain ⟨q1, q2, q3, q4⟩ := HC.out; exact ⟨by have := q1.mono (show n ≤ n + 1 by omega); simpa using this, q2, q3, q4⟩
           | true =>
            have hab : wfI a.b := HAB.out rfl; have c2 := hTC.c2; have a0 : wc.cell? ⟨xA, 0, none⟩ = some (.int .i64 a.b) := by rw [zaf hAd]; rfl
            obtain ⟨q, hq⟩ : ∃ q, q = cntE T.f a.b := ⟨_, rfl⟩; have hlk : (Instr.lookup 93 (.map (some cb)) (.int .i64 a.b) false).run Tryz.prog wc.drew = .ok (.int .i64 (q : Int)) wc.drew := by rw [hq]; exact hTC.drew.lookC hab
            have hq2 : q ≤ 1000000000000000 := by rw [hq]; exact hcl _
            obtain ⟨w3, hrun, hT3, hgr⟩ := hTC.bump ((q : Int) - 1) hab (by omega); have HQ := Lib.hid hq; have HT3 := Lib.hid hT3; have HKQ := Lib.hid (And.intro hEd (And.intro hPd (And.intro hKd hgr)))
            have HCB := Lib.hid (show w.heap.size ≠ cb ∧ w.heap.size + 1 ≠ cb from by
             obtain ⟨D, c, q1, -⟩ := hTC.cnt; exact ⟨mapI_ne q1 hEd, mapI_ne q1 hPd⟩)
            clear hq hT3 hgr hEd hPd hAd hKd hTC hcl; go_upto_region 7 with fail
            go_region
            go_wp2_with fail
            go_meet
            obtain ⟨q1, q2, q3, q4⟩ := HKQ.out; refine ⟨?_, zbw q1 q4 (fun e => HCB.out.1 (Option.some.inj e)), zbw q2 q4 (fun e => HCB.out.2 (Option.some.inj e)), q3.trans (Keep.of_grown q4) (fun _ h => h) (fun i _ e => .inr (.inr (Option.some.inj e)))⟩; have := HT3.out; rw [HQ.out] at this; refine this.cf_eq fun x => ?_; by_cases e : x = a.b
            · simp [e]
            · simp [e]
          case rest =>
           obtain ⟨hT, hEd, hPd, hKd⟩ := hcut; clear HKc HEH HPH HAH; clear hAd; obtain ⟨q, hq⟩ : ∃ q, q = (if s0 = true ∧ b = a.b then (cntE T.f b : Int) - 1 else (cntE T.f b : Int)) := ⟨_, rfl⟩
           have hq2 : -1 ≤ q ∧ q ≤ 1000000000000000 := by
            have := hcl b; rw [hq]; split <;> omega
           obtain ⟨hq2, hq3⟩ := hq2; have c2 := hT.c2; have e0 : wc.cell? ⟨w.heap.size + 1, 0, none⟩ = some (.int .i64 b) := by rw [zaf hPd]; rfl
           have hlk : (Instr.lookup 93 (.map (some cb)) (.int .i64 b) false).run Tryz.prog wc.drew = .ok (.int .i64 q) wc.drew := by rw [hq]; exact hT.drew.lookC hb
           obtain ⟨w3, hrun, hT3, hgr⟩ := hT.bump (q + 1) hb (by omega); have HQ := Lib.hid hq; have HT3 := Lib.hid hT3; have HKQ := Lib.hid (And.intro hEd (And.intro hPd (And.intro hKd hgr)))
           have HCB := Lib.hid (show w.heap.size ≠ cb ∧ w.heap.size + 1 ≠ cb from by
            obtain ⟨D, c, q1, -⟩ := hT.cnt; exact ⟨mapI_ne q1 hEd, mapI_ne q1 hPd⟩)
           clear hq hT3 hgr hEd hPd hKd hT hcl; go_upto_region 8 with fail
           go_region
           go_upto_region 9 with fail
           obtain ⟨q1, q2, q3, q4⟩ := HKQ.out; have hE3 := zbw q1 q4 (fun e => HCB.out.1 (Option.some.inj e)); have hP3 := zbw q2 q4 (fun e => HCB.out.2 (Option.some.inj e)); have hK3 := q3.trans (Keep.of_grown q4) (fun _ h => h) (fun i _ e => .inr (.inr (Option.some.inj e))); have hT3 := HT3.out; clear HT3 HKQ HCB q1 q2 q3 q4 hlk hrun c2 e0; have c1 := hT3.c1; have e0 : w3.cell? ⟨w.heap.size, 0, none⟩ = some (.int .i64 l) := by rw [zaf hE3]; rfl
           have e1 : w3.cell? ⟨w.heap.size, 1, none⟩ = some (.int .i64 s) := by rw [zaf hE3]; rfl
           have e2 : w3.cell? ⟨w.heap.size, 2, none⟩ = some (.int .i64 r) := by rw [zaf hE3]; rfl
           have p0 : w3.cell? ⟨w.heap.size + 1, 0, none⟩ = some (.int .i64 b) := by rw [zaf hP3]; rfl
           have p1 : w3.cell? ⟨w.heap.size + 1, 1, none⟩ = some (.int .i64 row) := by rw [zaf hP3]; rfl
           have p2 : w3.cell? ⟨w.heap.size + 1, 2, none⟩ = some (.int .i64 slot) := by rw [zaf hP3]; rfl
           obtain ⟨w4, hrun4, hT4, hgr4⟩ := hT3.place ⟨b, row, slot, m, s, r⟩ hl (by omega)
           have hE4 := zbw hE3 hgr4 (fun e => by
            obtain ⟨D, q1, -⟩ := hT3.at_; exact mapI_ne q1 hE3 (Option.some.inj e))
           have HK4 := Lib.hid (hK3.trans (Keep.of_grown hgr4) (fun _ h => h) (fun i _ e => .inr (.inl (Option.some.inj e)))); have HT4 := Lib.hid hT4; have HE4 := Lib.hid hE4; replace hrun4 : (Instr.mapUpdate 92 (.map (some mb)) (.int .i64 l) (.agg #[.int .i64 b, .int .i64 row, .int .i64 slot, .int .i64 m, .int .i64 s, .int .i64 r])).run Tryz.prog w3.drew = .ok () w4 := hrun4; clear hE3 hP3 hK3 hT3 hT4 hgr4 hE4; go_region
           clear hrun4 c1 e0 e1 e2 p0 p1 p2; go_upto_region 10 with fail
           have e1 : w4.cell? ⟨w.heap.size, 1, none⟩ = some (.int .i64 s) := by rw [zaf HE4.out]; rfl
           have c3 := HT4.out.c3
           have hcf : ∀ x, (if x = b then q + 1 else if s0 = true ∧ x = a.b then (cntE T.f x : Int) - 1 else (cntE T.f x : Int)) = (cntE (putE T.f l ⟨b, row, slot, m, s, r⟩) x : Int) := by
            intro x; have h1 := HA.out; have h2 := HS.out; have h3 := HQ.out; have h4 := cnt_put T.f l ⟨b, row, slot, m, s, r⟩ x; cases hg : getE T.f l with
            | none =>
             rw [hg] at h2; have h5 : s0 = false := h2; rw [cnt_del_none hg] at h4; subst h5; by_cases e : x = b
             · subst e; simp at h3 h4 ⊢; omega
             · have e' : b ≠ x := fun k => e k.symm
               simp [e, e'] at h3 h4 ⊢; omega
            | some a' =>
             rw [hg] at h1 h2; have h5 : s0 = true := h2; have h6 : a = a' := h1; subst h5 h6; have h7 := cnt_del_some HOk.out.nodup hg x; by_cases e : x = b
             · subst e
               by_cases e2 : x = a.b
               · simp [e2] at h3 h4 h7 ⊢; omega
               · have e3 : a.b ≠ x := fun k => e2 k.symm
                 simp [e2, e3] at h3 h4 h7 ⊢; omega
             · have e' : b ≠ x := fun k => e k.symm
               by_cases e2 : x = a.b
               · subst e2
                 simp [e, e'] at h4 h7 ⊢; omega
               · have e3 : a.b ≠ x := fun k => e2 k.symm
                 simp [e, e', e2, e3] at h4 h7 ⊢; omega
           have hfin : ∀ nx wz, nx = nextS T.next s → TabC wz g mb cb (n + 3) N (putE T.f l ⟨b, row, slot, m, s, r⟩) nx (fun x => if x = b then q + 1 else if s0 = true ∧ x = a.b then (cntE T.f x : Int) - 1 else (cntE T.f x : Int)) → TabAt wz g mb cb (n + 3) (T.putT l s r b row slot m) := by
            intro nx wz hnx hz; unfold Tb.putT; rw [HOK.out, if_pos rfl, ← hnx]; refine TabC.of ?_ (ok_put HOk.out ?_ hb nx) hcf
            · rw [← HN.out]; exact hz
            · have := HN.out; omega
           have HF := Lib.hid hfin; clear hcf hfin; by_cases hle : T.next ≤ s
           · have hnx := Lib.hid (show nextS T.next s = wrap64 (s + 1) by unfold nextS; rw [if_pos hle])
             go_quiet (fail)
             have hfz := zar HT4.out.head 3; go_wp2_with fail
             go_ret
             have hN := (HT4.out.drewN nq).next (wrap64 (s + 1)); refine ⟨by rw [HOK.out]; rfl, HF.out _ _ hnx.out.symm hN.1, (HK4.out.drewN nq).trans hN.2 (fun _ h => h) (fun _ _ h => h)⟩
           · have hnx := Lib.hid (show nextS T.next s = T.next by unfold nextS; rw [if_neg hle])
             go_quiet (fail)
             go_wp2_with fail
             go_ret
             refine ⟨by rw [HOK.out]; rfl, ?_, (HK4.out.drewN _)⟩; exact HF.out _ _ hnx.out.symm (HT4.out.drewN _)
end
end Go.Proofs.YtpbigfopmompfaaGreat.tab
namespace Go.Proofs.YtpbigfopmompfaaGreat.tal
open Go.RowKit
open Go.Proofs.YtpbigfopmompfaaGreat.nand (kindO za3)
set_option linter.unusedVariables false
structure Sb where
 wear : Int
 bad : Nat
 used : Bool
 held : Bool
def Sb.v (s : Sb) : List Value := [.int .i64 s.wear, .int .i64 (s.bad : Int), .bool s.used, .bool s.held]
def Sb.none : Sb := ⟨0, 0, false, false⟩
structure Ty where
 (D B P : Nat)
 sb : List Sb
 dead : Nat
def Ty.head (Y : Ty) (lb : Nat) : List Value := [.int .i64 (Y.D : Int), .int .i64 (Y.B : Int), .int .i64 (Y.P : Int), .slice (some ⟨lb, 0, none⟩) Y.B Y.B, .int .i64 (Y.dead : Int)]
def rowsS (l : List Sb) : List (List Value) := l.map Sb.v
structure Ty.ok (Y : Ty) : Prop where
 geo : 3 ≤ Y.D ∧ Y.D ≤ 6 ∧ 8 ≤ Y.B ∧ Y.B ≤ 16 ∧ 2 ≤ Y.P ∧ Y.P ≤ 8
 len : Y.sb.length = Y.B
 dead : Y.dead < 64
 bad : ∀ s ∈ Y.sb, s.bad < 64
structure TalAt (w : World) (g lb : Nat) (Y : Ty) : Prop where
 ok : Y.ok
 head : w.heap[g]? = some (.cells (Y.head lb).toArray 99 (0, 0))
 rows : w.heap[lb]? = some (.cells (rowsS Y.sb).flatten.toArray 104 (0, 0))
def TalF (g lb k : Nat) : Prop := k = g ∨ k = lb
def Ty.get (Y : Ty) (b : Int) : Option Sb := if 0 ≤ b then Y.sb[b.toNat]? else none
def Ty.upd (Y : Ty) (b : Int) (f : Sb → Sb) : Ty := if 0 ≤ b then { Y with sb := Y.sb.modify b.toNat f } else Y
def Ty.dieB (Y : Ty) (d : Int) : Bool := decide (0 ≤ d) && decide (d < Y.D)
def andN (a b : Nat) : Nat := a &&& (63 - b)
def Ty.alive (Y : Ty) : Nat := andN (2 ^ Y.D - 1) Y.dead
def Ty.mask (Y : Ty) (b : Int) : Nat := match Y.get b with | some s => andN Y.alive s.bad | .none => 0
def Ty.wear (Y : Ty) (b : Int) : Int := match Y.get b with | some s => s.wear | .none => 0
def Ty.usable (Y : Ty) (b : Int) : Bool := decide (0 < slotsI (Y.mask b : Int))
def Ty.blank (Y : Ty) (b : Int) : Bool := match Y.get b with | some s => !s.used | .none => false
def Ty.held (Y : Ty) (b : Int) : Bool := match Y.get b with | some s => s.held | .none => false
def Ty.wore (Y : Ty) (b n : Int) : Ty := Y.upd b fun s => { s with wear := max s.wear n }
def orN (a : Nat) (d : Int) : Nat := a ||| 2 ^ d.toNat
def Ty.badN (Y : Ty) (d b : Int) : Ty := if Y.dieB d then Y.upd b fun s => { s with bad := orN s.bad d } else Y
def Ty.deadN (Y : Ty) (d : Int) : Ty := if Y.dieB d then { Y with dead := orN Y.dead d } else Y
def Ty.clean (Y : Ty) (b : Int) (on : Bool) : Ty := Y.upd b fun s => { s with used := !on }
def Ty.hold (Y : Ty) (b : Int) (on : Bool) : Ty := Y.upd b fun s => { s with held := on }
theorem andN_lt : ∀ a : Nat, a < 64 → ∀ b : Nat, b < 64 → andN a b < 64 := by decide +kernel
theorem andN_bits : ∀ a : Nat, a < 64 → ∀ b : Nat, b < 64 → bits .andNot .i64 (a : Int) (b : Int) = ((andN a b : Nat) : Int) := by decide +kernel
theorem all_dies : ∀ D : Nat, D ≤ 6 → allI (D : Int) = ((2 ^ D - 1 : Nat) : Int) ∧ 2 ^ D - 1 < 64 := by decide +kernel
theorem with_or : ∀ a : Nat, a < 64 → ∀ d : Nat, d < 6 → withI (a : Int) (d : Int) = ((a ||| 2 ^ d : Nat) : Int) ∧ a ||| 2 ^ d < 64 := by decide +kernel
theorem Ty.ok.alive {Y : Ty} (h : Y.ok) : Y.alive < 64 := andN_lt _ (all_dies _ h.geo.2.1).2 _ h.dead
theorem Ty.ok.mask {Y : Ty} (h : Y.ok) (b : Int) : Y.mask b < 64 := by
 unfold Ty.mask
 split
 · rename_i s hs
   unfold Ty.get at hs; split at hs
   · exact andN_lt _ h.alive _ (h.bad s (List.mem_of_getElem? hs))
   · cases hs
 · decide
theorem get_in {Y : Ty} {b : Nat} {s : Sb} (h : Y.sb[b]? = some s) : Y.get (b : Int) = some s := by unfold Ty.get; rw [if_pos (by omega), Int.toNat_natCast]; exact h
theorem get_out {Y : Ty} (h : Y.ok) {b : Int} (hb : b < 0 ∨ (Y.B : Int) ≤ b) : Y.get b = none := by
 unfold Ty.get
 split
 · rw [List.getElem?_eq_none]
   rw [h.len]; omega
 · rfl
theorem upd_in {Y : Ty} {b : Nat} {s : Sb} (h : Y.sb[b]? = some s) (f : Sb → Sb) : Y.upd (b : Int) f = { Y with sb := Y.sb.set b (f s) } := by
 unfold Ty.upd
 rw [if_pos (by omega), Int.toNat_natCast]
 congr 1
 apply List.ext_getElem?
 intro i
 rw [List.getElem?_modify, List.getElem?_set]
 obtain ⟨hl, he⟩ := List.getElem?_eq_some_iff.1 h
 by_cases e : b = i
 · subst e; simp [hl, he]
 · simp [e]
theorem upd_out {Y : Ty} (h : Y.ok) {b : Int} (hb : b < 0 ∨ (Y.B : Int) ≤ b) (f : Sb → Sb) : Y.upd b f = Y := by
 unfold Ty.upd
 split
 · have e : Y.sb.modify b.toNat f = Y.sb := by
    apply List.ext_getElem?
    intro i; rw [List.getElem?_modify]; by_cases e : b.toNat = i
    · subst e
      rw [List.getElem?_eq_none (by rw [h.len]; omega)]; simp
    · simp [e]
   rw [e]
 · rfl
theorem rowsS_len (l : List Sb) : ∀ r ∈ rowsS l, r.length = 4 := by
 intro r hr
 obtain ⟨x, _, rfl⟩ := List.mem_map.1 hr
 rfl
section
variable {w w' : World} {g lb : Nat} {Y : Ty}
theorem TalAt.keep {S : Nat → Prop} (h : TalAt w g lb Y) (hk : Keep S w w') (h1 : ¬ S g) (h2 : ¬ S lb) : TalAt w' g lb Y := ⟨h.ok, zay h.head hk h1, zay h.rows hk h2⟩
theorem TalAt.below (h : TalAt w g lb Y) (hb : Below w.heap.size w w') : TalAt w' g lb Y := ⟨h.ok, zad h.head hb, zad h.rows hb⟩
theorem TalAt.drew (h : TalAt w g lb Y) : TalAt w.drew g lb Y := ⟨h.ok, h.head, h.rows⟩
theorem TalAt.ne (h : TalAt w g lb Y) : g ≠ lb := za3 h.head h.rows (by simp [kindO] <;> decide)
theorem TalAt.lt (h : TalAt w g lb Y) : g < w.heap.size ∧ lb < w.heap.size := ⟨zag h.head, zag h.rows⟩
theorem TalAt.c0 (h : TalAt w g lb Y) : w.cell? ⟨g, 0, none⟩ = some (.int .i64 (Y.D : Int)) := by rw [zaf h.head]; rfl
theorem TalAt.c1 (h : TalAt w g lb Y) : w.cell? ⟨g, 1, none⟩ = some (.int .i64 (Y.B : Int)) := by rw [zaf h.head]; rfl
theorem TalAt.c3 (h : TalAt w g lb Y) : w.cell? ⟨g, 3, none⟩ = some (.slice (some ⟨lb, 0, none⟩) Y.B Y.B) := by rw [zaf h.head]; rfl
theorem TalAt.c4 (h : TalAt w g lb Y) : w.cell? ⟨g, 4, none⟩ = some (.int .i64 (Y.dead : Int)) := by rw [zaf h.head]; rfl
theorem TalAt.geoR (h : TalAt w g lb Y) : w.rangeAt g 0 [.int .i64 (Y.D : Int), .int .i64 (Y.B : Int), .int .i64 (Y.P : Int)] := zbo h.head [] [.int .i64 (Y.D : Int), .int .i64 (Y.B : Int), .int .i64 (Y.P : Int)] [.slice (some ⟨lb, 0, none⟩) Y.B Y.B, .int .i64 (Y.dead : Int)] rfl 0 rfl
theorem TalAt.cell (h : TalAt w g lb Y) {b : Nat} {s : Sb} (hs : Y.sb[b]? = some s) {j : Nat} {u : Value} (hj : s.v[j]? = some u) : w.cell? ⟨lb, b * 4 + j, none⟩ = some u ∧ w.frozen? ⟨lb, b * 4 + j, none⟩ = false := by
 have hr : (rowsS Y.sb)[b]? = some s.v := by rw [rowsS, List.getElem?_map, hs]; rfl
 have hl : j < 4 := (List.getElem?_eq_some_iff.1 hj).1
 refine ⟨?_, zar h.rows _⟩
 rw [zaf h.rows, List.getElem?_toArray, zbd (rowsS_len _) hr hl, hj]
theorem TalAt.set (h : TalAt w g lb Y) {b : Nat} {s s' : Sb} (hs : Y.sb[b]? = some s) {j : Nat} {u : Value} (hu : s.v.set j u = s'.v) (hj : j < 4) (hb : s'.bad < 64) :
 TalAt (w.setCell ⟨lb, b * 4 + j, none⟩ u) g lb { Y with sb := Y.sb.set b s' } ∧ Keep (TalF g lb) w (w.setCell ⟨lb, b * 4 + j, none⟩ u) := by
 have hr : (rowsS Y.sb)[b]? = some s.v := by rw [rowsS, List.getElem?_map, hs]; rfl
 have hU := zas (i := b * 4 + j) h.rows u
 have hf := nand.flat_set (u := u) (rowsS_len Y.sb) hr hj
 refine ⟨⟨⟨h.ok.geo, by simpa using h.ok.len, h.ok.dead, fun x hx => ?_⟩, hU.old h.head h.ne, ?_⟩, hU.keep (.inr rfl)⟩
 · rcases List.mem_or_eq_of_mem_set hx with hx | rfl
   · exact h.ok.bad x hx
   · exact hb
 · rw [hU.at_, ← hf, hu]
   simp [rowsS, List.map_set]
theorem TalAt.setDead (h : TalAt w g lb Y) {d : Nat} (hd : d < 64) : TalAt (w.setCell ⟨g, 4, none⟩ (.int .i64 (d : Int))) g lb { Y with dead := d } ∧ Keep (TalF g lb) w (w.setCell ⟨g, 4, none⟩ (.int .i64 (d : Int))) := by
 have hU := zas (i := 4) h.head (.int .i64 (d : Int))
 exact ⟨⟨⟨h.ok.geo, h.ok.len, hd, h.ok.bad⟩, hU.at_, hU.old h.rows h.ne.symm⟩, hU.keep (.inl rfl)⟩
end
theorem ptr : Tryz.prog.underlying 41 = some (.pointer (Tryz.prog.pointee 41)) := by kernel_rfl
theorem nonnil_neq (x : Addr) (w : World) : (binOp .neq 41 (.pointer (some x)) (.pointer none)).run Tryz.prog w = .ok (.bool true) w := run_neq_pointer_nil w 41 (some x) ptr
theorem nonnil_eql (x : Addr) (w : World) : (binOp .eql 41 (.pointer (some x)) (.pointer none)).run Tryz.prog w = .ok (.bool false) w := run_eql_pointer_nil w 41 (some x) ptr
theorem nil_neq (w : World) : (binOp .neq 41 (.pointer none) (.pointer none)).run Tryz.prog w = .ok (.bool false) w := run_neq_pointer_nil w 41 none ptr
theorem sptr : Tryz.prog.underlying 101 = some (.pointer (Tryz.prog.pointee 101)) := by kernel_rfl
theorem zbr (x : Addr) (w : World) : (binOp .neq 101 (.pointer (some x)) (.pointer none)).run Tryz.prog w = .ok (.bool true) w := run_neq_pointer_nil w 101 (some x) sptr
theorem zbs (x : Addr) (w : World) : (binOp .eql 101 (.pointer (some x)) (.pointer none)).run Tryz.prog w = .ok (.bool false) w := run_eql_pointer_nil w 101 (some x) sptr
theorem snil_neq (w : World) : (binOp .neq 101 (.pointer none) (.pointer none)).run Tryz.prog w = .ok (.bool false) w := run_neq_pointer_nil w 101 none sptr
theorem snil_eql (w : World) : (binOp .eql 101 (.pointer none) (.pointer none)).run Tryz.prog w = .ok (.bool true) w := run_eql_pointer_nil w 101 none sptr
section
variable {w : World} {g lb : Nat} {Y : Ty}
set_option maxRecDepth 100000 in
theorem at_in (h : TalAt w g lb Y) (b : Nat) (hb : b < Y.B) : Calls Tryz.prog 57 #[.pointer (some ⟨g, 0, none⟩), .int .i64 (b : Int)] w fun e w' => e = .returned (.pointer (some ⟨lb, b * 4, none⟩)) ∧ w = w' := by
 have hnn := nonnil_eql
 have c := h.c3
 have hB := h.ok.geo
 obtain ⟨N, hN⟩ : ∃ N, N = Y.B := ⟨_, rfl⟩
 rw [← hN] at c hb hB
 have hbI : (b : Int) < (N : Int) := by omega
 have hc1 : decide ((b : Int) < 0) = false := by simp
 have hc2 : decide (N ≤ b) = false := by simp; omega
 have hc3 : decide ((N : Int) ≤ (b : Int)) = false := by simp; omega
 clear h hN
 go_enter Tryz.func57, Tryz.ntmps57
 go_wp2_with fail
 go_ret
 exact ⟨rfl, rfl⟩
set_option maxRecDepth 100000 in
theorem at_out (h : TalAt w g lb Y) (b : Int) (hb : b < 0 ∨ (Y.B : Int) ≤ b) : Calls Tryz.prog 57 #[.pointer (some ⟨g, 0, none⟩), .int .i64 b] w fun e w' => e = .returned (.pointer none) ∧ w = w' := by
 have hnn := nonnil_eql
 have c := h.c3
 obtain ⟨N, hN⟩ : ∃ N, N = Y.B := ⟨_, rfl⟩
 rw [← hN] at c hb
 clear h hN
 by_cases h0 : b < 0
 · clear hb
   go_enter Tryz.func57, Tryz.ntmps57
   go_wp2_with fail
   go_ret
   exact ⟨rfl, rfl⟩
 · have hb' : (N : Int) ≤ b := by omega
   clear hb; go_enter Tryz.func57, Tryz.ntmps57
   go_wp2_with fail
   go_ret
   exact ⟨rfl, rfl⟩
set_option maxRecDepth 100000 in
theorem die_any (h : TalAt w g lb Y) (d : Int) : Calls Tryz.prog 66 #[.pointer (some ⟨g, 0, none⟩), .int .i64 d] w fun e w' => e = .returned (.bool (Y.dieB d)) ∧ w = w' := by
 have hnn := nonnil_neq
 have c := h.c0
 have hD : Y.dieB d = (decide (0 ≤ d) && decide (d < Y.D)) := rfl
 obtain ⟨N, hN⟩ : ∃ N, N = Y.D := ⟨_, rfl⟩
 rw [← hN] at c hD
 have HD := Lib.hid hD
 clear h hN hD
 by_cases h0 : 0 ≤ d
 · by_cases h1 : d < (N : Int)
   · go_enter Tryz.func66, Tryz.ntmps66
     go_wp2_with fail
     go_ret
     exact ⟨by rw [HD.out, decide_eq_true h0, decide_eq_true h1]; rfl, rfl⟩
   · go_enter Tryz.func66, Tryz.ntmps66
     go_wp2_with fail
     go_ret
     exact ⟨by rw [HD.out, decide_eq_true h0, decide_eq_false (show ¬ d < (N : Int) by omega)]; rfl, rfl⟩
 · go_enter Tryz.func66, Tryz.ntmps66
   go_wp2_with fail
   go_ret
   exact ⟨by rw [HD.out, decide_eq_false (show ¬ 0 ≤ d by omega)]; rfl, rfl⟩
set_option maxRecDepth 100000 in
theorem wear_no (p : Option Addr) (b : Int) (w : World) (hat : Calls Tryz.prog 57 #[.pointer p, .int .i64 b] w fun e w' => e = .returned (.pointer none) ∧ w = w') : Calls Tryz.prog 23 #[.pointer p, .int .i64 b] w fun e w' => e = .returned (.int .i64 0) ∧ w = w' := by
 have h1 := snil_neq
 have h2 := snil_eql
 have HA := Lib.hid hat
 clear hat
 go_enter Tryz.func23, Tryz.ntmps23
 go_wp2_with fail
 refine HA.out.mono ?_
 rintro e w1 ⟨rfl, rfl⟩
 go_wp2_with fail
 go_ret
 exact ⟨rfl, rfl⟩
set_option maxRecDepth 100000 in
theorem wear_any (h : TalAt w g lb Y) (b : Int) : Calls Tryz.prog 23 #[.pointer (some ⟨g, 0, none⟩), .int .i64 b] w fun e w' => e = .returned (.int .i64 (Y.wear b)) ∧ w = w' := by
 by_cases hb : b < 0 ∨ (Y.B : Int) ≤ b
 · have e : (.int .i64 (Y.wear b) : Value) = .int .i64 0 := by unfold Ty.wear; rw [get_out h.ok hb]
   rw [e]; exact wear_no _ b w (at_out h b hb)
 · obtain ⟨B, rfl⟩ := Int.eq_ofNat_of_zero_le (show 0 ≤ b by omega)
   have hB : B < Y.B := by omega
   obtain ⟨s, hs⟩ : ∃ s, Y.sb[B]? = some s := ⟨_, List.getElem?_eq_getElem (by rw [h.ok.len]; exact hB)⟩; have HA := Lib.hid (at_in h B hB); have c := (h.cell hs (j := 0) rfl).1; rw [Nat.add_zero] at c; have e : (.int .i64 (Y.wear (B : Int)) : Value) = .int .i64 s.wear := by unfold Ty.wear; rw [get_in hs]
   rw [e]; have h1 := zbr; have h2 := zbs; clear h hs hb e; go_enter Tryz.func23, Tryz.ntmps23
   go_wp2_with fail
   refine HA.out.mono ?_; rintro e w1 ⟨rfl, rfl⟩; go_wp2_with fail
   go_ret
   exact ⟨rfl, rfl⟩
set_option maxRecDepth 100000 in
theorem blank_no (p : Option Addr) (b : Int) (w : World) (hat : Calls Tryz.prog 57 #[.pointer p, .int .i64 b] w fun e w' => e = .returned (.pointer none) ∧ w = w') : Calls Tryz.prog 35 #[.pointer p, .int .i64 b] w fun e w' => e = .returned (.bool false) ∧ w = w' := by
 have h1 := snil_neq
 have h2 := snil_eql
 have HA := Lib.hid hat
 clear hat
 go_enter Tryz.func35, Tryz.ntmps35
 go_wp2_with fail
 refine HA.out.mono ?_
 rintro e w1 ⟨rfl, rfl⟩
 go_wp2_with fail
 go_ret
 exact ⟨rfl, rfl⟩
set_option maxRecDepth 100000 in
theorem blank_any (h : TalAt w g lb Y) (b : Int) : Calls Tryz.prog 35 #[.pointer (some ⟨g, 0, none⟩), .int .i64 b] w fun e w' => e = .returned (.bool (Y.blank b)) ∧ w = w' := by
 by_cases hb : b < 0 ∨ (Y.B : Int) ≤ b
 · have e : (.bool (Y.blank b) : Value) = .bool false := by unfold Ty.blank; rw [get_out h.ok hb]
   rw [e]; exact blank_no _ b w (at_out h b hb)
 · obtain ⟨B, rfl⟩ := Int.eq_ofNat_of_zero_le (show 0 ≤ b by omega)
   have hB : B < Y.B := by omega
   obtain ⟨s, hs⟩ : ∃ s, Y.sb[B]? = some s := ⟨_, List.getElem?_eq_getElem (by rw [h.ok.len]; exact hB)⟩; have HA := Lib.hid (at_in h B hB); have c := (h.cell hs (j := 2) rfl).1; have e : (.bool (Y.blank (B : Int)) : Value) = .bool (!s.used) := by unfold Ty.blank; rw [get_in hs]
   rw [e]; have h1 := zbr; have h2 := zbs; clear h hs hb e; go_enter Tryz.func35, Tryz.ntmps35
   go_wp2_with fail
   refine HA.out.mono ?_; rintro e w1 ⟨rfl, rfl⟩; go_wp2_with fail
   go_ret
   exact ⟨rfl, rfl⟩
set_option maxRecDepth 100000 in
theorem held_no (p : Option Addr) (b : Int) (w : World) (hat : Calls Tryz.prog 57 #[.pointer p, .int .i64 b] w fun e w' => e = .returned (.pointer none) ∧ w = w') : Calls Tryz.prog 36 #[.pointer p, .int .i64 b] w fun e w' => e = .returned (.bool false) ∧ w = w' := by
 have h1 := snil_neq
 have h2 := snil_eql
 have HA := Lib.hid hat
 clear hat
 go_enter Tryz.func36, Tryz.ntmps36
 go_wp2_with fail
 refine HA.out.mono ?_
 rintro e w1 ⟨rfl, rfl⟩
 go_wp2_with fail
 go_ret
 exact ⟨rfl, rfl⟩
set_option maxRecDepth 100000 in
theorem held_any (h : TalAt w g lb Y) (b : Int) : Calls Tryz.prog 36 #[.pointer (some ⟨g, 0, none⟩), .int .i64 b] w fun e w' => e = .returned (.bool (Y.held b)) ∧ w = w' := by
 by_cases hb : b < 0 ∨ (Y.B : Int) ≤ b
 · have e : (.bool (Y.held b) : Value) = .bool false := by unfold Ty.held; rw [get_out h.ok hb]
   rw [e]; exact held_no _ b w (at_out h b hb)
 · obtain ⟨B, rfl⟩ := Int.eq_ofNat_of_zero_le (show 0 ≤ b by omega)
   have hB : B < Y.B := by omega
   obtain ⟨s, hs⟩ : ∃ s, Y.sb[B]? = some s := ⟨_, List.getElem?_eq_getElem (by rw [h.ok.len]; exact hB)⟩; have HA := Lib.hid (at_in h B hB); have c := (h.cell hs (j := 3) rfl).1; have e : (.bool (Y.held (B : Int)) : Value) = .bool s.held := by unfold Ty.held; rw [get_in hs]
   rw [e]; have h1 := zbr; have h2 := zbs; clear h hs hb e; go_enter Tryz.func36, Tryz.ntmps36
   go_wp2_with fail
   refine HA.out.mono ?_; rintro e w1 ⟨rfl, rfl⟩; go_wp2_with fail
   go_ret
   exact ⟨rfl, rfl⟩
set_option maxRecDepth 100000 in
theorem wore_no (p : Option Addr) (b : Int) (n : Int) (w : World) (hat : Calls Tryz.prog 57 #[.pointer p, .int .i64 b] w fun e w' => e = .returned (.pointer none) ∧ w = w') : Calls Tryz.prog 22 #[.pointer p, .int .i64 b, .int .i64 n] w fun e w' => e = .returned (.tuple #[]) ∧ w = w' := by
 have h1 := snil_neq
 have h2 := snil_eql
 have HA := Lib.hid hat
 clear hat
 go_enter Tryz.func22, Tryz.ntmps22
 go_wp2_with fail
 refine HA.out.mono ?_
 rintro e w1 ⟨rfl, rfl⟩
 go_wp2_with fail
 go_end0
 exact ⟨rfl, rfl⟩
set_option maxRecDepth 100000 in
theorem wore_any (h : TalAt w g lb Y) (b : Int) (n : Int) : Calls Tryz.prog 22 #[.pointer (some ⟨g, 0, none⟩), .int .i64 b, .int .i64 n] w fun e w' => e = .returned (.tuple #[]) ∧ TalAt w' g lb (Y.wore b n) ∧ Keep (TalF g lb) w w' := by
 by_cases hb : b < 0 ∨ (Y.B : Int) ≤ b
 · have e : Y.wore b n = Y := upd_out h.ok hb _
   rw [e]; refine (wore_no _ b n w (at_out h b hb)).mono ?_; rintro e w' ⟨rfl, rfl⟩; exact ⟨rfl, h, Keep.refl _ _⟩
 · obtain ⟨B, rfl⟩ := Int.eq_ofNat_of_zero_le (show 0 ≤ b by omega)
   have hB : B < Y.B := by omega
   obtain ⟨s, hs⟩ : ∃ s, Y.sb[B]? = some s := ⟨_, List.getElem?_eq_getElem (by rw [h.ok.len]; exact hB)⟩; have HA := Lib.hid (at_in h B hB); obtain ⟨c, ff⟩ := h.cell hs (j := 0) rfl; rw [Nat.add_zero] at c ff; have e : Y.wore (B : Int) n = { Y with sb := Y.sb.set B ({ s with wear := max s.wear n }) } := upd_in hs _; rw [e]; have HF := Lib.hid (h.set hs (j := 0) (u := .int .i64 (max s.wear n)) (s' := { s with wear := max s.wear n }) rfl (by omega) (h.ok.bad s (List.mem_of_getElem? hs))); have h1 := zbr; have h2 := zbs; clear h hs hb e; go_enter Tryz.func22, Tryz.ntmps22
   go_wp2_with fail
   refine HA.out.mono ?_; rintro e w1 ⟨rfl, rfl⟩; go_wp2_with fail
   go_end0
   exact ⟨rfl, HF.out⟩
set_option maxRecDepth 100000 in
theorem clean_no (p : Option Addr) (b : Int) (on : Bool) (w : World) (hat : Calls Tryz.prog 57 #[.pointer p, .int .i64 b] w fun e w' => e = .returned (.pointer none) ∧ w = w') : Calls Tryz.prog 44 #[.pointer p, .int .i64 b, .bool on] w fun e w' => e = .returned (.tuple #[]) ∧ w = w' := by
 have h1 := snil_neq
 have h2 := snil_eql
 have HA := Lib.hid hat
 clear hat
 go_enter Tryz.func44, Tryz.ntmps44
 go_wp2_with fail
 refine HA.out.mono ?_
 rintro e w1 ⟨rfl, rfl⟩
 go_wp2_with fail
 go_end0
 exact ⟨rfl, rfl⟩
set_option maxRecDepth 100000 in
theorem clean_any (h : TalAt w g lb Y) (b : Int) (on : Bool) : Calls Tryz.prog 44 #[.pointer (some ⟨g, 0, none⟩), .int .i64 b, .bool on] w fun e w' => e = .returned (.tuple #[]) ∧ TalAt w' g lb (Y.clean b on) ∧ Keep (TalF g lb) w w' := by
 by_cases hb : b < 0 ∨ (Y.B : Int) ≤ b
 · have e : Y.clean b on = Y := upd_out h.ok hb _
   rw [e]; refine (clean_no _ b on w (at_out h b hb)).mono ?_; rintro e w' ⟨rfl, rfl⟩; exact ⟨rfl, h, Keep.refl _ _⟩
 · obtain ⟨B, rfl⟩ := Int.eq_ofNat_of_zero_le (show 0 ≤ b by omega)
   have hB : B < Y.B := by omega
   obtain ⟨s, hs⟩ : ∃ s, Y.sb[B]? = some s := ⟨_, List.getElem?_eq_getElem (by rw [h.ok.len]; exact hB)⟩; have HA := Lib.hid (at_in h B hB); obtain ⟨c, ff⟩ := h.cell hs (j := 2) rfl; have e : Y.clean (B : Int) on = { Y with sb := Y.sb.set B ({ s with used := !on }) } := upd_in hs _; rw [e]; have HF := Lib.hid (h.set hs (j := 2) (u := .bool (!on)) (s' := { s with used := !on }) rfl (by omega) (h.ok.bad s (List.mem_of_getElem? hs))); have h1 := zbr; have h2 := zbs; clear h hs hb e; go_enter Tryz.func44, Tryz.ntmps44
   go_wp2_with fail
   refine HA.out.mono ?_; rintro e w1 ⟨rfl, rfl⟩; go_wp2_with fail
   go_end0
   exact ⟨rfl, HF.out⟩
set_option maxRecDepth 100000 in
theorem hold_no (p : Option Addr) (b : Int) (on : Bool) (w : World) (hat : Calls Tryz.prog 57 #[.pointer p, .int .i64 b] w fun e w' => e = .returned (.pointer none) ∧ w = w') : Calls Tryz.prog 43 #[.pointer p, .int .i64 b, .bool on] w fun e w' => e = .returned (.tuple #[]) ∧ w = w' := by
 have h1 := snil_neq
 have h2 := snil_eql
 have HA := Lib.hid hat
 clear hat
 go_enter Tryz.func43, Tryz.ntmps43
 go_wp2_with fail
 refine HA.out.mono ?_
 rintro e w1 ⟨rfl, rfl⟩
 go_wp2_with fail
 go_end0
 exact ⟨rfl, rfl⟩
set_option maxRecDepth 100000 in
theorem hold_any (h : TalAt w g lb Y) (b : Int) (on : Bool) : Calls Tryz.prog 43 #[.pointer (some ⟨g, 0, none⟩), .int .i64 b, .bool on] w fun e w' => e = .returned (.tuple #[]) ∧ TalAt w' g lb (Y.hold b on) ∧ Keep (TalF g lb) w w' := by
 by_cases hb : b < 0 ∨ (Y.B : Int) ≤ b
 · have e : Y.hold b on = Y := upd_out h.ok hb _
   rw [e]; refine (hold_no _ b on w (at_out h b hb)).mono ?_; rintro e w' ⟨rfl, rfl⟩; exact ⟨rfl, h, Keep.refl _ _⟩
 · obtain ⟨B, rfl⟩ := Int.eq_ofNat_of_zero_le (show 0 ≤ b by omega)
   have hB : B < Y.B := by omega
   obtain ⟨s, hs⟩ : ∃ s, Y.sb[B]? = some s := ⟨_, List.getElem?_eq_getElem (by rw [h.ok.len]; exact hB)⟩; have HA := Lib.hid (at_in h B hB); obtain ⟨c, ff⟩ := h.cell hs (j := 3) rfl; have e : Y.hold (B : Int) on = { Y with sb := Y.sb.set B ({ s with held := on }) } := upd_in hs _; rw [e]; have HF := Lib.hid (h.set hs (j := 3) (u := .bool on) (s' := { s with held := on }) rfl (by omega) (h.ok.bad s (List.mem_of_getElem? hs))); have h1 := zbr; have h2 := zbs; clear h hs hb e; go_enter Tryz.func43, Tryz.ntmps43
   go_wp2_with fail
   refine HA.out.mono ?_; rintro e w1 ⟨rfl, rfl⟩; go_wp2_with fail
   go_end0
   exact ⟨rfl, HF.out⟩
end
end Go.Proofs.YtpbigfopmompfaaGreat.tal
namespace Go.Proofs.YtpbigfopmompfaaGreat.tal
open Go.RowKit
open Go.Proofs.YtpbigfopmompfaaGreat.nand (zax)
set_option linter.unusedVariables false
theorem drewN_below {w w' : World} (h : ∃ n, w' = w.drewN n) : Below w.heap.size w w' := by
 obtain ⟨n, rfl⟩ := h
 exact zau (Below.refl _ _) n
section
variable {w : World} {g lb : Nat} {Y : Ty}
set_option maxRecDepth 100000 in
theorem alive_any (h : TalAt w g lb Y) : Calls Tryz.prog 33 #[.pointer (some ⟨g, 0, none⟩)] w fun e w' => e = .returned (.int .i64 (Y.alive : Int)) ∧ ∃ n, w' = w.drewN n := by
 have hnn := nonnil_eql
 have c0 := h.c0
 have c4 := h.c4
 have ha := all_dies Y.D h.ok.geo.2.1
 have hb := andN_bits _ ha.2 _ h.ok.dead
 obtain ⟨V, hV⟩ : ∃ V : Nat, V = 2 ^ Y.D - 1 := ⟨_, rfl⟩
 rw [← hV] at ha hb
 have HAl := Lib.hid (show Y.alive = andN V Y.dead by rw [hV]; rfl)
 have HA := Lib.hid ha.1
 have HB := Lib.hid hb
 clear h ha hb hV
 go_enter Tryz.func33, Tryz.ntmps33
 go_wp2_with fail
 go_quiet ((go_at_call 65; exact Calls.quiet_of_same ((all_any _ _).mono fun _ _ h => ⟨h.1.trans (by rw [HA.out]), h.2.symm⟩)))
 go_wp2_with fail
 go_ret
 exact ⟨by rw [HAl.out, ← HB.out]; rfl, _, rfl⟩
theorem drewN_at (h : TalAt w g lb Y) (n : Nat) : TalAt (w.drewN n) g lb Y := ⟨h.ok, h.head, h.rows⟩
set_option maxRecDepth 100000 in
theorem mask_no (p : Option Addr) (b : Int) (w : World) (hat : Calls Tryz.prog 57 #[.pointer p, .int .i64 b] w fun e w' => e = .returned (.pointer none) ∧ w = w') : Calls Tryz.prog 32 #[.pointer p, .int .i64 b] w fun e w' => e = .returned (.int .i64 0) ∧ w = w' := by
 have h1 := snil_neq
 have h2 := snil_eql
 have HA := Lib.hid hat
 clear hat
 go_enter Tryz.func32, Tryz.ntmps32
 go_wp2_with fail
 refine HA.out.mono ?_
 rintro e w1 ⟨rfl, rfl⟩
 go_wp2_with fail
 go_ret
 exact ⟨rfl, rfl⟩
set_option maxRecDepth 100000 in
theorem mask_any (h : TalAt w g lb Y) (b : Int) : Calls Tryz.prog 32 #[.pointer (some ⟨g, 0, none⟩), .int .i64 b] w fun e w' => e = .returned (.int .i64 (Y.mask b : Int)) ∧ ∃ n, w' = w.drewN n := by
 by_cases hb : b < 0 ∨ (Y.B : Int) ≤ b
 · have e : Y.mask b = 0 := by unfold Ty.mask; rw [get_out h.ok hb]
   rw [e]; refine (mask_no _ b w (at_out h b hb)).mono ?_; rintro e w' ⟨rfl, rfl⟩; exact ⟨rfl, 0, rfl⟩
 · obtain ⟨B, rfl⟩ := Int.eq_ofNat_of_zero_le (show 0 ≤ b by omega)
   have hB : B < Y.B := by omega
   obtain ⟨s, hs⟩ : ∃ s, Y.sb[B]? = some s := ⟨_, List.getElem?_eq_getElem (by rw [h.ok.len]; exact hB)⟩; have HA := Lib.hid (at_in h B hB); have c := (h.cell hs (j := 1) rfl).1; have hm := andN_bits _ h.ok.alive _ (h.ok.bad s (List.mem_of_getElem? hs)); have HE := Lib.hid (show Y.mask (B : Int) = andN Y.alive s.bad by unfold Ty.mask; rw [get_in hs]); have CA := Lib.hid (fun n => alive_any (drewN_at h n)); have h1 := zbr; have h2 := zbs; obtain ⟨al, hal⟩ : ∃ al, al = Y.alive := ⟨_, rfl⟩; rw [← hal] at hm CA HE; have HM := Lib.hid hm; clear h hs hb hm hal; go_enter Tryz.func32, Tryz.ntmps32
   go_wp2_with fail
   refine HA.out.mono ?_; rintro e w1 ⟨rfl, rfl⟩; go_wp2_with fail
   go_quiet ((go_at_call 33; exact Calls.quiet_of (CA.out _)))
   go_wp2_with fail
   go_ret
   exact ⟨by rw [HE.out, ← HM.out]; rfl, _, rfl⟩
set_option maxRecDepth 100000 in
theorem usable_any (h : TalAt w g lb Y) (b : Int) : Calls Tryz.prog 34 #[.pointer (some ⟨g, 0, none⟩), .int .i64 b] w fun e w' => e = .returned (.bool (Y.usable b)) ∧ ∃ n, w' = w.drewN n := by
 have CM := Lib.hid (mask_any h b)
 obtain ⟨sl, hsl⟩ : ∃ sl, sl = slotsI (Y.mask b : Int) := ⟨_, rfl⟩
 have HS := Lib.hid hsl
 have HU := Lib.hid (show Y.usable b = decide (0 < sl) by rw [hsl]; rfl)
 clear h hsl
 go_enter Tryz.func34, Tryz.ntmps34
 go_wp2_with fail
 refine CM.out.mono ?_
 rintro e w1 ⟨rfl, n, rfl⟩
 go_wp2_with fail
 refine (slots_any _ _).mono ?_
 rw [← HS.out]
 rintro e w1 ⟨rfl, rfl⟩
 go_wp2_with fail
 go_ret
 exact ⟨by rw [HU.out]; rfl, n, rfl⟩
theorem or_in {a : Nat} (ha : a < 64) {d : Int} (h0 : 0 ≤ d) (h6 : d < 6) : withI (a : Int) d = (orN a d : Int) ∧ orN a d < 64 := by
 obtain ⟨D, rfl⟩ := Int.eq_ofNat_of_zero_le h0
 have := with_or a ha D (by omega)
 unfold orN
 rw [Int.toNat_natCast]
 exact this
set_option maxRecDepth 100000 in
theorem dead_any (h : TalAt w g lb Y) (d : Int) : Calls Tryz.prog 31 #[.pointer (some ⟨g, 0, none⟩), .int .i64 d] w fun e w' => e = .returned (.tuple #[]) ∧ TalAt w' g lb (Y.deadN d) ∧ Keep (TalF g lb) w w' := by
 have HD := Lib.hid (die_any h d)
 have c := h.c4
 have ff := zar h.head 4
 cases hd : Y.dieB d with
 | false =>
  rw [hd] at HD; have HF := Lib.hid (show TalAt w g lb (Y.deadN d) ∧ Keep (TalF g lb) w w by unfold Ty.deadN; rw [hd]; exact ⟨h, Keep.refl _ _⟩); clear h hd; go_enter Tryz.func31, Tryz.ntmps31
  go_wp2_with fail
  refine HD.out.mono ?_; rintro e w1 ⟨rfl, rfl⟩; go_wp2_with fail
  go_end0
  exact ⟨rfl, HF.out⟩
 | true =>
  rw [hd] at HD; have hd' := hd; unfold Ty.dieB at hd'; simp at hd'; obtain ⟨o1, o2⟩ := or_in h.ok.dead hd'.1 (by have := h.ok.geo; omega); have HW := Lib.hid o1; have HF := Lib.hid (show TalAt (w.setCell ⟨g, 4, none⟩ (.int .i64 (orN Y.dead d : Int))) g lb (Y.deadN d) ∧ Keep (TalF g lb) w (w.setCell ⟨g, 4, none⟩ (.int .i64 (orN Y.dead d : Int))) by unfold Ty.deadN; rw [hd]; exact h.setDead o2); clear h hd hd' o1 o2; go_enter Tryz.func31, Tryz.ntmps31
  go_wp2_with fail
  refine HD.out.mono ?_; rintro e w1 ⟨rfl, rfl⟩; go_wp2_with fail
  refine (with_any _ _ _).mono ?_; rw [HW.out]; rintro e w1 ⟨rfl, rfl⟩; go_wp2_with fail
  go_end0
  exact ⟨rfl, HF.out⟩
set_option maxRecDepth 100000 in
theorem bad_no (p : Option Addr) (d b : Int) (w : World) (hat : Calls Tryz.prog 57 #[.pointer p, .int .i64 b] w fun e w' => e = .returned (.pointer none) ∧ w = w') : Calls Tryz.prog 30 #[.pointer p, .int .i64 d, .int .i64 b] w fun e w' => e = .returned (.tuple #[]) ∧ w = w' := by
 have h1 := snil_neq
 have h2 := snil_eql
 have HA := Lib.hid hat
 clear hat
 go_enter Tryz.func30, Tryz.ntmps30
 go_wp2_with fail
 refine HA.out.mono ?_
 rintro e w1 ⟨rfl, rfl⟩
 go_wp2_with fail
 go_end0
 exact ⟨rfl, rfl⟩
set_option maxRecDepth 100000 in
theorem bad_any (h : TalAt w g lb Y) (d b : Int) : Calls Tryz.prog 30 #[.pointer (some ⟨g, 0, none⟩), .int .i64 d, .int .i64 b] w fun e w' => e = .returned (.tuple #[]) ∧ TalAt w' g lb (Y.badN d b) ∧ Keep (TalF g lb) w w' := by
 by_cases hb : b < 0 ∨ (Y.B : Int) ≤ b
 · have e : Y.badN d b = Y := by
    unfold Ty.badN; split
    · exact upd_out h.ok hb _
    · rfl
   rw [e]; refine (bad_no _ d b w (at_out h b hb)).mono ?_; rintro e w' ⟨rfl, rfl⟩; exact ⟨rfl, h, Keep.refl _ _⟩
 · obtain ⟨B, rfl⟩ := Int.eq_ofNat_of_zero_le (show 0 ≤ b by omega)
   have hB : B < Y.B := by omega
   obtain ⟨s, hs⟩ : ∃ s, Y.sb[B]? = some s := ⟨_, List.getElem?_eq_getElem (by rw [h.ok.len]; exact hB)⟩; have HA := Lib.hid (at_in h B hB); obtain ⟨c, ff⟩ := h.cell hs (j := 1) rfl; have h1 := zbr; have h2 := zbs; have HD := Lib.hid (die_any h d); cases hd : Y.dieB d with
   | false =>
    rw [hd] at HD; have HF := Lib.hid (show TalAt w g lb (Y.badN d (B : Int)) ∧ Keep (TalF g lb) w w by unfold Ty.badN; rw [hd]; exact ⟨h, Keep.refl _ _⟩); clear h hd hs hb; go_enter Tryz.func30, Tryz.ntmps30
    go_wp2_with fail
    refine HA.out.mono ?_; rintro e w1 ⟨rfl, rfl⟩; go_wp2_with fail
    refine HD.out.mono ?_; rintro e w1 ⟨rfl, rfl⟩; go_wp2_with fail
    go_end0
    exact ⟨rfl, HF.out⟩
   | true =>
    rw [hd] at HD; have hd' := hd; unfold Ty.dieB at hd'; simp at hd'; obtain ⟨o1, o2⟩ := or_in (h.ok.bad s (List.mem_of_getElem? hs)) hd'.1 (by have := h.ok.geo; omega); have HW := Lib.hid o1; have e : Y.badN d (B : Int) = { Y with sb := Y.sb.set B { s with bad := orN s.bad d } } := by unfold Ty.badN; rw [hd]; exact upd_in hs _
    have HF := Lib.hid (h.set hs (j := 1) (u := .int .i64 (orN s.bad d : Int)) (s' := { s with bad := orN s.bad d }) rfl (by omega) o2); rw [e]; clear h hd hd' o1 o2 hs hb e; go_enter Tryz.func30, Tryz.ntmps30
    go_wp2_with fail
    refine HA.out.mono ?_; rintro e w1 ⟨rfl, rfl⟩; go_wp2_with fail
    refine HD.out.mono ?_; rintro e w1 ⟨rfl, rfl⟩; go_wp2_with fail
    refine (with_any _ _ _).mono ?_; rw [HW.out]; rintro e w1 ⟨rfl, rfl⟩; go_wp2_with fail
    go_end0
    exact ⟨rfl, HF.out⟩
def geoV (D B P : Nat) : List Value := [.int .i64 (D : Int), .int .i64 (B : Int), .int .i64 (P : Int)]
set_option maxRecDepth 100000 in
theorem geo_any (h : TalAt w g lb Y) : Calls Tryz.prog 38 #[.pointer (some ⟨g, 0, none⟩)] w fun e w' => e = .returned (.agg (geoV Y.D Y.B Y.P).toArray) ∧ Below w.heap.size w w' := by
 have hnn := nonnil_eql
 have hr := (h.below (zax w (.cells #[.int .i64 0, .int .i64 0, .int .i64 0] 39))).geoR
 have hb := zax w (.cells #[.int .i64 0, .int .i64 0, .int .i64 0] 39)
 clear h
 go_enter Tryz.func38, Tryz.ntmps38
 go_wp2_with (first | (refine wpList_load_mid rfl 39 (.tmp 8) rfl g 0 rfl (geoV Y.D Y.B Y.P) _ hr Tryz.underlying39 rfl nand.geoInfo ?_) | (refine zai rfl 39 (.tmp 2) (.tmp 9) rfl w.heap.size (geoV Y.D Y.B Y.P) rfl rfl 39 _ (zak w _ _ rfl) nand.geoInfo rfl (by simp [geoV, Value.oneCell']) ?_; intro w5 hU5; have h5 := hU5.at_; have hb5 := hU5.below hb (Nat.le_refl _); clear hU5))
 refine bodyPost_ret (v := .agg (geoV Y.D Y.B Y.P).toArray) ?_ rfl ⟨rfl, hb5⟩
 rw [results_row1 rfl _ _ _ _ _ _ _ rfl h5 Tryz.underlying39 rfl nand.geoInfo]
end
end Go.Proofs.YtpbigfopmompfaaGreat.tal
namespace Go.Proofs.YtpbigfopmompfaaGreat
open Go.RowKit
set_option linter.unusedVariables false
theorem made_flat (zc : List Value) (n : Nat) (h0 : 0 < zc.length) : madeCells zc.toArray (n * zc.length) = ((List.replicate n zc).flatten).toArray := by
 have hl : ∀ r ∈ List.replicate n zc, r.length = zc.length := fun r hr => by rw [List.eq_of_mem_replicate hr]
 have hlen : (List.replicate n zc).flatten.length = n * zc.length := by rw [zbp hl, List.length_replicate]
 apply Array.ext'
 apply List.ext_getElem?
 intro p
 by_cases hp : p < n * zc.length
 · have hi : p / zc.length < n := by rw [Nat.div_lt_iff_lt_mul h0]; exact hp
   have hj : p % zc.length < zc.length := Nat.mod_lt _ h0; have e := zbd (C := zc.length) hl (i := p / zc.length) (j := p % zc.length) (r := zc) (by rw [List.getElem?_replicate, if_pos hi]) hj; rw [show p / zc.length * zc.length + p % zc.length = p by rw [Nat.mul_comm]; exact Nat.div_add_mod p _] at e; rw [e]; unfold madeCells; simp [hp, hj]
 · rw [List.getElem?_eq_none (by simp [madeCells]; omega), List.getElem?_eq_none (by rw [hlen]; omega)]
theorem run_make_rows {P : Program} (t e : TypeId) (z : Value) (zc : List Value) (C bytes : Nat) (ht : P.underlying t = some (.slice e)) (hinfo : (P.info? e).map (fun i => (i.zero, i.size, i.bytes)) = some (some z, C, bytes)) (hz : z.cells = zc.toArray) (hC : zc.length = C) (h0 : 0 < C)
 (n : Nat) (hbytes : bytes * n ≤ 281474976710656) (h63 : n ≤ 9223372036854775807) (w : World) :
 (Instr.makeSlice t (.int .i64 (n : Int)) (.int .i64 (n : Int))).run P w = .ok (.slice (some ⟨w.heap.size, 0, none⟩) n n) (w.alloc (.cells (List.replicate n zc).flatten.toArray e)) := by
 obtain ⟨i, hi, hz', hsize, hby⟩ := info_parts hinfo
 have hb' : (i.bytes : Int) * (n : Int) ≤ 281474976710656 := by
  have h : ((i.bytes * n : Nat) : Int) ≤ 281474976710656 := by rw [hby]; omega
  rwa [Int.natCast_mul] at h
 have hr := run_make (P := P) w t e i z ht hi hz' .i64 .i64 n n (by omega) (Int.le_refl _) hb' (by omega)
 simp only [Int.toNat_natCast, hsize, hz] at hr
 rw [← hC, made_flat zc n (by omega)] at hr
 exact hr
end Go.Proofs.YtpbigfopmompfaaGreat
namespace Go.Proofs.YtpbigfopmompfaaGreat.tal
open Go.RowKit
open Go.Proofs.YtpbigfopmompfaaGreat.nand (zax)
set_option linter.unusedVariables false
def Ty.new (D B P : Nat) : Ty := ⟨D, B, P, List.replicate B Sb.none, 0⟩
theorem Ty.new_ok {D B P : Nat} (h : 3 ≤ D ∧ D ≤ 6 ∧ 8 ≤ B ∧ B ≤ 16 ∧ 2 ≤ P ∧ P ≤ 8) : (Ty.new D B P).ok := ⟨h, by simp [Ty.new], by simp [Ty.new], fun s hs => by rw [List.eq_of_mem_replicate hs]; decide⟩
theorem sbInfo3 : (Tryz.prog.info? 104).map (fun i => (i.zero, i.size, i.bytes)) = some (some (.agg #[.int .i64 0, .int .i64 0, .bool false, .bool false]), 4, 24) := by kernel_rfl
theorem built_tally (D B P lb : Nat) : Tryz.prog.built 99 [(0, .agg #[.int .i64 (D : Int), .int .i64 (B : Int), .int .i64 (P : Int)]), (1, .slice (some ⟨lb, 0, none⟩) B B)] = some ((Ty.new D B P).head lb).toArray := by kernel_rfl
theorem made_sb (B : Nat) (hB : B ≤ 16) (w : World) : (Instr.makeSlice 97 (.int .i64 (B : Int)) (.int .i64 (B : Int))).run Tryz.prog w = .ok (.slice (some ⟨w.heap.size, 0, none⟩) B B) (w.alloc (.cells (rowsS (List.replicate B Sb.none)).flatten.toArray 104)) := by
 rw [show rowsS (List.replicate B Sb.none) = List.replicate B Sb.none.v by simp [rowsS]]
 exact run_make_rows 97 104 _ Sb.none.v 4 24 Tryz.underlying97 sbInfo3 rfl rfl (by omega) B (by omega) (by omega) w
set_option maxRecDepth 100000 in
set_option maxHeartbeats 4000000 in
theorem new_any (w : World) (D B P : Nat) (ok : 3 ≤ D ∧ D ≤ 6 ∧ 8 ≤ B ∧ B ≤ 16 ∧ 2 ≤ P ∧ P ≤ 8) : Calls Tryz.prog 20 #[.agg #[.int .i64 (D : Int), .int .i64 (B : Int), .int .i64 (P : Int)]] w fun e w' => ∃ g lb, e = .returned (.pointer (some ⟨g, 0, none⟩)) ∧ TalAt w' g lb (Ty.new D B P) ∧ w.heap.size ≤ g ∧ w.heap.size ≤ lb ∧ Below w.heap.size w w' := by
 have hb0 := zax w (.cells #[.int .i64 (D : Int), .int .i64 (B : Int), .int .i64 (P : Int)] 39)
 have hg0 := zak w (.cells #[.int .i64 (D : Int), .int .i64 (B : Int), .int .i64 (P : Int)] 39) _ rfl
 have hm : mayG (D : Int) (B : Int) (P : Int) = true := by simp [mayG, wiB]; omega
 have HM := Lib.hid (fun w => may_geo (D : Int) (B : Int) (P : Int) w)
 rw [hm] at HM
 have HMk := Lib.hid (made_sb B (by omega))
 have HBt := Lib.hid (built_tally D B P)
 have HOK := Lib.hid (Ty.new_ok ok)
 clear hm ok
 go_enter Tryz.func20, Tryz.ntmps20
 go_upto_region 1 with fail
 change Code.wp _ _ _ _ (w.alloc (.cells #[.int .i64 (D : Int), .int .i64 (B : Int), .int .i64 (P : Int)] 39))
 generalize w.alloc (.cells #[.int .i64 (D : Int), .int .i64 (B : Int), .int .i64 (P : Int)] 39) = wa at *
 have hr0 := zal (cs := [.int .i64 (D : Int), .int .i64 (B : Int), .int .i64 (P : Int)]) hg0
 go_wp2_with (first | (refine wpList_load_mid rfl 39 (.tmp 1) rfl w.heap.size 0 rfl [.int .i64 (D : Int), .int .i64 (B : Int), .int .i64 (P : Int)] _ hr0 Tryz.underlying39 rfl nand.geoInfo ?_))
 refine (HM.out _).mono ?_
 rintro e w1 ⟨rfl, hb⟩
 have hg1 := zad hg0 hb
 have HB := Lib.hid (hb0.trans (hb.mono hb0.size))
 have c0 : w1.cell? ⟨w.heap.size, 0, none⟩ = some (.int .i64 (D : Int)) := by rw [zaf hg1]; rfl
 have c1 : w1.cell? ⟨w.heap.size, 1, none⟩ = some (.int .i64 (B : Int)) := by rw [zaf hg1]; rfl
 have c2 : w1.cell? ⟨w.heap.size, 2, none⟩ = some (.int .i64 (P : Int)) := by rw [zaf hg1]; rfl
 clear hb0 hg0 hr0 hb hg1 HM
 go_upto_region 3 with fail
 have hmk := HMk.out
 have hbt := HBt.out
 have hw : w.heap.size < w1.heap.size := World.block_lt_of_cell? _ _ c0
 have HW := Lib.hid hw
 go_region
 all_goals
  go_wp2_with fail
  go_ret
  refine ⟨w1.heap.size + 1, w1.heap.size, rfl, ⟨HOK.out, ?_, ?_⟩, by have := HW.out; omega, by have := HW.out; omega, ?_⟩
  · exact zak (w1.alloc (.cells (rowsS (List.replicate B Sb.none)).flatten.toArray 104)) (.cells ((Ty.new D B P).head w1.heap.size).toArray 99) _ (by simp)
  · exact zbi w1 (.cells (rowsS (List.replicate B Sb.none)).flatten.toArray 104) (.cells ((Ty.new D B P).head w1.heap.size).toArray 99)
  · exact (HB.out.trans ((below2 w1 (.cells (rowsS (List.replicate B Sb.none)).flatten.toArray 104) (.cells ((Ty.new D B P).head w1.heap.size).toArray 99)).mono HB.out.size)).drew
theorem tnew_no (w : World) : Calls Tryz.prog 20 #[.agg #[.int .i64 0, .int .i64 0, .int .i64 0]] w fun e w' => e = .returned (.pointer none) ∧ Below w.heap.size w w' := by
 have hb0 := zax w (.cells #[.int .i64 0, .int .i64 0, .int .i64 0] 39)
 have hg0 := zak w (.cells #[.int .i64 0, .int .i64 0, .int .i64 0] 39) _ rfl
 have HM := Lib.hid (fun w => may_geo 0 0 0 w)
 rw [show mayG 0 0 0 = false from rfl] at HM
 go_enter Tryz.func20, Tryz.ntmps20
 go_upto_region 1 with fail
 change Code.wp _ _ _ _ (w.alloc (.cells #[.int .i64 0, .int .i64 0, .int .i64 0] 39))
 generalize w.alloc (.cells #[.int .i64 0, .int .i64 0, .int .i64 0] 39) = wa at *
 have hr0 := zal (cs := [.int .i64 0, .int .i64 0, .int .i64 0]) hg0
 go_wp2_with (first | (refine wpList_load_mid rfl 39 (.tmp 1) rfl w.heap.size 0 rfl [.int .i64 0, .int .i64 0, .int .i64 0] _ hr0 Tryz.underlying39 rfl nand.geoInfo ?_))
 refine (HM.out _).mono ?_
 rintro e w1 ⟨rfl, hb⟩
 have HB := Lib.hid (hb0.trans (hb.mono hb0.size))
 go_wp2_with fail
 go_ret
 exact ⟨rfl, HB.out⟩
end Go.Proofs.YtpbigfopmompfaaGreat.tal
namespace Go.Proofs.YtpbigfopmompfaaGreat.pick
open Go.RowKit
open Go.Proofs.YtpbigfopmompfaaGreat.tal
set_option linter.unusedVariables false
def someL (p : Nat → Bool) (op : Int) (k : Nat) : List Nat := (List.range k).filter fun b => decide ((b : Int) ≠ op) && p b
theorem someL_succ (p : Nat → Bool) (op : Int) (k : Nat) : someL p op (k + 1) = someL p op k ++ (if (decide ((k : Int) ≠ op) && p k) = true then [k] else []) := by
 unfold someL
 rw [List.range_succ, List.filter_append]
 congr 1
 simp only [List.filter_cons, List.filter_nil]
theorem someL_len (p : Nat → Bool) (op : Int) (k : Nat) : (someL p op k).length ≤ k := by
 have := List.length_filter_le (fun b => decide (((b : Nat) : Int) ≠ op) && p b) (List.range k)
 simpa [someL] using this
theorem field_b (a b c : Int) (W : World) : (Instr.field 39 (.agg #[.int .i64 a, .int .i64 b, .int .i64 c]) 1).run Tryz.prog W = .ok (.int .i64 b) W := by kernel_rfl
theorem field_d (a b c : Int) (W : World) : (Instr.field 39 (.agg #[.int .i64 a, .int .i64 b, .int .i64 c]) 0).run Tryz.prog W = .ok (.int .i64 a) W := by kernel_rfl
set_option maxRecDepth 100000 in
set_option maxHeartbeats 4000000 in
theorem some_any {w : World} {g lb : Nat} {Y : Ty} (h : TalAt w g lb Y) (fid : Nat) (cap : Array Value) (eg : ∀ args W, (callFunc fid args).run Tryz.prog W = .ok (.enter fid args) W) (op : Int) (p : Nat → Bool)
 (hp : ∀ b W, b < Y.B → Below w.heap.size w W → Calls Tryz.prog fid (#[.int .i64 (b : Int)] ++ cap) W fun e w' => e = .returned (.bool (p b)) ∧ Below W.heap.size W w') :
 Calls Tryz.prog 58 #[.pointer (some ⟨g, 0, none⟩), .int .i64 op, .func (.func fid) #[] cap] w fun e w' => ∃ v, e = .returned v ∧ w'.ownsRow w.heap.size 3 1 v (someL p op Y.B).length (nats .i64 (someL p op Y.B)) ∧ Below w.heap.size w w' := by
 have hgeo := Lib.hid (tal.geo_any h)
 have hB := h.ok.geo.2.2.2.1
 have HP := Lib.hid hp
 obtain ⟨N, hN⟩ : ∃ N, N = Y.B := ⟨_, rfl⟩
 rw [← hN] at hB HP ⊢
 have HE := Lib.hid (show geoV Y.D Y.B Y.P = [.int .i64 (Y.D : Int), .int .i64 (N : Int), .int .i64 (Y.P : Int)] from by rw [hN]; rfl)
 clear h hp hN
 have hfb := field_b
 go_enter Tryz.func58, Tryz.ntmps58
 go_wp2_with fail
 refine hgeo.out.mono ?_
 rintro e w1 ⟨rfl, hb1⟩
 rw [HE.out]
 go_wp2_with fail
 go_loopw [7, 12] (fun v i wr => ∃ k : Nat, k ≤ N ∧ i = .int .i64 k ∧ wr.ownsRow w.heap.size 3 1 v (someL p op k).length (nats .i64 (someL p op k)) ∧ Below w.heap.size w wr) (fun _ i _ => N - (intOf i).toNat)
 case atStart => exact ⟨0, by omega, rfl, World.ownsRow_nil _ _ _ _, hb1⟩
 case round =>
  obtain ⟨k, hk, rfl, hown, hbel⟩ := hrel; by_cases hlt : k < N
  · have hltI : (k : Int) < (N : Int) := by omega
    have hs := someL_succ p op k; have hln := someL_len p op k; obtain ⟨m, hm⟩ : ∃ m, m = (someL p op k).length := ⟨_, rfl⟩; rw [← hm] at hown hln; have HM := Lib.hid hm; have HC := Lib.hid (HP.out k wr hlt hbel); have HO := Lib.hid hown; have HB := Lib.hid hbel; by_cases hop : (k : Int) = op
    · have HS := Lib.hid (show someL p op (k + 1) = someL p op k by rw [hs]; simp [hop])
      have hq : ((k : Int) != op) = false := by simpa using hop
      clear hs hm hown hbel hop; go_wp2_with fail
      go_roundw
      case rel => exact ⟨k + 1, by omega, by go_num, by rw [HS.out, ← HM.out]; exact HO.out, HB.out⟩
      case measure => simp [intOf]; omega
    · have hq : ((k : Int) != op) = true := by simpa using hop
      obtain ⟨pk, hpk⟩ : ∃ pk, pk = p k := ⟨_, rfl⟩; rw [← hpk] at HC hs; have HS := Lib.hid (show someL p op (k + 1) = someL p op k ++ (if pk = true then [k] else []) by rw [hs]; simp [hop]); clear hs hm hown hbel hop hpk; go_wp2_with fail
      refine HC.out.mono ?_; rintro e w2 ⟨rfl, hb2⟩; have hbel2 := HB.out.trans (hb2.mono HB.out.size); have hown2 := zb6 HO.out hb2; cases pk with
      | false =>
       have HS1 := Lib.hid (show someL p op (k + 1) = someL p op k from by simpa using HS.out); clear HS; have HO2 := Lib.hid hown2; have HB2 := Lib.hid hbel2; clear hown2 hbel2 hb2; go_wp2_with fail
       go_roundw
       case rel => exact ⟨k + 1, by omega, by go_num, by rw [HS1.out, ← HM.out]; exact HO2.out, HB2.out⟩
       case measure => simp [intOf]; omega
      | true =>
       have HS1 := Lib.hid (show someL p op (k + 1) = someL p op k ++ [k] from by simpa using HS.out); clear HS; have hs2 := hbel2.size; clear hb2; go_wp2_with (first | (at_builtin; go_must (refine zbm rfl (.tmp 23) (.tmp 25) 53 rfl 3 _ _ Tryz.underlying53 intInfo rfl hown2 hbel2 rfl rfl rfl (by unfold maxLen; omega) (by omega) hs2 (Nat.le_refl _) ?_)))
       intro v8 w8 hown8 hb8 hgr8 _; have HO8 := Lib.hid (show w8.ownsRow w.heap.size 3 1 v8 (m + 1) (nats .i64 (someL p op k ++ [k])) by have := hown8; rw [show nats .i64 (someL p op k ++ [k]) = nats .i64 (someL p op k) ++ [.int .i64 (k : Int)] by simp [nats]]; exact this); have HB8 := Lib.hid hb8; clear hown8 hb8 hgr8 hbel2 hown2 hs2; go_wp2_with fail
       go_roundw
       case rel => exact ⟨k + 1, by omega, by go_num, by rw [HS1.out, List.length_append, ← HM.out]; exact HO8.out, HB8.out⟩
       case measure => simp [intOf]; omega
  · obtain rfl : k = N := by omega
    have HO := Lib.hid hown; have HB := Lib.hid hbel; clear hown hbel; go_wp2_with fail
    go_ret
    exact ⟨_, rfl, HO.out, HB.out⟩
def minL (ord : Nat → Nat → Int) : List Nat → Nat
 | [] => 0
 | x :: l => l.foldl (fun m y => if ord y m < 0 then y else m) x
theorem minL_step (ord : Nat → Nat → Int) (l : List Nat) (k : Nat) (h1 : 1 ≤ k) (hk : k < l.length) : minL ord (l.take (k + 1)) = if ord (l.getD k 0) (minL ord (l.take k)) < 0 then l.getD k 0 else minL ord (l.take k) := by
 match l, k, h1 with
 | x :: l, k + 1, _ =>
  have hk' : k < l.length := by simpa using hk
  rw [List.take_succ_cons, List.take_succ_cons]; unfold minL; dsimp only
  rw [List.take_add_one, List.foldl_append, List.getElem?_eq_getElem hk']; simp [List.getD, hk']
def leastI (ord : Nat → Nat → Int) (l : List Nat) : Int := if l = [] then -1 else (minL ord l : Int)
set_option maxRecDepth 100000 in
set_option maxHeartbeats 4000000 in
theorem min_any {w : World} {A : Option Addr} {n c : Nat} {l : List Nat} (hl : l.length = n) (hr : Rd w w.heap.size A n (nats .i64 l)) (h0 : 0 < n) (hn : n ≤ 65536) (hx : ∀ x ∈ l, x ≤ 65536) (fid : Nat) (cap : Array Value) (eg : ∀ args W, (callFunc fid args).run Tryz.prog W = .ok (.enter fid args) W) (ord : Nat → Nat → Int)
 (ho : ∀ a b W, a ≤ 65536 → b ≤ 65536 → Below w.heap.size w W → Calls Tryz.prog fid (#[.int .i64 (a : Int), .int .i64 (b : Int)] ++ cap) W fun e w' => e = .returned (.int .i64 (ord a b)) ∧ Below W.heap.size W w') :
 Calls Tryz.prog 91 #[.slice A n c, .func (.func fid) #[] cap] w fun e w' => e = .returned (.int .i64 (minL ord l : Int)) ∧ Below w.heap.size w w' := by
 obtain ⟨B, o, rfl, hB, -⟩ := hr.at_ h0
 have hcell : ∀ k (hk : k < n), w.cell? ⟨B, o + k, none⟩ = some (.int .i64 ((l.getD k 0 : Nat) : Int)) := by
  intro k hk; obtain ⟨b', o', e, -, hc⟩ := hr.at_ hk; cases e
  rw [hc, nats, List.getElem?_map, List.getElem?_eq_getElem (by omega)]; simp [List.getD, List.getElem?_eq_getElem (show k < l.length by omega)]
 have HC := Lib.hid hcell
 have HO := Lib.hid ho
 have h00 := hcell 0 h0
 rw [Nat.add_zero] at h00
 have HL := Lib.hid hl
 have hle : ∀ k (hk : k < n), l.getD k 0 ≤ 65536 := fun k hk => hx _ (by simp [List.getD, List.getElem?_eq_getElem (show k < l.length by omega)])
 have HLE := Lib.hid hle
 have HS := Lib.hid (show ∀ k, 1 ≤ k → (hk : k < n) → minL ord (l.take (k + 1)) = if ord (l.getD k 0) (minL ord (l.take k)) < 0 then l.getD k 0 else minL ord (l.take k) from fun k h1 hk => minL_step ord l k h1 (by omega))
 have h1e : minL ord (l.take 1) = l.getD 0 0 := by
  match l, hl with
  | x :: l, _ => rfl
  | [], hl => simp at hl; omega
 have HF := Lib.hid (show minL ord (l.take n) = minL ord l by rw [List.take_of_length_le (by omega)])
 have H1 := Lib.hid h1e
 have hl0 := hle 0 h0
 have hge1 : ¬ (n : Int) < 1 := by omega
 clear hcell ho hr hx hl hle h1e
 generalize l.getD 0 0 = x0 at *
 go_enter Tryz.func91, Tryz.ntmps91
 go_wp2_with fail
 go_loopw [5, 6] (fun vm vi wr => ∃ k : Nat, 1 ≤ k ∧ k ≤ n ∧ vi = .int .i64 k ∧ (∃ m : Nat, vm = .int .i64 m ∧ m = minL ord (l.take k) ∧ m ≤ 65536) ∧ Below w.heap.size w wr) (fun _ i _ => n - (intOf i).toNat)
 case atStart => exact ⟨1, by omega, by omega, rfl, ⟨x0, rfl, by rw [H1.out], hl0⟩, Below.refl _ _⟩
 case round =>
  obtain ⟨k, hk1, hk, rfl, ⟨m, rfl, hm, hm2⟩, hbel⟩ := hrel; by_cases hlt : k < n
  · have hltI : (k : Int) < (n : Int) := by omega
    have hck : wr.cell? ⟨B, o + k, none⟩ = some (.int .i64 ((l.getD k 0 : Nat) : Int)) := (hbel.cell (p := ⟨B, o + k, none⟩) hB).trans (HC.out k hlt); have hlk := HLE.out k hlt; have hs := HS.out k hk1 hlt; generalize l.getD k 0 = x at hck hlk hs; rw [← hm] at hs; have HCx := Lib.hid (HO.out x m wr hlk hm2 hbel); have HB := Lib.hid hbel; have HSx := Lib.hid hs; clear hm hbel hs h00; obtain ⟨r, hr⟩ : ∃ r, r = ord x m := ⟨_, rfl⟩; rw [← hr] at HCx HSx; clear hr; go_wp2_with fail
    refine HCx.out.mono ?_; rintro e w2 ⟨rfl, hb2⟩; have hbel2 := HB.out.trans (hb2.mono HB.out.size); have hck2 : w2.cell? ⟨B, o + k, none⟩ = some (.int .i64 (x : Int)) := (hb2.cell (p := ⟨B, o + k, none⟩) (show B < wr.heap.size by have := HB.out.size; omega)).trans hck; have HB2 := Lib.hid hbel2; clear hb2 hbel2 hck; by_cases hr : r < 0
    · have HS1 := Lib.hid (show minL ord (l.take (k + 1)) = x by rw [HSx.out, if_pos hr])
      clear HSx; go_wp2_with fail
      go_roundw
      case rel => exact ⟨k + 1, by omega, by omega, by go_num, ⟨x, rfl, HS1.out.symm, hlk⟩, HB2.out⟩
      case measure => simp [intOf]; omega
    · have HS1 := Lib.hid (show minL ord (l.take (k + 1)) = m by rw [HSx.out, if_neg hr])
      clear HSx; go_wp2_with fail
      go_roundw
      case rel => exact ⟨k + 1, by omega, by omega, by go_num, ⟨m, rfl, HS1.out.symm, hm2⟩, HB2.out⟩
      case measure => simp [intOf]; omega
  · obtain rfl : k = n := by omega
    rw [HF.out] at hm; have HB := Lib.hid hbel; have HM := Lib.hid hm; clear hm hbel h00; go_wp2_with fail
    go_ret
    exact ⟨by rw [← HM.out]; rfl, HB.out⟩
end Go.Proofs.YtpbigfopmompfaaGreat.pick
namespace Go.Proofs.YtpbigfopmompfaaGreat.pick
open Go.RowKit
open Go.Proofs.YtpbigfopmompfaaGreat.tal
set_option linter.unusedVariables false
set_option maxRecDepth 100000 in
theorem least_any {w : World} {base m : Nat} {v : Value} {l : List Nat} (ho : w.ownsRow base 3 1 v m (nats .i64 l)) (hm : l.length = m) (hn : m ≤ 65536) (hx : ∀ x ∈ l, x ≤ 65536) (fid : Nat) (cap : Array Value) (eg : ∀ args W, (callFunc fid args).run Tryz.prog W = .ok (.enter fid args) W) (ord : Nat → Nat → Int)
 (hor : ∀ a b W, a ≤ 65536 → b ≤ 65536 → Below w.heap.size w W → Calls Tryz.prog fid (#[.int .i64 (a : Int), .int .i64 (b : Int)] ++ cap) W fun e w' => e = .returned (.int .i64 (ord a b)) ∧ Below W.heap.size W w') :
 Calls Tryz.prog 53 #[v, .func (.func fid) #[] cap] w fun e w' => e = .returned (.int .i64 (leastI ord l)) ∧ Below w.heap.size w w' := by
 by_cases h0 : 0 < m
 · obtain ⟨A, c, rfl⟩ : ∃ A c, v = .slice A m c := by
    rcases ho.2 with ⟨e, h⟩ | ⟨g, cp, cur, e, -⟩
    · omega
    · exact ⟨_, _, e⟩
   have HM := Lib.hid (min_any (c := c) hm (Rd.of_own ho) h0 hn hx fid cap eg ord hor)
   have hq : ((m : Int) == 0) = false := by
    have : ¬ (m : Int) = 0 := by omega
    simpa using this
   have HE := Lib.hid (show leastI ord l = (minL ord l : Int) by unfold leastI; rw [if_neg (by intro e; rw [e] at hm; simp at hm; omega)]); clear ho hx hor hm; go_enter Tryz.func53, Tryz.ntmps53
   go_wp2_with fail
   refine HM.out.mono ?_; rintro e w1 ⟨rfl, hb1⟩; have HB := Lib.hid hb1; clear hb1; go_wp2_with fail
   go_ret
   exact ⟨by rw [HE.out]; rfl, HB.out⟩
 · obtain rfl : m = 0 := by omega
   have hl0 : l = [] := List.eq_nil_of_length_eq_zero hm; have HE := Lib.hid (show leastI ord l = -1 by rw [hl0]; rfl)
   obtain ⟨A, c, rfl⟩ : ∃ A c, v = .slice A 0 c := by
    rcases ho.2 with ⟨e, h⟩ | ⟨g, cp, cur, e, -⟩
    · exact ⟨_, _, e⟩
    · exact ⟨_, _, e⟩
   clear ho hx hor hm hl0 h0; go_enter Tryz.func53, Tryz.ntmps53
   go_wp2_with fail
   go_ret
   exact ⟨by rw [HE.out]; rfl, Below.refl _ _⟩
set_option maxRecDepth 100000 in
set_option maxHeartbeats 4000000 in
theorem idx_any {w : World} {A : Option Addr} {n c : Nat} {l : List Nat} (hl : l.length = n) (hr : Rd w w.heap.size A n (nats .i64 l)) (hn : n ≤ 65536) (hx : ∀ x ∈ l, x ≤ 65536) (fid : Nat) (cap : Array Value) (eg : ∀ args W, (callFunc fid args).run Tryz.prog W = .ok (.enter fid args) W) (p : Nat → Bool)
 (hp : ∀ a W, a ≤ 65536 → Below w.heap.size w W → Calls Tryz.prog fid (#[.int .i64 (a : Int)] ++ cap) W fun e w' => e = .returned (.bool (p a)) ∧ Below W.heap.size W w') :
 Calls Tryz.prog 94 #[.slice A n c, .func (.func fid) #[] cap] w fun e w' => ∃ r : Int, e = .returned (.int .i64 r) ∧ decide (0 ≤ r) = l.any p ∧ -1 ≤ r ∧ r ≤ 65536 ∧ Below w.heap.size w w' := by
 have hcell : ∀ k (hk : k < n), ∃ B o, A = some ⟨B, o, none⟩ ∧ B < w.heap.size ∧ w.cell? ⟨B, o + k, none⟩ = some (.int .i64 ((l.getD k 0 : Nat) : Int)) := by
  intro k hk; obtain ⟨b', o', e, hb, hc⟩ := hr.at_ hk; refine ⟨b', o', e, hb, ?_⟩; rw [hc, nats, List.getElem?_map, List.getElem?_eq_getElem (by omega)]; simp [List.getD, List.getElem?_eq_getElem (show k < l.length by omega)]
 have HC := Lib.hid hcell
 have HP := Lib.hid hp
 have HL := Lib.hid hl
 have HLE := Lib.hid (show ∀ k (hk : k < n), l.getD k 0 ≤ 65536 from fun k hk => hx _ (by simp [List.getD, List.getElem?_eq_getElem (show k < l.length by omega)]))
 have HT := Lib.hid (show ∀ k, k < n → (l.take (k + 1)).any p = ((l.take k).any p || p (l.getD k 0)) from fun k hk => by
  rw [List.take_add_one, List.any_append, List.getElem?_eq_getElem (by omega)]; simp [List.getD, List.getElem?_eq_getElem (show k < l.length by omega)])
 have HT1 := Lib.hid (show ∀ k, k < n → p (l.getD k 0) = true → l.any p = true from fun k hk h => by
  rw [List.any_eq_true]; exact ⟨l.getD k 0, by simp [List.getD, List.getElem?_eq_getElem (show k < l.length by omega)], h⟩)
 have HTn := Lib.hid (show (l.take n).any p = l.any p by rw [List.take_of_length_le (by omega)])
 clear hcell hp hx hr hl
 go_enter Tryz.func94, Tryz.ntmps94
 go_wp2_with fail
 go_loopw [8] (fun vi wr => ∃ k : Nat, k ≤ n ∧ vi = .int .i64 k ∧ (l.take k).any p = false ∧ Below w.heap.size w wr) (fun i _ => n - (intOf i).toNat)
 case atStart => exact ⟨0, by omega, rfl, by simp, Below.refl _ _⟩
 case round =>
  obtain ⟨k, hk, rfl, hno, hbel⟩ := hrel; by_cases hlt : k < n
  · have hltI : (k : Int) < (n : Int) := by omega
    obtain ⟨B, o, rfl, hB, hc⟩ := HC.out k hlt; have hck : wr.cell? ⟨B, o + k, none⟩ = some (.int .i64 ((l.getD k 0 : Nat) : Int)) := (hbel.cell (p := ⟨B, o + k, none⟩) hB).trans hc; have hlk := HLE.out k hlt; have hs := HT.out k hlt; have hs1 := HT1.out k hlt; generalize l.getD k 0 = x at hck hlk hs hs1; rw [hno, Bool.false_or] at hs; have HCx := Lib.hid (HP.out x wr hlk hbel); have HB := Lib.hid hbel; obtain ⟨px, hpx⟩ : ∃ px, px = p x := ⟨_, rfl⟩; rw [← hpx] at HCx hs hs1; have HSx := Lib.hid hs; have HSx1 := Lib.hid hs1; clear hbel hs hs1 hc hno hpx; go_wp2_with fail
    refine HCx.out.mono ?_; rintro e w2 ⟨rfl, hb2⟩; have HB2 := Lib.hid (HB.out.trans (hb2.mono HB.out.size)); clear hb2; cases px with
    | true =>
     have HA := Lib.hid (HSx1.out rfl); clear HSx HSx1; go_wp2_with fail
     go_ret
     exact ⟨(k : Int), rfl, by rw [HA.out]; simp, by omega, by omega, HB2.out⟩
    | false =>
     have HS := Lib.hid (show (l.take (k + 1)).any p = false from HSx.out); clear HSx HSx1; go_wp2_with fail
     go_roundw
     case rel => exact ⟨k + 1, by omega, by go_num, HS.out, HB2.out⟩
     case measure => simp [intOf]; omega
  · obtain rfl : k = n := by omega
    rw [HTn.out] at hno; have HN := Lib.hid hno; have HB := Lib.hid hbel; clear hno hbel; go_wp2_with fail
    go_ret
    exact ⟨-1, rfl, by rw [HN.out]; rfl, by omega, by omega, HB.out⟩
set_option maxRecDepth 100000 in
theorem contains_any {w : World} {A : Option Addr} {n c : Nat} {l : List Nat} (hl : l.length = n) (hr : Rd w w.heap.size A n (nats .i64 l)) (hn : n ≤ 65536) (hx : ∀ x ∈ l, x ≤ 65536) (fid : Nat) (cap : Array Value) (eg : ∀ args W, (callFunc fid args).run Tryz.prog W = .ok (.enter fid args) W) (p : Nat → Bool)
 (hp : ∀ a W, a ≤ 65536 → Below w.heap.size w W → Calls Tryz.prog fid (#[.int .i64 (a : Int)] ++ cap) W fun e w' => e = .returned (.bool (p a)) ∧ Below W.heap.size W w') :
 Calls Tryz.prog 63 #[.slice A n c, .func (.func fid) #[] cap] w fun e w' => e = .returned (.bool (l.any p)) ∧ Below w.heap.size w w' := by
 have HM := Lib.hid (idx_any (c := c) hl hr hn hx fid cap eg p hp)
 generalize l.any p = t at *
 clear hl hr hn hx hp
 go_enter Tryz.func63, Tryz.ntmps63
 go_wp2_with fail
 refine HM.out.mono ?_
 rintro e w1 ⟨r, rfl, ht, h1, h2, hb1⟩
 have HB := Lib.hid hb1
 have HT := Lib.hid ht
 clear hb1 ht
 go_wp2_with fail
 go_ret
 exact ⟨by rw [← HT.out]; rfl, HB.out⟩
end Go.Proofs.YtpbigfopmompfaaGreat.pick
namespace Go.Proofs.YtpbigfopmompfaaGreat.pick
open Go.RowKit
open Go.Proofs.YtpbigfopmompfaaGreat.tal
set_option linter.unusedVariables false
structure View (w : World) (g lb : Nat) (Y : Ty) (h mb cb n : Nat) (T : tab.Tb) : Prop where
 tal : TalAt w g lb Y
 tab : tab.TabAt w h mb cb n T
theorem small_wf {b : Nat} (hb : b ≤ 65536) : wfI (b : Int) := by unfold wfI; simp [Lit.wf, IntKind.min, IntKind.max, IntKind.bits, IntKind.signed]; omega
theorem eq0 (c : Nat) : ((c : Int) == 0) = decide (c = 0) := by rw [Bool.eq_iff_iff]; simp
section
variable {w : World} {g lb h mb cb n xt xl : Nat} {Y : Ty} {T : tab.Tb}
theorem View.below (v : View w g lb Y h mb cb n T) {w' : World} (hb : Below w.heap.size w w') : View w' g lb Y h mb cb n T := ⟨v.tal.below hb, v.tab.below hb⟩
def cntOf (T : tab.Tb) (b : Nat) : Nat := tab.cntE T.f (b : Int)
def freeP (Y : Ty) (T : tab.Tb) (b : Nat) : Bool := Y.usable b && Y.blank b && decide (cntOf T b = 0)
def spentP (Y : Ty) (T : tab.Tb) (b : Nat) : Bool := Y.usable b && !Y.blank b && !Y.held b && decide (cntOf T b = 0)
def victP (Y : Ty) (T : tab.Tb) (b : Nat) : Bool := decide (0 < cntOf T b) && !Y.held b
set_option maxRecDepth 100000 in
theorem free1 (v : View w g lb Y h mb cb n T) (b : Nat) (hb : b ≤ 65536) (ct : w.cell? ⟨xt, 0, none⟩ = some (.pointer (some ⟨g, 0, none⟩))) (cl : w.cell? ⟨xl, 0, none⟩ = some (.pointer (some ⟨h, 0, none⟩))) :
 Calls Tryz.prog 92 #[.int .i64 (b : Int), .pointer (some ⟨xt, 0, none⟩), .pointer (some ⟨xl, 0, none⟩)] w fun e w' => e = .returned (.bool (freeP Y T b)) ∧ Below w.heap.size w w' := by
 have HU := Lib.hid (usable_any v.tal b)
 have HV := Lib.hid (fun k => tal.blank_any (v.tal.below (zau (Below.refl _ w) k)) (b : Int))
 have HC := Lib.hid (fun k => tab.zb8 (v.tab.drewN k) (b : Int) (small_wf hb))
 have hc : tab.cntE T.f (b : Int) = cntOf T b := rfl
 rw [hc] at HC
 have HE := Lib.hid (show freeP Y T b = (Y.usable b && Y.blank b && decide (cntOf T b = 0)) from rfl)
 clear v hc
 generalize Y.usable (b : Int) = u at *
 generalize Y.blank (b : Int) = bl at *
 generalize cntOf T b = c at *
 go_enter Tryz.func92, Tryz.ntmps92
 go_wp2_with fail
 refine HU.out.mono ?_
 rintro e w1 ⟨rfl, k, rfl⟩
 cases u with
 | false =>
  go_wp2_with fail
  go_ret
  exact ⟨by rw [HE.out]; rfl, zau (Below.refl _ _) _⟩
 | true =>
  go_wp2_with fail
  refine (HV.out k).mono ?_; rintro e w2 ⟨rfl, rfl⟩; cases bl with
  | false =>
   go_wp2_with fail
   go_ret
   exact ⟨by rw [HE.out]; rfl, zau (Below.refl _ _) _⟩
  | true =>
   go_wp2_with fail
   refine (HC.out k).mono ?_; rintro e w2 ⟨rfl, rfl⟩; go_wp2_with fail
   go_ret
   exact ⟨by rw [HE.out, ← eq0]; rfl, zau (Below.refl _ _) _⟩
set_option maxRecDepth 100000 in
theorem spent1 (v : View w g lb Y h mb cb n T) (b : Nat) (hb : b ≤ 65536) (ct : w.cell? ⟨xt, 0, none⟩ = some (.pointer (some ⟨g, 0, none⟩))) (cl : w.cell? ⟨xl, 0, none⟩ = some (.pointer (some ⟨h, 0, none⟩))) :
 Calls Tryz.prog 69 #[.int .i64 (b : Int), .pointer (some ⟨xt, 0, none⟩), .pointer (some ⟨xl, 0, none⟩)] w fun e w' => e = .returned (.bool (spentP Y T b)) ∧ Below w.heap.size w w' := by
 have HU := Lib.hid (usable_any v.tal b)
 have HV := Lib.hid (fun k => tal.blank_any (v.tal.below (zau (Below.refl _ w) k)) (b : Int))
 have HH := Lib.hid (fun k => tal.held_any (v.tal.below (zau (Below.refl _ w) k)) (b : Int))
 have HC := Lib.hid (fun k => tab.zb8 (v.tab.drewN k) (b : Int) (small_wf hb))
 have hc : tab.cntE T.f (b : Int) = cntOf T b := rfl
 rw [hc] at HC
 have HE := Lib.hid (show spentP Y T b = (Y.usable b && !Y.blank b && !Y.held b && decide (cntOf T b = 0)) from rfl)
 clear v hc
 generalize Y.usable (b : Int) = u at *
 generalize Y.blank (b : Int) = bl at *
 generalize Y.held (b : Int) = he at *
 generalize cntOf T b = c at *
 go_enter Tryz.func69, Tryz.ntmps69
 go_wp2_with fail
 refine HU.out.mono ?_
 rintro e w1 ⟨rfl, k, rfl⟩
 cases u with
 | false =>
  go_wp2_with fail
  go_ret
  exact ⟨by rw [HE.out]; rfl, zau (Below.refl _ _) _⟩
 | true =>
  go_wp2_with fail
  refine (HV.out k).mono ?_; rintro e w2 ⟨rfl, rfl⟩; cases bl with
  | true =>
   go_wp2_with fail
   go_ret
   exact ⟨by rw [HE.out]; rfl, zau (Below.refl _ _) _⟩
  | false =>
   go_wp2_with fail
   refine (HH.out k).mono ?_; rintro e w2 ⟨rfl, rfl⟩; cases he with
   | true =>
    go_wp2_with fail
    go_ret
    exact ⟨by rw [HE.out]; rfl, zau (Below.refl _ _) _⟩
   | false =>
    go_wp2_with fail
    refine (HC.out k).mono ?_; rintro e w2 ⟨rfl, rfl⟩; go_wp2_with fail
    go_ret
    exact ⟨by rw [HE.out, ← eq0]; rfl, zau (Below.refl _ _) _⟩
set_option maxRecDepth 100000 in
theorem vict1 (v : View w g lb Y h mb cb n T) (b : Nat) (hb : b ≤ 65536) (ct : w.cell? ⟨xt, 0, none⟩ = some (.pointer (some ⟨g, 0, none⟩))) (cl : w.cell? ⟨xl, 0, none⟩ = some (.pointer (some ⟨h, 0, none⟩))) :
 Calls Tryz.prog 59 #[.int .i64 (b : Int), .pointer (some ⟨xl, 0, none⟩), .pointer (some ⟨xt, 0, none⟩)] w fun e w' => e = .returned (.bool (victP Y T b)) ∧ Below w.heap.size w w' := by
 have HH := Lib.hid (tal.held_any v.tal (b : Int))
 have HC := Lib.hid (tab.zb8 v.tab (b : Int) (small_wf hb))
 have hc : tab.cntE T.f (b : Int) = cntOf T b := rfl
 rw [hc] at HC
 have HE := Lib.hid (show victP Y T b = (decide (0 < cntOf T b) && !Y.held b) from rfl)
 clear v hc
 generalize Y.held (b : Int) = he at *
 generalize cntOf T b = c at *
 go_enter Tryz.func59, Tryz.ntmps59
 go_wp2_with fail
 refine HC.out.mono ?_
 rintro e w1 ⟨rfl, rfl⟩
 by_cases h0 : 0 < c
 · have HD := Lib.hid (show decide (0 < c) = true by simpa using h0)
   have hI : (0 : Int) < (c : Int) := by omega
   go_wp2_with fail
   refine HH.out.mono ?_; rintro e w2 ⟨rfl, rfl⟩; go_wp2_with fail
   go_ret
   exact ⟨by rw [HE.out, HD.out]; cases he <;> rfl, Below.refl _ _⟩
 · have HD := Lib.hid (show decide (0 < c) = false by simpa using h0)
   have hI : (c : Int) ≤ 0 := by omega
   go_wp2_with fail
   go_ret
   exact ⟨by rw [HE.out, HD.out]; rfl, Below.refl _ _⟩
def wearOrd (Y : Ty) (a b : Nat) : Int := cmpI (Y.wear a) (Y.wear b)
set_option maxRecDepth 100000 in
theorem open1 (v : View w g lb Y h mb cb n T) (a b : Nat) (ct : w.cell? ⟨xt, 0, none⟩ = some (.pointer (some ⟨g, 0, none⟩))) :
 Calls Tryz.prog 55 #[.int .i64 (a : Int), .int .i64 (b : Int), .pointer (some ⟨xt, 0, none⟩)] w fun e w' => e = .returned (.int .i64 (wearOrd Y a b)) ∧ Below w.heap.size w w' := by
 have HW := Lib.hid (fun k (x : Int) => tal.wear_any (v.tal.below (zau (Below.refl _ w) k)) x)
 have HW1 := Lib.hid (fun (x : Int) => tal.wear_any v.tal.drew x)
 have HE := Lib.hid (show wearOrd Y a b = cmpI (Y.wear a) (Y.wear b) from rfl)
 clear v
 go_enter Tryz.func55, Tryz.ntmps55
 go_wp2_with fail
 go_quiet (first | (go_at_call 23; exact Calls.quiet_of_same ((HW.out _ _).mono fun _ _ h => ⟨h.1, h.2.symm⟩)) | (go_at_call 56; exact Calls.quiet_of_same ((cmp_any _ _ _).mono fun _ _ h => ⟨h.1, h.2.symm⟩)))
 go_wp2_with fail
 go_ret
 exact ⟨by rw [HE.out]; rfl, zau (Below.refl _ _) _⟩
end
end Go.Proofs.YtpbigfopmompfaaGreat.pick
namespace Go.Proofs.YtpbigfopmompfaaGreat.pick
open Go.RowKit
open Go.Proofs.YtpbigfopmompfaaGreat.tal
set_option linter.unusedVariables false
set_option maxRecDepth 100000 in
theorem or2_any (g : Nat) (x y : Int) (w : World) (h : w.heap[g]? = some (.cells #[.int .i64 x, .int .i64 y] 3 (0, 0))) :
 Calls Tryz.prog 61 #[.slice (some ⟨g, 0, none⟩) 2 2] w fun e w' => e = .returned (.int .i64 (orI [x, y])) ∧ w = w' := by
 have c0 : w.cell? ⟨g, 0, none⟩ = some (.int .i64 x) := by rw [zaf h]; rfl
 have c1 : w.cell? ⟨g, 1, none⟩ = some (.int .i64 y) := by rw [zaf h]; rfl
 unfold orI orI orI
 clear h
 go_enter Tryz.func61, Tryz.ntmps61
 go_wp2_with fail
 go_loop [8] (fun i => ∃ k : Nat, k ≤ 2 ∧ i = .int .i64 k ∧ (0 < k → x = 0) ∧ (1 < k → y = 0)) (fun i => 2 - (intOf i).toNat)
 case atStart => exact ⟨0, by omega, rfl, by omega, by omega⟩
 case round =>
  obtain ⟨k, hk, rfl, h0, h1⟩ := hrel; rcases (show k = 0 ∨ k = 1 ∨ k = 2 by omega) with rfl | rfl | rfl
  · by_cases hx : x = 0
    · subst hx
      go_wp2
      go_round
      case rel => exact ⟨1, by omega, rfl, by simp, by omega⟩
      case measure => simp [intOf]
    · clear h0 h1
      go_wp2
      go_ret
      exact ⟨by first | rfl | (rw [if_neg hx]; rfl) | (simp; rfl), rfl⟩
  · obtain rfl := h0 (by omega)
    by_cases hx : y = 0
    · subst hx
      go_wp2
      go_round
      case rel => exact ⟨2, by omega, rfl, by simp, by simp⟩
      case measure => simp [intOf]
    · clear h0 h1
      go_wp2
      go_ret
      exact ⟨by first | rfl | (rw [if_neg hx]; rfl) | (simp; rfl), rfl⟩
  · obtain rfl := h0 (by omega)
    obtain rfl := h1 (by omega); clear h0 h1; go_wp2
    go_ret
    exact ⟨by first | rfl | (simp; rfl), rfl⟩
section
variable {w : World} {g lb h mb cb n xt xl : Nat} {Y : Ty} {T : tab.Tb}
def victOrd (Y : Ty) (T : tab.Tb) (a b : Nat) : Int := orI [cmpI (cntOf T a : Int) (cntOf T b : Int), cmpI (Y.wear a) (Y.wear b)]
set_option maxRecDepth 100000 in
set_option maxHeartbeats 4000000 in
theorem vict2 (v : View w g lb Y h mb cb n T) (x y : Nat) (hsx : x ≤ 65536) (hsy : y ≤ 65536) (hbxt : xt < w.heap.size) (hbxl : xl < w.heap.size) (ct : w.cell? ⟨xt, 0, none⟩ = some (.pointer (some ⟨g, 0, none⟩))) (cl : w.cell? ⟨xl, 0, none⟩ = some (.pointer (some ⟨h, 0, none⟩))) :
 Calls Tryz.prog 60 #[.int .i64 (x : Int), .int .i64 (y : Int), .pointer (some ⟨xl, 0, none⟩), .pointer (some ⟨xt, 0, none⟩)] w fun e w' => e = .returned (.int .i64 (victOrd Y T x y)) ∧ Below w.heap.size w w' := by
 go_enter Tryz.func60, Tryz.ntmps60
 go_upto_region 1 with fail
 refine zan (by kernel_rfl) (by kernel_rfl) (X := Unit) (fun _ => [(some 7, .pointer (some ⟨h, 0, none⟩)), (some 8, .int .i64 (x : Int)), (some 9, .int .i64 (tab.cntE T.f (x : Int) : Int)), (some 10, .pointer (some ⟨h, 0, none⟩)), (some 11, .int .i64 (y : Int)), (some 12, .int .i64 (tab.cntE T.f (y : Int) : Int)), (some 13, .int .i64 (cmpI (tab.cntE T.f (x : Int) : Int) (tab.cntE T.f (y : Int) : Int))), (some 14, .pointer (some ⟨g, 0, none⟩)), (some 15, .int .i64 (x : Int)), (some 16, .int .i64 (Y.wear x)), (some 17, .pointer (some ⟨g, 0, none⟩)), (some 18, .int .i64 (y : Int)), (some 19, .int .i64 (Y.wear y)), (some 20, .int .i64 (cmpI (Y.wear x) (Y.wear y))), (some 21, .slice (some ⟨w.heap.size, 0, none⟩) 2 2), (some 22, .int .i64 (victOrd Y T x y)), (some 6, .int .i64 (victOrd Y T x y))])
  (fun _ L w' => w' = (bif L 14 then w.drew.alloc (.cells #[.int .i64 (cmpI (tab.cntE T.f (x : Int) : Int) (tab.cntE T.f (y : Int) : Int)), .int .i64 (cmpI (Y.wear x) (Y.wear y))] 3) else w.drew) ∧ Below w.heap.size w w') (fun _ => rfl) (by kernel_rfl) ⟨(), fun L hL => ⟨by simp only [hL, cond_false], (Below.refl _ w).drew⟩⟩ ?_ ?_
 · refine ⟨?_, ?_, ?_, ?_, ?_, ?_, ?_, ?_, ?_, ?_, ?_, ?_, ?_, ?_, ?_, ?_, ?_, trivial⟩
   · intro _ L w' hL hpre hJ a ha
     obtain ⟨jw, jb⟩ := hJ; simp [Region.binds] at hpre; refine .inl ⟨zaa rfl, ?_⟩; have e2 : a.eval (.tmp 2) = .pointer (some ⟨xl, 0, none⟩) := by rw [ha, zac rfl]; rfl
     have c := (jb.cell (p := ⟨xl, 0, none⟩) hbxl).trans cl; have HJ := Lib.hid (And.intro jw jb); clear ha jw jb; refine zab fun K HK => ?_; unfold Oper.wp; simp only [execOp, e2]; go_simp; exact HK.out _ _ ⟨(), _, rfl, rfl, HJ.out⟩
   · intro _ L w' hL hpre hJ a ha
     obtain ⟨jw, jb⟩ := hJ; simp [Region.binds] at hpre; refine .inl ⟨zaa rfl, ?_⟩; exact zah (.tmp 0) (.inl rfl) (.int .i64 (x : Int)) (by rw [ha, zac rfl]; rfl) ⟨(), _, rfl, rfl, jw, jb⟩
   · intro _ L w' hL hpre hJ a ha
     obtain ⟨jw, jb⟩ := hJ; simp [Region.binds] at hpre; refine .inl ⟨zaa rfl, ?_⟩; have e7 : a.eval (.tmp 7) = .pointer (some ⟨h, 0, none⟩) := evP ha 0 rfl (by simp [hpre]) (by simp) rfl; have e8 : a.eval (.tmp 8) = .int .i64 (x : Int) := evP ha 1 rfl (by simp [hpre]) (by simp) rfl; have hc := Lib.hid (tab.zb8 (v.tab.below jb) (x : Int) (small_wf hsx)); have HJ := Lib.hid (And.intro jw jb); clear ha jw jb; refine zab fun K HK => ?_; unfold Oper.wp; simp only [execOp, resolve, List.map_toArray, List.map_cons, List.map_nil, e7, e8]; go_simp; refine hc.out.mono ?_; rintro e w'' ⟨rfl, rfl⟩; exact HK.out _ _ ⟨(), _, rfl, rfl, HJ.out⟩
   · intro _ L w' hL hpre hJ a ha
     obtain ⟨jw, jb⟩ := hJ; simp [Region.binds] at hpre; refine .inl ⟨zaa rfl, ?_⟩; have e2 : a.eval (.tmp 2) = .pointer (some ⟨xl, 0, none⟩) := by rw [ha, zac rfl]; rfl
     have c := (jb.cell (p := ⟨xl, 0, none⟩) hbxl).trans cl; have HJ := Lib.hid (And.intro jw jb); clear ha jw jb; refine zab fun K HK => ?_; unfold Oper.wp; simp only [execOp, e2]; go_simp; exact HK.out _ _ ⟨(), _, rfl, rfl, HJ.out⟩
   · intro _ L w' hL hpre hJ a ha
     obtain ⟨jw, jb⟩ := hJ; simp [Region.binds] at hpre; refine .inl ⟨zaa rfl, ?_⟩; exact zah (.tmp 1) (.inl rfl) (.int .i64 (y : Int)) (by rw [ha, zac rfl]; rfl) ⟨(), _, rfl, rfl, jw, jb⟩
   · intro _ L w' hL hpre hJ a ha
     obtain ⟨jw, jb⟩ := hJ; simp [Region.binds] at hpre; refine .inl ⟨zaa rfl, ?_⟩; have e10 : a.eval (.tmp 10) = .pointer (some ⟨h, 0, none⟩) := evP ha 3 rfl (by simp [hpre]) (by simp) rfl; have e11 : a.eval (.tmp 11) = .int .i64 (y : Int) := evP ha 4 rfl (by simp [hpre]) (by simp) rfl; have hc := Lib.hid (tab.zb8 (v.tab.below jb) (y : Int) (small_wf hsy)); have HJ := Lib.hid (And.intro jw jb); clear ha jw jb; refine zab fun K HK => ?_; unfold Oper.wp; simp only [execOp, resolve, List.map_toArray, List.map_cons, List.map_nil, e10, e11]; go_simp; refine hc.out.mono ?_; rintro e w'' ⟨rfl, rfl⟩; exact HK.out _ _ ⟨(), _, rfl, rfl, HJ.out⟩
   · intro _ L w' hL hpre hJ a ha
     obtain ⟨jw, jb⟩ := hJ; simp [Region.binds] at hpre; refine .inl ⟨zaa rfl, ?_⟩; have e9 : a.eval (.tmp 9) = .int .i64 (tab.cntE T.f (x : Int) : Int) := evP ha 2 rfl (by simp [hpre]) (by simp) rfl; have e12 : a.eval (.tmp 12) = .int .i64 (tab.cntE T.f (y : Int) : Int) := evP ha 5 rfl (by simp [hpre]) (by simp) rfl; have HJ := Lib.hid (And.intro jw jb); clear ha jw jb; refine zab fun K HK => ?_; unfold Oper.wp; simp only [execOp, resolve, List.map_toArray, List.map_cons, List.map_nil, e9, e12]; go_simp; refine (cmp_any _ _ _).mono ?_; rintro e w'' ⟨rfl, rfl⟩; exact HK.out _ _ ⟨(), _, rfl, rfl, HJ.out⟩
   · intro _ L w' hL hpre hJ a ha
     obtain ⟨jw, jb⟩ := hJ; simp [Region.binds] at hpre; refine .inl ⟨zaa rfl, ?_⟩; have e3 : a.eval (.tmp 3) = .pointer (some ⟨xt, 0, none⟩) := by rw [ha, zac rfl]; rfl
     have c := (jb.cell (p := ⟨xt, 0, none⟩) hbxt).trans ct; have HJ := Lib.hid (And.intro jw jb); clear ha jw jb; refine zab fun K HK => ?_; unfold Oper.wp; simp only [execOp, e3]; go_simp; exact HK.out _ _ ⟨(), _, rfl, rfl, HJ.out⟩
   · intro _ L w' hL hpre hJ a ha
     obtain ⟨jw, jb⟩ := hJ; simp [Region.binds] at hpre; refine .inl ⟨zaa rfl, ?_⟩; exact zah (.tmp 0) (.inl rfl) (.int .i64 (x : Int)) (by rw [ha, zac rfl]; rfl) ⟨(), _, rfl, rfl, jw, jb⟩
   · intro _ L w' hL hpre hJ a ha
     obtain ⟨jw, jb⟩ := hJ; simp [Region.binds] at hpre; refine .inl ⟨zaa rfl, ?_⟩; have e14 : a.eval (.tmp 14) = .pointer (some ⟨g, 0, none⟩) := evP ha 7 rfl (by simp [hpre]) (by simp) rfl; have e15 : a.eval (.tmp 15) = .int .i64 (x : Int) := evP ha 8 rfl (by simp [hpre]) (by simp) rfl; have hc := Lib.hid (tal.wear_any (v.tal.below jb) (x : Int)); have HJ := Lib.hid (And.intro jw jb); clear ha jw jb; refine zab fun K HK => ?_; unfold Oper.wp; simp only [execOp, resolve, List.map_toArray, List.map_cons, List.map_nil, e14, e15]; go_simp; refine hc.out.mono ?_; rintro e w'' ⟨rfl, rfl⟩; exact HK.out _ _ ⟨(), _, rfl, rfl, HJ.out⟩
   · intro _ L w' hL hpre hJ a ha
     obtain ⟨jw, jb⟩ := hJ; simp [Region.binds] at hpre; refine .inl ⟨zaa rfl, ?_⟩; have e3 : a.eval (.tmp 3) = .pointer (some ⟨xt, 0, none⟩) := by rw [ha, zac rfl]; rfl
     have c := (jb.cell (p := ⟨xt, 0, none⟩) hbxt).trans ct; have HJ := Lib.hid (And.intro jw jb); clear ha jw jb; refine zab fun K HK => ?_; unfold Oper.wp; simp only [execOp, e3]; go_simp; exact HK.out _ _ ⟨(), _, rfl, rfl, HJ.out⟩
   · intro _ L w' hL hpre hJ a ha
     obtain ⟨jw, jb⟩ := hJ; simp [Region.binds] at hpre; refine .inl ⟨zaa rfl, ?_⟩; exact zah (.tmp 1) (.inl rfl) (.int .i64 (y : Int)) (by rw [ha, zac rfl]; rfl) ⟨(), _, rfl, rfl, jw, jb⟩
   · intro _ L w' hL hpre hJ a ha
     obtain ⟨jw, jb⟩ := hJ; simp [Region.binds] at hpre; refine .inl ⟨zaa rfl, ?_⟩; have e17 : a.eval (.tmp 17) = .pointer (some ⟨g, 0, none⟩) := evP ha 10 rfl (by simp [hpre]) (by simp) rfl; have e18 : a.eval (.tmp 18) = .int .i64 (y : Int) := evP ha 11 rfl (by simp [hpre]) (by simp) rfl; have hc := Lib.hid (tal.wear_any (v.tal.below jb) (y : Int)); have HJ := Lib.hid (And.intro jw jb); clear ha jw jb; refine zab fun K HK => ?_; unfold Oper.wp; simp only [execOp, resolve, List.map_toArray, List.map_cons, List.map_nil, e17, e18]; go_simp; refine hc.out.mono ?_; rintro e w'' ⟨rfl, rfl⟩; exact HK.out _ _ ⟨(), _, rfl, rfl, HJ.out⟩
   · intro _ L w' hL hpre hJ a ha
     obtain ⟨jw, jb⟩ := hJ; simp [Region.binds] at hpre; refine .inl ⟨zaa rfl, ?_⟩; have e16 : a.eval (.tmp 16) = .int .i64 (Y.wear x) := evP ha 9 rfl (by simp [hpre]) (by simp) rfl; have e19 : a.eval (.tmp 19) = .int .i64 (Y.wear y) := evP ha 12 rfl (by simp [hpre]) (by simp) rfl; have HJ := Lib.hid (And.intro jw jb); clear ha jw jb; refine zab fun K HK => ?_; unfold Oper.wp; simp only [execOp, resolve, List.map_toArray, List.map_cons, List.map_nil, e16, e19]; go_simp; refine (cmp_any _ _ _).mono ?_; rintro e w'' ⟨rfl, rfl⟩; exact HK.out _ _ ⟨(), _, rfl, rfl, HJ.out⟩
   · intro _ L w' hL hpre hJ a ha
     obtain ⟨jw, jb⟩ := hJ; simp [Region.binds] at hpre; refine .inl ⟨zaa rfl, ?_⟩; have e13 : a.eval (.tmp 13) = .int .i64 (cmpI (tab.cntE T.f (x : Int) : Int) (tab.cntE T.f (y : Int) : Int)) := evP ha 6 rfl (by simp [hpre]) (by simp) rfl; have e20 : a.eval (.tmp 20) = .int .i64 (cmpI (Y.wear x) (Y.wear y)) := evP ha 13 rfl (by simp [hpre]) (by simp) rfl; have f13 : a.tmps[13]?.getD undef = .int .i64 (cmpI (tab.cntE T.f (x : Int) : Int) (tab.cntE T.f (y : Int) : Int)) := by simpa [Act.eval] using e13
     have f20 : a.tmps[20]?.getD undef = .int .i64 (cmpI (Y.wear x) (Y.wear y)) := by simpa [Act.eval] using e20
     rw [hL] at jw; simp only [cond_false] at jw; subst jw; have HJ := Lib.hid (jb.alloc jb.size (.cells #[.int .i64 (cmpI (tab.cntE T.f (x : Int) : Int) (tab.cntE T.f (y : Int) : Int)), .int .i64 (cmpI (Y.wear x) (Y.wear y))] 3)); clear ha jb e13 e20; refine zab fun K HK => ?_; unfold Oper.wp; simp only [execOp]; go_simp; exact HK.out _ _ ⟨(), _, rfl, rfl, rfl, HJ.out⟩
   · intro _ L w' hL hpre hJ a ha
     obtain ⟨jw, jb⟩ := hJ; simp [Region.binds] at hpre; refine .inl ⟨zaa rfl, ?_⟩; have e21 : a.eval (.tmp 21) = .slice (some ⟨w.heap.size, 0, none⟩) 2 2 := evP ha 14 rfl (by simp [hpre]) (by simp) rfl; have p14 : L 14 = true := by simp [hpre]
     have jw' := jw; rw [p14] at jw'; simp only [cond_true] at jw'; have hz : w'.heap[w.heap.size]? = some (.cells #[.int .i64 (cmpI (tab.cntE T.f (x : Int) : Int) (tab.cntE T.f (y : Int) : Int)), .int .i64 (cmpI (Y.wear x) (Y.wear y))] 3 (0, 0)) := by rw [jw']; exact heap_alloc_new w.drew _
     have HJ := Lib.hid (And.intro jw jb); clear ha jw jb jw'; refine zab fun K HK => ?_; unfold Oper.wp; simp only [execOp, resolve, List.map_toArray, List.map_cons, List.map_nil, e21]; go_simp; refine (or2_any _ _ _ _ hz).mono ?_; rintro e w'' ⟨rfl, rfl⟩; exact HK.out _ _ ⟨(), _, rfl, rfl, HJ.out⟩
   · intro _ L w' hL hpre hJ a ha
     obtain ⟨jw, jb⟩ := hJ; simp [Region.binds] at hpre; refine .inl ⟨zaa rfl, ?_⟩; exact zah (.tmp 22) (.inr rfl) (.int .i64 (victOrd Y T x y)) (evP ha 15 rfl (by simp [hpre]) (by simp) rfl) ⟨(), _, rfl, rfl, jw, jb⟩
 · intro _ L w' hL hJ
   obtain ⟨jw, jb⟩ := hJ; clear hL; simp only [List.foldl_cons, List.foldl_nil]; obtain ⟨hjw, hjb⟩ := And.intro jw jb; have HB := Lib.hid jb; clear hjw hjb jw jb; go_simp; go_wp2_with fail
   go_ret
   exact ⟨rfl, HB.out⟩
end
end Go.Proofs.YtpbigfopmompfaaGreat.pick
namespace Go.Proofs.YtpbigfopmompfaaGreat.pick
open Go.RowKit
open Go.Proofs.YtpbigfopmompfaaGreat.tal
set_option linter.unusedVariables false
section
variable {w : World} {g lb h mb cb n xt xl xb : Nat} {Y : Ty} {T : tab.Tb}
def lostI (Y : Ty) (b : Nat) : Int := bits .andNot .i64 (allI (Y.D : Int)) (Y.mask (b : Int) : Int)
def hurtP (Y : Ty) (T : tab.Tb) (b : Nat) (l : Nat) : Bool := bits .and .i64 (tab.At6.of (tab.getE T.f (l : Int))).m (lostI Y b) != 0
def hurtB (Y : Ty) (T : tab.Tb) (b : Nat) : Bool := (T.inL (b : Int)).any (hurtP Y T b)
set_option maxRecDepth 100000 in
set_option maxHeartbeats 4000000 in
theorem hurt2 (v : View w g lb Y h mb cb n T) (l b : Nat) (hsl : l ≤ 65536) (hbxt : xt < w.heap.size) (hbxb : xb < w.heap.size) (ct : w.cell? ⟨xt, 0, none⟩ = some (.pointer (some ⟨g, 0, none⟩))) (cl : w.cell? ⟨xl, 0, none⟩ = some (.pointer (some ⟨h, 0, none⟩))) (cb' : w.cell? ⟨xb, 0, none⟩ = some (.int .i64 (b : Int))) :
 Calls Tryz.prog 64 #[.int .i64 (l : Int), .pointer (some ⟨xl, 0, none⟩), .pointer (some ⟨xt, 0, none⟩), .pointer (some ⟨xb, 0, none⟩)] w fun e w' => e = .returned (.bool (hurtP Y T b l)) ∧ Below w.heap.size w w' := by
 have HG := Lib.hid (tab.get_any v.tab (l : Int) (small_wf hsl))
 have HE := Lib.hid (show hurtP Y T b l = (bits .and .i64 (tab.At6.of (tab.getE T.f (l : Int))).m (lostI Y b) != 0) from rfl)
 generalize tab.At6.of (tab.getE T.f (l : Int)) = a at *
 generalize (tab.getE T.f (l : Int)).isSome = s at *
 have HV := Lib.hid v
 have CT := Lib.hid ct
 have CB := Lib.hid cb'
 clear v ct cb'
 go_enter Tryz.func64, Tryz.ntmps64
 go_wp2_with fail
 refine HG.out.mono ?_
 rintro e w1 ⟨rfl, hb1⟩
 have hbr := hb1.alloc hb1.size (.cells tab.At6.zero.v.toArray 33)
 have hs1 := hb1.size
 have HB1 := Lib.hid hb1
 clear hb1
 go_upto_region 2 with (first | (refine zai rfl 33 (.tmp 6) (.tmp 13) rfl w1.heap.size a.v rfl rfl 33 _ (zak w1 _ _ rfl) tab.atInfo rfl (tab.one_at _) ?_; intro wq hU5; have h5 := hU5.at_; have hb5 := hU5.below hbr hs1; clear hU5 hbr cl))

 have hq := hb5.size
 have v := HV.out.below hb5
 have dt := (hb5.cell (p := ⟨xt, 0, none⟩) hbxt).trans CT.out
 have db := (hb5.cell (p := ⟨xb, 0, none⟩) hbxb).trans CB.out
 have dtB : xt < wq.heap.size := by omega
 have dbB : xb < wq.heap.size := by omega
 have HA := Lib.hid h5
 have HB5 := Lib.hid hb5
 clear h5 hb5 hq
 refine zan (by kernel_rfl) (by kernel_rfl) (X := Unit) (fun _ => [(some 15, .pointer (some ⟨g, 0, none⟩)), (some 16, .agg #[.int .i64 (Y.D : Int), .int .i64 (Y.B : Int), .int .i64 (Y.P : Int)]), (some 17, .int .i64 (Y.D : Int)), (some 18, .int .i64 (allI (Y.D : Int))), (some 19, .pointer (some ⟨g, 0, none⟩)), (some 20, .int .i64 (b : Int)), (some 21, .int .i64 (Y.mask (b : Int) : Int)), (some 22, .int .i64 (lostI Y b)), (some 8, .int .i64 (lostI Y b))])
  (fun _ L w' => Below wq.heap.size wq w') (fun _ => rfl) (by kernel_rfl) ⟨(), fun _ _ => (Below.refl _ wq).drew⟩ ?_ ?_
 · refine ⟨?_, ?_, ?_, ?_, ?_, ?_, ?_, ?_, ?_, trivial⟩
   · intro _ L w' hL hpre hJ a ha
     have jb := hJ; simp [Region.binds] at hpre; refine .inl ⟨zaa rfl, ?_⟩; have e2 : a.eval (.tmp 2) = .pointer (some ⟨xt, 0, none⟩) := by rw [ha, zac rfl]; rfl
     have c := (jb.cell (p := ⟨xt, 0, none⟩) dtB).trans dt; have HJ := Lib.hid jb; clear ha jb; refine zab fun K HK => ?_; unfold Oper.wp; simp only [execOp, e2]; go_simp; exact HK.out _ _ ⟨(), _, rfl, rfl, HJ.out⟩
   · intro _ L w' hL hpre hJ a ha
     have jb := hJ; simp [Region.binds] at hpre; refine .inl ⟨zaa rfl, ?_⟩; have e15 : a.eval (.tmp 15) = .pointer (some ⟨g, 0, none⟩) := evP ha 0 rfl (by simp [hpre]) (by simp) rfl; have hc := Lib.hid (tal.geo_any (v.tal.below jb)); have HJ := Lib.hid jb; clear ha jb; refine zab fun K HK => ?_; unfold Oper.wp; simp only [execOp, resolve, List.map_toArray, List.map_cons, List.map_nil, e15]; go_simp; refine hc.out.mono ?_; rintro e w'' ⟨rfl, hb⟩; exact HK.out _ _ ⟨(), _, rfl, rfl, HJ.out.trans (hb.mono HJ.out.size)⟩
   · intro _ L w' hL hpre hJ a ha
     have jb := hJ; simp [Region.binds] at hpre; refine .inl ⟨zaa rfl, ?_⟩; have e16 : a.eval (.tmp 16) = .agg #[.int .i64 (Y.D : Int), .int .i64 (Y.B : Int), .int .i64 (Y.P : Int)] := evP ha 1 rfl (by simp [hpre]) (by simp) rfl; have hfd := field_d; have HJ := Lib.hid jb; clear ha jb; refine zab fun K HK => ?_; unfold Oper.wp; simp only [execOp, e16]; go_simp; exact HK.out _ _ ⟨(), _, rfl, rfl, HJ.out⟩
   · intro _ L w' hL hpre hJ a ha
     have jb := hJ; simp [Region.binds] at hpre; refine .inl ⟨zaa rfl, ?_⟩; have e17 : a.eval (.tmp 17) = .int .i64 (Y.D : Int) := evP ha 2 rfl (by simp [hpre]) (by simp) rfl; have HJ := Lib.hid jb; clear ha jb; refine zab fun K HK => ?_; unfold Oper.wp; simp only [execOp, resolve, List.map_toArray, List.map_cons, List.map_nil, e17]; go_simp; refine (all_any _ _).mono ?_; rintro e w'' ⟨rfl, rfl⟩; exact HK.out _ _ ⟨(), _, rfl, rfl, HJ.out⟩
   · intro _ L w' hL hpre hJ a ha
     have jb := hJ; simp [Region.binds] at hpre; refine .inl ⟨zaa rfl, ?_⟩; have e2 : a.eval (.tmp 2) = .pointer (some ⟨xt, 0, none⟩) := by rw [ha, zac rfl]; rfl
     have c := (jb.cell (p := ⟨xt, 0, none⟩) dtB).trans dt; have HJ := Lib.hid jb; clear ha jb; refine zab fun K HK => ?_; unfold Oper.wp; simp only [execOp, e2]; go_simp; exact HK.out _ _ ⟨(), _, rfl, rfl, HJ.out⟩
   · intro _ L w' hL hpre hJ a ha
     have jb := hJ; simp [Region.binds] at hpre; refine .inl ⟨zaa rfl, ?_⟩; have e3 : a.eval (.tmp 3) = .pointer (some ⟨xb, 0, none⟩) := by rw [ha, zac rfl]; rfl
     have c := (jb.cell (p := ⟨xb, 0, none⟩) dbB).trans db; have HJ := Lib.hid jb; clear ha jb; refine zab fun K HK => ?_; unfold Oper.wp; simp only [execOp, e3]; go_simp; exact HK.out _ _ ⟨(), _, rfl, rfl, HJ.out⟩
   · intro _ L w' hL hpre hJ a ha
     have jb := hJ; simp [Region.binds] at hpre; refine .inl ⟨zaa rfl, ?_⟩; have e19 : a.eval (.tmp 19) = .pointer (some ⟨g, 0, none⟩) := evP ha 4 rfl (by simp [hpre]) (by simp) rfl; have e20 : a.eval (.tmp 20) = .int .i64 (b : Int) := evP ha 5 rfl (by simp [hpre]) (by simp) rfl; have hc := Lib.hid (tal.mask_any (v.tal.below jb) (b : Int)); have HJ := Lib.hid jb; clear ha jb; refine zab fun K HK => ?_; unfold Oper.wp; simp only [execOp, resolve, List.map_toArray, List.map_cons, List.map_nil, e19, e20]; go_simp; refine hc.out.mono ?_; rintro e w'' ⟨rfl, k, rfl⟩; exact HK.out _ _ ⟨(), _, rfl, rfl, zau HJ.out k⟩
   · intro _ L w' hL hpre hJ a ha
     have jb := hJ; simp [Region.binds] at hpre; refine .inl ⟨zaa rfl, ?_⟩; have e18 : a.eval (.tmp 18) = .int .i64 (allI (Y.D : Int)) := evP ha 3 rfl (by simp [hpre]) (by simp) rfl; have e21 : a.eval (.tmp 21) = .int .i64 (Y.mask (b : Int) : Int) := evP ha 6 rfl (by simp [hpre]) (by simp) rfl; have HJ := Lib.hid jb; clear ha jb; refine zab fun K HK => ?_; unfold Oper.wp; simp only [execOp, e18, e21]; go_simp; exact HK.out _ _ ⟨(), _, rfl, rfl, HJ.out⟩
   · intro _ L w' hL hpre hJ a ha
     have jb := hJ; simp [Region.binds] at hpre; refine .inl ⟨zaa rfl, ?_⟩; exact zah (.tmp 22) (.inr rfl) (.int .i64 (lostI Y b)) (evP ha 7 rfl (by simp [hpre]) (by simp) rfl) ⟨(), _, rfl, rfl, jb⟩
 · intro _ L w' hL hJ
   have jb := hJ; clear hL; simp only [List.foldl_cons, List.foldl_nil]; have HB := Lib.hid jb; have hA6 := zad HA.out HB.out; have hm : w'.cell? ⟨w1.heap.size, 3, none⟩ = some (.int .i64 a.m) := by rw [zaf hA6]; rfl
   have HBB := Lib.hid (HB5.out.trans (HB.out.mono HB5.out.size)); clear hA6 jb; obtain ⟨lo, hlo⟩ : ∃ lo, lo = lostI Y b := ⟨_, rfl⟩; simp only [← hlo]; rw [← hlo] at HE; clear hlo; go_simp; go_wp2_with fail
   go_ret
   exact ⟨by rw [HE.out]; rfl, HBB.out⟩
end
end Go.Proofs.YtpbigfopmompfaaGreat.pick
namespace Go.Proofs.YtpbigfopmompfaaGreat.pick
open Go.RowKit
open Go.Proofs.YtpbigfopmompfaaGreat.tal
set_option linter.unusedVariables false
theorem inTo_lt (f : tab.Ents) (b : Int) (k : Nat) : ∀ x ∈ tab.inTo f b k, x < k := by
 intro x hx
 unfold tab.inTo at hx
 exact List.mem_range.1 (List.mem_filter.1 hx).1
section
variable {w : World} {g lb h mb cb n xt xl : Nat} {Y : Ty} {T : tab.Tb}
set_option maxRecDepth 100000 in
set_option maxHeartbeats 4000000 in
theorem hurt1 (v : View w g lb Y h mb cb n T) (b : Nat) (hsb : b ≤ 65536) (hbxt : xt < w.heap.size) (hbxl : xl < w.heap.size) (ct : w.cell? ⟨xt, 0, none⟩ = some (.pointer (some ⟨g, 0, none⟩))) (cl : w.cell? ⟨xl, 0, none⟩ = some (.pointer (some ⟨h, 0, none⟩))) :
 Calls Tryz.prog 62 #[.int .i64 (b : Int), .pointer (some ⟨xl, 0, none⟩), .pointer (some ⟨xt, 0, none⟩)] w fun e w' => e = .returned (.bool (hurtB Y T b)) ∧ Below w.heap.size w w' := by
 have hmf : ∀ (fn : Fn) (first cap : Array Value) (w : World), (Instr.makeFunc fn first cap).run Tryz.prog w = .ok (.func fn first cap) w := fun _ _ _ _ => rfl
 have eg : ∀ args w, (callFunc 64 args).run Tryz.prog w = .ok (.enter 64 args) w := enters_of Tryz.func64 (by kernel_rfl) rfl
 have hb0 := nand.zax w (.cells #[.int .i64 (b : Int)] 3)
 have HV := Lib.hid (v.below hb0)
 have cbb : (w.alloc (.cells #[.int .i64 (b : Int)] 3)).cell? ⟨w.heap.size, 0, none⟩ = some (.int .i64 (b : Int)) := by rw [zaf (zak w _ _ rfl)]; rfl
 have ct1 := (hb0.cell (p := ⟨xt, 0, none⟩) hbxt).trans ct
 have cl1 := (hb0.cell (p := ⟨xl, 0, none⟩) hbxl).trans cl
 have hsz : (w.alloc (.cells #[.int .i64 (b : Int)] 3)).heap.size = w.heap.size + 1 := by simp
 have HI := Lib.hid (tab.in_any (HV.out.tab) (b : Int) (small_wf hsb))
 have HB0 := Lib.hid hb0
 have HE := Lib.hid (show hurtB Y T b = (T.inL (b : Int)).any (hurtP Y T b) from rfl)
 have HL := Lib.hid (show ∀ x ∈ T.inL (b : Int), x ≤ 65536 from fun x hx => by
  have h1 := inTo_lt _ _ _ x hx; have h2 := v.tab.ok.log; omega)
 have HN := Lib.hid (show (T.inL (b : Int)).length ≤ 65536 from by
  have h1 := tab.inTo_len T.f (b : Int) T.logical; have h2 := v.tab.ok.log; exact Nat.le_trans h1 h2)
 obtain ⟨L, hL⟩ : ∃ L, L = T.inL (b : Int) := ⟨_, rfl⟩
 rw [← hL] at HI HE HL HN
 clear v hb0 ct cl hL
 go_enter Tryz.func62, Tryz.ntmps62
 go_upto_region 1 with fail
 generalize w.alloc (.cells #[.int .i64 (b : Int)] 3) = w1 at *
 go_wp2_with fail
 refine HI.out.mono ?_
 rintro e w2 ⟨vL, rfl, hown, hb2⟩
 have hs2 := hb2.size
 have hK : Hid (∀ a W, a ≤ 65536 → Below w2.heap.size w2 W → Calls Tryz.prog 64 (#[.int .i64 (a : Int)] ++ #[.pointer (some ⟨xl, 0, none⟩), .pointer (some ⟨xt, 0, none⟩), .pointer (some ⟨w.heap.size, 0, none⟩)]) W fun e w' => e = .returned (.bool (hurtP Y T b a)) ∧ Below W.heap.size W w') := Lib.hid (by
  intro a W ha hbW; have hbb := hb2.trans (hbW.mono hb2.size); have hbs := hbb.size; exact hurt2 (HV.out.below hbb) a b ha (by omega) (by omega) ((hbb.cell (p := ⟨xt, 0, none⟩) (by show xt < w1.heap.size; omega)).trans ct1) ((hbb.cell (p := ⟨xl, 0, none⟩) (by show xl < w1.heap.size; omega)).trans cl1) ((hbb.cell (p := ⟨w.heap.size, 0, none⟩) (by show w.heap.size < w1.heap.size; omega)).trans cbb))
 obtain ⟨A, c, rfl⟩ : ∃ A c, vL = .slice A L.length c := by
  rcases hown.2 with ⟨e, h⟩ | ⟨g, cp, cur, e, -⟩
  · exact ⟨none, 0, by rw [h]; exact e⟩
  · exact ⟨_, _, e⟩
 have HC := Lib.hid (contains_any (c := c) (l := L) rfl (Rd.of_own hown) HN.out HL.out 64 #[.pointer (some ⟨xl, 0, none⟩), .pointer (some ⟨xt, 0, none⟩), .pointer (some ⟨w.heap.size, 0, none⟩)] eg (hurtP Y T b) hK.out)
 have HB2 := Lib.hid (HB0.out.trans (hb2.mono (show w.heap.size ≤ w1.heap.size by omega)))
 clear hown hb2 ct1 cl1 cbb
 go_wp2_with fail
 refine HC.out.mono ?_
 rintro e w3 ⟨rfl, hb3⟩
 have HB3 := Lib.hid (HB2.out.trans (hb3.mono HB2.out.size))
 clear hb3
 go_wp2_with fail
 go_ret
 exact ⟨by rw [HE.out]; rfl, HB3.out⟩
theorem own_mono {w : World} {B B' : Nat} {e : TypeId} {k : Nat} {v : Value} {n : Nat} {xs : List Value} (h : w.ownsRow B e k v n xs) (hB : B' ≤ B) : w.ownsRow B' e k v n xs := by
 refine ⟨h.1, ?_⟩
 rcases h.2 with h2 | ⟨g, cap, cur, h1, h2, h3⟩
 · exact .inl h2
 · exact .inr ⟨g, cap, cur, h1, Nat.le_trans hB h2, h3⟩
def freeL (Y : Ty) (T : tab.Tb) (op : Int) : List Nat := someL (freeP Y T) op Y.B
def spentL (Y : Ty) (T : tab.Tb) (op : Int) : List Nat := someL (spentP Y T) op Y.B
def victL (Y : Ty) (T : tab.Tb) (op : Int) : List Nat := someL (victP Y T) op Y.B
def hurtL (Y : Ty) (T : tab.Tb) : List Nat := someL (hurtB Y T) (-1) Y.B
theorem someL_lt (p : Nat → Bool) (op : Int) (k : Nat) : ∀ x ∈ someL p op k, x < k := fun x hx => List.mem_range.1 (List.mem_filter.1 hx).1
theorem boxes (v : View w g lb Y h mb cb n T) : ∃ w2, (w.alloc (.cells #[.pointer (some ⟨g, 0, none⟩)] 41)).alloc (.cells #[.pointer (some ⟨h, 0, none⟩)] 23) = w2 ∧ View w2 g lb Y h mb cb n T ∧ w2.cell? ⟨w.heap.size, 0, none⟩ = some (.pointer (some ⟨g, 0, none⟩)) ∧ w2.cell? ⟨w.heap.size + 1, 0, none⟩ = some (.pointer (some ⟨h, 0, none⟩)) ∧ Below w.heap.size w w2 ∧ w2.heap.size = w.heap.size + 2 := by
 have hb := below2 w (.cells #[.pointer (some ⟨g, 0, none⟩)] 41) (.cells #[.pointer (some ⟨h, 0, none⟩)] 23)
 refine ⟨_, rfl, v.below hb, ?_, ?_, hb, by simp⟩
 · rw [zaf (zbi w _ _)]; rfl
 · rw [zaf (zak (w.alloc _) _ (w.heap.size + 1) (by simp))]; rfl
set_option maxRecDepth 100000 in
set_option maxHeartbeats 4000000 in
theorem free_any (v : View w g lb Y h mb cb n T) (op : Int) : Calls Tryz.prog 54 #[.pointer (some ⟨g, 0, none⟩), .pointer (some ⟨h, 0, none⟩), .int .i64 op] w fun e w' => ∃ u, e = .returned u ∧ w'.ownsRow w.heap.size 3 1 u (freeL Y T op).length (nats .i64 (freeL Y T op)) ∧ Below w.heap.size w w' := by
 have hmf : ∀ (fn : Fn) (first cap : Array Value) (w : World), (Instr.makeFunc fn first cap).run Tryz.prog w = .ok (.func fn first cap) w := fun _ _ _ _ => rfl
 have eg : ∀ args w, (callFunc 92 args).run Tryz.prog w = .ok (.enter 92 args) w := enters_of Tryz.func92 (by kernel_rfl) rfl
 obtain ⟨w2, hw2, v2, ct, cl, hb, hsz⟩ := boxes v
 have hB16 := v.tal.ok.geo.2.2.2.1
 have HS := Lib.hid (some_any v2.tal 92 #[.pointer (some ⟨w.heap.size, 0, none⟩), .pointer (some ⟨w.heap.size + 1, 0, none⟩)] eg (op) (freeP Y T) (by
  intro b W hbY hbW; have hs := hbW.size; exact free1 (v2.below hbW) b (by omega) ((hbW.cell (p := ⟨w.heap.size, 0, none⟩) (by show w.heap.size < w2.heap.size; omega)).trans ct) ((hbW.cell (p := ⟨w.heap.size + 1, 0, none⟩) (by show w.heap.size + 1 < w2.heap.size; omega)).trans cl)))
 have HB := Lib.hid hb
 have HE := Lib.hid (show freeL Y T op = someL (freeP Y T) (op) Y.B from rfl)
 clear v v2 hb hB16
 go_enter Tryz.func54, Tryz.ntmps54
 go_upto_region 1 with fail
 clear hw2
 go_wp2_with fail
 refine HS.out.mono ?_
 rintro e w3 ⟨u, rfl, hown, hb3⟩
 have HO := Lib.hid hown
 have HB3 := Lib.hid hb3
 clear hown hb3
 go_wp2_with fail
 go_ret
 refine ⟨u, rfl, ?_, HB.out.trans (HB3.out.mono HB.out.size)⟩
 rw [HE.out]
 exact own_mono HO.out (by omega)
set_option maxRecDepth 100000 in
set_option maxHeartbeats 4000000 in
theorem spent_any (v : View w g lb Y h mb cb n T) (op : Int) : Calls Tryz.prog 37 #[.pointer (some ⟨g, 0, none⟩), .pointer (some ⟨h, 0, none⟩), .int .i64 op] w fun e w' => ∃ u, e = .returned u ∧ w'.ownsRow w.heap.size 3 1 u (spentL Y T op).length (nats .i64 (spentL Y T op)) ∧ Below w.heap.size w w' := by
 have hmf : ∀ (fn : Fn) (first cap : Array Value) (w : World), (Instr.makeFunc fn first cap).run Tryz.prog w = .ok (.func fn first cap) w := fun _ _ _ _ => rfl
 have eg : ∀ args w, (callFunc 69 args).run Tryz.prog w = .ok (.enter 69 args) w := enters_of Tryz.func69 (by kernel_rfl) rfl
 obtain ⟨w2, hw2, v2, ct, cl, hb, hsz⟩ := boxes v
 have hB16 := v.tal.ok.geo.2.2.2.1
 have HS := Lib.hid (some_any v2.tal 69 #[.pointer (some ⟨w.heap.size, 0, none⟩), .pointer (some ⟨w.heap.size + 1, 0, none⟩)] eg (op) (spentP Y T) (by
  intro b W hbY hbW; have hs := hbW.size; exact spent1 (v2.below hbW) b (by omega) ((hbW.cell (p := ⟨w.heap.size, 0, none⟩) (by show w.heap.size < w2.heap.size; omega)).trans ct) ((hbW.cell (p := ⟨w.heap.size + 1, 0, none⟩) (by show w.heap.size + 1 < w2.heap.size; omega)).trans cl)))
 have HB := Lib.hid hb
 have HE := Lib.hid (show spentL Y T op = someL (spentP Y T) (op) Y.B from rfl)
 clear v v2 hb hB16
 go_enter Tryz.func37, Tryz.ntmps37
 go_upto_region 1 with fail
 clear hw2
 go_wp2_with fail
 refine HS.out.mono ?_
 rintro e w3 ⟨u, rfl, hown, hb3⟩
 have HO := Lib.hid hown
 have HB3 := Lib.hid hb3
 clear hown hb3
 go_wp2_with fail
 go_ret
 refine ⟨u, rfl, ?_, HB.out.trans (HB3.out.mono HB.out.size)⟩
 rw [HE.out]
 exact own_mono HO.out (by omega)
set_option maxRecDepth 100000 in
set_option maxHeartbeats 4000000 in
theorem hurt_any (v : View w g lb Y h mb cb n T) : Calls Tryz.prog 29 #[.pointer (some ⟨g, 0, none⟩), .pointer (some ⟨h, 0, none⟩)] w fun e w' => ∃ u, e = .returned u ∧ w'.ownsRow w.heap.size 3 1 u (hurtL Y T).length (nats .i64 (hurtL Y T)) ∧ Below w.heap.size w w' := by
 have hmf : ∀ (fn : Fn) (first cap : Array Value) (w : World), (Instr.makeFunc fn first cap).run Tryz.prog w = .ok (.func fn first cap) w := fun _ _ _ _ => rfl
 have eg : ∀ args w, (callFunc 62 args).run Tryz.prog w = .ok (.enter 62 args) w := enters_of Tryz.func62 (by kernel_rfl) rfl
 obtain ⟨w2, hw2, v2, ct, cl, hb, hsz⟩ := boxes v
 have hB16 := v.tal.ok.geo.2.2.2.1
 have HS := Lib.hid (some_any v2.tal 62 #[.pointer (some ⟨w.heap.size + 1, 0, none⟩), .pointer (some ⟨w.heap.size, 0, none⟩)] eg (-1) (hurtB Y T) (by
  intro b W hbY hbW; have hs := hbW.size; exact hurt1 (v2.below hbW) b (by omega) (by omega) (by omega) ((hbW.cell (p := ⟨w.heap.size, 0, none⟩) (by show w.heap.size < w2.heap.size; omega)).trans ct) ((hbW.cell (p := ⟨w.heap.size + 1, 0, none⟩) (by show w.heap.size + 1 < w2.heap.size; omega)).trans cl)))
 have HB := Lib.hid hb
 have HE := Lib.hid (show hurtL Y T = someL (hurtB Y T) (-1) Y.B from rfl)
 clear v v2 hb hB16
 go_enter Tryz.func29, Tryz.ntmps29
 go_upto_region 1 with fail
 clear hw2
 go_wp2_with fail
 refine HS.out.mono ?_
 rintro e w3 ⟨u, rfl, hown, hb3⟩
 have HO := Lib.hid hown
 have HB3 := Lib.hid hb3
 clear hown hb3
 go_wp2_with fail
 go_ret
 refine ⟨u, rfl, ?_, HB.out.trans (HB3.out.mono HB.out.size)⟩
 rw [HE.out]
 exact own_mono HO.out (by omega)
theorem len_nats {w : World} {B n : Nat} {u : Value} {xs : List Value} (h : w.ownsRow B 3 1 u n xs) : ∃ A c, u = .slice A n c := by
 rcases h.2 with ⟨e, h⟩ | ⟨g, cp, cur, e, -⟩
 · exact ⟨none, 0, by rw [h]; exact e⟩
 · exact ⟨_, _, e⟩
set_option maxRecDepth 100000 in
theorem frees_any (v : View w g lb Y h mb cb n T) (op : Int) : Calls Tryz.prog 27 #[.pointer (some ⟨g, 0, none⟩), .pointer (some ⟨h, 0, none⟩), .int .i64 op] w fun e w' => e = .returned (.int .i64 ((freeL Y T op).length : Int)) ∧ Below w.heap.size w w' := by
 have HF := Lib.hid (free_any v op)
 generalize freeL Y T op = L at *
 clear v
 go_enter Tryz.func27, Tryz.ntmps27
 go_wp2_with fail
 refine HF.out.mono ?_
 rintro e w1 ⟨u, rfl, hown, hb1⟩
 have HB := Lib.hid hb1
 obtain ⟨A, c, rfl⟩ := len_nats hown
 clear hb1 hown
 go_wp2_with fail
 go_ret
 exact ⟨rfl, HB.out⟩
set_option maxRecDepth 100000 in
set_option maxHeartbeats 4000000 in
theorem open_any (v : View w g lb Y h mb cb n T) (op : Int) : Calls Tryz.prog 21 #[.pointer (some ⟨g, 0, none⟩), .pointer (some ⟨h, 0, none⟩), .int .i64 op] w fun e w' => e = .returned (.int .i64 (leastI (wearOrd Y) (freeL Y T op))) ∧ Below w.heap.size w w' := by
 have hmf : ∀ (fn : Fn) (first cap : Array Value) (w : World), (Instr.makeFunc fn first cap).run Tryz.prog w = .ok (.func fn first cap) w := fun _ _ _ _ => rfl
 have eg : ∀ args w, (callFunc 55 args).run Tryz.prog w = .ok (.enter 55 args) w := enters_of Tryz.func55 (by kernel_rfl) rfl
 have hb0 := nand.zax w (.cells #[.pointer (some ⟨g, 0, none⟩)] 41)
 have HV := Lib.hid (v.below hb0)
 have ct : (w.alloc (.cells #[.pointer (some ⟨g, 0, none⟩)] 41)).cell? ⟨w.heap.size, 0, none⟩ = some (.pointer (some ⟨g, 0, none⟩)) := by rw [zaf (zak w _ _ rfl)]; rfl
 have hsz : (w.alloc (.cells #[.pointer (some ⟨g, 0, none⟩)] 41)).heap.size = w.heap.size + 1 := by simp
 have HF := Lib.hid (free_any HV.out op)
 have HB0 := Lib.hid hb0
 have HL := Lib.hid (show (freeL Y T op).length ≤ 16 from Nat.le_trans (someL_len _ _ _) v.tal.ok.geo.2.2.2.1)
 have HX := Lib.hid (show ∀ x ∈ freeL Y T op, x ≤ 65536 from fun x hx => by
  have h1 := someL_lt _ _ _ x hx; have h2 := v.tal.ok.geo.2.2.2.1; omega)
 clear v hb0
 generalize freeL Y T op = L at *
 generalize hw1 : w.alloc (.cells #[.pointer (some ⟨g, 0, none⟩)] 41) = w1 at *
 go_enter Tryz.func21, Tryz.ntmps21
 go_upto_region 1 with fail
 clear hw1
 go_wp2_with fail
 refine HF.out.mono ?_
 rintro e w2 ⟨u, rfl, hown, hb2⟩
 have HM := Lib.hid (least_any hown rfl (by have := HL.out; omega) HX.out 55 #[.pointer (some ⟨w.heap.size, 0, none⟩)] eg (wearOrd Y) (by
  intro a b W ha hb hbW; have hbb := hb2.trans (hbW.mono hb2.size); exact open1 (HV.out.below hbb) a b ((hbb.cell (p := ⟨w.heap.size, 0, none⟩) (by show w.heap.size < w1.heap.size; omega)).trans ct)))
 have HB2 := Lib.hid (HB0.out.trans (hb2.mono HB0.out.size))
 clear hown hb2 ct
 go_wp2_with fail
 refine HM.out.mono ?_
 rintro e w3 ⟨rfl, hb3⟩
 have HB3 := Lib.hid (HB2.out.trans (hb3.mono HB2.out.size))
 clear hb3
 go_wp2_with fail
 go_ret
 exact ⟨rfl, HB3.out⟩
set_option maxRecDepth 100000 in
set_option maxHeartbeats 4000000 in
theorem victim_any (v : View w g lb Y h mb cb n T) (op : Int) : Calls Tryz.prog 28 #[.pointer (some ⟨g, 0, none⟩), .pointer (some ⟨h, 0, none⟩), .int .i64 op] w fun e w' => e = .returned (.int .i64 (leastI (victOrd Y T) (victL Y T op))) ∧ Below w.heap.size w w' := by
 have hmf : ∀ (fn : Fn) (first cap : Array Value) (w : World), (Instr.makeFunc fn first cap).run Tryz.prog w = .ok (.func fn first cap) w := fun _ _ _ _ => rfl
 have eg1 : ∀ args w, (callFunc 59 args).run Tryz.prog w = .ok (.enter 59 args) w := enters_of Tryz.func59 (by kernel_rfl) rfl
 have eg : ∀ args w, (callFunc 60 args).run Tryz.prog w = .ok (.enter 60 args) w := enters_of Tryz.func60 (by kernel_rfl) rfl
 obtain ⟨w2, hw2, v2, ct, cl, hb, hsz⟩ := boxes v
 have hB16 := v.tal.ok.geo.2.2.2.1
 have HS := Lib.hid (some_any v2.tal 59 #[.pointer (some ⟨w.heap.size + 1, 0, none⟩), .pointer (some ⟨w.heap.size, 0, none⟩)] eg1 op (victP Y T) (by
  intro b W hbY hbW; have hs := hbW.size; exact vict1 (v2.below hbW) b (by omega) ((hbW.cell (p := ⟨w.heap.size, 0, none⟩) (by show w.heap.size < w2.heap.size; omega)).trans ct) ((hbW.cell (p := ⟨w.heap.size + 1, 0, none⟩) (by show w.heap.size + 1 < w2.heap.size; omega)).trans cl)))
 have HB := Lib.hid hb
 have hE : someL (victP Y T) op Y.B = victL Y T op := rfl
 rw [hE] at HS
 have HL := Lib.hid (show (victL Y T op).length ≤ 16 from Nat.le_trans (someL_len _ _ _) hB16)
 have HX := Lib.hid (show ∀ x ∈ victL Y T op, x ≤ 65536 from fun x hx => by
  have h1 := someL_lt _ _ _ x hx; omega)
 have HV := Lib.hid v2
 clear v v2 hb hB16 hE
 generalize victL Y T op = L at *
 go_enter Tryz.func28, Tryz.ntmps28
 go_upto_region 1 with fail
 clear hw2
 go_wp2_with fail
 refine HS.out.mono ?_
 rintro e w3 ⟨u, rfl, hown, hb3⟩
 have HM := Lib.hid (least_any hown rfl (by have := HL.out; omega) HX.out 60 #[.pointer (some ⟨w.heap.size + 1, 0, none⟩), .pointer (some ⟨w.heap.size, 0, none⟩)] eg (victOrd Y T) (by
  intro a b W ha hb hbW; have hbb := hb3.trans (hbW.mono hb3.size); have hs := hbb.size; exact vict2 (HV.out.below hbb) a b ha hb (by omega) (by omega) ((hbb.cell (p := ⟨w.heap.size, 0, none⟩) (by show w.heap.size < w2.heap.size; omega)).trans ct) ((hbb.cell (p := ⟨w.heap.size + 1, 0, none⟩) (by show w.heap.size + 1 < w2.heap.size; omega)).trans cl)))
 have HB3 := Lib.hid (HB.out.trans (hb3.mono HB.out.size))
 clear hown hb3 ct cl
 go_wp2_with fail
 refine HM.out.mono ?_
 rintro e w4 ⟨rfl, hb4⟩
 have HB4 := Lib.hid (HB3.out.trans (hb4.mono HB3.out.size))
 clear hb4
 go_wp2_with fail
 go_ret
 exact ⟨rfl, HB4.out⟩
end
end Go.Proofs.YtpbigfopmompfaaGreat.pick
namespace Go.Proofs.YtpbigfopmompfaaGreat.pick
open Go.RowKit
open Go.Proofs.YtpbigfopmompfaaGreat.tal
set_option linter.unusedVariables false
def Ty.worn (D B P : Nat) (W : Nat → Int) : Ty := ⟨D, B, P, (List.range B).map fun b => ⟨W b, 0, false, false⟩, 0⟩
end Go.Proofs.YtpbigfopmompfaaGreat.pick
namespace Go.Proofs.YtpbigfopmompfaaGreat.tableRoles
open Go.RowKit
open Go.Maps (Keyed)
set_option linter.unusedVariables false
theorem zero_int (w : World) : (zeroValue 3).run Tryz.prog w = .ok (.int .i64 0) w := by kernel_rfl
end Go.Proofs.YtpbigfopmompfaaGreat.tableRoles
namespace Go.Proofs.YtpbigfopmompfaaGreat.tab
open Go.RowKit
theorem filt_split {α : Type} (p q r : α → Bool) (h1 : ∀ a, p a = (q a || r a)) (h2 : ∀ a, ¬ (q a = true ∧ r a = true)) : ∀ l : List α, (l.filter p).length = (l.filter q).length + (l.filter r).length
 | [] => rfl
 | a :: l => by
  have ih := filt_split p q r h1 h2 l; have e := h1 a; have n := h2 a; rw [List.filter_cons, List.filter_cons, List.filter_cons]; cases hq : q a <;> cases hr : r a <;> simp_all <;> omega
theorem one_key (P : At6 → Bool) (k : Int) : ∀ {f : Ents}, (f.map (·.1)).Nodup → (f.filter fun p => P p.2 && decide (p.1 = k)).length = if (getE f k).any P then 1 else 0
 | [], _ => rfl
 | p :: f, hn => by
  rw [List.map_cons, List.nodup_cons] at hn; have ih := one_key P k hn.2; rw [List.filter_cons]; by_cases e : p.1 = k
  · have h0 : getE f k = none := by
     unfold getE; rw [Option.map_eq_none_iff, List.find?_eq_none]; intro q hq h; simp at h; exact hn.1 (by rw [e, ← h]; exact List.mem_map.2 ⟨q, hq, rfl⟩)
    have h1 : getE (p :: f) k = some p.2 := by unfold getE; rw [List.find?_cons_of_pos (by simpa using e)]; rfl
    rw [h0] at ih; rw [h1]; have ih' : (f.filter fun p => P p.2 && decide (p.1 = k)) = [] := List.eq_nil_of_length_eq_zero (by simpa using ih); rw [ih']; cases hP : P p.2 <;> simp [e, hP]
  · have h1 : getE (p :: f) k = getE f k := by unfold getE; rw [List.find?_cons_of_neg (by simpa using e)]
    rw [h1]; simp [e]; simpa using ih
theorem key_le {f : Ents} (hn : (f.map (·.1)).Nodup) (h0 : ∀ p ∈ f, 0 ≤ p.1) : ∀ k : Nat, (f.filter fun p => decide (p.1 < (k : Int))).length ≤ k
 | 0 => by
  have : (f.filter fun p => decide (p.1 < ((0 : Nat) : Int))) = [] := by
   rw [List.filter_eq_nil_iff]; intro p hp; have := h0 p hp; simp; omega
  rw [this]; simp
 | k + 1 => by
  have ih := key_le hn h0 k; rw [filt_split (fun p : Int × At6 => decide (p.1 < ((k + 1 : Nat) : Int))) (fun p => decide (p.1 < (k : Int))) (fun p => true && decide (p.1 = (k : Int))) ?_ ?_]
  · have := one_key (fun _ => true) (k : Int) hn
    rw [this]; split <;> omega
  · intro a; rw [Bool.eq_iff_iff]; simp; omega
  · intro a h; simp at h; omega
theorem Tb.ok.len_le {T : Tb} (h : T.ok) : T.f.length ≤ T.logical := by
 have := key_le h.nodup (fun p hp => (h.keys p hp).1) T.logical
 rwa [List.filter_eq_self.2 fun p hp => by simpa using (h.keys p hp).2] at this
end Go.Proofs.YtpbigfopmompfaaGreat.tab
