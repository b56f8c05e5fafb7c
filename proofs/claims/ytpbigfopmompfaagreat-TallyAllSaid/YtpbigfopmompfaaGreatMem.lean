import Derived.Test.YtpbigfopmompfaaGreatBase
import Derived.Laws.Tables
import Derived.Laws.ResultCell
import Derived.Laws.IdiomCopy
import Derived.Laws.CopyOwn
import Derived.Deep.WholeRow
import Derived.Deep.MidRow
import Derived.Lib.Hide
/- Words for memory, no program in sight: one block given anew, all else as it was; whole rows built, stored, handed back. -/
namespace Go.Proofs.YtpbigfopmompfaaGreat
open Go.RowKit
set_option linter.unusedVariables false
structure Upd (g : Nat) (o : Obj) (w w' : World) : Prop where
 os : w'.os = w.os
 tape : w'.tape = w.tape
 output : w'.output = w.output
 size : w'.heap.size = w.heap.size
 at_ : w'.heap[g]? = some o
 block : ∀ k, k ≠ g → w'.heap[k]? = w.heap[k]?
section
variable {w w' w0 : World} {g B : Nat} {o x : Obj}
theorem Upd.keep {S : Nat → Prop} (h : Upd g o w w') (hS : S g) : Keep S w w' := ⟨h.os, h.tape, h.output, by rw [h.size]; exact Nat.le_refl _, fun k _ hn => h.block k fun e => hn (e ▸ hS)⟩
theorem Upd.below (h : Upd g o w w') (hb : Below B w0 w) (hg : B ≤ g) : Below B w0 w' := hb.trans ⟨h.os, h.tape, h.output, by rw [h.size]; exact Nat.le_refl _, fun k hk => h.block k (by omega)⟩
theorem Upd.old (h : Upd g o w w') {k : Nat} (hk : w.heap[k]? = some x) (hne : k ≠ g) : w'.heap[k]? = some x := (h.block k hne).trans hk
theorem Upd.hid (h : Upd g o w w') : Hid (w'.heap[g]? = some o) := Lib.hid h.at_
theorem Upd.own {base : Nat} {e : TypeId} {size : Nat} {v : Value} {n : Nat} {xs : List Value} (h : Upd g o w w') (ho : w.ownsRow base e size v n xs) (hne : v.ownBlock ≠ some g) : w'.ownsRow base e size v n xs :=
 own_keep ho (h.keep (S := fun k => k = g) rfl) fun k hk e => hne (by rw [hk, e])
theorem Upd.rd {n : Nat} {A : Option Addr} {xs : List Value} {C : Nat} (h : Upd g o w w') (hr : Rd w C A n xs) (hC : C ≤ g) : Rd w' C A n xs := hr.same fun p hp => World.cell?_of_block (h.block p.block (by omega))
theorem Upd.range {b i : Nat} {cs : List Value} (h : Upd g o w w') (hr : w.rangeAt b i cs) (hne : b ≠ g) : w'.rangeAt b i cs := fun j v hv => (World.cell?_of_block (h.block b hne)).trans (hr j v hv)
theorem upd_setRow {old cs : Array Value} {t : TypeId} (hg : w.heap[g]? = some (.cells old t (0, 0))) : Upd g (.cells cs t (0, 0)) w (w.setRow g cs) :=
 ⟨rfl, rfl, rfl, by simp [World.setRow], setRow_heap w g _ _ t _ hg, fun k hk => setRow_other w g k cs hk⟩
theorem zas {cs : List Value} {t : TypeId} {i : Nat} (hg : w.heap[g]? = some (.cells cs.toArray t (0, 0))) (u : Value) : Upd g (.cells (cs.set i u).toArray t (0, 0)) w (w.setCell ⟨g, i, none⟩ u) :=
 ⟨rfl, rfl, rfl, by simp [World.setCell], by rw [heap_set2 hg]; simp, fun k hk => Below.heap_setCell w _ _ k hk⟩
theorem splice_get {α : Type} (L : List α) (off : Nat) (cs : List α) (h : off + cs.length ≤ L.length) (j : Nat) : (splice L off cs)[j]? = if j < off then L[j]? else if j < off + cs.length then cs[j - off]? else L[j]? := by
 unfold splice
 by_cases h1 : j < off
 · rw [List.getElem?_append_left (by rw [List.length_take]; omega), List.getElem?_take, if_pos h1, if_pos h1]
 · rw [List.getElem?_append_right (by rw [List.length_take]; omega), List.length_take, if_neg h1, show min off L.length = off by omega]
   by_cases h2 : j < off + cs.length
   · rw [List.getElem?_append_left (by omega), if_pos h2]
   · rw [List.getElem?_append_right (by omega), List.getElem?_drop, if_neg h2]
     congr 1; omega
theorem splice_step {α : Type} (L : List α) (i : Nat) (v : α) (vs : List α) (h : i + (vs.length + 1) ≤ L.length) : splice (L.set i v) (i + 1) vs = splice L i (v :: vs) := by
 apply List.ext_getElem?
 intro j
 rw [splice_get _ _ _ (by rw [List.length_set]; omega), splice_get _ _ _ (by rw [List.length_cons]; omega)]
 rcases Nat.lt_trichotomy j i with h1 | h1 | h1
 · rw [if_pos (by omega), if_pos h1, List.getElem?_set_ne (by omega)]
 · subst h1
   rw [if_pos (by omega), if_neg (by omega), if_pos (by simp), List.getElem?_set_self (by omega), Nat.sub_self]; rfl
 · rw [if_neg (show ¬ j < i + 1 by omega), if_neg (show ¬ j < i by omega), List.length_cons]
   by_cases h2 : j < i + 1 + vs.length
   · rw [if_pos h2, if_pos (by omega), show j - i = (j - (i + 1)) + 1 by omega]; rfl
   · rw [if_neg h2, if_neg (by omega), List.getElem?_set_ne (by omega)]
theorem upd_setCells {t : TypeId} : ∀ {vs cs : List Value} {i : Nat} {w : World}, w.heap[g]? = some (.cells cs.toArray t (0, 0)) → i + vs.length ≤ cs.length → Upd g (.cells (splice cs i vs).toArray t (0, 0)) w (w.setCells g i vs)
 | [], cs, i, w, hg, _ => ⟨rfl, rfl, rfl, rfl, by simpa [splice, World.setCells] using hg, fun _ _ => rfl⟩
 | v :: vs, cs, i, w, hg, hfit => by
  have h1 := zas (i := i) hg v; have h2 := upd_setCells (vs := vs) (i := i + 1) h1.at_ (by simp at hfit ⊢; omega); rw [splice_step _ _ _ _ (by simpa using hfit)] at h2; exact ⟨h2.os.trans h1.os, h2.tape.trans h1.tape, h2.output.trans h1.output, h2.size.trans h1.size, h2.at_, fun k hk => (h2.block k hk).trans (h1.block k hk)⟩
theorem zal {cs : List Value} {t : TypeId} {fr : Nat × Nat} (hg : w.heap[g]? = some (.cells cs.toArray t fr)) : w.rangeAt g 0 cs := by
 intro j v hv
 rw [Nat.zero_add, zaf hg, List.getElem?_toArray]; exact hv
theorem zbo {cs : List Value} {t : TypeId} {fr : Nat × Nat} (hg : w.heap[g]? = some (.cells cs.toArray t fr)) (a b c : List Value) (he : cs = a ++ (b ++ c)) (i : Nat) (hi : a.length = i) : w.rangeAt g i b := by
 intro j v hv
 rw [zaf hg, List.getElem?_toArray, he, ← hi, List.getElem?_append_right (by omega), Nat.add_sub_cancel_left, List.getElem?_append_left (List.getElem?_eq_some_iff.1 hv).1]; exact hv
theorem rd_of_range {b i C n : Nat} {cs : List Value} (h : w.rangeAt b i cs) (hn : cs.length = n) (hb : b < C) : Rd w C (some ⟨b, i, none⟩) n cs :=
 ⟨hn, fun _ => ⟨b, i, rfl, hb, h⟩⟩
end
section
variable {P : Program} {ops : Array Oper} {rest : List Oper} {o : Oper} {a : Act} {w : World} {Q : Exit → Act → World → Prop}
theorem zai (hgd : o.guard = none) (ty : TypeId) (x y : Operand) (ho : o.op = .store ty x y) (g : Nat) (new : List Value) (hx : a.eval x = .pointer (some ⟨g, 0, none⟩)) (hy : a.eval y = .agg new.toArray)
 (t : TypeId) (old : Array Value) (hg : w.heap[g]? = some (.cells old t (0, 0))) (hi : (P.info? ty).map (·.size) = some new.length) (hold : old.size = new.length) (h1 : ∀ v ∈ new, v.oneCell' = true)
 (h : ∀ w', Upd g (.cells new.toArray t (0, 0)) w w' → wpList P ops Q rest (a.put o.dst undef) w') : wpList P ops Q (o :: rest) a w :=
 wpList_store_row hgd ty x y ho g new.toArray hx hy t old hg (by simpa using hi) (by simpa using hold) (all_oneCell_toArray h1) (h _ (upd_setRow hg))
theorem wpList_put_mid (hgd : o.guard = none) (ty : TypeId) (x y : Operand) (ho : o.op = .store ty x y) (g i : Nat) (new : List Value) (hx : a.eval x = .pointer (some ⟨g, i, none⟩)) (hy : a.eval y = .agg new.toArray)
 (t : TypeId) (old : List Value) (hg : w.heap[g]? = some (.cells old.toArray t (0, 0))) (hi : (P.info? ty).map (·.size) = some new.length) (hold : i + new.length ≤ old.length) (h1 : ∀ v ∈ new, v.oneCell' = true)
 (h : ∀ w', Upd g (.cells (splice old i new).toArray t (0, 0)) w w' → wpList P ops Q rest (a.put o.dst undef) w') : wpList P ops Q (o :: rest) a w := by
 have hU := upd_setCells (i := i) hg hold
 refine wpList_store_mid hgd ty x y ho g i new.toArray hx hy (fun j hj => ?_) (by simpa using hi) (all_oneCell_toArray h1) (by simpa using h _ hU)
 have hj' : i + j < old.length := by simp at hj; omega
 refine ⟨?_, zar hg _⟩
 rw [zaf hg, List.getElem?_toArray, List.getElem?_eq_getElem hj']; rfl
theorem zao (hg : o.guard = none) (t : TypeId) (parts : Array (Nat × Operand)) (ho : o.op = .build t parts) (ps : List (Nat × Value)) (hps : parts.toList.map (fun p => (p.1, a.eval p.2)) = ps)
 (cells : Array Value) (hb : P.built t ps = some cells) (h : wpList P ops Q rest (a.put o.dst (.agg cells)) w) : wpList P ops Q (o :: rest) a w := by
 have e : (parts.map fun (i, x) => (i, a.eval x)).toList = ps := by rw [← hps, Array.toList_map]
 exact wpList_build hg t parts ho (by rw [e, hb]; rfl) (by rw [e, hb]; exact h)
theorem copy_upd {w : World} (dT sT ty elem : TypeId) (hu : P.underlying dT = some (.slice elem)) (hsz : (P.info? elem).map (·.size) = some 1) (dp sp : Option Addr) (dLen dCap sLen sCap : Nat)
 (g off : Nat) (cur : List Value) (t : TypeId) (hg : w.heap[g]? = some (.cells cur.toArray t (0, 0))) (cs : List Value) (hn : cs.length = Nat.min sLen dLen)
 (hpos : 0 < cs.length → dp = some ⟨g, off, none⟩ ∧ ∃ b i, sp = some ⟨b, i, none⟩ ∧ w.rangeAt b i cs) (hfit : off + cs.length ≤ cur.length) (h1 : ∀ v ∈ cs, v.oneCell' = true) :
 ∃ w', (Builtin.copy_ #[dT, sT] ty #[.slice dp dLen dCap, .slice sp sLen sCap]).run P w = .ok (goInt cs.length) w' ∧ Upd g (.cells (splice cur off cs).toArray t (0, 0)) w w' := by
 by_cases h0 : cs.length = 0
 · obtain rfl : cs = [] := List.eq_nil_of_length_eq_zero h0
   exact ⟨w, run_copy_none (P := P) w dT sT ty elem dp sp dLen dCap sLen sCap hu hsz (by simpa using hn.symm), rfl, rfl, rfl, rfl, by simpa [splice] using hg, fun _ _ => rfl⟩
 · obtain ⟨rfl, b, i, rfl, hsrc⟩ := hpos (by omega)
   refine ⟨_, run_copy_row (P := P) w dT sT ty elem g off dLen dCap ⟨b, i, none⟩ sLen sCap cur.toArray t cs hu hsz hg hn (fun j v hv => by rw [Addr.add_mid]; exact hsrc j v hv) (by simpa using hfit) h1, ?_⟩; have h := upd_setRow (cs := (cur.take off ++ (cs ++ cur.drop (off + cs.length))).toArray) hg; simpa [splice] using h
theorem wp_copy_upd {K : Act → World → Prop} (d s : Operand) (dT sT : TypeId) (ho : o.op = .call { callee := .builtin .copy, args := #[d, s], argTypes := #[dT, sT] }) (elem : TypeId) (hu : P.underlying dT = some (.slice elem)) (hsz : (P.info? elem).map (·.size) = some 1)
 (dp sp : Option Addr) (dLen dCap sLen sCap : Nat) (hd : a.eval d = .slice dp dLen dCap) (hs : a.eval s = .slice sp sLen sCap)
 (g off : Nat) (cur : List Value) (t : TypeId) (hg : w.heap[g]? = some (.cells cur.toArray t (0, 0))) (cs : List Value) (hn : cs.length = Nat.min sLen dLen)
 (hpos : 0 < cs.length → dp = some ⟨g, off, none⟩ ∧ ∃ b i, sp = some ⟨b, i, none⟩ ∧ w.rangeAt b i cs) (hfit : off + cs.length ≤ cur.length) (h1 : ∀ v ∈ cs, v.oneCell' = true)
 (h : ∀ w', Upd g (.cells (splice cur off cs).toArray t (0, 0)) w w' → K (a.put o.dst (goInt cs.length)) w') : o.wp P a w K Q := by
 obtain ⟨w', hrun, hU⟩ := copy_upd (P := P) dT sT o.type elem hu hsz dp sp dLen dCap sLen sCap g off cur t hg cs hn hpos hfit h1
 unfold Oper.wp
 simp [execOp, ho, resolve, invoke, builtin, hd, hs, hrun, Result.andThen]
 exact h w' hU
theorem step_copy_upd {K : Act → World → Prop} {E : Prop} (hgd : o.guard = none) (d s : Operand) (dT sT : TypeId) (ho : o.op = .call { callee := .builtin .copy, args := #[d, s], argTypes := #[dT, sT] }) (elem : TypeId) (hu : P.underlying dT = some (.slice elem)) (hsz : (P.info? elem).map (·.size) = some 1)
 (dp sp : Option Addr) (dLen dCap sLen sCap : Nat) (hd : a.eval d = .slice dp dLen dCap) (hs : a.eval s = .slice sp sLen sCap)
 (g off : Nat) (cur : List Value) (t : TypeId) (hg : w.heap[g]? = some (.cells cur.toArray t (0, 0))) (cs : List Value) (hn : cs.length = Nat.min sLen dLen)
 (hpos : 0 < cs.length → dp = some ⟨g, off, none⟩ ∧ ∃ b i, sp = some ⟨b, i, none⟩ ∧ w.rangeAt b i cs) (hfit : off + cs.length ≤ cur.length) (h1 : ∀ v ∈ cs, v.oneCell' = true)
 (h : ∀ w', Upd g (.cells (splice cur off cs).toArray t (0, 0)) w w' → K (a.put o.dst (goInt cs.length)) w') : if Region.wanted o (yielded ops a.tmps) = true then Oper.wp P o a w K Q else E := by
 rw [if_pos (by simp [Region.wanted, hgd])]
 exact wp_copy_upd d s dT sT ho elem hu hsz dp sp dLen dCap sLen sCap hd hs g off cur t hg cs hn hpos hfit h1 h
end
theorem zak (w : World) (o : Obj) (n : Nat) (h : w.heap.size = n) : (w.alloc o).heap[n]? = some o := by subst h; exact heap_alloc_new w o
theorem zbi (w : World) (A B : Obj) : ((w.alloc A).alloc B).heap[w.heap.size]? = some A := zam (zak _ _ _ rfl) _
theorem heap_at2 (w : World) (A B C : Obj) : (((w.alloc A).alloc B).alloc C).heap[w.heap.size + 1]? = some B := zam (zak _ _ _ (by simp)) _
theorem heap_at2' (w : World) (A B C : Obj) : (((w.alloc A).alloc B).alloc C).heap[w.heap.size]? = some A := zam (zbi w A B) _
theorem below3 (w : World) (A B C : Obj) : Below w.heap.size w (((w.alloc A).alloc B).alloc C) := (((Below.refl _ w).alloc (Nat.le_refl _) _).alloc (by simp) _).alloc (by simp; omega) _
theorem below2 (w : World) (A B : Obj) : Below w.heap.size w ((w.alloc A).alloc B) := ((Below.refl _ w).alloc (Nat.le_refl _) _).alloc (by simp) _
theorem results_row1 {P : Program} {fn : Func} {p : Tmp} {ty : TypeId} (h : fn.results = #[.cell p ty]) (tmps : Array Value) (w : World) (g : Nat) (t : TypeId) (cs : List Value) (fr : Nat × Nat) (d : TypeDesc)
 (hp : tmps.getD p undef = .pointer (some ⟨g, 0, none⟩)) (hg : w.heap[g]? = some (.cells cs.toArray t fr))
 (hu : P.underlying ty = some d) (hd : (match d with | .struct _ | .array _ _ => true | _ => false) = true) (hi : (P.info? ty).map (·.size) = some cs.length) :
 (results fn tmps).run P w = .ok (.agg cs.toArray) w :=
 results_cell_row h tmps w g t cs.toArray fr d hp hg hu hd (by simpa using hi)
theorem zav {P : Program} {fn : Func} {p u : Tmp} {ty : TypeId} (h : fn.results = #[.cell p ty, .tmp u]) (tmps : Array Value) (w : World) (g : Nat) (t : TypeId) (cs : List Value) (fr : Nat × Nat) (d : TypeDesc)
 (hp : tmps.getD p undef = .pointer (some ⟨g, 0, none⟩)) (hg : w.heap[g]? = some (.cells cs.toArray t fr))
 (hu : P.underlying ty = some d) (hd : (match d with | .struct _ | .array _ _ => true | _ => false) = true) (hi : (P.info? ty).map (·.size) = some cs.length) :
 (results fn tmps).run P w = .ok (.tuple #[.agg cs.toArray, tmps.getD u undef]) w := by
 rw [results_cell_tmp h, hp]
 simp only [asAddr, Sem.run_pure, Result.andThen_ok, run_loadVar_row w g t ty cs.toArray fr d hg hu hd (by simpa using hi)]
end Go.Proofs.YtpbigfopmompfaaGreat
