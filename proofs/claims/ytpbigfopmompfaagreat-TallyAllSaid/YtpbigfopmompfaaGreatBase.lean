import Derived.Below
import Derived.Laws.OwnMore
import Derived.Deep.Draws
import Derived.Laws.Rows
import Derived.OwnWalk
import Derived.Maps.AppendAt
import Derived.RegionTactic
/- Words for memory, no program in sight: a slice that reads as a list, a block known whole, what is kept below a block number. -/
namespace Go.Proofs.YtpbigfopmompfaaGreat
open Go.RowKit

def Rd (w : World) (B : Nat) (A : Option Addr) (n : Nat) (xs : List Value) : Prop :=
 xs.length = n ∧ (0 < n → ∃ b o, A = some ⟨b, o, none⟩ ∧ b < B ∧ ∀ i u, xs[i]? = some u → w.cell? ⟨b, o + i, none⟩ = some u)

section
variable {w w' : World} {B B' n : Nat} {A : Option Addr} {xs : List Value}
theorem Rd.nil : Rd w B A 0 [] := ⟨rfl, fun h => absurd h (by omega)⟩
theorem Rd.same (h : Rd w B A n xs) (hk : ∀ p : Addr, p.block < B → w'.cell? p = w.cell? p) : Rd w' B A n xs := by
 refine ⟨h.1, fun hn => ?_⟩
 obtain ⟨b, o, e, hb, hc⟩ := h.2 hn
 exact ⟨b, o, e, hb, fun i u hu => (hk _ hb).trans (hc i u hu)⟩
theorem Rd.mono (h : Rd w B A n xs) (hB : B ≤ B') : Rd w B' A n xs := by
 refine ⟨h.1, fun hn => ?_⟩
 obtain ⟨b, o, e, hb, hc⟩ := h.2 hn
 exact ⟨b, o, e, by omega, hc⟩
theorem Rd.below (h : Rd w B A n xs) {C : Nat} (hb : Below C w w') (hC : B ≤ C) : Rd w' B A n xs := h.same fun _ hp => hb.cell (by omega)
theorem Rd.drewN (h : Rd w B A n xs) (k : Nat) : Rd (w.drewN k) B A n xs := h
theorem Rd.drew (h : Rd w B A n xs) : Rd w.drew B A n xs := h
theorem Rd.at_ (h : Rd w B A n xs) {k : Nat} (hk : k < n) : ∃ b o, A = some ⟨b, o, none⟩ ∧ b < B ∧ w.cell? ⟨b, o + k, none⟩ = xs[k]? := by
 obtain ⟨b, o, e, hb, hc⟩ := h.2 (by omega)
 have hl : k < xs.length := by rw [h.1]; exact hk
 exact ⟨b, o, e, hb, by rw [hc k _ (List.getElem?_eq_getElem hl), List.getElem?_eq_getElem hl]⟩
theorem Rd.cut (h : Rd w B A n xs) {k cap : Nat} (hk : k ≤ n) (hc : n ≤ cap) : Rd w B (if cap = k then A else A.map (·.add k)) (n - k) (xs.drop k) := by
 refine ⟨by rw [List.length_drop, h.1], fun hn => ?_⟩
 obtain ⟨b, o, rfl, hb, hcell⟩ := h.2 (by omega)
 rw [if_neg (by omega)]
 refine ⟨b, o + k, ?_, hb, fun i u hu => ?_⟩
 · simp only [Option.map_some, Addr.add]
   by_cases hk0 : k = 0
   · simp [hk0]
   · rw [if_neg hk0]
 · rw [Nat.add_assoc]
   exact hcell _ u (by rw [← hu, List.getElem?_drop])
theorem Rd.take (h : Rd w B A n xs) {k : Nat} (hk : k ≤ n) : Rd w B A k (xs.take k) := by
 refine ⟨by rw [List.length_take, h.1]; omega, fun hn => ?_⟩
 obtain ⟨b, o, rfl, hb, hcell⟩ := h.2 (by omega)
 refine ⟨b, o, rfl, hb, fun i u hu => hcell i u ?_⟩
 rw [List.getElem?_take] at hu
 split at hu
 · exact hu
 · cases hu
theorem Rd.grown (h : Rd w B A n xs) {row : Option Nat} (hg : w.grownBy w' row) (hB : B ≤ w.heap.size) (hr : ∀ g, row = some g → B ≤ g) : Rd w' B A n xs :=
 h.same fun p hp => World.cell?_of_block (hg.block p.block (by omega) fun e => by have := hr _ e.symm; omega)
theorem Rd.of_own {base : Nat} {e : TypeId} {c : Nat} (h : w.ownsRow base e 1 (.slice A n c) n xs) : Rd w w.heap.size A n xs := by
 refine ⟨by have := h.1; omega, fun hn => ?_⟩
 rcases h.2 with ⟨h', h0⟩ | ⟨g, cap, cur, hv, hb, hh, _⟩
 · omega
 · injection hv with hA hn' hc
   subst hA; refine ⟨g, 0, rfl, (Array.getElem?_eq_some_iff.1 hh).1, fun i u hu => ?_⟩; have := h.cells (g := g) rfl i u hu; have e' : (⟨g, 0, none⟩ : Addr).add i = ⟨g, 0 + i, none⟩ := by unfold Addr.add; split <;> simp_all
   rwa [e'] at this
end

theorem zb6 {w w' : World} {base : Nat} {e : TypeId} {size : Nat} {v : Value} {n : Nat} {xs : List Value} (h : w.ownsRow base e size v n xs) (hb : Below w.heap.size w w') : w'.ownsRow base e size v n xs := by
 refine ⟨h.1, ?_⟩
 rcases h.2 with h2 | ⟨g, cap, cur, hv, hg, hh, r⟩
 · exact Or.inl h2
 · exact Or.inr ⟨g, cap, cur, hv, hg, by rw [hb.block g (Array.getElem?_eq_some_iff.1 hh).1]; exact hh, r⟩
theorem own_base {w : World} {base base' : Nat} {e : TypeId} {size : Nat} {v : Value} {n : Nat} {xs : List Value} (h : w.ownsRow base e size v n xs) (hb : base' ≤ base) : w.ownsRow base' e size v n xs := by
 refine ⟨h.1, ?_⟩
 rcases h.2 with h2 | ⟨g, cap, cur, hv, hg, hh, r⟩
 · exact Or.inl h2
 · exact Or.inr ⟨g, cap, cur, hv, by omega, hh, r⟩
theorem own_slice {w : World} {base : Nat} {e : TypeId} {size : Nat} {v : Value} {n : Nat} {xs : List Value} (h : w.ownsRow base e size v n xs) : ∃ A c, v = .slice A n c ∧ n ≤ c ∧ c ≤ maxLen := by
 rcases h.2 with ⟨rfl, rfl⟩ | ⟨g, cap, cur, hv, hg, hh, h1, h2, _⟩
 · exact ⟨none, 0, rfl, by omega, by unfold maxLen; omega⟩
 · exact ⟨_, cap, hv, h1, h2⟩
theorem za7 {w : World} {base : Nat} {e : TypeId} {size : Nat} {v : Value} {n : Nat} {xs : List Value} (h : w.ownsRow base e size v n xs) (hn : 0 < n) : ∃ g c, v = .slice (some ⟨g, 0, none⟩) n c ∧ base ≤ g ∧ g < w.heap.size ∧ n ≤ c ∧ c ≤ maxLen := by
 rcases h.2 with ⟨rfl, rfl⟩ | ⟨g, cap, cur, hv, hg, hh, h1, h2, _⟩
 · omega
 · exact ⟨g, cap, hv, hg, (Array.getElem?_eq_some_iff.1 hh).1, h1, h2⟩
theorem own_far {w : World} {base : Nat} {e : TypeId} {size : Nat} {v : Value} {n : Nat} {xs : List Value} (h : w.ownsRow base e size v n xs) {p : Addr} (hp : v.ownBlock ≠ some p.block) (u : Value) : (w.setCell p u).ownsRow base e size v n xs := by
 refine ⟨h.1, ?_⟩
 rcases h.2 with h2 | ⟨g, cap, cur, rfl, hg, hh, r⟩
 · exact Or.inl h2
 · exact Or.inr ⟨g, cap, cur, rfl, hg, by rw [Below.heap_setCell _ _ _ _ (fun e => hp (by rw [← e]; rfl))]; exact hh, r⟩
theorem zau {B : Nat} {a w : World} (h : Below B a w) (n : Nat) : Below B a (w.drewN n) := ⟨h.os, h.tape, h.output, h.size, h.block⟩
theorem below_append {B : Nat} {a w w' : World} {base : Nat} {e : TypeId} {size : Nat} {v : Value} {n : Nat} {xs : List Value} (h : Below B a w) (hown : w.ownsRow base e size v n xs) (hg : w.grownBy w' v.ownBlock) (hB : B ≤ w.heap.size) (hb : B ≤ base) : Below B a w' :=
 h.grown hg hB fun k hk => by have := hown.lt k hk; omega

structure Keep (S : Nat → Prop) (w w' : World) : Prop where
 os : w'.os = w.os
 tape : w'.tape = w.tape
 output : w'.output = w.output
 size : w.heap.size ≤ w'.heap.size
 block : ∀ k, k < w.heap.size → ¬ S k → w'.heap[k]? = w.heap[k]?
theorem Keep.refl (S : Nat → Prop) (w : World) : Keep S w w := ⟨rfl, rfl, rfl, Nat.le_refl _, fun _ _ _ => rfl⟩
theorem Keep.trans {S T U : Nat → Prop} {a b c : World} (h : Keep S a b) (k : Keep T b c) (hS : ∀ i, S i → U i) (hT : ∀ i, i < a.heap.size → T i → U i) : Keep U a c :=
 ⟨k.os.trans h.os, k.tape.trans h.tape, k.output.trans h.output, Nat.le_trans h.size k.size, fun i hi hn => (k.block i (Nat.lt_of_lt_of_le hi h.size) fun e => hn (hT i hi e)).trans (h.block i hi fun e => hn (hS i e))⟩
theorem Keep.mono {S T : Nat → Prop} {a b : World} (h : Keep S a b) (hS : ∀ i, i < a.heap.size → S i → T i) : Keep T a b :=
 ⟨h.os, h.tape, h.output, h.size, fun i hi hn => h.block i hi fun e => hn (hS i hi e)⟩
theorem Keep.below {S : Nat → Prop} {a b : World} {B : Nat} (h : Keep S a b) (hB : B ≤ a.heap.size) (hS : ∀ i, S i → B ≤ i) : Below B a b :=
 ⟨h.os, h.tape, h.output, h.size, fun i hi => h.block i (by omega) fun e => by have := hS i e; omega⟩
theorem Keep.of_below {a b : World} {B : Nat} (h : Below B a b) : Keep (fun i => B ≤ i) a b :=
 ⟨h.os, h.tape, h.output, h.size, fun i _ hn => h.block i (by omega)⟩
theorem Keep.of_new {S : Nat → Prop} {a b : World} (h : Below a.heap.size a b) : Keep S a b :=
 ⟨h.os, h.tape, h.output, h.size, fun i hi _ => h.block i hi⟩
theorem Keep.of_grown {a b : World} {row : Option Nat} (h : a.grownBy b row) : Keep (fun i => some i = row) a b :=
 ⟨h.os, h.tape, h.output, h.size, h.block⟩
theorem Keep.setCell {S : Nat → Prop} {a b : World} (h : Keep S a b) {p : Addr} (hp : S p.block ∨ a.heap.size ≤ p.block) (u : Value) : Keep S a (b.setCell p u) :=
 ⟨h.os, h.tape, h.output, by simpa [World.setCell] using h.size, fun i hi hn => (Below.heap_setCell b p u i (by rintro rfl; rcases hp with hp | hp; exact hn hp; omega)).trans (h.block i hi hn)⟩
theorem Keep.drew {S : Nat → Prop} {a b : World} (h : Keep S a b) : Keep S a b.drew := ⟨h.os, h.tape, h.output, h.size, h.block⟩
theorem Keep.drewN {S : Nat → Prop} {a b : World} (h : Keep S a b) (n : Nat) : Keep S a (b.drewN n) := ⟨h.os, h.tape, h.output, h.size, h.block⟩
theorem own_keep {S : Nat → Prop} {w w' : World} {base : Nat} {e : TypeId} {size : Nat} {v : Value} {n : Nat} {xs : List Value} (h : w.ownsRow base e size v n xs) (hk : Keep S w w') (hn : ∀ k, v.ownBlock = some k → ¬ S k) : w'.ownsRow base e size v n xs := by
 refine ⟨h.1, ?_⟩
 rcases h.2 with h2 | ⟨g, cap, cur, rfl, hg, hh, r⟩
 · exact Or.inl h2
 · exact Or.inr ⟨g, cap, cur, rfl, hg, by rw [hk.block g (Array.getElem?_eq_some_iff.1 hh).1 (hn g rfl)]; exact hh, r⟩
theorem Rd.keep {S : Nat → Prop} {w w' : World} {B n : Nat} {A : Option Addr} {xs : List Value} (h : Rd w B A n xs) (hk : Keep S w w') (hB : B ≤ w.heap.size) (hn : ∀ i, i < B → ¬ S i) : Rd w' B A n xs :=
 h.same fun p hp => World.cell?_of_block (hk.block p.block (by omega) (hn _ hp))
theorem zaf {w : World} {g : Nat} {cs : Array Value} {t : TypeId} {f : Nat × Nat} (h : w.heap[g]? = some (.cells cs t f)) (i : Nat) : w.cell? ⟨g, i, none⟩ = cs[i]? := cell_of_row w g i cs t f h
theorem zar {w : World} {g : Nat} {cs : Array Value} {t : TypeId} (h : w.heap[g]? = some (.cells cs t (0, 0))) (i : Nat) : w.frozen? ⟨g, i, none⟩ = false := by simp [World.frozen?, h]
theorem zam {w : World} {g : Nat} {x : Obj} (h : w.heap[g]? = some x) (o : Obj) : (w.alloc o).heap[g]? = some x := (Below.heap_alloc w o g (Array.getElem?_eq_some_iff.1 h).1).trans h
theorem zbw {w w' : World} {g : Nat} {x : Obj} {row : Option Nat} (h : w.heap[g]? = some x) (hg : w.grownBy w' row) (hne : some g ≠ row) : w'.heap[g]? = some x := (hg.block g (Array.getElem?_eq_some_iff.1 h).1 hne).trans h
theorem zay {S : Nat → Prop} {w w' : World} {g : Nat} {x : Obj} (h : w.heap[g]? = some x) (hk : Keep S w w') (hn : ¬ S g) : w'.heap[g]? = some x := (hk.block g (Array.getElem?_eq_some_iff.1 h).1 hn).trans h
theorem zad {w w' : World} {g : Nat} {x : Obj} (h : w.heap[g]? = some x) (hb : Below w.heap.size w w') : w'.heap[g]? = some x := (hb.block g (Array.getElem?_eq_some_iff.1 h).1).trans h
theorem blk_set {w : World} {g : Nat} {x : Obj} {p : Addr} (h : w.heap[g]? = some x) (hne : g ≠ p.block) (u : Value) : (w.setCell p u).heap[g]? = some x := (Below.heap_setCell w p u g hne).trans h
theorem own_ne {w : World} {base : Nat} {e : TypeId} {size : Nat} {v : Value} {n : Nat} {xs : List Value} (h : w.ownsRow base e size v n xs) {g : Nat} {cs : Array Value} {t : TypeId} {f : Nat × Nat} (hg : w.heap[g]? = some (.cells cs t f)) (hne : e ≠ t) : v.ownBlock ≠ some g := by
 rcases h.2 with ⟨rfl, _⟩ | ⟨g', cap, cur, rfl, _, hh, _⟩
 · simp [Value.ownBlock]
 · intro he
   have : g' = g := by simpa [Value.ownBlock] using he
   subst this; rw [hh] at hg; injection hg with hg
   injection hg with _ ht
   exact hne ht
theorem zag {w : World} {g : Nat} {o : Obj} (h : w.heap[g]? = some o) : g < w.heap.size := (Array.getElem?_eq_some_iff.1 h).1
theorem heap_set2 {w : World} {g i : Nat} {cs : Array Value} {t : TypeId} {f : Nat × Nat} (h : w.heap[g]? = some (.cells cs t f)) (u : Value) : (w.setCell ⟨g, i, none⟩ u).heap[g]? = some (.cells (cs.setIfInBounds i u) t f) := by
 simp [World.setCell, Array.getElem?_modify, h]

def ints (k : IntKind) (l : List Int) : List Value := l.map (Value.int k)
def nats (k : IntKind) (l : List Nat) : List Value := l.map fun n : Nat => Value.int k n
theorem nats_at (k : IntKind) (l : List Nat) (j : Nat) (h : j < l.length) : (nats k l)[j]? = some (.int k l[j]) := by simp [nats, h]
theorem zaj (k : IntKind) (l : List Nat) : (nats k l).length = l.length := by simp [nats]
theorem ints_length (k : IntKind) (l : List Int) : (ints k l).length = l.length := by simp [ints]
theorem za1 (k : IntKind) (l : List Nat) : ∀ u ∈ nats k l, u.oneCell' = true := by
 intro u hu; obtain ⟨_, _, rfl⟩ := List.mem_map.1 hu; rfl
section
variable {P : Program} {o : Oper} {a : Act} {Q : Exit → Act → World → Prop} (s x : Operand) (t e : TypeId) (z : Value) (bytes : Nat) {base B n m C c : Nat} {A : Option Addr} {w0 wr : World} {v u : Value} {xs news : List Value}
theorem wp_append1 {K : Act → World → Prop} (ho : o.op = .call { callee := .builtin .append, args := #[s, x], argTypes := #[t, t] })
 (ht : P.underlying t = some (.slice e)) (hinfo : (P.info? e).map (fun i => (i.zero, i.size, i.bytes)) = some (some z, 1, bytes)) (hzs : z.cells.size = 1)
 (hown : wr.ownsRow base e 1 v n xs) (hbel : Below B w0 wr) (hs : a.eval s = v) (hx : a.eval x = .slice (some ⟨wr.heap.size, 0, none⟩) 1 1) (h1 : u.oneCell' = true)
 (h63 : n + 1 ≤ maxLen) (hbytes : (n + 1) * bytes ≤ 140737488355328) (hbase : base ≤ wr.heap.size) (hB : B ≤ base)
 (h : ∀ v' w', w'.ownsRow base e 1 v' (n + 1) (xs ++ [u]) → Below B w0 w' → (wr.alloc (.cells #[u] e)).grownBy w' v.ownBlock → (v'.ownBlock = v.ownBlock ∨ ∃ j, v'.ownBlock = some j ∧ wr.heap.size ≤ j) → K (a.put o.dst v') w') : o.wp P a (wr.alloc (.cells #[u] e)) K Q := by
 obtain ⟨i, hi, hz, hsize, hby⟩ := info_parts hinfo
 obtain ⟨v', w', hr, h2, h3, _, h5⟩ := run_append_own_at (P := P) (wr.alloc (.cells #[u] e)) base t o.type e i z 1 bytes ht hi hz hsize hby hzs (by decide) v n xs (hown.alloc _) ⟨wr.heap.size, 0, none⟩ 1 1 [u] rfl (cell_one_new _ _ _)
  (by intro u' hu'; rcases List.mem_singleton.1 hu' with rfl; exact h1) h63 hbytes (by simp; omega)
 unfold Oper.wp execOp
 simp only [ho, resolve, invoke, builtin, Sem.run_bind, Sem.run_pure, Result.andThen_ok, List.map_toArray, List.map_cons, List.map_nil, hs, hx, hr]
 exact h v' w' h2 (below_append (hbel.alloc (by omega) _) (hown.alloc _) h3 (by simp; omega) hB) h3 (h5.imp id fun e => ⟨_, e, by simp⟩)
theorem wp_appendN {K : Act → World → Prop} (ho : o.op = .call { callee := .builtin .append, args := #[s, x], argTypes := #[t, t] })
 (ht : P.underlying t = some (.slice e)) (hinfo : (P.info? e).map (fun i => (i.zero, i.size, i.bytes)) = some (some z, 1, bytes)) (hzs : z.cells.size = 1)
 (hown : wr.ownsRow base e 1 v n xs) (hbel : Below B w0 wr) (hs : a.eval s = v) (hx : a.eval x = .slice A m c) (hrd : Rd wr C A m news) (h1 : ∀ u ∈ news, u.oneCell' = true)
 (h63 : n + m ≤ maxLen) (hbytes : (n + m) * bytes ≤ 140737488355328) (hbase : base ≤ wr.heap.size) (hB : B ≤ base)
 (h : ∀ v' w', w'.ownsRow base e 1 v' (n + m) (xs ++ news) → Below B w0 w' → wr.grownBy w' v.ownBlock → (v'.ownBlock = v.ownBlock ∨ ∃ j, v'.ownBlock = some j ∧ wr.heap.size ≤ j) → K (a.put o.dst v') w') : o.wp P a wr K Q := by
 obtain ⟨i, hi, hz, hsize, hby⟩ := info_parts hinfo
 rcases A with _ | ad
 · have hm : m = 0 := by
    rcases Nat.eq_zero_or_pos m with h0 | h0
    · exact h0
    · obtain ⟨b, o', hA, _⟩ := hrd.2 h0
      cases hA
   subst hm; have hn : news = [] := List.eq_nil_of_length_eq_zero hrd.1; subst hn
   have hrun : (Builtin.append_ #[t, t] o.type #[v, .slice none 0 c]).run P wr = .ok v wr := by
    rcases hown.2 with ⟨rfl, rfl⟩ | ⟨g, cap, cur, rfl, _, _, hnc, _⟩
    · simp [Builtin.append_, run_underlying ht, sizeOf, typeInfo, hi, Builtin.lenOf, Builtin.firstCells]
    · simp [Builtin.append_, run_underlying ht, sizeOf, typeInfo, hi, Builtin.lenOf, Builtin.firstCells, hnc, storeCells]
   unfold Oper.wp; simp [execOp, ho, resolve, invoke, builtin, hs, hx, hrun, Result.andThen]; exact h v wr (by simpa using hown) hbel (World.grownBy.refl _ _) (.inl rfl)
 · by_cases h0 : 0 < m
   · obtain ⟨b, off, hA, _, hcell⟩ := hrd.2 h0
     injection hA with hA
     subst hA
     obtain ⟨v', w', hr, h2, h3, _, h5⟩ := run_append_own_at (P := P) wr base t o.type e i z 1 bytes ht hi hz hsize hby hzs (by decide) v n xs hown ⟨b, off, none⟩ m c news (by rw [hrd.1]; omega)
      (by intro j u hu; rw [Addr.add_lit]; exact hcell j u hu) h1 h63 hbytes hbase
     unfold Oper.wp execOp; simp only [ho, resolve, invoke, builtin, Sem.run_bind, Sem.run_pure, Result.andThen_ok, List.map_toArray, List.map_cons, List.map_nil, hs, hx, hr]; exact h v' w' h2 (below_append hbel hown h3 (by omega) hB) h3 (h5.imp id fun e => ⟨_, e, Nat.le_refl _⟩)
   · obtain rfl : m = 0 := by omega
     have hn : news = [] := List.eq_nil_of_length_eq_zero hrd.1; subst hn; obtain ⟨v', w', hr, h2, h3, _, h5⟩ := run_append_own_at (P := P) wr base t o.type e i z 1 bytes ht hi hz hsize hby hzs (by decide) v n xs hown ad 0 c [] (by simp) (by simp) h1 h63 hbytes hbase; unfold Oper.wp execOp; simp only [ho, resolve, invoke, builtin, Sem.run_bind, Sem.run_pure, Result.andThen_ok, List.map_toArray, List.map_cons, List.map_nil, hs, hx, hr]; exact h v' w' h2 (below_append hbel hown h3 (by omega) hB) h3 (h5.imp id fun e => ⟨_, e, Nat.le_refl _⟩)
end
theorem zbm {P : Program} {ops : Array Oper} {rest : List Oper} {o : Oper} {a : Act} {Q : Exit → Act → World → Prop} (hgd : o.guard = none) (s x : Operand) (t : TypeId)
 (ho : o.op = .call { callee := .builtin .append, args := #[s, x], argTypes := #[t, t] })
 (e : TypeId) (z : Value) (bytes : Nat) (ht : P.underlying t = some (.slice e)) (hinfo : (P.info? e).map (fun i => (i.zero, i.size, i.bytes)) = some (some z, 1, bytes)) (hzs : z.cells.size = 1)
 {base B n : Nat} {w0 wr : World} {v u : Value} {xs : List Value} (hown : wr.ownsRow base e 1 v n xs) (hbel : Below B w0 wr) (hs : a.eval s = v) (hx : a.eval x = .slice (some ⟨wr.heap.size, 0, none⟩) 1 1) (h1 : u.oneCell' = true)
 (h63 : n + 1 ≤ maxLen) (hbytes : (n + 1) * bytes ≤ 140737488355328) (hbase : base ≤ wr.heap.size) (hB : B ≤ base)
 (h : ∀ v' w', w'.ownsRow base e 1 v' (n + 1) (xs ++ [u]) → Below B w0 w' → (wr.alloc (.cells #[u] e)).grownBy w' v.ownBlock → (v'.ownBlock = v.ownBlock ∨ ∃ j, v'.ownBlock = some j ∧ wr.heap.size ≤ j) → wpList P ops Q rest (a.put o.dst v') w') : wpList P ops Q (o :: rest) a (wr.alloc (.cells #[u] e)) :=
 wpList_plain hgd fun _ hK => wp_append1 s x t e z bytes ho ht hinfo hzs hown hbel hs hx h1 h63 hbytes hbase hB fun v' w' p q r k => hK _ _ (h v' w' p q r k)
theorem wpList_appendN {P : Program} {ops : Array Oper} {rest : List Oper} {o : Oper} {a : Act} {Q : Exit → Act → World → Prop} (hgd : o.guard = none) (s x : Operand) (t : TypeId)
 (ho : o.op = .call { callee := .builtin .append, args := #[s, x], argTypes := #[t, t] })
 (e : TypeId) (z : Value) (bytes : Nat) (ht : P.underlying t = some (.slice e)) (hinfo : (P.info? e).map (fun i => (i.zero, i.size, i.bytes)) = some (some z, 1, bytes)) (hzs : z.cells.size = 1)
 {base B n m C c : Nat} {A : Option Addr} {w0 wr : World} {v : Value} {xs news : List Value} (hown : wr.ownsRow base e 1 v n xs) (hbel : Below B w0 wr) (hs : a.eval s = v) (hx : a.eval x = .slice A m c) (hrd : Rd wr C A m news) (h1 : ∀ u ∈ news, u.oneCell' = true)
 (h63 : n + m ≤ maxLen) (hbytes : (n + m) * bytes ≤ 140737488355328) (hbase : base ≤ wr.heap.size) (hB : B ≤ base)
 (h : ∀ v' w', w'.ownsRow base e 1 v' (n + m) (xs ++ news) → Below B w0 w' → wr.grownBy w' v.ownBlock → (v'.ownBlock = v.ownBlock ∨ ∃ j, v'.ownBlock = some j ∧ wr.heap.size ≤ j) → wpList P ops Q rest (a.put o.dst v') w') : wpList P ops Q (o :: rest) a wr :=
 wpList_plain hgd fun _ hK => wp_appendN s x t e z bytes ho ht hinfo hzs hown hbel hs hx hrd h1 h63 hbytes hbase hB fun v' w' p q r k => hK _ _ (h v' w' p q r k)
end Go.Proofs.YtpbigfopmompfaaGreat
