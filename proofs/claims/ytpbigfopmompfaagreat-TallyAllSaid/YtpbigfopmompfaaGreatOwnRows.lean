import Derived.Test.YtpbigfopmompfaaGreatMem
import Derived.Test.YtpbigfopmompfaaGreatFlat
import Derived.Great.BuildSlice
/- Slices whose elements have many cells, no program in sight: rows that one owns; appends of rows. -/
namespace Go.Proofs.YtpbigfopmompfaaGreat
open Go.RowKit
set_option linter.unusedVariables false
def OwnRows (w : World) (base : Nat) (e : TypeId) (C : Nat) (v : Value) (n : Nat) (rows : List (List Value)) : Prop :=
 w.ownsRow base e C v n rows.flatten ∧ rows.length = n ∧ ∀ r ∈ rows, r.length = C
theorem zbp {C : Nat} : ∀ {rows : List (List Value)}, (∀ r ∈ rows, r.length = C) → rows.flatten.length = rows.length * C
 | [], _ => by simp
 | r :: rows, h => by
  rw [List.flatten_cons, List.length_append, zbp fun x hx => h x (by simp [hx]), h r (by simp), List.length_cons, Nat.succ_mul]; omega
theorem zbd {C : Nat} : ∀ {rows : List (List Value)}, (∀ r ∈ rows, r.length = C) → ∀ {i j : Nat} {r : List Value}, rows[i]? = some r → j < C → rows.flatten[i * C + j]? = r[j]?
 | [], _, i, j, r, h, _ => by simp at h
 | x :: rows, hl, 0, j, r, h, hj => by
  simp at h; subst h; rw [List.flatten_cons, List.getElem?_append_left (by rw [hl x (by simp)]; omega)]; congr 1; omega
 | x :: rows, hl, i + 1, j, r, h, hj => by
  have hx := hl x (by simp); rw [List.flatten_cons, List.getElem?_append_right (by rw [hx, Nat.succ_mul]; omega), hx]; have := zbd (rows := rows) (fun y hy => hl y (by simp [hy])) (i := i) (j := j) (r := r) (by simpa using h) hj; rw [← this]; congr 1
  rw [Nat.succ_mul]; omega
theorem Rds.nil {w : World} {B C : Nat} {A : Option Addr} : Rds w B A C 0 [] := ⟨rfl, by simp, fun h => absurd h (by omega)⟩
theorem Rds.below {w w' : World} {B C D n : Nat} {A : Option Addr} {rows : List (List Value)} (h : Rds w B A C n rows) (hb : Below D w w') (hD : B ≤ D) : Rds w' B A C n rows := h.same fun p hp => hb.cell (by omega)
theorem Rds.mono {w : World} {B B' C n : Nat} {A : Option Addr} {rows : List (List Value)} (h : Rds w B A C n rows) (hB : B ≤ B') : Rds w B' A C n rows :=
 ⟨h.1, h.2.1, fun hn => by obtain ⟨b, o, e, hb, hc⟩ := h.2.2 hn; exact ⟨b, o, e, by omega, hc⟩⟩
theorem Rds.upd {w w' : World} {B C n G : Nat} {o : Obj} {A : Option Addr} {rows : List (List Value)} (h : Rds w B A C n rows) (hU : Upd G o w w') (hG : B ≤ G) : Rds w' B A C n rows := h.same fun p hp => World.cell?_of_block (hU.block p.block (by omega))
theorem Rds.take {w : World} {B C n : Nat} {A : Option Addr} {rows : List (List Value)} (h : Rds w B A C n rows) {k : Nat} (hk : k ≤ n) : Rds w B A C k (rows.take k) := by
 refine ⟨by rw [List.length_take, h.1]; omega, fun r hr => h.2.1 r (List.mem_of_mem_take hr), fun hn => ?_⟩
 obtain ⟨b, o, e, hb, hc⟩ := h.2.2 (by omega)
 refine ⟨b, o, e, hb, fun i r j u h1 h2 => hc i r j u ?_ h2⟩
 rw [List.getElem?_take] at h1
 split at h1
 · exact h1
 · cases h1
theorem Rds.cells {w : World} {B C m : Nat} {b o : Nat} {rows : List (List Value)} (h : Rds w B (some ⟨b, o, none⟩) C m rows) : w.rangeAt b o rows.flatten := by
 intro p u hp
 have hl := zbp h.2.1
 have hlt := (List.getElem?_eq_some_iff.1 hp).1
 rw [hl] at hlt
 have hC : 0 < C := by rcases Nat.eq_zero_or_pos C with e | e; (subst e; simp at hlt); exact e
 have hi : p / C < rows.length := by rw [Nat.div_lt_iff_lt_mul hC]; exact hlt
 have hj : p % C < C := Nat.mod_lt _ hC
 obtain ⟨b', o', e, hb, hc⟩ := h.2.2 (by rw [← h.1]; exact Nat.lt_of_le_of_lt (Nat.zero_le _) hi)
 injection e with e
 injection e with e1 e2
 subst e1 e2
 have hr := List.getElem?_eq_getElem hi
 have hg := zbd h.2.1 hr hj
 have hd : p / C * C + p % C = p := by rw [Nat.mul_comm]; exact Nat.div_add_mod p C
 rw [hd, hp] at hg
 have := hc _ _ _ u hr hg.symm
 rwa [hd] at this
section
variable {w w' : World} {base C n : Nat} {e : TypeId} {v : Value} {rows : List (List Value)}
theorem OwnRows.nil : OwnRows w base e C (.slice none 0 0) 0 [] := ⟨World.ownsRow_nil _ _ _ _, rfl, by simp⟩
theorem OwnRows.rds {A : Option Addr} {c : Nat} (h : OwnRows w base e C (.slice A n c) n rows) : Rds w w.heap.size A C n rows := by
 obtain ⟨ho, hl, hC⟩ := h
 refine ⟨hl, hC, fun hn => ?_⟩
 obtain ⟨g, c', hv, hg1, hg2, _⟩ := za7 ho hn
 injection hv with hA _ _
 subst hA
 refine ⟨g, 0, rfl, hg2, fun i r j u h1 h2 => ?_⟩
 have hj : j < C := by rw [← hC r (List.mem_of_getElem? h1)]; exact (List.getElem?_eq_some_iff.1 h2).1
 have := ho.cells (g := g) rfl (i * C + j) u (by rw [zbd hC h1 hj]; exact h2)
 rwa [Addr.add_mid] at this
theorem OwnRows.below (h : OwnRows w base e C v n rows) (hb : Below w.heap.size w w') : OwnRows w' base e C v n rows := ⟨zb6 h.1 hb, h.2⟩
theorem OwnRows.upd {G : Nat} {o : Obj} (h : OwnRows w base e C v n rows) (hU : Upd G o w w') (hG : v.ownBlock ≠ some G) : OwnRows w' base e C v n rows := ⟨hU.own h.1 hG, h.2⟩
theorem OwnRows.alloc (h : OwnRows w base e C v n rows) (o : Obj) : OwnRows (w.alloc o) base e C v n rows := ⟨h.1.alloc _, h.2⟩
theorem OwnRows.lower {base' : Nat} (h : OwnRows w base e C v n rows) (hb : base' ≤ base) : OwnRows w base' e C v n rows := ⟨own_base h.1 hb, h.2⟩
theorem OwnRows.slice (h : OwnRows w base e C v n rows) : ∃ A c, v = .slice A n c ∧ n ≤ c ∧ c ≤ maxLen := own_slice h.1
end
section
variable {P : Program} {o : Oper} {a : Act} {Q : Exit → Act → World → Prop}
theorem zb5 {K : Act → World → Prop} (s x : Operand) (t : TypeId) (ho : o.op = .call { callee := .builtin .append, args := #[s, x], argTypes := #[t, t] })
 (e : TypeId) (z : Value) (C bytes : Nat) (ht : P.underlying t = some (.slice e)) (hinfo : (P.info? e).map (fun i => (i.zero, i.size, i.bytes)) = some (some z, C, bytes)) (hzs : z.cells.size = C) (hC : 0 < C)
 {base B n m D c : Nat} {A : Option Addr} {w0 wr : World} {v : Value} {rows news : List (List Value)} (hown : OwnRows wr base e C v n rows) (hbel : Below B w0 wr) (hs : a.eval s = v) (hx : a.eval x = .slice A m c) (hrd : Rds wr D A C m news) (h1 : ∀ r ∈ news, ∀ u ∈ r, u.oneCell' = true)
 (h63 : n + m ≤ maxLen) (hbytes : (n + m) * bytes ≤ 140737488355328) (hbase : base ≤ wr.heap.size) (hB : B ≤ base)
 (h : ∀ v' w', OwnRows w' base e C v' (n + m) (rows ++ news) → Below B w0 w' → wr.grownBy w' v.ownBlock → (v'.ownBlock = v.ownBlock ∨ ∃ j, v'.ownBlock = some j ∧ wr.heap.size ≤ j) → K (a.put o.dst v') w') : o.wp P a wr K Q := by
 obtain ⟨i, hi, hz, hsize, hby⟩ := info_parts hinfo
 have hnl := zbp hrd.2.1
 rw [hrd.1] at hnl
 have hone : ∀ u ∈ news.flatten, u.oneCell' = true := by
  intro u hu; obtain ⟨r, hr, hu⟩ := List.mem_flatten.1 hu; exact h1 r hr u hu
 have hall : ∀ r ∈ rows ++ news, r.length = C := by
  intro r hr; rcases List.mem_append.1 hr with hr | hr
  · exact hown.2.2 r hr
  · exact hrd.2.1 r hr
 have hlen : (rows ++ news).length = n + m := by rw [List.length_append, hown.2.1, hrd.1]
 have fin : ∀ v' w', w'.ownsRow base e C v' (n + m) (rows.flatten ++ news.flatten) → OwnRows w' base e C v' (n + m) (rows ++ news) := fun v' w' ho => ⟨by rw [List.flatten_append]; exact ho, hlen, hall⟩
 rcases A with _ | ad
 · have hm : m = 0 := by
    rcases Nat.eq_zero_or_pos m with h0 | h0
    · exact h0
    · obtain ⟨b, o', hA, _⟩ := hrd.2.2 h0
      cases hA
   subst hm; have hn : news = [] := List.eq_nil_of_length_eq_zero hrd.1; subst hn
   have hrun : (Builtin.append_ #[t, t] o.type #[v, .slice none 0 c]).run P wr = .ok v wr := by
    rcases hown.1.2 with ⟨rfl, rfl⟩ | ⟨g, cap, cur, rfl, _, _, hnc, _⟩
    · simp [Builtin.append_, run_underlying ht, sizeOf, typeInfo, hi, Builtin.lenOf, Builtin.firstCells]
    · simp [Builtin.append_, run_underlying ht, sizeOf, typeInfo, hi, Builtin.lenOf, Builtin.firstCells, hnc, storeCells]
   unfold Oper.wp; simp [execOp, ho, resolve, invoke, builtin, hs, hx, hrun, Result.andThen]; exact h v wr (by simpa using hown) hbel (World.grownBy.refl _ _) (.inl rfl)
 · by_cases h0 : 0 < m
   · obtain ⟨b, off, hA, _⟩ := hrd.2.2 h0
     injection hA with hA
     subst hA
     obtain ⟨v', w', hr, h2, h3, _, h5⟩ := run_append_own_at (P := P) wr base t o.type e i z C bytes ht hi hz hsize hby hzs hC v n rows.flatten hown.1 ⟨b, off, none⟩ m c news.flatten hnl
      (by intro j u hu; rw [Addr.add_mid]; exact hrd.cells j u hu) hone h63 hbytes hbase
     unfold Oper.wp execOp; simp only [ho, resolve, invoke, builtin, Sem.run_bind, Sem.run_pure, Result.andThen_ok, List.map_toArray, List.map_cons, List.map_nil, hs, hx, hr]; exact h v' w' (fin _ _ h2) (below_append hbel hown.1 h3 (by omega) hB) h3 (h5.imp id fun e => ⟨_, e, Nat.le_refl _⟩)
   · obtain rfl : m = 0 := by omega
     have hn : news = [] := List.eq_nil_of_length_eq_zero hrd.1; subst hn; obtain ⟨v', w', hr, h2, h3, _, h5⟩ := run_append_own_at (P := P) wr base t o.type e i z C bytes ht hi hz hsize hby hzs hC v n rows.flatten hown.1 ad 0 c [] (by simp) (by simp) (by simp) h63 hbytes hbase; unfold Oper.wp execOp; simp only [ho, resolve, invoke, builtin, Sem.run_bind, Sem.run_pure, Result.andThen_ok, List.map_toArray, List.map_cons, List.map_nil, hs, hx, hr]; exact h v' w' (fin v' w' (by simpa using h2)) (below_append hbel hown.1 h3 (by omega) hB) h3 (h5.imp id fun e => ⟨_, e, Nat.le_refl _⟩)
theorem za9 {ops : Array Oper} {rest : List Oper} (hgd : o.guard = none) (s x : Operand) (t : TypeId) (ho : o.op = .call { callee := .builtin .append, args := #[s, x], argTypes := #[t, t] })
 (e : TypeId) (z : Value) (C bytes : Nat) (ht : P.underlying t = some (.slice e)) (hinfo : (P.info? e).map (fun i => (i.zero, i.size, i.bytes)) = some (some z, C, bytes)) (hzs : z.cells.size = C) (hC : 0 < C)
 {base B n m D c : Nat} {A : Option Addr} {w0 wr : World} {v : Value} {rows news : List (List Value)} (hown : OwnRows wr base e C v n rows) (hbel : Below B w0 wr) (hs : a.eval s = v) (hx : a.eval x = .slice A m c) (hrd : Rds wr D A C m news) (h1 : ∀ r ∈ news, ∀ u ∈ r, u.oneCell' = true)
 (h63 : n + m ≤ maxLen) (hbytes : (n + m) * bytes ≤ 140737488355328) (hbase : base ≤ wr.heap.size) (hB : B ≤ base)
 (h : ∀ v' w', OwnRows w' base e C v' (n + m) (rows ++ news) → Below B w0 w' → wr.grownBy w' v.ownBlock → (v'.ownBlock = v.ownBlock ∨ ∃ j, v'.ownBlock = some j ∧ wr.heap.size ≤ j) → wpList P ops Q rest (a.put o.dst v') w') : wpList P ops Q (o :: rest) a wr :=
 wpList_plain hgd fun _ hK => zb5 s x t ho e z C bytes ht hinfo hzs hC hown hbel hs hx hrd h1 h63 hbytes hbase hB fun v' w' p q r k => hK _ _ (h v' w' p q r k)
end
theorem fold_set : ∀ (xs : List Value) (k : Nat) (cells : List Value), k + xs.length ≤ cells.length → ((xs.zipIdx k).foldl (fun (cs : Array Value) (p : Value × Nat) => cs.setIfInBounds p.2 p.1) cells.toArray) = (splice cells k xs).toArray
 | [], k, cells, _ => by simp [splice]
 | x :: xs, k, cells, h => by
  rw [List.zipIdx_cons, List.foldl_cons]; have := fold_set xs (k + 1) (cells.set k x) (by simp at h ⊢; omega); rw [splice_step _ _ _ _ (by simpa using h)] at this; simpa using this
theorem run_buildOne {P : Program} (w : World) (t e : TypeId) (row : List Value) (ie : TypeInfo) (z : Value) (hu : P.underlying t = some (.slice e)) (hie : P.info? e = some ie) (hz : ie.zero = some z) (hs : ie.size = row.length) (h0 : 0 < row.length) (h1 : row.length ≤ 1000) :
 (Instr.buildSlice t 1 #[(0, .agg row.toArray)]).run P w = .ok (.slice (some ⟨w.heap.size, 0, none⟩) 1 1) (w.alloc (.cells row.toArray e)) := by
 refine run_buildSlice w t e 1 _ row.toArray ie z hu hie hz (by rw [hs]; omega) (by rw [hs]; omega) ?_
 have hl : ((Array.range (1 * ie.size)).map (z.cells[· % z.cells.size]!)).toList.length = row.length := by simp [hs]
 generalize (Array.range (1 * ie.size)).map (z.cells[· % z.cells.size]!) = cells at *
 obtain ⟨cl, rfl⟩ : ∃ cl : List Value, cells = cl.toArray := ⟨cells.toList, by simp⟩
 have hl2 : cl.length = row.length := by simpa using hl
 have hf := fold_set row 0 cl (by omega)
 have hsp : splice cl 0 row = row := by
  unfold splice; rw [List.take_zero, List.nil_append, List.drop_eq_nil_of_le (by omega), List.append_nil]
 rw [hsp] at hf
 simp only [Instr.fill, Value.cells, List.size_toArray, Nat.zero_mul, hs, hl2]
 rw [if_neg (by simp)]
 have e : (Array.zipIdx row.toArray).foldl (fun (cs : Array Value) (x : Value × Nat) => cs.setIfInBounds (0 + x.2) x.1) cl.toArray = row.toArray := by
  simpa using hf
 simpa using e
theorem wp_buildOne {P : Program} {o : Oper} {a : Act} {w : World} {K : Act → World → Prop} {Q : Exit → Act → World → Prop} (t : TypeId) (x : Operand) (ho : o.op = .buildSlice t 1 #[(0, x)]) (e : TypeId) (row : List Value) (z : Value) (C b : Nat) (hx : a.eval x = .agg row.toArray) (hu : P.underlying t = some (.slice e))
 (hinfo : (P.info? e).map (fun i => (i.zero, i.size, i.bytes)) = some (some z, C, b)) (hC : row.length = C) (h0 : 0 < C) (h1 : C ≤ 1000)
 (h : K (a.put o.dst (.slice (some ⟨w.heap.size, 0, none⟩) 1 1)) (w.alloc (.cells row.toArray e))) : o.wp P a w K Q := by
 obtain ⟨i, hi, hz, hsize, hby⟩ := info_parts hinfo
 unfold Oper.wp execOp
 simp only [ho, Sem.run_bind, List.map_toArray, List.map_cons, List.map_nil, hx, run_buildOne w t e row i z hu hi hz (by rw [hsize, hC]) (by omega) (by omega), Result.andThen_ok]
 exact h
theorem wpList_buildOne {P : Program} {ops : Array Oper} {rest : List Oper} {o : Oper} {a : Act} {w : World} {Q : Exit → Act → World → Prop} (hgd : o.guard = none) (t : TypeId) (x : Operand) (ho : o.op = .buildSlice t 1 #[(0, x)]) (e : TypeId) (row : List Value) (z : Value) (C b : Nat) (hx : a.eval x = .agg row.toArray) (hu : P.underlying t = some (.slice e))
 (hinfo : (P.info? e).map (fun i => (i.zero, i.size, i.bytes)) = some (some z, C, b)) (hC : row.length = C) (h0 : 0 < C) (h1 : C ≤ 1000)
 (h : wpList P ops Q rest (a.put o.dst (.slice (some ⟨w.heap.size, 0, none⟩) 1 1)) (w.alloc (.cells row.toArray e))) : wpList P ops Q (o :: rest) a w :=
 wpList_plain hgd fun _ hK => wp_buildOne t x ho e row z C b hx hu hinfo hC h0 h1 (hK _ _ h)
theorem rds_one {w : World} {g : Nat} {row : List Value} {t : TypeId} {fr : Nat × Nat} (h : w.heap[g]? = some (.cells row.toArray t fr)) : Rds w w.heap.size (some ⟨g, 0, none⟩) row.length 1 [row] := by
 refine ⟨rfl, by simp, fun _ => ⟨g, 0, rfl, zag h, fun i r j u h1 h2 => ?_⟩⟩
 have hi : i = 0 := by have := (List.getElem?_eq_some_iff.1 h1).1; simpa using this
 subst hi
 simp at h1
 subst h1
 have := zal h j u h2
 simpa using this
end Go.Proofs.YtpbigfopmompfaaGreat
