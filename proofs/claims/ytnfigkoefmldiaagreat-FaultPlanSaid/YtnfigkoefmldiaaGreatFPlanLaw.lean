import Derived.Test.YtnfigkoefmldiaaGreatBunR
import Derived.Test.YtnfigkoefmldiaaGreatFltSort
import Derived.Test.YtnfigkoefmldiaaGreatOpenF
import Derived.Test.YtnfigkoefmldiaaGreatAllMem
/- Plans of faults beside lists of them: plain law; words for memory. -/
namespace Go.Proofs.YtnfigkoefmldiaaGreat.faultPlan
open Go.RowKit
open Go.Proofs.YtnfigkoefmldiaaGreat.nand
set_option linter.unusedVariables false
set_option linter.unusedSimpArgs false
theorem open_geo {cs : List Value} (h : okAll (List.replicate 3 (Kd.int .i64)) cs = true) : ∃ a b c : Int, cs = [.int .i64 a, .int .i64 b, .int .i64 c] := by
  have hl := okAll_length h
  match cs, hl, h with
  | [c0, c1, c2], _, h =>
    simp only [List.replicate_succ, List.replicate_zero, okAll, Bool.and_eq_true, and_true] at h
    obtain ⟨h0, h1, h2⟩ := h
    obtain ⟨a, rfl, -⟩ := ok_int h0
    obtain ⟨b, rfl, -⟩ := ok_int h1
    obtain ⟨c, rfl, -⟩ := ok_int h2
    exact ⟨a, b, c, rfl⟩
theorem open_flt {cs : List Value} (h : okAll (List.replicate 7 (Kd.int .i64)) cs = true) : ∃ f : Flt, cs = f.v ∧ f.wf := by
  obtain ⟨r, l, s, k, b, o, m, rfl, h0, h1, h2, h3, h4, h5, h6⟩ := open_ints7 h
  exact ⟨⟨r, l, s, k, b, o, m⟩, rfl, h0, h1, ⟨h2, h3, h4⟩, h5, h6⟩
theorem open_flts' {w : World} {a : Option Addr} {len cap : Nat} (h : IsRows (List.replicate 7 (Kd.int .i64)) w a len cap) : ∃ l : List Flt, Rds w w.heap.size a 7 len (flts l) ∧ (∀ x ∈ l, x.wf) ∧ len ≤ cap ∧ cap ≤ maxLen := by
  obtain ⟨rows, h1, h2, h3, h4⟩ := h.rds (by simp)
  obtain ⟨l, rfl, hl⟩ := open_all (f := Flt.v) (p := fun x => x.wf) (fun cs hc => open_flt hc) h2
  exact ⟨l, h1, hl, h3, h4⟩
theorem geoN (x n : Int) (q : Nat) (hq : n = q) (h0 : 0 < q) (k : Nat) : ∃ D : Nat, (k : Int) + x % n = (D : Int) ∧ k ≤ D ∧ D < k + q := by
  have h1 := Int.emod_nonneg x (show n ≠ 0 by omega)
  have h2 := Int.emod_lt_of_pos x (show 0 < n by omega)
  obtain ⟨d, hd⟩ := Int.eq_ofNat_of_zero_le h1
  exact ⟨k + d, by omega, by omega, by omega⟩
def geoV (D B P : Nat) : List Value := [.int .i64 (D : Int), .int .i64 (B : Int), .int .i64 (P : Int)]
theorem own_off' {w : World} {B n C j : Nat} {e : TypeId} {v : Value} {xs : List Value} (h : w.ownsRow B e C v n xs) (hj : j < B) : v.ownBlock ≠ some j := by
  intro e
  obtain ⟨cur, -, hb⟩ := own_blk h e
  omega
theorem flatFlt : flat Tryz.prog 4 44 = some (List.replicate 7 (Kd.int .i64)) := by kernel_rfl
theorem eqFlt : eqOk Tryz.prog 4 44 = true := by kernel_rfl
theorem flt_kinds {x : Flt} (h : x.wf) : okAll (List.replicate 7 (Kd.int .i64)) x.v = true := by
  obtain ⟨h1, h2, ⟨h3, h4, h5⟩, h6, h7⟩ := h
  simp [Flt.v, okAll, Kd.ok, List.replicate, h1, h2, h6, h7]
  exact ⟨h3, h4, h5⟩
theorem neq_flt (w : World) {x : Flt} (hx : x.wf) : (binOp .neq 44 (.agg x.v.toArray) (.agg x.v.toArray)).run Tryz.prog w = .ok (.bool false) w := by
  rw [run_neq_flat w flatFlt eqFlt (by kernel_rfl) (by decide) (flt_kinds hx) (flt_kinds hx), (lEq_iff (flt_kinds hx) (flt_kinds hx)).2 rfl]; rfl
/-- Insertion at a place that was sought from the end. -/
theorem sort_put {l : List Flt} {x : Flt} {j : Nat} (hj : j ≤ (sortF l).length) (hhi : ∀ y ∈ (sortF l).drop j, x.at_ < y.at_) (hlo : ∀ i y, i + 1 = j → (sortF l)[i]? = some y → y.at_ ≤ x.at_) :
    sortF (l ++ [x]) = (sortF l).take j ++ [x] ++ (sortF l).drop j := by
  obtain ⟨W, hW⟩ : ∃ W, W = sortF l := ⟨_, rfl⟩
  have hacc : l.foldl stepF [] = W.reverse := by rw [hW, sortF, List.reverse_reverse]
  rw [← hW] at hj hhi hlo ⊢
  have e : sortF (l ++ [x]) = (insF x W.reverse).reverse := by
    unfold sortF
    rw [List.foldl_append, hacc]; rfl
  have h1 : W.reverse = (W.drop j).reverse ++ (W.take j).reverse := by rw [← List.reverse_append, List.take_append_drop]
  have h2 : ∀ y ∈ (W.drop j).reverse, ltF x y = true := fun y hy => by
    have := hhi y (by simpa using hy)
    simpa [ltF] using this
  have h3 : (W.take j).reverse.takeWhile (ltF x) = [] ∧ (W.take j).reverse.dropWhile (ltF x) = (W.take j).reverse := by
    rcases Nat.eq_zero_or_pos j with h0 | h0
    · subst h0; simp
    · obtain ⟨i, rfl⟩ : ∃ i, j = i + 1 := ⟨j - 1, by omega⟩
      have hi : i < W.length := by omega
      have hy := hlo i W[i] rfl (List.getElem?_eq_getElem hi)
      have hn : ltF x W[i] = false := by simpa [ltF] using hy
      rw [List.take_succ_eq_append_getElem hi, List.reverse_append]
      simp [List.takeWhile_cons, List.dropWhile_cons, hn]
  rw [e, insF, h1, List.takeWhile_append_of_pos h2, List.dropWhile_append_of_pos h2, h3.1, h3.2]
  simp
theorem take_due {l : List Flt} (t : Int) : l.take (dueN l t) = l.takeWhile (fun f => decide (f.at_ ≤ t)) ∧ l.drop (dueN l t) = l.dropWhile (fun f => decide (f.at_ ≤ t)) := by
  have h := List.takeWhile_append_dropWhile (p := fun f : Flt => decide (f.at_ ≤ t)) (l := l)
  unfold dueN
  constructor
  · conv => lhs; arg 2; rw [← h]
    rw [List.take_append_of_le_length (Nat.le_refl _), List.take_length]
  · conv => lhs; arg 2; rw [← h]
    rw [List.drop_append_of_le_length (Nat.le_refl _), List.drop_length, List.nil_append]
def lowL (t : Int) (l : List Flt) : List Flt := l.filter fun f => decide (f.at_ ≤ t)
def highL (t : Int) (l : List Flt) : List Flt := l.filter fun f => decide (t < f.at_)
theorem due_is (t : Int) (L : List Flt) : (sortF L).take (dueN (sortF L) t) = sortF (lowL t L) ∧ (sortF L).drop (dueN (sortF L) t) = sortF (highL t L) ∧ dueN (sortF L) t = (lowL t L).length := by
  obtain ⟨h1, h2⟩ := take_due (l := sortF L) t
  refine ⟨by rw [h1, due_low]; rfl, by rw [h2, due_high]; rfl, ?_⟩
  unfold dueN
  rw [due_low, sortF_len]; rfl
theorem low_snoc (t : Int) (l : List Flt) (x : Flt) : lowL t (l ++ [x]) = if x.at_ ≤ t then lowL t l ++ [x] else lowL t l := by
  unfold lowL
  rw [List.filter_append]
  by_cases h : x.at_ ≤ t <;> simp [h]
theorem high_snoc (t : Int) (l : List Flt) (x : Flt) : highL t (l ++ [x]) = if t < x.at_ then highL t l ++ [x] else highL t l := by
  unfold highL
  rw [List.filter_append]
  by_cases h : t < x.at_ <;> simp [h]
theorem lowhigh_len (t : Int) (l : List Flt) : (lowL t l).length + (highL t l).length = l.length := by
  induction l with
  | nil => rfl
  | cons x l ih =>
    unfold lowL highL at *
    rw [List.filter_cons, List.filter_cons]
    by_cases h : x.at_ ≤ t
    · have h' : ¬ t < x.at_ := by omega
      simp [h, h']; omega
    · have h' : t < x.at_ := by omega
      simp [h, h']; omega
section
variable {w w' : World} {base pp c S : Nat} {A : Option Addr} {l : List Flt}
theorem PlanAt.grown' (h : PlanAt w base pp A c l) {row : Option Nat} (hg : w.grownBy w' row) (h1 : row ≠ some pp) (h2 : 0 < l.length → ∀ gb off, A = some ⟨gb, off, none⟩ → row ≠ some gb) : PlanAt w' base pp A c l := by
  refine ⟨(hg.block pp (lt_of_cells h.head) (Ne.symm h1)).trans h.head, h.low, ⟨h.rows.1, h.rows.2.1, fun hn => ?_⟩, fun hn => ?_, h.cap, h.wf⟩
  · obtain ⟨b, o, e, hb, hc⟩ := h.rows.2.2 hn
    refine ⟨b, o, e, Nat.lt_of_lt_of_le hb hg.size, fun i r j u q1 q2 => ?_⟩
    exact (World.cell?_of_block (hg.block b hb (Ne.symm (h2 hn b o e)))).trans (hc i r j u q1 q2)
  · obtain ⟨gb, off, cs, fr, e', hq, hbg⟩ := h.at_ hn
    exact ⟨gb, off, cs, fr, e', (hg.block gb (lt_of_cells hq) (Ne.symm (h2 hn gb off e'))).trans hq, hbg⟩
/-- A plan all of which lies below block S. -/
def PlanIn (w : World) (base S pp : Nat) (l : List Flt) : Prop := pp < S ∧ ∃ A c, PlanAt w base pp A c l ∧ (0 < l.length → ∀ gb off, A = some ⟨gb, off, none⟩ → gb < S)
theorem PlanIn.grown (h : PlanIn w base S pp l) {row : Option Nat} (hg : w.grownBy w' row) (hr : ∀ k, row = some k → S ≤ k) : PlanIn w' base S pp l := by
  obtain ⟨h1, A, c, h2, h3⟩ := h
  refine ⟨h1, A, c, PlanAt.grown' h2 hg (fun e => ?_) (fun hn gb off e e' => ?_), h3⟩
  · have := hr pp e; omega
  · have := hr gb e'; have := h3 hn gb off e; omega
theorem PlanIn.below (h : PlanIn w base S pp l) (hb : Below w.heap.size w w') : PlanIn w' base S pp l := h.grown (row := none) (below_grown hb none) (fun k hk => by cases hk)
theorem PlanIn.of_new (h : PlanAt w base pp A c l) : PlanIn w base w.heap.size pp l := by
  refine ⟨lt_of_cells h.head, A, c, h, fun hn gb off e => ?_⟩
  obtain ⟨gb', off', cs, fr, e', hq, -⟩ := h.at_ hn
  rw [e] at e'
  cases e'
  exact lt_of_cells hq
theorem PlanIn.left (h : PlanIn w base S pp l) : Calls Tryz.prog 34 #[.pointer (some ⟨pp, 0, none⟩)] w fun e w' => e = .returned (.int .i64 (l.length : Int)) ∧ w = w' := by
  obtain ⟨h1, A, c, h2, h3⟩ := h
  exact nand.left_any h2
theorem PlanIn.due {L : List Flt} (h : PlanIn w base S pp (sortF L)) (t : Int) (hn : L.length ≤ 1000) (hb : base ≤ w.heap.size) : Calls Tryz.prog 35 #[.pointer (some ⟨pp, 0, none⟩), .int .i64 t] w fun e w' =>
    ∃ v, e = .returned v ∧ OwnRows w' w.heap.size 44 7 v (lowL t L).length (flts (sortF (lowL t L))) ∧ PlanIn w' base S pp (sortF (highL t L)) ∧ w.grownBy w' (some pp) := by
  obtain ⟨h1, A, c, h2, h3⟩ := h
  obtain ⟨d1, d2, d3⟩ := due_is t L
  refine (due_any2 h2 t (by rw [sortF_len]; exact hn) hb).mono ?_
  rintro e w' ⟨v, A', c', rfl, q1, q2, q3, q4⟩
  rw [d1, d3] at q1
  have q5 := q2
  rw [d2] at q5
  refine ⟨v, rfl, q1, ⟨h1, A', c', q5, fun hp gb off e => ?_⟩, q3⟩
  have hl : dueN (sortF L) t < (sortF L).length := by
    rw [← d2, List.length_drop] at hp
    omega
  obtain ⟨gb', off', cs, fr, e', -, -⟩ := h2.at_ (by omega)
  obtain ⟨off2, e2⟩ := q4 hl gb' off' e'
  rw [e2] at e
  cases e
  exact h3 (by omega) gb off' e'
end
/-- What stands between rounds of the law's inner loop. -/
structure In5 (w6 wx : World) (t : Int) (L : List Flt) (k : Nat) (vw vr : Value) : Prop where
  want : OwnRows wx w6.heap.size 44 7 vw (lowL t (L.take k)).length (flts (sortF (lowL t (L.take k))))
  rest : OwnRows wx w6.heap.size 44 7 vr (highL t (L.take k)).length (flts (highL t (L.take k)))
  apart : vr.ownBlock = none ∨ vr.ownBlock ≠ vw.ownBlock
  below : Below w6.heap.size w6 wx
theorem In5.start (w6 : World) (t : Int) (L : List Flt) : In5 w6 w6 t L 0 (.slice none 0 0) (.slice none 0 0) := ⟨OwnRows.nil, OwnRows.nil, .inl rfl, Below.refl _ _⟩
section
variable {w6 wx wy : World} {t : Int} {L : List Flt} {k : Nat} {vw vr : Value} {x : Flt}
theorem take_snoc7 (h : L[k]? = some x) : L.take (k + 1) = L.take k ++ [x] := by
  have hk := (List.getElem?_eq_some_iff.1 h).1
  rw [List.take_succ_eq_append_getElem hk, (List.getElem?_eq_some_iff.1 h).2]
theorem In5.kept (h : In5 w6 wx t L k vw vr) (hb : Below wx.heap.size wx wy) : In5 w6 wy t L k vw vr := ⟨h.want.below hb, h.rest.below hb, h.apart, h.below.trans (hb.mono h.below.size)⟩
theorem own_alive {w : World} {B n : Nat} {v : Value} {rows : List (List Value)} (h : OwnRows w B 44 7 v n rows) : ∀ g, v.ownBlock = some g → g < w.heap.size := fun g hg => (own_lt h g hg).2
/-- It is to come later. -/
theorem In5.later {v' : Value} (h : In5 w6 wx t L k vw vr) (hx : L[k]? = some x) (ht : t < x.at_) (ho : OwnRows wy w6.heap.size 44 7 v' ((highL t (L.take k)).length + 1) (flts (highL t (L.take k)) ++ [x.v])) (hb : Below w6.heap.size w6 wy)
    (hg : (wx.alloc (.cells x.v.toArray 44)).grownBy wy vr.ownBlock) (hat : v'.ownBlock = vr.ownBlock ∨ ∃ j, v'.ownBlock = some j ∧ (wx.alloc (.cells x.v.toArray 44)).heap.size ≤ j) : In5 w6 wy t L (k + 1) vw v' := by
  have e1 : lowL t (L.take (k + 1)) = lowL t (L.take k) := by rw [take_snoc7 hx, low_snoc, if_neg (by omega)]
  have e2 : highL t (L.take (k + 1)) = highL t (L.take k) ++ [x] := by rw [take_snoc7 hx, high_snoc, if_pos ht]
  have ha : vw.ownBlock = none ∨ vw.ownBlock ≠ vr.ownBlock := by
    rcases h.apart with h1 | h1
    · cases hv : vw.ownBlock with
      | none => exact .inl rfl
      | some j => rw [h1]; exact .inr (by simp)
    · exact .inr (Ne.symm h1)
  refine ⟨?_, ?_, ?_, hb⟩
  · rw [e1]
    have := h.want.alloc (.cells x.v.toArray 44)
    exact ⟨this.1.kept hg ha, this.2⟩
  · rw [e2]
    have e3 : flts (highL t (L.take k) ++ [x]) = flts (highL t (L.take k)) ++ [x.v] := by simp [flts]
    rw [e3, List.length_append]
    exact ho
  · rcases hat with hq | ⟨j, hj, hle⟩
    · rw [hq]; exact h.apart
    · right
      rw [hj]
      intro e
      have := own_alive h.want j e.symm
      simp at hle
      omega
/-- It is due: it is put in. -/
theorem In5.now {v' : Value} {j : Nat} (h : In5 w6 wx t L k vw vr) (hx : L[k]? = some x) (ht : x.at_ ≤ t) (hj : j ≤ (sortF (lowL t (L.take k))).length) (hhi : ∀ y ∈ (sortF (lowL t (L.take k))).drop j, x.at_ < y.at_) (hlo : ∀ i y, i + 1 = j → (sortF (lowL t (L.take k)))[i]? = some y → y.at_ ≤ x.at_)
    (ho : OwnRows wy wx.heap.size 44 7 v' (j + 1 + ((lowL t (L.take k)).length - j)) ((flts (sortF (lowL t (L.take k)))).take j ++ [x.v] ++ (flts (sortF (lowL t (L.take k)))).drop j)) (hb : Below wx.heap.size wx wy) : In5 w6 wy t L (k + 1) v' vr := by
  have e1 : lowL t (L.take (k + 1)) = lowL t (L.take k) ++ [x] := by rw [take_snoc7 hx, low_snoc, if_pos ht]
  have e2 : highL t (L.take (k + 1)) = highL t (L.take k) := by rw [take_snoc7 hx, high_snoc, if_neg (by omega)]
  have hb' := h.below.size
  rw [sortF_len] at hj
  refine ⟨?_, by rw [e2]; exact h.rest.below hb, ?_, h.below.trans (hb.mono hb')⟩
  · rw [e1, sort_put (by rw [sortF_len]; exact hj) hhi hlo, List.length_append]
    have e3 : flts ((sortF (lowL t (L.take k))).take j ++ [x] ++ (sortF (lowL t (L.take k))).drop j) = (flts (sortF (lowL t (L.take k)))).take j ++ [x.v] ++ (flts (sortF (lowL t (L.take k)))).drop j := by simp [flts, List.map_take, List.map_drop]
    rw [e3]
    have e4 : (lowL t (L.take k)).length + [x].length = j + 1 + ((lowL t (L.take k)).length - j) := by simp; omega
    rw [e4]
    exact ho.lower hb'
  · cases hv : vr.ownBlock with
    | none => exact .inl rfl
    | some g =>
      right
      intro e
      have h1 := own_alive h.rest g hv
      have h2 := (own_lt ho g e.symm).1
      omega
end
end Go.Proofs.YtnfigkoefmldiaaGreat.faultPlan
