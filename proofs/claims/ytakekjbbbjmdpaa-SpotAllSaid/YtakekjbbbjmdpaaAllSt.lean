import Derived.Test.YtakekjbbbjmdpaaAllLaw
import Derived.Test.YtakekjbbbjmdpaaAllMem
import Derived.Test.YtakekjbbbjmdpaaAllLess
import Derived.Test.YtakekjbbbjmdpaaSpotInt
import Derived.Test.YtakekjbbbjmdpaaSpotIn
/- SpotAll: what stands between two of its rounds. -/
namespace Go.Proofs.Ytakekjbbbjmdpaa.spotAll
open Go.RowKit
set_option linter.unusedVariables false
structure Opr where
  (k d b p n : Int)
def Opr.v (x : Opr) : List Value := [.int .i64 x.k, .int .i64 x.d, .int .i64 x.b, .int .i64 x.p, .int .i64 x.n]
def Opr.a (x : Opr) : Ad := ⟨x.d, x.b, x.p⟩
def ops (l : List Opr) : List (List Value) := l.map Opr.v
theorem open_op {cs : List Value} (h : okAll (List.replicate 5 (Kd.int .i64)) cs = true) : ∃ x : Opr, cs = x.v ∧ x.a.wf := by
  have hl := okAll_length h
  match cs, hl, h with
  | [c0, c1, c2, c3, c4], _, h =>
    simp only [List.replicate_succ, List.replicate_zero, okAll, Bool.and_eq_true, and_true] at h
    obtain ⟨h0, h1, h2, h3, h4⟩ := h
    obtain ⟨k, rfl, a0⟩ := ok_int h0
    obtain ⟨d, rfl, a1⟩ := ok_int h1
    obtain ⟨b, rfl, a2⟩ := ok_int h2
    obtain ⟨p, rfl, a3⟩ := ok_int h3
    obtain ⟨n, rfl, a4⟩ := ok_int h4
    exact ⟨⟨k, d, b, p, n⟩, rfl, a1, a2, a3⟩
theorem open_ops {w : World} {a : Option Addr} {len cap : Nat} (h : IsRows (List.replicate 5 (Kd.int .i64)) w a len cap) : ∃ l : List Opr, Rds w w.heap.size a 5 len (ops l) ∧ (∀ x ∈ l, x.a.wf) ∧ len ≤ cap ∧ cap ≤ maxLen := by
  obtain ⟨rows, h1, h2, h3, h4⟩ := h.rds (by simp)
  obtain ⟨l, rfl, hl⟩ := open_all (f := Opr.v) (p := fun x => x.a.wf) (fun cs hc => open_op hc) h2
  exact ⟨l, h1, hl, h3, h4⟩
theorem getOps {l : List Opr} {k : Nat} (h : k < l.length) : (ops l)[k]? = some l[k].v := by rw [ops, List.getElem?_map, List.getElem?_eq_getElem h]; rfl
theorem opInfo (x : Opr) : (Try.prog.info? 85).map (·.size) = some x.v.length := by kernel_rfl
def nums (R : Prs) : List Value := R.map fun x => .int .i64 x.2
def keys (R : Prs) : List Ad := R.map (·.1)
theorem keys_len (R : Prs) : (keys R).length = R.length := by simp [keys]
theorem nums_len (R : Prs) : (nums R).length = R.length := by simp [nums]
def ones (xs : List Value) : List (List Value) := xs.map fun v => [v]
theorem ones_flat (xs : List Value) : (ones xs).flatten = xs := by
  induction xs with
  | nil => rfl
  | cons x xs ih => rw [ones, List.map_cons, List.flatten_cons]; rw [ones] at ih; rw [ih]; rfl
theorem own_ones {w : World} {B n : Nat} {e : TypeId} {v : Value} {xs : List Value} : OwnRows w B e 1 v n (ones xs) ↔ w.ownsRow B e 1 v n xs ∧ xs.length = n := by
  unfold OwnRows
  rw [ones_flat]
  constructor
  · rintro ⟨h1, h2, -⟩
    exact ⟨h1, by simpa [ones] using h2⟩
  · rintro ⟨h1, h2⟩
    exact ⟨h1, by simpa [ones] using h2, by intro r hr; obtain ⟨v, -, rfl⟩ := List.mem_map.1 hr; rfl⟩
theorem ones_app (xs ys : List Value) : ones (xs ++ ys) = ones xs ++ ones ys := by simp [ones]
structure St (w wx : World) (g b B N : Nat) (va vn : Value) (R : Prs) (f : List (Ad × Value)) : Prop where
  lo : w.heap.size ≤ b ∧ w.heap.size ≤ g ∧ g < B ∧ b < B ∧ B ≤ wx.heap.size
  spot : Spot wx 140 g b N f
  rep : Rep f R
  tidy : Tidy R
  len : R.length ≤ N
  wf : ∀ x ∈ R, x.1.wf
  as_ : OwnRows wx B 83 3 va R.length (ads (keys R))
  ns_ : wx.ownsRow B 3 1 vn R.length (nums R)
  below : Below w.heap.size w wx
section
variable {w wx wy : World} {g b B N : Nat} {va vn : Value} {R : Prs} {f : List (Ad × Value)}
theorem St.kept (h : St w wx g b B N va vn R f) (hb : Below wx.heap.size wx wy) : St w wy g b B N va vn R f :=
  { h with
    lo := ⟨h.lo.1, h.lo.2.1, h.lo.2.2.1, h.lo.2.2.2.1, Nat.le_trans h.lo.2.2.2.2 hb.size⟩
    spot := h.spot.below hb
    as_ := h.as_.below hb
    ns_ := own_below h.ns_ hb
    below := h.below.trans (hb.mono h.below.size) }
theorem St.more {N' : Nat} (h : St w wx g b B N va vn R f) (hN : N ≤ N') : St w wx g b B N' va vn R f := { h with spot := h.spot.mono hN, len := Nat.le_trans h.len hN }
theorem own_off {n : Nat} {e : TypeId} {C j : Nat} {v : Value} {xs : List Value} (h : wx.ownsRow B e C v n xs) (hj : j < B) : v.ownBlock ≠ some j := by
  intro e
  rcases h.2 with ⟨rfl, -⟩ | ⟨g', cap, cur, rfl, hb, -⟩
  · simp [Value.ownBlock] at e
  · simp [Value.ownBlock] at e
    omega
/-- The map turned: the rest stays. -/
theorem St.map {N' : Nat} {f' : List (Ad × Value)} (h : St w wx g b B N va vn R f) (hs : Spot wy 140 g b N' f') (hg : wx.grownBy wy (some b)) :
    OwnRows wy B 83 3 va R.length (ads (keys R)) ∧ wy.ownsRow B 3 1 vn R.length (nums R) ∧ Below w.heap.size w wy ∧ B ≤ wy.heap.size :=
  ⟨⟨h.as_.1.kept hg (.inr (own_off h.as_.1 h.lo.2.2.2.1)), h.as_.2⟩, h.ns_.kept hg (.inr (own_off h.ns_ h.lo.2.2.2.1)), h.below.grown hg h.below.size (fun j hj => by cases hj; exact h.lo.1), Nat.le_trans h.lo.2.2.2.2 hg.size⟩
theorem apart_rows {n m B' : Nat} {v u : Value} {xs ys : List Value} (h1 : wx.ownsRow B 83 3 v n xs) (h2 : wx.ownsRow B' 3 1 u m ys) : v.ownBlock = none ∨ v.ownBlock ≠ u.ownBlock := by
  rcases h1.2 with ⟨rfl, -⟩ | ⟨g1, cap, cur, rfl, -, hh, -⟩
  · exact .inl rfl
  · right
    rcases h2.2 with ⟨rfl, -⟩ | ⟨g2, cap2, cur2, rfl, -, hh2, -⟩
    · simp [Value.ownBlock]
    · simp only [Value.ownBlock, ne_eq, Option.some.injEq]
      intro e
      rw [e] at hh
      have := Option.some.inj (hh.symm.trans hh2)
      injection this with _ e2
      revert e2
      decide
end
theorem range_keep {w w' : World} {b i : Nat} {c : Value} {cs : List Value} (h : w.rangeAt b i (c :: cs)) (hb : Below w.heap.size w w') : w'.rangeAt b i (c :: cs) := by
  have hl : b < w.heap.size := by
    have := World.block_lt_of_cell? w ⟨b, i + 0, none⟩ (h 0 c rfl)
    exact this
  intro j v hv
  exact (hb.cell (p := ⟨b, i + j, none⟩) hl).trans (h j v hv)
theorem Opr.range {w : World} {g : Nat} {x : Opr} {t : TypeId} {fr : Nat × Nat} (h : w.heap[g]? = some (.cells x.v.toArray t fr)) : w.rangeAt g 1 x.a.v ∧ w.cell? ⟨g, 0, none⟩ = some (.int .i64 x.k) ∧ w.cell? ⟨g, 4, none⟩ = some (.int .i64 x.n) := by
  refine ⟨?_, by rw [blk_cell h]; rfl, by rw [blk_cell h]; rfl⟩
  have := range_part (w := w) h [.int .i64 x.k] x.a.v [.int .i64 x.n] rfl 1 rfl
  exact this
theorem Spot.far {w w' : World} {T : TypeId} {g b n : Nat} {f : List (Ad × Value)} {row : Option Nat} (h : Spot w T g b n f) (hg : w.grownBy w' row) (h1 : row ≠ some g) (h2 : row ≠ some b) : Spot w' T g b n f := by
  have hl := h.lt
  obtain ⟨q1, D, ⟨es, clock, q2, q3⟩, q4⟩ := h
  exact ⟨(hg.block g hl.1 (Ne.symm h1)).trans q1, D, ⟨es, clock, (hg.block b hl.2 (Ne.symm h2)).trans q2, q3⟩, q4⟩
section
variable {w wd w6 w7 w8 : World} {g b B N j n5 : Nat} {va vn va' vn' : Value} {R : Prs} {f : List (Ad × Value)} {a : Ad} {n : Int}
/-- The number at a place that is there already. -/
theorem St.set_old {gn c6 : Nat} (h : St w wd g b B N va (.slice (some ⟨gn, 0, none⟩) R.length c6) R f) (hS : Spot w6 140 g b (N + 1) (putF f a (.int .i64 n))) (hg : wd.grownBy w6 (some b)) (hA : AtK R a j) (hi : inB R a j = true) (ha : a.wf) :
    St w (w6.setCell ⟨gn, j, none⟩ (.int .i64 n)) g b B (N + 1) va (.slice (some ⟨gn, 0, none⟩) R.length c6) (R.set j (a, n)) (putF f a (.int .i64 n)) := by
  obtain ⟨ha6, hn6, hb6, hB6⟩ := h.map hS hg
  obtain ⟨p1, p2⟩ := put_old h.tidy hA h.rep hi n
  obtain ⟨s1, s2⟩ := hn6.stored j (.int .i64 n)
  obtain ⟨hj, m, e, -⟩ := inB_some hi
  have hgn := own_off (j := g) hn6 h.lo.2.2.1
  have hbn := own_off (j := b) hn6 h.lo.2.2.2.1
  have hkeys : keys (R.set j (a, n)) = keys R := by
    unfold keys
    rw [List.map_set]
    have : (R.map (·.1))[j]? = some a := by rw [List.getElem?_map, List.getElem?_eq_getElem hj, e]; rfl
    apply List.ext_getElem?
    intro i
    by_cases hq : j = i
    · subst hq
      rw [List.getElem?_set_self (by simpa using hj), this]
    · rw [List.getElem?_set_ne hq]
  have hnums : nums (R.set j (a, n)) = (nums R).set j (.int .i64 n) := by unfold nums; rw [List.map_set]
  have hlen : (R.set j (a, n)).length = R.length := List.length_set
  refine ⟨⟨h.lo.1, h.lo.2.1, h.lo.2.2.1, h.lo.2.2.2.1, Nat.le_trans hB6 s2.size⟩, Spot.far hS s2 ?_ ?_, p2, p1, by rw [hlen]; exact Nat.le_succ_of_le h.len, ?_, ?_, ?_, ?_⟩
  · exact hgn
  · exact hbn
  · intro x hx
    rcases List.mem_or_eq_of_mem_set hx with hx | rfl
    · exact h.wf x hx
    · exact ha
  · rw [hkeys, hlen]
    exact ⟨ha6.1.kept s2 (apart_rows ha6.1 hn6), ha6.2⟩
  · rw [hnums, hlen]
    exact s1
  · exact hb6.grown s2 hb6.size (fun k hk => by cases hk; have := (hn6.lt gn rfl).1; have := h.lo; omega)
/-- A place more, with its number. -/
theorem St.ins {gn c6 : Nat} (h : St w wd g b B N va vn R f) (hS : Spot w6 140 g b (N + 1) (putF f a (.int .i64 n))) (hg : wd.grownBy w6 (some b)) (hA : AtK R a j) (hi : inB R a j = false) (ha : a.wf)
    (h7 : OwnRows w7 w6.heap.size 83 3 va' (j + 1 + (R.length - j)) ((ads (keys R)).take j ++ [a.v] ++ (ads (keys R)).drop j)) (hb7 : Below w6.heap.size w6 w7)
    (h8 : OwnRows w8 w7.heap.size 3 1 (.slice (some ⟨gn, 0, none⟩) (j + 1 + (R.length - j)) c6) (j + 1 + (R.length - j)) ((ones (nums R)).take j ++ [[.int .i64 0]] ++ (ones (nums R)).drop j)) (hb8 : Below w7.heap.size w7 w8) :
    St w (w8.setCell ⟨gn, j, none⟩ (.int .i64 n)) g b B (N + 1) va' (.slice (some ⟨gn, 0, none⟩) (j + 1 + (R.length - j)) c6) (R.take j ++ (a, n) :: R.drop j) (putF f a (.int .i64 n)) := by
  obtain ⟨ha6, hn6, hb6, hB6⟩ := h.map hS hg
  obtain ⟨p1, p2⟩ := put_new h.tidy hA h.rep hi n
  have hjl := hA.le
  have hb7s := hb7.size
  have hb8s := hb8.size
  have hlen : (R.take j ++ (a, n) :: R.drop j).length = j + 1 + (R.length - j) := by simp; omega
  have hkeys : ads (keys (R.take j ++ (a, n) :: R.drop j)) = (ads (keys R)).take j ++ [a.v] ++ (ads (keys R)).drop j := by simp [ads, keys, List.map_take, List.map_drop]
  have h0 : (ones (nums R)).take j ++ [[.int .i64 0]] ++ (ones (nums R)).drop j = ones ((nums R).take j ++ .int .i64 0 :: (nums R).drop j) := by simp [ones, List.map_take, List.map_drop]
  rw [h0, own_ones] at h8
  obtain ⟨s1, s2⟩ := h8.1.stored j (.int .i64 n)
  have hnums : nums (R.take j ++ (a, n) :: R.drop j) = ((nums R).take j ++ .int .i64 0 :: (nums R).drop j).set j (.int .i64 n) := by
    rw [List.set_append_right _ _ (by simp [nums]; omega)]
    have : j - ((nums R).take j).length = 0 := by simp [nums]; omega
    rw [this, List.set_cons_zero]
    simp [nums, List.map_take, List.map_drop]
  have hgl := h8.1.lt gn rfl
  have hb8' := hb7.trans (hb8.mono hb7s)
  have hS8 := hS.below hb8'
  have h7' := h7.below hb8
  have hlo := h.lo
  refine ⟨⟨hlo.1, hlo.2.1, hlo.2.2.1, hlo.2.2.2.1, Nat.le_trans (Nat.le_trans hB6 hb8'.size) s2.size⟩, Spot.far hS8 s2 (fun e => ?_) (fun e => ?_), p2, p1, ?_, ?_, ?_, ?_, ?_⟩
  · have := Option.some.inj e; omega
  · have := Option.some.inj e; omega
  · rw [hlen]; have := h.len; omega
  · intro x hx
    rcases List.mem_append.1 hx with hx | hx
    · exact h.wf x (List.mem_of_mem_take hx)
    · rcases List.mem_cons.1 hx with rfl | hx
      · exact ha
      · exact h.wf x (List.mem_of_mem_drop hx)
  · rw [hkeys, hlen]
    exact ⟨own_base (h7'.1.kept s2 (apart_rows h7'.1 h8.1)) hB6, h7'.2⟩
  · rw [hnums, hlen]
    exact own_base s1 (by omega)
  · exact ((hb6.trans (hb8'.mono hb6.size)).grown s2 (Nat.le_trans hb6.size hb8'.size) (fun k hk => by cases hk; have := hb6.size; omega))
/-- A place less. -/
theorem St.del (h : St w wd g b B N va vn R f) (hS : Spot w6 140 g b N (delF f a)) (hg : wd.grownBy w6 (some b)) (hA : AtK R a j) (hi : inB R a j = true)
    (h7 : OwnRows w7 w6.heap.size 83 3 va' (j + (R.length - (j + 1))) ((ads (keys R)).take j ++ (ads (keys R)).drop (j + 1))) (hb7 : Below w6.heap.size w6 w7)
    (h8 : OwnRows w8 w7.heap.size 3 1 vn' (j + (R.length - (j + 1))) ((ones (nums R)).take j ++ (ones (nums R)).drop (j + 1))) (hb8 : Below w7.heap.size w7 w8) :
    St w w8 g b B (N + 1) va' vn' (R.take j ++ R.drop (j + 1)) (delF f a) := by
  obtain ⟨ha6, hn6, hb6, hB6⟩ := h.map hS hg
  obtain ⟨p1, p2⟩ := drop_old h.tidy hA h.rep hi
  have hjl := hA.le
  have hb7s := hb7.size
  have hlen : (R.take j ++ R.drop (j + 1)).length = j + (R.length - (j + 1)) := by simp; omega
  have hkeys : ads (keys (R.take j ++ R.drop (j + 1))) = (ads (keys R)).take j ++ (ads (keys R)).drop (j + 1) := by simp [ads, keys, List.map_take, List.map_drop]
  have h0 : (ones (nums R)).take j ++ (ones (nums R)).drop (j + 1) = ones ((nums R).take j ++ (nums R).drop (j + 1)) := by simp [ones, List.map_take, List.map_drop]
  rw [h0, own_ones] at h8
  have hnums : nums (R.take j ++ R.drop (j + 1)) = (nums R).take j ++ (nums R).drop (j + 1) := by simp [nums, List.map_take, List.map_drop]
  have hb8' := hb7.trans (hb8.mono hb7s)
  have hlo := h.lo
  refine ⟨⟨hlo.1, hlo.2.1, hlo.2.2.1, hlo.2.2.2.1, Nat.le_trans hB6 hb8'.size⟩, (hS.below hb8').mono (by omega), p2, p1, ?_, ?_, ?_, ?_, hb6.trans (hb8'.mono hb6.size)⟩
  · rw [hlen]; have := h.len; omega
  · intro x hx
    rcases List.mem_append.1 hx with hx | hx
    · exact h.wf x (List.mem_of_mem_take hx)
    · exact h.wf x (List.mem_of_mem_drop hx)
  · rw [hkeys, hlen]
    exact (h7.below hb8).lower hB6
  · rw [hnums, hlen]
    exact own_base h8.1 (by omega)
/-- Nothing was there to be dropped. -/
theorem St.none (h : St w wd g b B N va vn R f) (hS : Spot w6 140 g b N (delF f a)) (hg : wd.grownBy w6 (some b)) (hA : AtK R a j) (hi : inB R a j = false) : St w w6 g b B (N + 1) va vn R (delF f a) := by
  obtain ⟨ha6, hn6, hb6, hB6⟩ := h.map hS hg
  have hlo := h.lo
  exact ⟨⟨hlo.1, hlo.2.1, hlo.2.2.1, hlo.2.2.2.1, hB6⟩, hS.mono (by omega), drop_none h.tidy hA h.rep hi, h.tidy, Nat.le_succ_of_le h.len, h.wf, ha6, hn6, hb6⟩
end
theorem one_ads (l : List Ad) {r : List Value} (hr : r ∈ ads l) (u : Value) (hu : u ∈ r) : u.oneCell' = true := by
  obtain ⟨y, -, rfl⟩ := List.mem_map.1 hr
  exact one_ad y u hu
theorem one_nums (R : Prs) {r : List Value} (hr : r ∈ ones (nums R)) (u : Value) (hu : u ∈ r) : u.oneCell' = true := by
  obtain ⟨y, hy, rfl⟩ := List.mem_map.1 hr
  obtain ⟨z, -, rfl⟩ := List.mem_map.1 hy
  rw [List.mem_singleton.1 hu]; rfl
theorem intInfo : (Try.prog.info? 3).map (·.size) = some 1 := by kernel_rfl
theorem range_far {w w' : World} {b i m : Nat} {c : Value} {cs : List Value} (h : w.rangeAt b i (c :: cs)) (hg : w.grownBy w' (some m)) (hne : b ≠ m) : w'.rangeAt b i (c :: cs) := by
  have hl : b < w.heap.size := World.block_lt_of_cell? w ⟨b, i + 0, none⟩ (h 0 c rfl)
  intro j v hv
  exact (World.cell?_of_block (a := ⟨b, i + j, none⟩) (hg.block b hl (fun e => hne (Option.some.inj e)))).trans (h j v hv)
end Go.Proofs.Ytakekjbbbjmdpaa.spotAll
