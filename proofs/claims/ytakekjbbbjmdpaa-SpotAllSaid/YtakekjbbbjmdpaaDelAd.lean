import Derived.Test.YtakekjbbbjmdpaaSpotKeys
import Derived.Test.YtakekjbbbjmdpaaBunE
import Derived.Lib.SliceRun
/- Places of one block, left in a slice: plain law and words for the heap. -/
namespace Go.Proofs.Ytakekjbbbjmdpaa
open Go.RowKit
set_option linter.unusedVariables false
def offB (d b : Int) (x : Ad) : Bool := x.d != d || x.b != b
def keepL (d b : Int) (l : List Ad) : List Ad := l.filter fun x => !offB d b x
def idxI (p : Ad → Bool) (l : List Ad) : Int := match l.findIdx? p with | some i => (i : Int) | none => -1
theorem idx_hit {p : Ad → Bool} {l : List Ad} {k : Nat} (hk : k < l.length) (hall : ∀ (j : Nat) (x : Ad), l[j]? = some x → j < k → p x = false) (hp : p l[k] = true) : l.findIdx? p = some k := by
  rw [List.findIdx?_eq_some_iff_getElem]
  exact ⟨hk, hp, fun j hj => by rw [hall j _ (List.getElem?_eq_getElem (by omega)) hj]; simp⟩
theorem idx_none {p : Ad → Bool} {l : List Ad} (hall : ∀ (j : Nat) (x : Ad), l[j]? = some x → p x = false) : l.findIdx? p = none := by
  rw [List.findIdx?_eq_none_iff]
  intro x hx
  obtain ⟨j, hj, rfl⟩ := List.getElem_of_mem hx
  exact hall j _ (List.getElem?_eq_getElem hj)
/-- What stands behind j steps: i are kept, arr is the slice. -/
structure DelI (d b : Int) (l arr : List Ad) (i j : Nat) : Prop where
  len : arr.length = l.length
  lt : i < j
  le : j ≤ l.length
  front : arr.take i = keepL d b (l.take j)
  back : arr.drop j = l.drop j
theorem keep_snoc (d b : Int) (l : List Ad) (j : Nat) (x : Ad) (hx : l[j]? = some x) : keepL d b (l.take (j + 1)) = keepL d b (l.take j) ++ (if offB d b x then [] else [x]) := by
  rw [List.take_add_one, hx]
  unfold keepL
  rw [List.filter_append]
  cases h : offB d b x <;> simp [h]
theorem DelI.start {d b : Int} {l : List Ad} {i : Nat} (h : l.findIdx? (offB d b) = some i) : DelI d b l l i (i + 1) := by
  rw [List.findIdx?_eq_some_iff_getElem] at h
  obtain ⟨hi, hp, hall⟩ := h
  refine ⟨rfl, by omega, by omega, ?_, rfl⟩
  rw [keep_snoc d b l i l[i] (List.getElem?_eq_getElem hi), hp]
  simp only [if_true, List.append_nil]
  unfold keepL
  symm
  refine List.filter_eq_self.2 fun x hx => ?_
  obtain ⟨j, hj, rfl⟩ := List.getElem_of_mem hx
  have hji : j < i := by simp at hj; omega
  rw [List.getElem_take]
  have := hall j hji
  simpa using this
theorem DelI.at_ {d b : Int} {l arr : List Ad} {i j : Nat} (h : DelI d b l arr i j) (hj : j < l.length) : arr[j]? = l[j]? := by
  have := congrArg (·[0]?) h.back
  simpa using this
theorem DelI.off {d b : Int} {l arr : List Ad} {i j : Nat} (h : DelI d b l arr i j) {x : Ad} (hx : l[j]? = some x) (hp : offB d b x = true) : DelI d b l arr i (j + 1) := by
  have hj := (List.getElem?_eq_some_iff.1 hx).1
  refine ⟨h.len, by have := h.lt; omega, by omega, ?_, ?_⟩
  · rw [keep_snoc d b l j x hx, hp, h.front]; simp
  · have := congrArg (List.drop 1) h.back
    rw [List.drop_drop, List.drop_drop] at this
    exact this
theorem DelI.on {d b : Int} {l arr : List Ad} {i j : Nat} (h : DelI d b l arr i j) {x : Ad} (hx : l[j]? = some x) (hp : offB d b x = false) : DelI d b l (arr.set i x) (i + 1) (j + 1) := by
  have hj := (List.getElem?_eq_some_iff.1 hx).1
  have hlt := h.lt
  have hi : i < arr.length := by rw [h.len]; omega
  refine ⟨by simp [h.len], by omega, by omega, ?_, ?_⟩
  · rw [keep_snoc d b l j x hx, hp, ← h.front, List.take_add_one, List.take_set_of_le (Nat.le_refl _)]
    simp [hi]
  · rw [List.drop_set_of_lt (by omega)]
    have := congrArg (List.drop 1) h.back
    rw [List.drop_drop, List.drop_drop] at this
    exact this
theorem DelI.done {d b : Int} {l arr : List Ad} {i : Nat} (h : DelI d b l arr i l.length) : arr.take i = keepL d b l ∧ (keepL d b l).length = i := by
  have := h.front
  rw [List.take_length] at this
  refine ⟨this, ?_⟩
  rw [← this, List.length_take, h.len]
  have := h.lt
  omega
theorem own_parts {w : World} {base g n c : Nat} {rows : List (List Value)} (h : OwnRows w base 83 3 (.slice (some ⟨g, 0, none⟩) n c) n rows) : ∃ cur : List Value, w.heap[g]? = some (.cells cur.toArray 83 (0, 0)) ∧ base ≤ g ∧ n ≤ c ∧ c ≤ maxLen ∧ cur.length = c * 3 ∧ cur.take (n * 3) = rows.flatten := by
  rcases h.1.2 with ⟨h0, -⟩ | ⟨g', cap, cur, hv, hb, hh, h1, h2, h3, h4⟩
  · cases h0
  · cases hv
    exact ⟨cur.toList, by simpa using hh, hb, h1, h2, by simpa using h3, h4⟩
theorem flat_set {l : List Ad} {i : Nat} (hi : i < l.length) (x : Ad) : (ads (l.set i x)).flatten = splice (ads l).flatten (i * 3) x.v := by
  apply List.ext_getElem?
  intro j
  have hl : (ads l).flatten.length = l.length * 3 := by rw [flat_len (ads_len l)]; simp [ads]
  have hl2 : (ads (l.set i x)).flatten.length = l.length * 3 := by rw [flat_len (ads_len _)]; simp [ads]
  have hx3 : x.v.length = 3 := rfl
  rw [splice_get _ _ _ (by rw [hl, hx3]; omega), hx3]
  by_cases hj : j < l.length * 3
  · have h1 : j / 3 < l.length := by omega
    have h2 : j % 3 < 3 := by omega
    have ej : j / 3 * 3 + j % 3 = j := by omega
    have e1 := flat_get (C := 3) (ads_len l) (i := j / 3) (j := j % 3) (r := l[j / 3].v) (by rw [ads, List.getElem?_map, List.getElem?_eq_getElem h1]; rfl) h2
    rw [ej] at e1
    by_cases hq : j / 3 = i
    · have e2 := flat_get (C := 3) (ads_len (l.set i x)) (i := j / 3) (j := j % 3) (r := x.v) (by rw [ads, List.getElem?_map, hq, List.getElem?_set_self hi]; rfl) h2
      rw [ej] at e2
      rw [e2, if_neg (by omega), if_pos (by omega)]
      congr 1
      omega
    · have e2 := flat_get (C := 3) (ads_len (l.set i x)) (i := j / 3) (j := j % 3) (r := l[j / 3].v) (by rw [ads, List.getElem?_map, List.getElem?_set_ne (fun e => hq e.symm), List.getElem?_eq_getElem h1]; rfl) h2
      rw [ej] at e2
      rw [e2, ← e1]
      by_cases h3 : j < i * 3
      · rw [if_pos h3]
      · rw [if_neg h3, if_neg (by omega)]
  · rw [List.getElem?_eq_none (by omega)]
    rw [if_neg (by omega), if_neg (by omega), List.getElem?_eq_none (by omega)]
theorem take_splice {L cs : List Value} {off k : Nat} (h : off + cs.length ≤ L.length) (hk : off + cs.length ≤ k) : (splice L off cs).take k = splice (L.take k) off cs := by
  apply List.ext_getElem?
  intro j
  by_cases hj : j < k
  · have hl2 : off + cs.length ≤ (L.take k).length := by rw [List.length_take]; omega
    rw [List.getElem?_take_of_lt hj, splice_get _ _ _ h, splice_get _ _ _ hl2, List.getElem?_take_of_lt hj]
  · have l1 : (splice L off cs).length = L.length := by simp [splice]; omega
    have hl2 : off + cs.length ≤ (L.take k).length := by rw [List.length_take]; omega
    have l2 : (splice (L.take k) off cs).length = (L.take k).length := by simp [splice]; omega
    rw [List.getElem?_eq_none (by rw [List.length_take]; omega), List.getElem?_eq_none (by rw [l2, List.length_take]; omega)]
theorem own_set {w w' : World} {base g n c i : Nat} {arr : List Ad} {cur : List Value} (h : OwnRows w base 83 3 (.slice (some ⟨g, 0, none⟩) n c) n (ads arr)) (hcur : cur.take (n * 3) = (ads arr).flatten) (hl : cur.length = c * 3) (hi : i < n) (x : Ad)
    (hU : Upd g (.cells (splice cur (i * 3) x.v).toArray 83 (0, 0)) w w') : OwnRows w' base 83 3 (.slice (some ⟨g, 0, none⟩) n c) n (ads (arr.set i x)) := by
  obtain ⟨cur', h1, hb, h2, h3, h4, h5⟩ := own_parts h
  have hal : arr.length = n := by have := h.2.1; simpa [ads] using this
  have hx3 : x.v.length = 3 := rfl
  refine ⟨⟨by rw [flat_len (ads_len _)]; simp [ads, hal], .inr ⟨g, c, _, rfl, hb, hU.at_, h2, h3, by simp [splice, hx3]; omega, ?_⟩⟩, by simp [ads, hal], ads_len _⟩
  rw [flat_set (by omega), ← hcur, List.toList_toArray, take_splice (by rw [hx3, hl]; omega) (by rw [hx3]; omega)]
theorem rds_front {w : World} {g k : Nat} {L : List Ad} {cur : List Value} {t : TypeId} {fr : Nat × Nat} (h : w.heap[g]? = some (.cells cur.toArray t fr)) (hL : L.length = k) (hc : cur.take (k * 3) = (ads L).flatten) : Rds w w.heap.size (some ⟨g, 0, none⟩) 3 k (ads L) := by
  refine ⟨by simp [ads, hL], ads_len L, fun _ => ⟨g, 0, rfl, lt_of_cells h, fun i r j u h1 h2 => ?_⟩⟩
  have hj : j < 3 := by rw [← ads_len L r (List.mem_of_getElem? h1)]; exact (List.getElem?_eq_some_iff.1 h2).1
  have hi : i < k := by have := (List.getElem?_eq_some_iff.1 h1).1; simpa [ads, hL] using this
  have e := flat_get (C := 3) (ads_len L) h1 hj
  rw [blk_cell h, Nat.zero_add, List.getElem?_toArray, ← List.getElem?_take_of_lt (j := k * 3) (by omega), hc, e, h2]
theorem zero_ad (w : World) : (zeroValue 83).run Try.prog w = .ok (.agg #[.int .i64 0, .int .i64 0, .int .i64 0]) w := by kernel_rfl
theorem clear_run {w : World} {g o n c : Nat} {cur : List Value} (hg : w.heap[g]? = some (.cells cur.toArray 83 (0, 0))) (hn : 0 < n) (hfit : o + n * 3 ≤ cur.length) :
    ∃ w', (∀ ty, (Builtin.clear_ #[81] ty #[.slice (some ⟨g, o, none⟩) n c]).run Try.prog w = .ok (.tuple #[]) w') ∧ ∃ zs : List Value, zs.length = n * 3 ∧ Upd g (.cells (splice cur o zs).toArray 83 (0, 0)) w w' := by
  generalize hz : (Builtin.zeroCells (Value.agg #[.int .i64 0, .int .i64 0, .int .i64 0]).cells n).toList = zs
  have hl : zs.length = n * 3 := by rw [← hz]; simp [Builtin.zeroCells, Value.cells]
  have h1 : ∀ v ∈ zs, v.oneCell' = true := by
    intro v hv
    rw [← hz] at hv
    simp [Builtin.zeroCells, Value.cells] at hv
    obtain ⟨i, -, rfl⟩ := hv
    have : i % 3 = 0 ∨ i % 3 = 1 ∨ i % 3 = 2 := by omega
    rcases this with e | e | e <;> rw [e] <;> rfl
  have hst := run_storeCells_cells (P := Try.prog) g o zs 0 w (fun j hj => by
    rw [blk_cell hg, List.getElem?_toArray, List.getElem?_eq_getElem (by omega)]; rfl) (fun j hj => blk_frozen hg _) h1
  simp only [Nat.add_zero] at hst
  refine ⟨w.setCells g o zs, fun ty => ?_, zs, hl, upd_setCells hg (by omega)⟩
  obtain ⟨m, rfl⟩ : ∃ m, n = m + 1 := ⟨n - 1, by omega⟩
  simp [Builtin.clear_, run_underlying Try.underlying81, hz, hst]
end Go.Proofs.Ytakekjbbbjmdpaa
