import Derived.Test.YtnfigkoefmldiaaGreatSherdRun
import Derived.Test.YtnfigkoefmldiaaGreatBunD
import Derived.Test.YtnfigkoefmldiaaGreatMem
import Derived.Test.YtnfigkoefmldiaaGreatBunP
import Derived.Test.YtnfigkoefmldiaaGreatPutAll
import Derived.Deep.RegionLaw
/- What a claim's proof leans on: Own, RefOver, Over, SherdPut, SherdGet, Blank. -/
/- The sherd of an entry. -/
namespace Go.Proofs.YtnfigkoefmldiaaGreat
open Go.RowKit
theorem one_shV (d : List Nat) (r l s k b o m : Int) : ∀ v ∈ shV d r l s k b o m, v.oneCell' = true := by
  intro v hv
  rcases List.mem_append.1 hv with h | h
  · exact one_nats _ _ v h
  · simp at h
    rcases h with rfl | rfl | rfl | rfl | rfl | rfl | rfl <;> rfl
def ownV (d : List Nat) (r l s b o m : Int) : List Value := if maySh d r l s 1 b o m then shV d r l s 1 b o m else shV zero16 0 0 0 0 0 0 0
end Go.Proofs.YtnfigkoefmldiaaGreat
/- The reference of laying one sherd over another. -/
namespace Go.Proofs.YtnfigkoefmldiaaGreat
open Go.RowKit
theorem i64_xor (a b : Nat) (ha : a < 9223372036854775808) (hb : b < 9223372036854775808) : bits .xor .i64 (a : Int) (b : Int) = ((a ^^^ b : Nat) : Int) := by
  have hx : a ^^^ b < 2 ^ 63 := Nat.xor_lt_two_pow (by omega) (by omega)
  show IntKind.i64.wrap ((BitVec.ofInt 64 (a : Int) ^^^ BitVec.ofInt 64 (b : Int)).toNat : Int) = _
  rw [BitVec.toNat_xor, ofInt64_nat a ha, ofInt64_nat b hb, i64_wrap_nat _ (by omega)]
theorem u8_xor (a b : Nat) (ha : a < 256) (hb : b < 256) : bits .xor .u8 (a : Int) (b : Int) = ((a ^^^ b : Nat) : Int) := by
  have hx : a ^^^ b < 2 ^ 8 := Nat.xor_lt_two_pow (by omega) (by omega)
  have e : ∀ x : Nat, x < 256 → (BitVec.ofInt 8 (x : Int)).toNat = x := fun x h => by rw [BitVec.ofInt_natCast, BitVec.toNat_ofNat]; exact Nat.mod_eq_of_lt (by omega)
  show ((BitVec.ofInt 8 (a : Int) ^^^ BitVec.ofInt 8 (b : Int)).toNat : Int) % _ = _
  rw [BitVec.toNat_xor, e a ha, e b hb]
  have : ((2 : Int) ^ IntKind.u8.bits) = 256 := by decide
  rw [this]; omega
/-- Laid over so far. -/
def partO (d e : List Nat) (k : Nat) : List Nat := over (d.take k) (e.take k) ++ d.drop k
theorem partO_zero (d e : List Nat) : partO d e 0 = d := by simp [partO, over]
theorem partO_all {d e : List Nat} (hd : d.length = 16) (he : e.length = 16) : partO d e 16 = over d e := by
  rw [partO, List.take_of_length_le (by omega), List.take_of_length_le (by omega), List.drop_eq_nil_of_le (by omega), List.append_nil]
theorem partO_len {d e : List Nat} (h : d.length = e.length) {k : Nat} (hk : k ≤ d.length) : (over (d.take k) (e.take k)).length = k := by simp [over]; omega
theorem partO_length {d e : List Nat} (h : d.length = e.length) {k : Nat} (hk : k ≤ d.length) : (partO d e k).length = d.length := by
  rw [partO, List.length_append, partO_len h hk, List.length_drop]; omega
theorem partO_get {d e : List Nat} (h : d.length = e.length) {k : Nat} (hk : k < d.length) : (partO d e k)[k]? = some d[k] := by
  rw [partO, List.getElem?_append_right (by rw [partO_len h (by omega)]; omega), partO_len h (by omega), Nat.sub_self, List.getElem?_drop, Nat.add_zero, List.getElem?_eq_getElem hk]
theorem partO_set {d e : List Nat} (h : d.length = e.length) {k : Nat} (hk : k < d.length) : (partO d e k).set k (d[k] ^^^ e[k]) = partO d e (k + 1) := by
  have hl := partO_len h (Nat.le_of_lt hk)
  rw [partO, partO, List.set_append_right _ _ (by rw [hl]; omega), hl, Nat.sub_self, List.drop_eq_getElem_cons hk, List.set_cons_zero,
    List.take_succ_eq_append_getElem hk, List.take_succ_eq_append_getElem (by omega : k < e.length)]
  unfold over
  rw [List.zipWith_append (by simp; omega)]
  simp
theorem over_lt {d e : List Nat} (hb : ∀ x ∈ d, x < 256) (hb' : ∀ x ∈ e, x < 256) : ∀ x ∈ over d e, x < 256 := by
  intro x hx
  obtain ⟨i, hi, rfl⟩ := List.getElem_of_mem hx
  simp only [over, List.getElem_zipWith]
  exact Nat.xor_lt_two_pow (n := 8) (hb _ (List.getElem_mem _)) (hb' _ (List.getElem_mem _))
theorem partO_lt {d e : List Nat} (hb : ∀ x ∈ d, x < 256) (hb' : ∀ x ∈ e, x < 256) (k : Nat) : ∀ x ∈ partO d e k, x < 256 := by
  intro x hx
  rcases List.mem_append.1 hx with h | h
  · exact over_lt (take_lt hb k) (take_lt hb' k) x h
  · exact drop_lt hb k x h
theorem shV_set {d : List Nat} (r l s k b o m : Int) {i : Nat} (hi : i < d.length) (x : Nat) : (shV d r l s k b o m).set i (.int .u8 (x : Int)) = shV (d.set i x) r l s k b o m := by
  unfold shV
  rw [List.set_append_left _ _ (by rw [nats_length]; exact hi)]
  congr 1
  simp [nats, List.map_set]
theorem shV_get {d : List Nat} (r l s k b o m : Int) {i x : Nat} (h : d[i]? = some x) : (shV d r l s k b o m)[i]? = some (.int .u8 (x : Int)) := by
  unfold shV
  rw [List.getElem?_append_left (by rw [nats_length]; exact (List.getElem?_eq_some_iff.1 h).1)]
  simp [nats, h]
theorem shV_len0 : (shV zero16 0 0 0 0 0 0 0).length = 23 := rfl
theorem shV_set3 {d : List Nat} (hd : d.length = 16) (r l s k b o m r' l' s' : Int) : (((shV d r l s k b o m).set 16 (.int .i64 r')).set 17 (.int .i64 l')).set 18 (.int .i64 s') = shV d r' l' s' k b o m := by
  obtain ⟨d0, d1, d2, d3, d4, d5, d6, d7, d8, d9, d10, d11, d12, d13, d14, d15, rfl⟩ := split16 hd
  rfl
end Go.Proofs.YtnfigkoefmldiaaGreat
/- Sherds laid over one another. -/
namespace Go.Proofs.YtnfigkoefmldiaaGreat
open Go.RowKit
theorem run_index_flat {P : Program} (w : World) {t e : TypeId} {n c : Nat} {xs : List Value} {d : Nat} {ks : List Kd} {i : TypeInfo} (hu : P.underlying t = some (.array n e)) (hf : flat P d e = some ks) (hi : P.info? e = some i) (hc : P.cellsOf e = ks.length) (hk : ks.length = c)
    (j : Nat) (hj : j < n) (hl : xs.length = n * c) : (Instr.index t (.agg xs.toArray) (.int .i64 (j : Int))).run P w = .ok (wrapV P e ((xs.drop (j * c)).take c)) w := by
  subst hk
  have hs := run_sizeOf (P := P) (w := w) hi
  rw [hc] at hs
  have him : j * ks.length + ks.length ≤ n * ks.length := by
    have := Nat.mul_le_mul_right ks.length (show j + 1 ≤ n by omega)
    rw [Nat.succ_mul] at this; exact this
  have hp := run_part w hf hi hc xs (j * ks.length) (by omega)
  have h1 : (0 : Int) ≤ (j : Int) ∧ (j : Int) < (n : Int) := by omega
  simp only [Instr.index, asIntOf, Sem.run_bind, Sem.run_pure, Result.andThen_ok, run_underlying hu, if_pos h1, hs, Int.toNat_natCast, hp]
theorem u64_xor (a b : Nat) (ha : a < 18446744073709551616) (hb : b < 18446744073709551616) : bits .xor .u64 (a : Int) (b : Int) = ((a ^^^ b : Nat) : Int) := by
  have hx : a ^^^ b < 2 ^ 64 := Nat.xor_lt_two_pow (by omega) (by omega)
  have e : ∀ x : Nat, x < 18446744073709551616 → (BitVec.ofInt 64 (x : Int)).toNat = x := fun x h => by rw [BitVec.ofInt_natCast, BitVec.toNat_ofNat]; exact Nat.mod_eq_of_lt (by omega)
  show IntKind.u64.wrap ((BitVec.ofInt 64 (a : Int) ^^^ BitVec.ofInt 64 (b : Int)).toNat : Int) = _
  rw [BitVec.toNat_xor, e a ha, e b hb, u64_wrap_nat _ (by omega)]
theorem rds_range {w : World} {B C n : Nat} {A : Option Addr} {rows : List (List Value)} (h : Rds w B A C n rows) {k : Nat} (hk : k < n) {r : List Value} (hr : rows[k]? = some r) : ∃ b o, A = some ⟨b, o, none⟩ ∧ b < B ∧ w.rangeAt b (o + k * C) r := by
  obtain ⟨b, o, e, hb, hc⟩ := h.2.2 (by omega)
  refine ⟨b, o, e, hb, fun j v hv => ?_⟩
  rw [Nat.add_assoc]
  exact hc k r j v hr hv
/-- A sherd's cells; what is asked of it. -/
def Sh.v (x : Sh) : List Value := shV x.d x.r x.l x.s x.k x.b x.o x.m
def Sh.ok (x : Sh) : Prop := x.d.length = 16 ∧ ∀ y ∈ x.d, y < 256
def shs (l : List Sh) : List (List Value) := l.map Sh.v
end Go.Proofs.YtnfigkoefmldiaaGreat
/- A sherd's page. -/
namespace Go.Proofs.YtnfigkoefmldiaaGreat
open Go.RowKit
def zero32 : List Nat := List.replicate 32 0
theorem pgInfo {P : List Nat} (h : P.length = 32) : (Tryz.prog.info? 34).map (·.size) = some (nats .u8 P).length := by rw [nats_length, h]; kernel_rfl
theorem u8Size : (Tryz.prog.info? 5).map (·.size) = some 1 := by kernel_rfl
theorem IsOut.below {w w' : World} {B g : Nat} {r : Option Nat} {l : List Bool} (h : IsOut w B g r l) (hb : Below w.heap.size w w') : IsOut w' B g r l :=
  h.keep (Keep.of_new (S := fun _ => False) hb) id fun _ _ => id
theorem IsOut.upd {w w' : World} {B g : Nat} {r : Option Nat} {l : List Bool} (h : IsOut w B g r l) {G : Nat} {o : Obj} (hU : Upd G o w w') (hG : G < B) : IsOut w' B g r l :=
  h.keep (hU.keep (S := fun k => k = G) rfl) (by have := h.base; omega) fun k hk e => by have := h.owner k hk; omega
/-- A field is written; what lies below stays. -/
theorem put_below (G g : Nat) (r : Option Nat) (l : List Bool) (u V : Int) (w : World) (ho : IsOut w G g r l) (h0 : 0 ≤ u) (h1 : 1 ≤ V) (h2 : V ≤ 64) (hu : u.toNat < 2 ^ V.toNat) (hn : l.length + V.toNat ≤ 4096) (hB : G ≤ w.heap.size) :
   Calls Tryz.prog 99 #[.pointer (some ⟨g, 0, none⟩), .int .u64 u, .int .i64 V] w fun e w' => e = .returned (.bool true) ∧ ∃ r', IsOut w' G g r' (l ++ bitsL u.toNat V.toNat) ∧ Below G w w' := by
  obtain ⟨U, rfl⟩ := Int.eq_ofNat_of_zero_le h0
  obtain ⟨K, rfl⟩ := Int.eq_ofNat_of_zero_le (show 0 ≤ V by omega)
  simp only [Int.toNat_natCast] at *
  refine (put_true G g r l U K w ho (by omega) (by omega) hu hn hB).mono ?_
  rintro e w' ⟨rfl, r', h3, h4, h5⟩
  refine ⟨rfl, r', h3, h5.below hB ?_⟩
  rintro i (rfl | hi)
  · exact ho.base
  · exact ho.owner i hi.symm
theorem may_bd {d : List Nat} {r l s k b o m : Int} (h : maySh d r l s k b o m = true) : 0 ≤ r ∧ r < 256 ∧ 0 ≤ l ∧ l < 65536 ∧ 0 ≤ s ∧ s < 1099511627776 ∧ 1 ≤ k ∧ k ≤ 2 ∧ 0 ≤ b ∧ b < 16 ∧ 0 ≤ o ∧ o < 8 ∧ 0 ≤ m ∧ m < 256 := by
  unfold maySh placeB numbersB at h
  simp only [Bool.and_eq_true, Bool.or_eq_true, inB_iff, decide_eq_true_eq, beq_iff_eq] at h
  have hm := set_of_count (m := m) (by omega)
  omega
def fldsN (b o m k : Int) (j : Nat) : List Bool := match j with
  | 0 => []
  | 1 => bitsL b.toNat 8
  | 2 => bitsL b.toNat 8 ++ bitsL o.toNat 8
  | 3 => bitsL b.toNat 8 ++ (bitsL o.toNat 8 ++ bitsL m.toNat 8)
  | _ => bitsL b.toNat 8 ++ (bitsL o.toNat 8 ++ (bitsL m.toNat 8 ++ bitsL k.toNat 8))
theorem Upd.undrew {g : Nat} {o : Obj} {w w' : World} (h : Upd g o w.drew w') : Upd g o w w' := ⟨h.os, h.tape, h.output, h.size, h.at_, h.block⟩
theorem below_undrew {B : Nat} {w w' : World} (h : Below B w.drew w') : Below B w w' := ⟨h.os, h.tape, h.output, h.size, h.block⟩
theorem splice_a {d : List Nat} (hd : d.length = 16) : splice (nats .u8 zero32) 0 (nats .u8 d) = nats .u8 (d ++ zero16) := by
  unfold splice
  rw [List.take_zero, List.nil_append, nats_length, hd]
  simp [nats, zero32, zero16]
theorem splice_b {d x y z : List Nat} (hd : d.length = 16) (hx : x.length = 12) (hy : y.length = 12) : splice (nats .u8 (d ++ (y ++ z))) 16 (nats .u8 x) = nats .u8 (d ++ (x ++ z)) := by
  unfold splice
  rw [nats_length, hx]
  have e1 : (nats .u8 (d ++ (y ++ z))).take 16 = nats .u8 d := by
    simp only [nats, List.map_append]
    rw [List.take_append_of_le_length (by simp; omega), List.take_of_length_le (by simp; omega)]
  have e2 : (nats .u8 (d ++ (y ++ z))).drop (16 + 12) = nats .u8 z := by
    rw [show nats .u8 (d ++ (y ++ z)) = nats .u8 (d ++ y) ++ nats .u8 z by simp [nats]]
    have hl : (nats .u8 (d ++ y)).length = 16 + 12 := by rw [nats_length, List.length_append, hd, hy]
    rw [← hl, List.drop_left]
  rw [e1, e2]
  simp [nats]
theorem splice_c {d x y : List Nat} (hd : d.length = 16) (hx : x.length = 16) (hy : y.length = 16) : splice (nats .u8 (d ++ y)) 16 (nats .u8 x) = nats .u8 (d ++ x) := by
  unfold splice
  rw [nats_length, hx]
  have e1 : (nats .u8 (d ++ y)).take 16 = nats .u8 d := by
    simp only [nats, List.map_append]
    rw [List.take_append_of_le_length (by simp; omega), List.take_of_length_le (by simp; omega)]
  have e2 : (nats .u8 (d ++ y)).drop (16 + 16) = [] := List.drop_eq_nil_of_le (by rw [nats_length, List.length_append]; omega)
  rw [e1, e2]
  simp [nats]
theorem range_own {w : World} {base : Nat} {e : TypeId} {g c n : Nat} {xs : List Value} (h : w.ownsRow base e 1 (.slice (some ⟨g, 0, none⟩) n c) n xs) : w.rangeAt g 0 xs := by
  intro j v hv
  have := h.cells (g := g) rfl j v hv
  rwa [Addr.add_mid] at this
theorem rd_head {w : World} {g : Nat} {d H z : List Nat} {t : TypeId} {fr : Nat × Nat} (h : w.heap[g]? = some (.cells (nats .u8 (d ++ (H ++ z))).toArray t fr)) (hd : d.length = 16) (hh : H.length = 12) : Rd w w.heap.size (some ⟨g, 0, none⟩) 28 (nats .u8 (d ++ H)) :=
  rd_of_range (C := w.heap.size) (range_part h [] (nats .u8 (d ++ H)) (nats .u8 z) (by simp [nats]) 0 rfl) (show _ = 28 by rw [nats_length, List.length_append, hd, hh]) (lt_of_cells h)
theorem emptyOut (w : World) (B : Nat) (hB : B ≤ w.heap.size) : IsOut (w.alloc (.cells #[.slice none 0 0, .int .i64 0] 125)) B w.heap.size none [] :=
  ⟨hB, .slice none 0 0, rfl, heap_alloc_new _ _, World.ownsRow_nil _ _ _ _⟩
def putP (d : List Nat) (r l s k b o m : Int) : List Nat := if maySh d r l s k b o m then pageN d r l s k b o m else zero32
end Go.Proofs.YtnfigkoefmldiaaGreat
/- A page's sherd. -/
namespace Go.Proofs.YtnfigkoefmldiaaGreat
open Go.RowKit
theorem wpList_want_any {P : Program} {ops : Array Oper} {rest : List Oper} {op : Oper} {a : Act} {w : World} {Q : Exit → Act → World → Prop} (ty : TypeId) (x : Operand) (ho : op.op = .load ty x) (b i : Nat) (hx : a.eval x = .pointer (some ⟨b, i, none⟩))
    (hw : Region.wanted op (yielded ops a.tmps) = true) (cs : List Value) (d : TypeDesc) (hc : w.rangeAt b i cs) (hu : P.underlying ty = some d) (hd : d.isRow = true) (hi : (P.info? ty).map (·.size) = some cs.length)
    (h : wpList P ops Q rest (a.put op.dst (.agg cs.toArray)) w) : wpList P ops Q (op :: rest) a w := by
  unfold wpList
  rw [if_pos hw]
  exact .inl (wp_load_mid ty x ho b i hx cs d hc hu hd hi h)
theorem flatPage : flat Tryz.prog 4 34 = some (List.replicate 32 (Kd.int .u8)) := by kernel_rfl
theorem eqPage : eqOk Tryz.prog 4 34 = true := by kernel_rfl
theorem neq_page (w : World) (a b : List Nat) (ha : ∀ x ∈ a, x < 256) (hb : ∀ x ∈ b, x < 256) (la : a.length = 32) (lb : b.length = 32) :
    (binOp .neq 34 (.agg (nats .u8 a).toArray) (.agg (nats .u8 b).toArray)).run Tryz.prog w = .ok (.bool (!(a == b))) w := by
  have oa := ok_bytes a ha
  have ob := ok_bytes b hb
  rw [la] at oa
  rw [lb] at ob
  rw [run_neq_flat w flatPage eqPage (by kernel_rfl) (by decide) oa ob, lEq_nats ha hb (by omega)]
theorem eql_page (w : World) (a b : List Nat) (ha : ∀ x ∈ a, x < 256) (hb : ∀ x ∈ b, x < 256) (la : a.length = 32) (lb : b.length = 32) :
    (binOp .eql 34 (.agg (nats .u8 a).toArray) (.agg (nats .u8 b).toArray)).run Tryz.prog w = .ok (.bool (a == b)) w := by
  have oa := ok_bytes a ha
  have ob := ok_bytes b hb
  rw [la] at oa
  rw [lb] at ob
  rw [run_eql_flat w flatPage eqPage (by kernel_rfl) (by decide) oa ob, lEq_nats ha hb (by omega)]
theorem splice_sh {P : List Nat} (h : P.length = 32) : splice (shV zero16 0 0 0 0 0 0 0) 0 (nats .u8 (P.take 16)) = shV (P.take 16) 0 0 0 0 0 0 0 := by
  have hl : (P.take 16).length = 16 := by rw [List.length_take]; omega
  obtain ⟨d0, d1, d2, d3, d4, d5, d6, d7, d8, d9, d10, d11, d12, d13, d14, d15, he⟩ := split16 hl
  rw [he]; rfl
theorem range_take {w : World} {g : Nat} {P : List Nat} {t : TypeId} {fr : Nat × Nat} (n : Nat) (h : w.heap[g]? = some (.cells (nats .u8 P).toArray t fr)) : w.rangeAt g 0 (nats .u8 (P.take n)) :=
  range_part h [] (nats .u8 (P.take n)) (nats .u8 (P.drop n)) (by rw [List.nil_append]; simp only [nats, ← List.map_append, List.take_append_drop]) 0 rfl
theorem rd_drop {w : World} {g C n m : Nat} {P : List Nat} {t : TypeId} {fr : Nat × Nat} (h : w.heap[g]? = some (.cells (nats .u8 P).toArray t fr)) (hn : n ≤ P.length) (hm : P.length - n = m) (hC : g < C) : Rd w C (some ⟨g, n, none⟩) m (nats .u8 (P.drop n)) :=
  rd_of_range (range_part h (nats .u8 (P.take n)) (nats .u8 (P.drop n)) [] (by rw [List.append_nil]; simp only [nats, ← List.map_append, List.take_append_drop]) n (by rw [nats_length, List.length_take]; omega)) (by rw [nats_length, List.length_drop]; omega) hC
/-- The sherd, so far as it is read. -/
def readV (P : List Nat) (j : Nat) : List Value := shV (P.take 16) (rR P) (rL P) (rS P) (if 4 ≤ j then rK P else 0) (if 1 ≤ j then rB P else 0) (if 2 ≤ j then rO P else 0) (if 3 ≤ j then rMask P else 0)
theorem sh_sets {d : List Nat} (hd : d.length = 16) (r l s k b o m x : Int) : (shV d r l s k b o m).set 16 (.int .i64 x) = shV d x l s k b o m ∧ (shV d r l s k b o m).set 17 (.int .i64 x) = shV d r x s k b o m ∧ (shV d r l s k b o m).set 18 (.int .i64 x) = shV d r l x k b o m ∧
    (shV d r l s k b o m).set 19 (.int .i64 x) = shV d r l s x b o m ∧ (shV d r l s k b o m).set 20 (.int .i64 x) = shV d r l s k x o m ∧ (shV d r l s k b o m).set 21 (.int .i64 x) = shV d r l s k b x m ∧ (shV d r l s k b o m).set 22 (.int .i64 x) = shV d r l s k b o x := by
  obtain ⟨d0, d1, d2, d3, d4, d5, d6, d7, d8, d9, d10, d11, d12, d13, d14, d15, rfl⟩ := split16 hd
  exact ⟨rfl, rfl, rfl, rfl, rfl, rfl, rfl⟩
theorem IsIn.upd {w w' : World} {C g : Nat} {l : List Nat} {a : Nat} (h : IsIn w C g l a) {G : Nat} {o : Obj} (hU : Upd G o w w') (hne : g ≠ G) (hC : C ≤ G) : IsIn w' C g l a := by
  obtain ⟨A, c, h1, h2, h3⟩ := h
  exact ⟨A, c, hU.old h1 hne, hU.rd h2 hC, h3⟩
theorem get_int (C g : Nat) (P : List Nat) (at_ : Nat) (V : Int) (w : World) (hi : IsIn w C g (P.drop 16) at_) (hP : P.length = 32) (hb : ∀ x ∈ P, x < 256) (h1 : 1 ≤ V) (h2 : V ≤ 64) (ha : at_ + V.toNat ≤ 128) :
    Calls Tryz.prog 101 #[.pointer (some ⟨g, 0, none⟩), .int .i64 V] w fun e w' => e = .returned (.tuple #[.int .u64 (fld P (128 + at_) V.toNat : Int), .bool true]) ∧ IsIn w' C g (P.drop 16) (at_ + V.toNat) ∧ Keep (fun k => k = g) w w' := by
  obtain ⟨K, rfl⟩ := Int.eq_ofNat_of_zero_le (show 0 ≤ V by omega)
  simp only [Int.toNat_natCast] at *
  have hl : (P.drop 16).length = 16 := by rw [List.length_drop]; omega
  have h := get_yes C g (P.drop 16) at_ K w hi (drop_lt hb _) (by omega) (by omega) (by omega) (by omega)
  rw [cut_behind] at h
  exact h
def getB (P : List Nat) : Bool := maySh (P.take 16) (rR P) (rL P) (rS P) (rK P) (rB P) (rO P) (rMask P) && (fld P 224 32 == kof (P.take 28))
def getV (P : List Nat) : List Value := if getB P then readV P 4 else shV zero16 0 0 0 0 0 0 0
def getE (P : List Nat) : Int := if getB P then 0 else 1
end Go.Proofs.YtnfigkoefmldiaaGreat
/- A page that is blank. -/
namespace Go.Proofs.YtnfigkoefmldiaaGreat
open Go.RowKit
def SomeIdx (w : World) (e : Ending) (w' : World) : Prop := ∃ i : Nat, i ≤ 1000 ∧ e = .returned (.int .i64 (i : Int)) ∧ w = w'
def blankB (P : List Nat) : Bool := P.all (· == 255)
end Go.Proofs.YtnfigkoefmldiaaGreat
