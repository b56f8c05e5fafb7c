import Derived.Test.YtlahcmldbgeifaaPutAll
import Derived.Test.YtlahcmldbgeifaaStr
import Derived.Test.YtlahcmldbgeifaaPlainJoin
/- Rows of fields: an append of elements of any size; fields as bits. -/
namespace Go.Proofs.Ytlahcmldbgeifaa
open Go.RowKit
theorem fieldInfo : (Try.prog.info? 37).map (fun i => (i.zero, i.size, i.bytes)) = some (some (.agg #[.int .u64 0, .int .i64 0]), 2, 16) := by kernel_rfl
theorem step_appendZ {P : Program} {ops : Array Oper} {o : Oper} {a : Act} {K : Act → World → Prop} {Q : Exit → Act → World → Prop} {E : Prop} (hgd : o.guard = none) (s x : Operand) (t : TypeId)
    (ho : o.op = .call { callee := .builtin .append, args := #[s, x], argTypes := #[t, t] })
    (e : TypeId) (z : Value) (size bytes : Nat) (ht : P.underlying t = some (.slice e)) (hinfo : (P.info? e).map (fun i => (i.zero, i.size, i.bytes)) = some (some z, size, bytes)) (hzs : z.cells.size = size) (hsz : 0 < size)
    {base n m c : Nat} {wx : World} {v : Value} {xs news : List Value} {A : Addr} (hown : wx.ownsRow base e size v n xs) (hs : a.eval s = v) (hx : a.eval x = .slice (some A) m c) (hl : news.length = m * size) (hnews : ∀ j u, news[j]? = some u → wx.cell? (A.add j) = some u) (h1 : ∀ u ∈ news, u.oneCell' = true)
    (h63 : n + m ≤ maxLen) (hbytes : (n + m) * bytes ≤ 140737488355328) (hbase : base ≤ wx.heap.size)
    (h : ∀ v' w', w'.ownsRow base e size v' (n + m) (xs ++ news) → wx.grownBy w' v.ownBlock → (v'.ownBlock = v.ownBlock ∨ v'.ownBlock = some wx.heap.size) → K (a.put o.dst v') w') :
    if Region.wanted o (yielded ops a.tmps) = true then Oper.wp P o a wx K Q else E := by
  rw [if_pos (by simp [Region.wanted, hgd])]
  obtain ⟨i, hi, hz, hsize, hby⟩ := info_parts hinfo
  obtain ⟨v', w', hr, h2, h3, _, h5⟩ := run_append_own_at (P := P) wx base t o.type e i z size bytes ht hi hz hsize hby hzs hsz v n xs hown A m c news hl hnews h1 h63 hbytes hbase
  unfold Oper.wp execOp
  simp only [ho, resolve, invoke, builtin, Sem.run_bind, Sem.run_pure, Result.andThen_ok, List.map_toArray, List.map_cons, List.map_nil, hs, hx, hr]
  exact h v' w' h2 h3 h5
/-- Fields as bits, as cells. -/
def fBits (fs : List (Nat × Nat)) : List Bool := fs.flatMap fun f => bitsL f.1 f.2
def fCells (fs : List (Nat × Nat)) : List Value := fs.flatMap fun f => [Value.int .u64 (f.1 : Int), Value.int .i64 (f.2 : Int)]
theorem fBits_snoc (fs : List (Nat × Nat)) (u W : Nat) : fBits (fs ++ [(u, W)]) = fBits fs ++ bitsL u W := by simp [fBits]
theorem fCells_snoc (fs : List (Nat × Nat)) (u W : Nat) : fCells (fs ++ [(u, W)]) = fCells fs ++ [Value.int .u64 (u : Int), Value.int .i64 (W : Int)] := by simp [fCells]
theorem fCells_length (fs : List (Nat × Nat)) : (fCells fs).length = fs.length * 2 := by
  induction fs with
  | nil => rfl
  | cons f fs ih => simp only [fCells, List.flatMap_cons, List.length_append, List.length_cons, List.length_nil] at *; omega
theorem fCells_one (fs : List (Nat × Nat)) : ∀ u ∈ fCells fs, u.oneCell' = true := by
  intro u hu
  simp only [fCells, List.mem_flatMap] at hu
  obtain ⟨f, _, hf⟩ := hu
  simp at hf
  rcases hf with rfl | rfl <;> rfl
theorem fCells_get (fs : List (Nat × Nat)) (k : Nat) (h : k < fs.length) : (fCells fs)[k * 2]? = some (.int .u64 ((fs[k].1 : Nat) : Int)) ∧ (fCells fs)[k * 2 + 1]? = some (.int .i64 ((fs[k].2 : Nat) : Int)) := by
  induction fs generalizing k with
  | nil => simp at h
  | cons f fs ih =>
    have e : fCells (f :: fs) = .int .u64 (f.1 : Int) :: .int .i64 (f.2 : Int) :: fCells fs := by simp [fCells]
    rw [e]
    cases k with
    | zero => simp
    | succ k =>
      have := ih k (by simpa using h)
      rw [show (k + 1) * 2 = k * 2 + 1 + 1 by omega]
      simpa using this
/-- Where field number k begins. -/
def fAt (fs : List (Nat × Nat)) (k : Nat) : Nat := (fBits (fs.take k)).length
theorem fAt_succ (fs : List (Nat × Nat)) (k : Nat) (h : k < fs.length) : fAt fs (k + 1) = fAt fs k + fs[k].2 ∧ fAt fs k + fs[k].2 ≤ (fBits fs).length ∧ cutB (fBits fs) (fAt fs k) fs[k].2 = bitsL fs[k].1 fs[k].2 := by
  have e1 : fs.take (k + 1) = fs.take k ++ [fs[k]] := take_snoc' fs k h
  have e2 : fs = fs.take k ++ ([fs[k]] ++ fs.drop (k + 1)) := by
    rw [← List.append_assoc, ← e1, List.take_append_drop]
  have e3 : fBits fs = fBits (fs.take k) ++ (bitsL fs[k].1 fs[k].2 ++ fBits (fs.drop (k + 1))) := by
    have : ∀ a b c : List (Nat × Nat), fBits (a ++ (b ++ c)) = fBits a ++ (fBits b ++ fBits c) := fun a b c => by simp [fBits]
    conv => lhs; rw [e2]
    rw [this]; simp [fBits]
  refine ⟨?_, ?_, ?_⟩
  · unfold fAt; rw [e1, show fBits (fs.take k ++ [fs[k]]) = fBits (fs.take k) ++ bitsL fs[k].1 fs[k].2 from fBits_snoc _ _ _, List.length_append, bitsL_length]
  · rw [e3, List.length_append, List.length_append, bitsL_length]; unfold fAt; omega
  · rw [e3]; unfold cutB fAt
    rw [List.drop_left, ← bitsL_length fs[k].1 fs[k].2, List.take_left' (by rw [bitsL_length])]
theorem fAt_all (fs : List (Nat × Nat)) : fAt fs fs.length = (fBits fs).length := by unfold fAt; rw [List.take_length]
theorem IsOut.apart {w : World} {B g : Nat} {r : Option Nat} {l : List Bool} (h : IsOut w B g r l) {base : Nat} {e : TypeId} {size n : Nat} {v : Value} {xs : List Value} (ho : w.ownsRow base e size v n xs) (h1 : e ≠ 34) (h2 : e ≠ 5) :
    ∀ k, v.ownBlock = some k → ¬ (k = g ∨ some k = r) := by
  obtain ⟨hBg, v0, hv, hg, hown⟩ := h
  rintro k hk (rfl | hr)
  · exact own_ne ho hg h1 hk
  · rcases hown.2 with ⟨rfl, _⟩ | ⟨g', cap, cur, rfl, _, hh, _⟩
    · rw [← hv] at hr; simp [Value.ownBlock] at hr
    · rw [← hv] at hr
      have : k = g' := by simpa [Value.ownBlock] using hr
      subst this
      exact own_ne ho hh h2 hk
/-- What the statement that takes a field in keeps while it goes on. -/
structure Sx (wx : World) (B g F : Nat) (r : Option Nat) (L : List Bool) (v5 : Value) (n5 : Nat) (x5 : List Value) (v6 : Value) (n6 : Nat) (x6 : List Value) (u V : Nat) (w : World) : Prop where
  hF : wx.heap[F]? = some (.cells #[.int .u64 (u : Int), .int .i64 (V : Int)] 37 (0, 0))
  ho : IsOut wx B g r L
  h5 : wx.ownsRow B 4 1 v5 n5 x5
  h6 : wx.ownsRow B 37 2 v6 n6 x6
  hb : Below B w wx
  h6F : v6.ownBlock ≠ some F
  hB : B ≤ wx.heap.size
section
variable {wx w' w : World} {B g F n5 n6 u V : Nat} {r : Option Nat} {L : List Bool} {v5 v6 v' : Value} {x5 x6 y : List Value}
theorem Sx.below (h : Sx wx B g F r L v5 n5 x5 v6 n6 x6 u V w) (hb : Below wx.heap.size wx w') : Sx w' B g F r L v5 n5 x5 v6 n6 x6 u V w :=
  ⟨blk_below h.hF hb, h.ho.keep (Keep.of_new (S := fun _ => False) hb) (fun h => h) (fun _ _ h => h), own_below h.h5 hb, own_below h.h6 hb, h.hb.trans (hb.mono h.hB), h.h6F, Nat.le_trans h.hB hb.size⟩
theorem Sx.alloc (h : Sx wx B g F r L v5 n5 x5 v6 n6 x6 u V w) (o : Obj) : Sx (wx.alloc o) B g F r L v5 n5 x5 v6 n6 x6 u V w :=
  h.below ((Below.refl _ wx).alloc (Nat.le_refl _) o)
theorem Sx.drew (h : Sx wx B g F r L v5 n5 x5 v6 n6 x6 u V w) : Sx wx.drew B g F r L v5 n5 x5 v6 n6 x6 u V w :=
  ⟨h.hF, h.ho, h.h5, h.h6, below_drewN h.hb 1, h.h6F, h.hB⟩
theorem Sx.app5 (h : Sx wx B g F r L v5 n5 x5 v6 n6 x6 u V w) {m : Nat} (h' : w'.ownsRow B 4 1 v' m y) (hg : wx.grownBy w' v5.ownBlock) : Sx w' B g F r L v' m y v6 n6 x6 u V w := by
  refine ⟨blk_grown h.hF hg (Ne.symm (own_ne h.h5 h.hF (by decide))), h.ho.keep (Keep.of_grown hg) (fun e => ?_) (fun k hk e => ?_), h', own_keep h.h6 (Keep.of_grown hg) (fun k hk e => ?_), h.hb.grown hg h.hB (fun k hk => (h.h5.lt k hk).1), h.h6F, Nat.le_trans h.hB hg.size⟩
  · exact h.ho.apart h.h5 (by decide) (by decide) g e.symm (.inl rfl)
  · exact h.ho.apart h.h5 (by decide) (by decide) k e.symm (.inr hk.symm)
  · rcases h.h6.2 with ⟨e6, _⟩ | ⟨g', cap, cur, e6, _, hh, _⟩
    · rw [e6] at hk; simp [Value.ownBlock] at hk
    · rw [e6] at hk
      have : g' = k := by simpa [Value.ownBlock] using hk
      subst this
      exact own_ne h.h5 hh (by decide) e.symm
theorem Sx.app6 (h : Sx wx B g F r L v5 n5 x5 v6 n6 x6 u V w) {m : Nat} (h' : w'.ownsRow B 37 2 v' m y) (hg : wx.grownBy w' v6.ownBlock) :
    IsOut w' B g r L ∧ w'.ownsRow B 4 1 v5 n5 x5 ∧ w'.ownsRow B 37 2 v' m y ∧ Below B w w' := by
  refine ⟨h.ho.keep (Keep.of_grown hg) (fun e => ?_) (fun k hk e => ?_), own_keep h.h5 (Keep.of_grown hg) (fun k hk e => ?_), h', h.hb.grown hg h.hB (fun k hk => (h.h6.lt k hk).1)⟩
  · exact h.ho.apart h.h6 (by decide) (by decide) g e.symm (.inl rfl)
  · exact h.ho.apart h.h6 (by decide) (by decide) k e.symm (.inr hk.symm)
  · rcases h.h6.2 with ⟨e6, _⟩ | ⟨g', cap, cur, e6, _, hh, _⟩
    · rw [e6] at e; simp [Value.ownBlock] at e
    · rw [e6] at e
      have : g' = k := by simpa [Value.ownBlock] using e.symm
      subst this
      exact own_ne h.h5 hh (by decide) hk
end
end Go.Proofs.Ytlahcmldbgeifaa
