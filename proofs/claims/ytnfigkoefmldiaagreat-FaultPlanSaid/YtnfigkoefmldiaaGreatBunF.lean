import Derived.Test.YtnfigkoefmldiaaGreatBunE
import Derived.Test.YtnfigkoefmldiaaGreatOwnRows
/- What a claim's proof leans on: Weave1, Parity. -/
/- Slices of sherds: a clone; which one is alien. -/
namespace Go.Proofs.YtnfigkoefmldiaaGreat
open Go.RowKit
theorem one_shs (l : List Sh) : ∀ r ∈ shs l, ∀ u ∈ r, u.oneCell' = true := by
  intro r hr
  obtain ⟨x, _, rfl⟩ := List.mem_map.1 hr
  exact one_shV _ _ _ _ _ _ _ _
theorem shs_len {l : List Sh} (h : ∀ x ∈ l, x.ok) : ∀ r ∈ shs l, r.length = 23 := by
  intro r hr
  obtain ⟨x, hx, rfl⟩ := List.mem_map.1 hr
  exact shV_length (h x hx).1 _ _ _ _ _ _ _
def Sh.may (x : Sh) : Bool := maySh x.d x.r x.l x.s x.k x.b x.o x.m
def alienB (p x : Sh) : Bool := x.k != 1 || (!x.may || (x.b != p.b || (x.o != p.o || x.m != p.m)))
/-- The number of the first alien. -/
def AnIdx (no : Bool) (w : World) (e : Ending) (w' : World) : Prop := ∃ i : Int, e = .returned (.int .i64 i) ∧ decide (0 ≤ i) = no ∧ Below w.heap.size w w'
def anyAlien (p : Sh) (l : List Sh) : Bool := l.any (alienB p)
end Go.Proofs.YtnfigkoefmldiaaGreat
/- The parity of a row. -/
namespace Go.Proofs.YtnfigkoefmldiaaGreat
open Go.RowKit
/-- An entry. -/
structure En where
  l : Int
  s : Int
  r : Int
  d : List Nat
def En.v (x : En) : List Value := enV x.l x.s x.r x.d
def En.ok (x : En) : Prop := x.d.length = 16 ∧ ∀ y ∈ x.d, y < 256
def ens (l : List En) : List (List Value) := l.map En.v
def En.sh (x : En) (b o m : Int) : Sh := ⟨x.d, x.r, x.l, x.s, 1, b, o, m⟩
def En.may (x : En) (b o m : Int) : Bool := maySh x.d x.r x.l x.s 1 b o m
def owns (l : List En) (b o m : Int) : List Sh := l.map fun x => x.sh b o m
theorem owns_ok {l : List En} (h : ∀ x ∈ l, x.ok) (b o m : Int) : ∀ y ∈ owns l b o m, y.ok := by
  intro y hy
  obtain ⟨x, hx, rfl⟩ := List.mem_map.1 hy
  exact h x hx
def parSh (l : List En) (b o m : Int) : Sh := ⟨overD (owns l b o m), roleI (overM (owns l b o m)), lpnI (overM (owns l b o m)), seqI (overM (owns l b o m)), 2, b, o, m⟩
def parB (l : List En) (b o m : Int) : Bool := ((l.length : Int) == slotsI m) && (l.length != 0 && l.all fun x => x.may b o m)
def zeroV : List Value := shV zero16 0 0 0 0 0 0 0
def parV (l : List En) (b o m : Int) : List Value := if parB l b o m then (parSh l b o m).v else zeroV
theorem one_enV (l s r : Int) (d : List Nat) : ∀ v ∈ enV l s r d, v.oneCell' = true := by
  intro v hv
  rcases List.mem_append.1 hv with h | h
  · simp at h
    rcases h with rfl | rfl | rfl <;> rfl
  · exact one_nats _ _ v h
theorem splice_shd {d : List Nat} (h : d.length = 16) (r l s k b o m : Int) {e : List Nat} (he : e.length = 16) : splice (shV e r l s k b o m) 0 (nats .u8 d) = shV d r l s k b o m := by
  obtain ⟨d0, d1, d2, d3, d4, d5, d6, d7, d8, d9, d10, d11, d12, d13, d14, d15, rfl⟩ := split16 h
  obtain ⟨e0, e1, e2, e3, e4, e5, e6, e7, e8, e9, e10, e11, e12, e13, e14, e15, rfl⟩ := split16 he
  rfl
theorem en_cells' {w : World} {g : Nat} {x : En} {t : TypeId} (h : w.heap[g]? = some (.cells x.v.toArray t (0, 0))) :
    w.cell? ⟨g, 0, none⟩ = some (.int .i64 x.l) ∧ w.cell? ⟨g, 1, none⟩ = some (.int .i64 x.s) ∧ w.cell? ⟨g, 2, none⟩ = some (.int .i64 x.r) ∧ w.rangeAt g 3 (nats .u8 x.d) := en_cells h
theorem OwnRows.ne {w : World} {base C n : Nat} {e : TypeId} {v : Value} {rows : List (List Value)} (h : OwnRows w base e C v n rows) {g : Nat} (hg : g < base) : v.ownBlock ≠ some g := by
  intro hv
  have := (h.1.lt g hv).1
  omega
theorem OwnRows.fresh {w : World} {base C n : Nat} {e : TypeId} {v : Value} {rows : List (List Value)} (h : OwnRows w base e C v n rows) : v.ownBlock ≠ some w.heap.size := by
  intro hv
  have := (h.1.lt _ hv).2
  omega
theorem rds_sh {w : World} {g : Nat} {x : Sh} {t : TypeId} {fr : Nat × Nat} (hx : x.ok) (h : w.heap[g]? = some (.cells x.v.toArray t fr)) : Rds w w.heap.size (some ⟨g, 0, none⟩) 23 1 (shs [x]) := by
  have := rds_one h
  rwa [show x.v.length = 23 from shV_length hx.1 _ _ _ _ _ _ _] at this
end Go.Proofs.YtnfigkoefmldiaaGreat
