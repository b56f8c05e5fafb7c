import Derived.Test.YtnfigkoefmldiaaGreatSherd
import Derived.Deep.MidRow
/- The contracts of the layer sherd: which sherds may be. -/
namespace Go.Proofs.YtnfigkoefmldiaaGreat
open Go.RowKit
/-- A sherd as cells. -/
def shV (d : List Nat) (r l s k b o m : Int) : List Value := nats .u8 d ++ [.int .i64 r, .int .i64 l, .int .i64 s, .int .i64 k, .int .i64 b, .int .i64 o, .int .i64 m]
theorem shV_length {d : List Nat} (h : d.length = 16) (r l s k b o m : Int) : (shV d r l s k b o m).length = 23 := by simp [shV, nats, h]
def zero16 : List Nat := List.replicate 16 0
def noneB (d : List Nat) : Bool := d == zero16
theorem range_data {w : World} {g : Nat} {d : List Nat} {r l s k b o m : Int} {t : TypeId} (h : w.heap[g]? = some (.cells (shV d r l s k b o m).toArray t (0, 0))) : w.rangeAt g 0 (nats .u8 d) := by
  intro j v hv
  rw [Nat.zero_add, blk_cell h, shV, List.getElem?_toArray, List.getElem?_append_left (List.getElem?_eq_some_iff.1 hv).1]
  exact hv
theorem sh_cells {w : World} {g : Nat} {d : List Nat} {r l s k b o m : Int} {t : TypeId} (hd : d.length = 16) (h : w.heap[g]? = some (.cells (shV d r l s k b o m).toArray t (0, 0))) :
    w.cell? ⟨g, 16, none⟩ = some (.int .i64 r) ∧ w.cell? ⟨g, 17, none⟩ = some (.int .i64 l) ∧ w.cell? ⟨g, 18, none⟩ = some (.int .i64 s) ∧ w.cell? ⟨g, 19, none⟩ = some (.int .i64 k) ∧ w.cell? ⟨g, 20, none⟩ = some (.int .i64 b) ∧ w.cell? ⟨g, 21, none⟩ = some (.int .i64 o) ∧ w.cell? ⟨g, 22, none⟩ = some (.int .i64 m) := by
  have hl : (nats .u8 d).length = 16 := by rw [nats_length, hd]
  have e : ∀ i, w.cell? ⟨g, 16 + i, none⟩ = ([.int .i64 r, .int .i64 l, .int .i64 s, .int .i64 k, .int .i64 b, .int .i64 o, .int .i64 m] : List Value)[i]? := by
    intro i
    rw [blk_cell h, shV, List.getElem?_toArray, List.getElem?_append_right (by omega), hl, Nat.add_sub_cancel_left]
  exact ⟨e 0, e 1, e 2, e 3, e 4, e 5, e 6⟩
def kData : List Kd := List.replicate 16 (Kd.int .u8)
theorem ok_bytes : ∀ (d : List Nat), (∀ x ∈ d, x < 256) → okAll (List.replicate d.length (Kd.int .u8)) (nats .u8 d) = true
  | [], _ => rfl
  | x :: d, h => by
    have ih := ok_bytes d fun y hy => h y (by simp [hy])
    have hx := h x (by simp)
    rw [List.length_cons, List.replicate_succ]
    simp only [nats, List.map_cons, okAll, Kd.ok, Bool.and_eq_true, beq_self_eq_true, true_and]
    refine ⟨?_, ih⟩
    simp [Lit.wf, IntKind.min, IntKind.max, IntKind.bits, IntKind.signed]
    omega
theorem nats_inj {k : IntKind} : ∀ {a b : List Nat}, nats k a = nats k b ↔ a = b
  | [], [] => by simp [nats]
  | [], _ :: _ => by simp [nats]
  | _ :: _, [] => by simp [nats]
  | x :: a, y :: b => by
    have := nats_inj (k := k) (a := a) (b := b)
    simp only [nats, List.map_cons, List.cons.injEq, Value.int.injEq, true_and] at *
    rw [this]
    constructor
    · rintro ⟨h1, h2⟩; exact ⟨by omega, h2⟩
    · rintro ⟨h1, h2⟩; exact ⟨by omega, h2⟩
theorem lEq_nats {a b : List Nat} (ha : ∀ x ∈ a, x < 256) (hb : ∀ x ∈ b, x < 256) (hl : a.length = b.length) : lEq (nats .u8 a) (nats .u8 b) = (a == b) := by
  have oa := ok_bytes a ha
  have ob := ok_bytes b hb
  rw [← hl] at ob
  rw [Bool.eq_iff_iff, lEq_iff oa ob, nats_inj, beq_iff_eq]
def entryB (d : List Nat) (r l s : Int) : Bool := if r = 1 then true else if r = 2 ∨ r = 4 then noneB d else if r = 3 then noneB d && (l == 0 && s == 0) else false
theorem zeros16 : ∀ x ∈ zero16, x < 256 := by unfold zero16; simp
end Go.Proofs.YtnfigkoefmldiaaGreat
