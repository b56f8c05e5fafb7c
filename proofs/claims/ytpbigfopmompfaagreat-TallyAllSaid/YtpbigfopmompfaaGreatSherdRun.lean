import Derived.Test.YtpbigfopmompfaaGreatBunD
import Derived.Laws.Tables
/- A sherd put together out of its parts; an entry as cells. -/
namespace Go.Proofs.YtpbigfopmompfaaGreat
open Go.RowKit
theorem split16 {d : List Nat} (h : d.length = 16) : ∃ d0 d1 d2 d3 d4 d5 d6 d7 d8 d9 d10 d11 d12 d13 d14 d15, d = [d0, d1, d2, d3, d4, d5, d6, d7, d8, d9, d10, d11, d12, d13, d14, d15] := by
 match d, h with
 | [d0, d1, d2, d3, d4, d5, d6, d7, d8, d9, d10, d11, d12, d13, d14, d15], _ => exact ⟨d0, d1, d2, d3, d4, d5, d6, d7, d8, d9, d10, d11, d12, d13, d14, d15, rfl⟩
theorem built_sherd {d : List Nat} (h : d.length = 16) (r l s k b o m : Int) :
 Tryz.prog.built 153 [(0, .agg (nats .u8 d).toArray), (1, .int .i64 r), (2, .int .i64 l), (3, .int .i64 s), (4, .int .i64 k), (5, .int .i64 b), (6, .int .i64 o), (7, .int .i64 m)] = some (shV d r l s k b o m).toArray := by
 obtain ⟨d0, d1, d2, d3, d4, d5, d6, d7, d8, d9, d10, d11, d12, d13, d14, d15, rfl⟩ := split16 h
 kernel_rfl
def enV (l s r : Int) (d : List Nat) : List Value := [.int .i64 l, .int .i64 s, .int .i64 r] ++ nats .u8 d
theorem enV_length {d : List Nat} (h : d.length = 16) (l s r : Int) : (enV l s r d).length = 19 := by simp [enV, nats, h]
theorem en_cells {w : World} {g : Nat} {d : List Nat} {l s r : Int} {t : TypeId} (h : w.heap[g]? = some (.cells (enV l s r d).toArray t (0, 0))) :
 w.cell? ⟨g, 0, none⟩ = some (.int .i64 l) ∧ w.cell? ⟨g, 1, none⟩ = some (.int .i64 s) ∧ w.cell? ⟨g, 2, none⟩ = some (.int .i64 r) ∧ w.rangeAt g 3 (nats .u8 d) := by
 refine ⟨by rw [zaf h]; rfl, by rw [zaf h]; rfl, by rw [zaf h]; rfl, ?_⟩
 intro j v hv
 rw [zaf h, List.getElem?_toArray, enV, List.getElem?_append_right (by simp)]
 simpa using hv
theorem range_below {wx w' : World} {g off : Nat} {cs : List Value} (h : wx.rangeAt g off cs) (hb : Below wx.heap.size wx w') : w'.rangeAt g off cs := by
 intro j v hv
 have h1 := h j v hv
 exact (hb.cell (p := ⟨g, off + j, none⟩) (World.block_lt_of_cell? wx _ h1)).trans h1
theorem range_alloc {wx : World} {g off : Nat} {cs : List Value} (h : wx.rangeAt g off cs) (o : Obj) : (wx.alloc o).rangeAt g off cs :=
 range_below h ((Below.refl _ wx).alloc (Nat.le_refl _) o)
theorem cell_alloc {wx : World} {b i : Nat} {v : Value} (h : wx.cell? ⟨b, i, none⟩ = some v) (o : Obj) : (wx.alloc o).cell? ⟨b, i, none⟩ = some v :=
 ((Below.refl _ wx).alloc (Nat.le_refl _) o |>.cell (p := ⟨b, i, none⟩) (World.block_lt_of_cell? wx _ h)).trans h
def zeroSh : Obj := .cells #[.int .u8 0, .int .u8 0, .int .u8 0, .int .u8 0, .int .u8 0, .int .u8 0, .int .u8 0, .int .u8 0, .int .u8 0, .int .u8 0, .int .u8 0, .int .u8 0, .int .u8 0, .int .u8 0, .int .u8 0, .int .u8 0, .int .i64 0, .int .i64 0, .int .i64 0, .int .i64 0, .int .i64 0, .int .i64 0, .int .i64 0] 153
end Go.Proofs.YtpbigfopmompfaaGreat
