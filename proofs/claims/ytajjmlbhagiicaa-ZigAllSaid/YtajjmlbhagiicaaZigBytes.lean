import Derived.Test.YtajjmlbhagiicaaBegun
import Derived.Test.YtajjmlbhagiicaaFlat
import Derived.Test.YtajjmlbhagiicaaBunP
import Derived.Deep.RegionHeld3
import Derived.Stop.BytesEq
/- ZigBytes: eight bytes have every number, the highest first; no condition. -/
namespace Go.Proofs.Ytajjmlbhagiicaa.zigBytes
open Go.RowKit
set_option linter.unusedVariables false
theorem eight {cs : List Value} (h : okAll (List.replicate 8 (Kd.int .u8)) cs = true) :
    ∃ b0 b1 b2 b3 b4 b5 b6 b7 : Nat, cs = [.int .u8 (b0 : Int), .int .u8 (b1 : Int), .int .u8 (b2 : Int), .int .u8 (b3 : Int), .int .u8 (b4 : Int), .int .u8 (b5 : Int), .int .u8 (b6 : Int), .int .u8 (b7 : Int)] ∧
      b0 < 256 ∧ b1 < 256 ∧ b2 < 256 ∧ b3 < 256 ∧ b4 < 256 ∧ b5 < 256 ∧ b6 < 256 ∧ b7 < 256 := by
  have hl := okAll_length h
  have g : ∀ i, i < 8 → ∃ b : Nat, cs[i]? = some (.int .u8 (b : Int)) ∧ b < 256 := by
    intro i hi
    obtain ⟨v, hv, ho⟩ := okAll_get h i (Kd.int .u8) (by rw [List.getElem?_replicate, if_pos hi])
    obtain ⟨n, rfl, hw⟩ := ok_int ho
    have := wf_u8 hw
    obtain ⟨N, rfl⟩ := Int.eq_ofNat_of_zero_le this.1
    exact ⟨N, hv, by omega⟩
  obtain ⟨b0, g0, h0⟩ := g 0 (by omega)
  obtain ⟨b1, g1, h1⟩ := g 1 (by omega)
  obtain ⟨b2, g2, h2⟩ := g 2 (by omega)
  obtain ⟨b3, g3, h3⟩ := g 3 (by omega)
  obtain ⟨b4, g4, h4⟩ := g 4 (by omega)
  obtain ⟨b5, g5, h5⟩ := g 5 (by omega)
  obtain ⟨b6, g6, h6⟩ := g 6 (by omega)
  obtain ⟨b7, g7, h7⟩ := g 7 (by omega)
  refine ⟨b0, b1, b2, b3, b4, b5, b6, b7, ?_, h0, h1, h2, h3, h4, h5, h6, h7⟩
  match cs, hl, g0, g1, g2, g3, g4, g5, g6, g7 with
  | [c0, c1, c2, c3, c4, c5, c6, c7], _, g0, g1, g2, g3, g4, g5, g6, g7 =>
    simp at g0 g1 g2 g3 g4 g5 g6 g7
    rw [g0, g1, g2, g3, g4, g5, g6, g7]
theorem cells8 {w : World} {g : Nat} {v0 v1 v2 v3 v4 v5 v6 v7 : Value} {t : TypeId} (h : w.heap[g]? = some (.cells #[v0, v1, v2, v3, v4, v5, v6, v7] t (0, 0))) :
    w.cell? ⟨g, 0, none⟩ = some v0 ∧ w.cell? ⟨g, 1, none⟩ = some v1 ∧ w.cell? ⟨g, 2, none⟩ = some v2 ∧ w.cell? ⟨g, 3, none⟩ = some v3 ∧ w.cell? ⟨g, 4, none⟩ = some v4 ∧ w.cell? ⟨g, 5, none⟩ = some v5 ∧ w.cell? ⟨g, 6, none⟩ = some v6 ∧ w.cell? ⟨g, 7, none⟩ = some v7 := by
  simp only [blk_cell h]
  exact ⟨rfl, rfl, rfl, rfl, rfl, rfl, rfl, rfl⟩
theorem rd8 {w : World} {g : Nat} {b0 b1 b2 b3 b4 b5 b6 b7 : Nat} {t : TypeId} (h : w.heap[g]? = some (.cells #[.int .u8 (b0 : Int), .int .u8 (b1 : Int), .int .u8 (b2 : Int), .int .u8 (b3 : Int), .int .u8 (b4 : Int), .int .u8 (b5 : Int), .int .u8 (b6 : Int), .int .u8 (b7 : Int)] t (0, 0))) :
    Rd w w.heap.size (some ⟨g, 0, none⟩) 8 (nats .u8 [b0, b1, b2, b3, b4, b5, b6, b7]) := by
  refine ⟨rfl, fun _ => ⟨g, 0, rfl, lt_of_cells h, fun i u hu => ?_⟩⟩
  rw [blk_cell h, Nat.zero_add]
  simpa [nats] using hu
theorem cell_nat (b : Nat) (h : b < 256) : Extern.Stop.cell (UInt8.ofNat b) = .int .u8 (b : Int) := by
  unfold Extern.Stop.cell
  rw [UInt8.toNat_ofNat', Nat.mod_eq_of_lt h]
  rfl
theorem eq8 (w : World) (b0 b1 b2 b3 b4 b5 b6 b7 : Nat) (h0 : b0 < 256) (h1 : b1 < 256) (h2 : b2 < 256) (h3 : b3 < 256) (h4 : b4 < 256) (h5 : b5 < 256) (h6 : b6 < 256) (h7 : b7 < 256) :
    (binOp .eql 26 (.agg #[.int .u8 (b0 : Int), .int .u8 (b1 : Int), .int .u8 (b2 : Int), .int .u8 (b3 : Int), .int .u8 (b4 : Int), .int .u8 (b5 : Int), .int .u8 (b6 : Int), .int .u8 (b7 : Int)]) (.agg #[.int .u8 (b0 : Int), .int .u8 (b1 : Int), .int .u8 (b2 : Int), .int .u8 (b3 : Int), .int .u8 (b4 : Int), .int .u8 (b5 : Int), .int .u8 (b6 : Int), .int .u8 (b7 : Int)])).run Try.prog w = .ok (.bool true) w := by
  have h := run_eql_bytes (P := Try.prog) w 26 5 8 Try.underlying26 Try.underlying5 (fun w => by kernel_rfl) [UInt8.ofNat b0, UInt8.ofNat b1, UInt8.ofNat b2, UInt8.ofNat b3, UInt8.ofNat b4, UInt8.ofNat b5, UInt8.ofNat b6, UInt8.ofNat b7] [UInt8.ofNat b0, UInt8.ofNat b1, UInt8.ofNat b2, UInt8.ofNat b3, UInt8.ofNat b4, UInt8.ofNat b5, UInt8.ofNat b6, UInt8.ofNat b7] rfl rfl
  simp only [List.map_cons, List.map_nil, cell_nat _ h0, cell_nat _ h1, cell_nat _ h2, cell_nat _ h3, cell_nat _ h4, cell_nat _ h5, cell_nat _ h6, cell_nat _ h7, beq_self_eq_true] at h
  exact h
end Go.Proofs.Ytajjmlbhagiicaa.zigBytes
