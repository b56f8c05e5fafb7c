import Derived.Test.YtlahcmldbgeifaaBegun
import Derived.Test.YtlahcmldbgeifaaFlat
import Derived.Test.YtlahcmldbgeifaaPlainByt
import Derived.Deep.RegionHeld3
import Derived.Stop.BytesEq
/- ZigBytes: eight bytes have every number, the highest first; no condition. -/
namespace Go.Proofs.Ytlahcmldbgeifaa.zigBytes
open Go.RowKit
set_option linter.unusedVariables false
theorem eight {cs : List Value} (h : okAll (List.replicate 8 (Kd.int .u8)) cs = true) :
    ∃ b0 b1 b2 b3 b4 b5 b6 b7 : Nat, cs = [.int .u8 (b0 : Int), .int .u8 (b1 : Int), .int .u8 (b2 : Int), .int .u8 (b3 : Int), .int .u8 (b4 : Int), .int .u8 (b5 : Int), .int .u8 (b6 : Int), .int .u8 (b7 : Int)] ∧
      b0 < 256 ∧ b1 < 256 ∧ b2 < 256 ∧ b3 < 256 ∧ b4 < 256 ∧ b5 < 256 ∧ b6 < 256 ∧ b7 < 256 := by
  have hl := okAll_length h
  have g : ∀ i, i < 8 → ∃ b : Nat, cs[i]? = some (.int .u8 (b : Int)) ∧ b < 256 := by
    intro i hi
    obtain ⟨v, hv, ho⟩ := okAll_get h i (Kd.int .u8) (by rw [List.getElem?_replicate, if_pos hi])
    obtain ⟨n, rfl, hw⟩ := ok_int ho
    have := wf_u8 hw
    obtain ⟨N, rfl⟩ := Int.eq_ofNat_of_zero_le this.1
    exact ⟨N, hv, by omega⟩
  obtain ⟨b0, g0, h0⟩ := g 0 (by omega)
  obtain ⟨b1, g1, h1⟩ := g 1 (by omega)
  obtain ⟨b2, g2, h2⟩ := g 2 (by omega)
  obtain ⟨b3, g3, h3⟩ := g 3 (by omega)
  obtain ⟨b4, g4, h4⟩ := g 4 (by omega)
  obtain ⟨b5, g5, h5⟩ := g 5 (by omega)
  obtain ⟨b6, g6, h6⟩ := g 6 (by omega)
  obtain ⟨b7, g7, h7⟩ := g 7 (by omega)
  refine ⟨b0, b1, b2, b3, b4, b5, b6, b7, ?_, h0, h1, h2, h3, h4, h5, h6, h7⟩
  match cs, hl, g0, g1, g2, g3, g4, g5, g6, g7 with
  | [c0, c1, c2, c3, c4, c5, c6, c7], _, g0, g1, g2, g3, g4, g5, g6, g7 =>
    simp at g0 g1 g2 g3 g4 g5 g6 g7
    rw [g0, g1, g2, g3, g4, g5, g6, g7]
theorem cells8 {w : World} {g : Nat} {v0 v1 v2 v3 v4 v5 v6 v7 : Value} {t : TypeId} (h : w.heap[g]? = some (.cells #[v0, v1, v2, v3, v4, v5, v6, v7] t (0, 0))) :
    w.cell? ⟨g, 0, none⟩ = some v0 ∧ w.cell? ⟨g, 1, none⟩ = some v1 ∧ w.cell? ⟨g, 2, none⟩ = some v2 ∧ w.cell? ⟨g, 3, none⟩ = some v3 ∧ w.cell? ⟨g, 4, none⟩ = some v4 ∧ w.cell? ⟨g, 5, none⟩ = some v5 ∧ w.cell? ⟨g, 6, none⟩ = some v6 ∧ w.cell? ⟨g, 7, none⟩ = some v7 := by
  simp only [blk_cell h]
  exact ⟨rfl, rfl, rfl, rfl, rfl, rfl, rfl, rfl⟩
theorem rd8 {w : World} {g : Nat} {b0 b1 b2 b3 b4 b5 b6 b7 : Nat} {t : TypeId} (h : w.heap[g]? = some (.cells #[.int .u8 (b0 : Int), .int .u8 (b1 : Int), .int .u8 (b2 : Int), .int .u8 (b3 : Int), .int .u8 (b4 : Int), .int .u8 (b5 : Int), .int .u8 (b6 : Int), .int .u8 (b7 : Int)] t (0, 0))) :
    Rd w w.heap.size (some ⟨g, 0, none⟩) 8 (nats .u8 [b0, b1, b2, b3, b4, b5, b6, b7]) := by
  refine ⟨rfl, fun _ => ⟨g, 0, rfl, lt_of_cells h, fun i u hu => ?_⟩⟩
  rw [blk_cell h, Nat.zero_add]
  simpa [nats] using hu
theorem cell_nat (b : Nat) (h : b < 256) : Extern.Stop.cell (UInt8.ofNat b) = .int .u8 (b : Int) := by
  unfold Extern.Stop.cell
  rw [UInt8.toNat_ofNat', Nat.mod_eq_of_lt h]
  rfl
theorem eq8 (w : World) (b0 b1 b2 b3 b4 b5 b6 b7 : Nat) (h0 : b0 < 256) (h1 : b1 < 256) (h2 : b2 < 256) (h3 : b3 < 256) (h4 : b4 < 256) (h5 : b5 < 256) (h6 : b6 < 256) (h7 : b7 < 256) :
    (binOp .eql 71 (.agg #[.int .u8 (b0 : Int), .int .u8 (b1 : Int), .int .u8 (b2 : Int), .int .u8 (b3 : Int), .int .u8 (b4 : Int), .int .u8 (b5 : Int), .int .u8 (b6 : Int), .int .u8 (b7 : Int)]) (.agg #[.int .u8 (b0 : Int), .int .u8 (b1 : Int), .int .u8 (b2 : Int), .int .u8 (b3 : Int), .int .u8 (b4 : Int), .int .u8 (b5 : Int), .int .u8 (b6 : Int), .int .u8 (b7 : Int)])).run Try.prog w = .ok (.bool true) w := by
  have h := run_eql_bytes (P := Try.prog) w 71 5 8 Try.underlying71 Try.underlying5 (fun w => by kernel_rfl) [UInt8.ofNat b0, UInt8.ofNat b1, UInt8.ofNat b2, UInt8.ofNat b3, UInt8.ofNat b4, UInt8.ofNat b5, UInt8.ofNat b6, UInt8.ofNat b7] [UInt8.ofNat b0, UInt8.ofNat b1, UInt8.ofNat b2, UInt8.ofNat b3, UInt8.ofNat b4, UInt8.ofNat b5, UInt8.ofNat b6, UInt8.ofNat b7] rfl rfl
  simp only [List.map_cons, List.map_nil, cell_nat _ h0, cell_nat _ h1, cell_nat _ h2, cell_nat _ h3, cell_nat _ h4, cell_nat _ h5, cell_nat _ h6, cell_nat _ h7, beq_self_eq_true] at h
  exact h
set_option maxHeartbeats 4000000 in
theorem walk (cs : List Value) (n : Int) (w : World) (w0 : okAll (List.replicate 8 (Kd.int .u8)) cs = true) (w1 : (Lit.int .i64 n).wf = true) :
    Calls Try.prog 20 #[.agg cs.toArray, .int .i64 n] w fun e w' => e = .returned (.bool true) ∧ Below w.heap.size w w' := by
  obtain ⟨b0, b1, b2, b3, b4, b5, b6, b7, rfl, h0, h1, h2, h3, h4, h5, h6, h7⟩ := eight w0
  obtain ⟨n1, n2⟩ := wf_i64 w1
  have HN := Lib.hid (And.intro n1 n2)
  clear w0 w1
  have HY := Lib.hid (of8_byte n n1 n2)
  obtain ⟨a0, a1⟩ := byteI_bd n 0
  have y0 := byteI_bd n 0
  have y1 := byteI_bd n 1
  have y2 := byteI_bd n 2
  have y3 := byteI_bd n 3
  have y4 := byteI_bd n 4
  have y5 := byteI_bd n 5
  have y6 := byteI_bd n 6
  have y7 := byteI_bd n 7
  have HV : Hid (bytesV n = .agg #[.int .u8 (byteI n 0), .int .u8 (byteI n 1), .int .u8 (byteI n 2), .int .u8 (byteI n 3), .int .u8 (byteI n 4), .int .u8 (byteI n 5), .int .u8 (byteI n 6), .int .u8 (byteI n 7)]) := rfl
  generalize byteI n 0 = Y0 at *
  generalize byteI n 1 = Y1 at *
  generalize byteI n 2 = Y2 at *
  generalize byteI n 3 = Y3 at *
  generalize byteI n 4 = Y4 at *
  generalize byteI n 5 = Y5 at *
  generalize byteI n 6 = Y6 at *
  generalize byteI n 7 = Y7 at *
  obtain ⟨z0, z1, z2, z3, z4, z5, z6, z7⟩ := byte_of8 b0 b1 b2 b3 b4 b5 b6 b7 h0 h1 h2 h3 h4 h5 h6 h7
  have HU := Lib.hid (of8_u64 b0 b1 b2 b3 b4 b5 b6 b7 h0 h1 h2 h3 h4 h5 h6 h7)
  have HZ : Hid (bytesV (of8I b0 b1 b2 b3 b4 b5 b6 b7) = .agg #[.int .u8 (b0 : Int), .int .u8 (b1 : Int), .int .u8 (b2 : Int), .int .u8 (b3 : Int), .int .u8 (b4 : Int), .int .u8 (b5 : Int), .int .u8 (b6 : Int), .int .u8 (b7 : Int)]) := by
    show _ = _
    unfold bytesV
    rw [z0, z1, z2, z3, z4, z5, z6, z7]
  clear z0 z1 z2 z3 z4 z5 z6 z7
  have hz : ∀ w, Calls Try.prog 54 #[.agg #[.int .u8 (b0 : Int), .int .u8 (b1 : Int), .int .u8 (b2 : Int), .int .u8 (b3 : Int), .int .u8 (b4 : Int), .int .u8 (b5 : Int), .int .u8 (b6 : Int), .int .u8 (b7 : Int)]] w fun e w' => e = .returned (.int .i64 (of8I b0 b1 b2 b3 b4 b5 b6 b7)) ∧ Below w.heap.size w w' :=
    fun w => of8_any b0 b1 b2 b3 b4 b5 b6 b7 w (by omega) (by omega) (by omega) (by omega) (by omega) (by omega) (by omega) (by omega)
  generalize of8I (b0 : Int) b1 b2 b3 b4 b5 b6 b7 = Z at *
  have hy : ∀ w, Calls Try.prog 54 #[.agg #[.int .u8 Y0, .int .u8 Y1, .int .u8 Y2, .int .u8 Y3, .int .u8 Y4, .int .u8 Y5, .int .u8 Y6, .int .u8 Y7]] w fun e w' => e = .returned (.int .i64 n) ∧ Below w.heap.size w w' := by
    intro w
    have := of8_any Y0 Y1 Y2 Y3 Y4 Y5 Y6 Y7 w y0 y1 y2 y3 y4 y5 y6 y7
    rw [HY.out] at this
    exact this
  have hv : ∀ x ∈ [b0, b1, b2, b3, b4, b5, b6, b7], x < 256 := by
    intro x hx
    simp at hx
    omega
  have heq := fun w => eq8 w b0 b1 b2 b3 b4 b5 b6 b7 h0 h1 h2 h3 h4 h5 h6 h7
  have Hz := Lib.hid hz
  have Hy := Lib.hid hy
  have Hv := Lib.hid hv
  clear hz hy hv h0 h1 h2 h3 h4 h5 h6 h7 y0 y1 y2 y3 y4 y5 y6 y7 a0 a1 n1 n2 HY
  go_enter Try.func20, Try.ntmps20
  go_wp2_with fail
  refine (begun_any _).mono ?_
  rintro e w1 ⟨rfl, hb⟩
  have hB := blk_below (heap_alloc_new w (.cells #[.int .u8 (b0 : Int), .int .u8 (b1 : Int), .int .u8 (b2 : Int), .int .u8 (b3 : Int), .int .u8 (b4 : Int), .int .u8 (b5 : Int), .int .u8 (b6 : Int), .int .u8 (b7 : Int)] 71)) hb
  have hbel := ((Below.refl _ w).alloc (Nat.le_refl _) (.cells #[.int .u8 (b0 : Int), .int .u8 (b1 : Int), .int .u8 (b2 : Int), .int .u8 (b3 : Int), .int .u8 (b4 : Int), .int .u8 (b5 : Int), .int .u8 (b6 : Int), .int .u8 (b7 : Int)] 71)).trans (hb.mono (by simp))
  clear hb
  go_wp2_with fail
  replace hB : w1.drew.heap[w.heap.size]? = _ := hB
  replace hbel := below_drewN hbel 1
  go_region_held3 (fun w' => w'.cell? ⟨w.heap.size, 0, none⟩ = some (.int .u8 (b0 : Int)) ∧ w'.cell? ⟨w.heap.size, 1, none⟩ = some (.int .u8 (b1 : Int)) ∧ w'.cell? ⟨w.heap.size, 2, none⟩ = some (.int .u8 (b2 : Int)) ∧ w'.cell? ⟨w.heap.size, 3, none⟩ = some (.int .u8 (b3 : Int)) ∧ w'.cell? ⟨w.heap.size, 4, none⟩ = some (.int .u8 (b4 : Int)) ∧ w'.cell? ⟨w.heap.size, 5, none⟩ = some (.int .u8 (b5 : Int)) ∧ w'.cell? ⟨w.heap.size, 6, none⟩ = some (.int .u8 (b6 : Int)) ∧ w'.cell? ⟨w.heap.size, 7, none⟩ = some (.int .u8 (b7 : Int))) (exact cells8 hB)
    (first
      | (go_at_call 53; with_reducible refine (bytes8_any Z _).mono ?_; rw [HZ.out]; rintro e w2 ⟨rfl, hb⟩; replace hB := blk_below hB hb; replace hbel := hbel.trans (hb.mono hbel.size); clear hb)
      | (go_at_call 53; with_reducible refine (bytes8_any n _).mono ?_; rw [HV.out]; rintro e w2 ⟨rfl, hb⟩; replace hB := blk_below hB hb; replace hbel := hbel.trans (hb.mono hbel.size); clear hb)
      | (go_at_call 54; with_reducible refine (Hz.out _).mono ?_; rintro e w2 ⟨rfl, hb⟩; replace hB := blk_below hB hb; replace hbel := hbel.trans (hb.mono hbel.size); clear hb)
      | (go_at_call 54; with_reducible refine (Hy.out _).mono ?_; rintro e w2 ⟨rfl, hb⟩; replace hB := blk_below hB hb; replace hbel := hbel.trans (hb.mono hbel.size); clear hb)
      | (go_at_call 35; refine (of_any (some ⟨w.heap.size, 0, none⟩) 8 8 _ _ _ (rd8 hB) (Nat.le_refl _) Hv.out (by omega)).mono ?_; rintro e w2 ⟨v2, rfl, hown, hb⟩; obtain ⟨A2, c2, rfl, hc21, hc22⟩ := own_slice hown; have hrd := Rd.of_own hown; replace hB := blk_below hB hb; replace hbel := hbel.trans (hb.mono hbel.size); clear hb hown)
      | (go_at_call 36; refine (num_any A2 _ c2 _ _ _ hrd (by omega)).mono ?_; rw [← HU.out]; rintro e w2 ⟨rfl, rfl⟩))
  go_wp2_with fail
  go_ret
  exact ⟨rfl, hbel⟩
end Go.Proofs.Ytlahcmldbgeifaa.zigBytes
