import Derived.Test.YtlahcmldbgeifaaZigBytes
import Derived.Test.YtlahcmldbgeifaaStr
import Derived.Test.YtlahcmldbgeifaaPlainJoin
import Derived.Test.YtlahcmldbgeifaaRefTurn
import Derived.Deep.RegionHeld
import Derived.Deep.DrawnRows
/- ZigAll: widths, turns, the way there and back; no condition. -/
namespace Go.Proofs.Ytlahcmldbgeifaa.zigAll
open Go.RowKit Go.Proofs.Ytlahcmldbgeifaa.zigBytes
set_option linter.unusedVariables false
attribute [local go_sem ↓] Go.wp_at_zero Go.wp_at_succ
theorem blk_drewN {w : World} {g : Nat} {x : Obj} (h : w.heap[g]? = some x) (k : Nat) : (w.drewN k).heap[g]? = some x := h
theorem bytesN_ofN (b : List Nat) (hb : ∀ x ∈ b, x < 256) : bytesN (ofN b) = b := by
  apply List.ext_getElem?
  intro j
  have hl : (bytesN (ofN b)).length = b.length := by rw [bytesN_len, ofN_len8]; omega
  by_cases hj : j < b.length
  · have e : (bytesN (ofN b))[j]? = some (octN (ofN b) (8 * j)) := by
      have : j < ((ofN b).length + 7) / 8 := by rw [ofN_len8]; omega
      simp [bytesN, bytesTo, this]
    rw [e, List.getElem?_eq_getElem hj]
    congr 1
    apply Nat.eq_of_testBit_eq
    intro q
    rw [octN_testBit]
    by_cases hq : q < 8
    · obtain ⟨x, h1, h2⟩ := ofN_get b (8 * j + (7 - q)) (by omega)
      rw [show (8 * j + (7 - q)) / 8 = j by omega, List.getElem?_eq_getElem hj] at h1
      rw [List.getD_eq_getElem?_getD, h2, ← Option.some.inj h1, show 7 - (8 * j + (7 - q)) % 8 = q by omega]
      simp [hq]
    · have hx := hb _ (List.getElem_mem hj)
      rw [Nat.testBit_lt_two_pow (Nat.lt_of_lt_of_le hx (Nat.pow_le_pow_right (n := 2) (by decide) (show 8 ≤ q by omega)))]
      simp [hq]
  · rw [List.getElem?_eq_none (by omega), List.getElem?_eq_none (by omega)]
set_option maxRecDepth 100000 in
set_option maxHeartbeats 16000000 in
theorem walk_in (n u x k by_ : Int) (Zn Gu Nn Nu T : Int) (y0 y1 y2 y3 y4 y5 y6 y7 Un : Nat) (str : ByteArray) (w : World)
    (HV : Hid (bytesV n = .agg #[.int .u8 (y0 : Int), .int .u8 (y1 : Int), .int .u8 (y2 : Int), .int .u8 (y3 : Int), .int .u8 (y4 : Int), .int .u8 (y5 : Int), .int .u8 (y6 : Int), .int .u8 (y7 : Int)]))
    (hz1 : Hid (∀ w, Calls Try.prog 23 #[.int .i64 n] w fun e w' => e = .returned (.int .u64 Zn) ∧ w = w'))
    (hz2 : Hid (∀ w, Calls Try.prog 23 #[.int .i64 Gu] w fun e w' => e = .returned (.int .u64 u) ∧ w = w'))
    (hz3 : Hid (∀ w, Calls Try.prog 56 #[.int .i64 n] w fun e w' => e = .returned (.int .u64 Zn) ∧ w = w'))
    (hg1 : Hid (∀ w, Calls Try.prog 57 #[.int .u64 u] w fun e w' => e = .returned (.int .i64 Gu) ∧ w = w'))
    (hg2 : Hid (∀ w, Calls Try.prog 57 #[.int .u64 Zn] w fun e w' => e = .returned (.int .i64 n) ∧ w = w'))
    (hg3 : Hid (∀ w, Calls Try.prog 58 #[.int .u64 u] w fun e w' => e = .returned (.int .i64 Gu) ∧ w = w'))
    (hn0 : Hid (narrowI n k = Nn)) (hn1 : Hid (narrowI (wrap64 u) k = Nu)) (ht : Hid (turnI x by_ = T)) (hx : Hid (0 ≤ x ∧ x < 4294967296))
    (hof : Hid (∀ w, Calls Try.prog 54 #[.agg #[.int .u8 (y0 : Int), .int .u8 (y1 : Int), .int .u8 (y2 : Int), .int .u8 (y3 : Int), .int .u8 (y4 : Int), .int .u8 (y5 : Int), .int .u8 (y6 : Int), .int .u8 (y7 : Int)]] w fun e w' => e = .returned (.int .i64 n) ∧ Below w.heap.size w w'))
    (hU : IntKind.u64.wrap n = (Un : Int)) (hUb : Hid (Un < 18446744073709551616)) (hbits : Hid (bitsL Un 64 = ofN [y0, y1, y2, y3, y4, y5, y6, y7]))
    (hby : Hid (bytesN (ofN [y0, y1, y2, y3, y4, y5, y6, y7]) = [y0, y1, y2, y3, y4, y5, y6, y7])) (hlen : Hid ((ofN [y0, y1, y2, y3, y4, y5, y6, y7]).length = 64)) (hstr : Hid (strN [y0, y1, y2, y3, y4, y5, y6, y7] = str)) :
    Calls Try.prog 21 #[.int .i64 n, .int .u64 u, .int .u32 x, .int .i64 k, .int .i64 by_] w fun e w' => e = .returned (.bool true) ∧ Below w.heap.size w w' := by
  have hUc := Lib.hid (show (Un : Int) < 18446744073709551616 by have := hUb.out; clear hU; omega)
  go_enter Try.func21, Try.ntmps21
  go_wp2_with fail
  refine (begun_any _).mono ?_
  rintro e w1 ⟨rfl, h1⟩
  go_wp2_with fail
  refine (refnarrow_any _ _ _).mono ?_
  rw [hn0.out]
  rintro e w2 ⟨rfl, hb⟩
  replace h1 := h1.trans (hb.mono h1.size)
  clear hb
  go_wp2_with fail
  refine (bytes8_any n _).mono ?_
  rw [HV.out]
  rintro e w3 ⟨rfl, hb⟩
  replace h1 := h1.trans (hb.mono h1.size)
  clear hb
  have hB := heap_alloc_new w3 (.cells #[.int .u8 (y0 : Int), .int .u8 (y1 : Int), .int .u8 (y2 : Int), .int .u8 (y3 : Int), .int .u8 (y4 : Int), .int .u8 (y5 : Int), .int .u8 (y6 : Int), .int .u8 (y7 : Int)] 71)
  have hbel := h1.alloc h1.size (.cells #[.int .u8 (y0 : Int), .int .u8 (y1 : Int), .int .u8 (y2 : Int), .int .u8 (y3 : Int), .int .u8 (y4 : Int), .int .u8 (y5 : Int), .int .u8 (y6 : Int), .int .u8 (y7 : Int)] 71)
  clear h1
  go_wp2_with fail
  generalize w3.alloc (.cells #[.int .u8 (y0 : Int), .int .u8 (y1 : Int), .int .u8 (y2 : Int), .int .u8 (y3 : Int), .int .u8 (y4 : Int), .int .u8 (y5 : Int), .int .u8 (y6 : Int), .int .u8 (y7 : Int)] 71) = w4 at *
  generalize w3.heap.size = g at *
  replace hB : w4.drew.heap[g]? = _ := hB
  replace hbel := below_drewN hbel 1
  replace hbel : Below w.heap.size w w4.drew := hbel
  go_region_held (fun w' => (w'.cell? ⟨g, 0, none⟩ = some (.int .u8 (y0 : Int)) ∧ w'.cell? ⟨g, 1, none⟩ = some (.int .u8 (y1 : Int)) ∧ w'.cell? ⟨g, 2, none⟩ = some (.int .u8 (y2 : Int)) ∧ w'.cell? ⟨g, 3, none⟩ = some (.int .u8 (y3 : Int)) ∧ w'.cell? ⟨g, 4, none⟩ = some (.int .u8 (y4 : Int)) ∧ w'.cell? ⟨g, 5, none⟩ = some (.int .u8 (y5 : Int)) ∧ w'.cell? ⟨g, 6, none⟩ = some (.int .u8 (y6 : Int)) ∧ w'.cell? ⟨g, 7, none⟩ = some (.int .u8 (y7 : Int))) ∧ (convert 32 9 (.slice (some ⟨g, 0, none⟩) 8 8)).run Try.prog w' = .ok (.string str) w') (exact ⟨cells8 hB, by rw [← hstr.out]; exact run_str _ _ _ _ _ _ (rd8 hB)⟩)
    (first
      | (go_at_call 23; with_reducible refine (hz1.out _).mono ?_; rintro e w' ⟨rfl, rfl⟩)
      | (go_at_call 23; with_reducible refine (hz2.out _).mono ?_; rintro e w' ⟨rfl, rfl⟩)
      | (go_at_call 56; with_reducible refine (hz3.out _).mono ?_; rintro e w' ⟨rfl, rfl⟩)
      | (go_at_call 57; with_reducible refine (hg1.out _).mono ?_; rintro e w' ⟨rfl, rfl⟩)
      | (go_at_call 57; with_reducible refine (hg2.out _).mono ?_; rintro e w' ⟨rfl, rfl⟩)
      | (go_at_call 58; with_reducible refine (hg3.out _).mono ?_; rintro e w' ⟨rfl, rfl⟩)
      | (go_at_call 38; with_reducible refine (narrow_any _ _ _).mono ?_; rw [hn0.out]; rintro e w' ⟨rfl, rfl⟩)
      | (go_at_call 59; with_reducible refine (wide_any _ _ _).mono ?_; rw [hn1.out]; rintro e w' ⟨rfl, rfl⟩)
      | (go_at_call 55; with_reducible refine (refnarrow_any _ _ _).mono ?_; rw [IntWalk.i64_left, hn1.out]; rintro e w2 ⟨rfl, hb⟩; replace hB := blk_below hB hb; replace hbel := hbel.trans (hb.mono hbel.size); clear hb)
      | (go_at_call 39; with_reducible refine (fit_any _ _ _).mono ?_; rw [hn0.out]; rintro e w' ⟨rfl, rfl⟩)
      | (go_at_call 25; with_reducible refine (turn_any _ _ _ hx.out.1 hx.out.2).mono ?_; rw [ht.out]; rintro e w' ⟨rfl, nt, rfl⟩; replace hbel := below_drewN hbel nt; replace hB := blk_drewN hB nt)
      | (go_at_call 60; with_reducible refine (refturn_any _ _ _ hx.out.1 hx.out.2).mono ?_; rw [ht.out]; rintro e w2 ⟨rfl, hb⟩; replace hB := blk_below hB hb; replace hbel := hbel.trans (hb.mono hbel.size); clear hb)
      | (go_at_call 54; with_reducible refine (hof.out _).mono ?_; rintro e w2 ⟨rfl, hb⟩; replace hB := blk_below hB hb; replace hbel := hbel.trans (hb.mono hbel.size); clear hb)
      | (go_at_call 27; with_reducible refine (bits_any (Un : Int) 64 _ (Int.natCast_nonneg _) hUc.out (by decide) (by decide)).mono ?_; rw [Int.toNat_natCast, show (64 : Int).toNat = 64 from rfl, hbits.out]; rintro e w2 ⟨v2, rfl, hown, hb⟩; obtain ⟨A2, c2, rfl, -, -⟩ := own_slice hown; have hrd := Rd.of_own hown; replace hB := blk_below hB hb; replace hbel := hbel.trans (hb.mono hbel.size); clear hb hown)
      | (go_at_call 30; with_reducible refine (bytes_any A2 64 c2 _ _ _ hrd (Nat.le_refl _) (by decide)).mono ?_; rw [hby.out]; rintro e w5 ⟨v5, rfl, hown, hb⟩; obtain ⟨A5, c5, rfl, -, -⟩ := own_slice hown; have hcv := run_str A5 _ c5 _ _ _ (Rd.of_own hown); rw [hstr.out] at hcv; replace hB := blk_below hB hb; replace hbel := hbel.trans (hb.mono hbel.size); clear hb hown))
  all_goals
    go_wp2_with fail
    go_ret
    exact ⟨rfl, hbel⟩
theorem walk (n u x k by_ : Int) (w : World) (w0 : (Lit.int .i64 n).wf = true) (w1 : (Lit.int .u64 u).wf = true) (w2 : (Lit.int .u32 x).wf = true) (w3 : (Lit.int .i64 k).wf = true) (w4 : (Lit.int .i64 by_).wf = true) :
    Calls Try.prog 21 #[.int .i64 n, .int .u64 u, .int .u32 x, .int .i64 k, .int .i64 by_] w fun e w' => e = .returned (.bool true) ∧ Below w.heap.size w w' := by
  obtain ⟨n1, n2⟩ := wf_i64 w0
  obtain ⟨u1, u2⟩ := wf_u64 w1
  have hx := wf_u32 w2
  obtain ⟨z1, z2⟩ := zigI_bd n n1 n2
  obtain ⟨g1, g2⟩ := zagI_bd u u1 u2
  have y : ∀ i, ∃ Y : Nat, byteI n i = (Y : Int) ∧ Y < 256 := fun i => by
    have := byteI_bd n i
    obtain ⟨Y, hY⟩ := Int.eq_ofNat_of_zero_le this.1
    exact ⟨Y, hY, by omega⟩
  obtain ⟨y0, e0, b0⟩ := y 0
  obtain ⟨y1, e1, b1⟩ := y 1
  obtain ⟨y2, e2, b2⟩ := y 2
  obtain ⟨y3, e3, b3⟩ := y 3
  obtain ⟨y4, e4, b4⟩ := y 4
  obtain ⟨y5, e5, b5⟩ := y 5
  obtain ⟨y6, e6, b6⟩ := y 6
  obtain ⟨y7, e7, b7⟩ := y 7
  have hof := of8_byte n n1 n2
  rw [e0, e1, e2, e3, e4, e5, e6, e7] at hof
  have hu := of8_u64 y0 y1 y2 y3 y4 y5 y6 y7 b0 b1 b2 b3 b4 b5 b6 b7
  rw [hof] at hu
  have hlen : (ofN [y0, y1, y2, y3, y4, y5, y6, y7]).length = 64 := by rw [ofN_len8]; rfl
  have hb : ∀ x ∈ [y0, y1, y2, y3, y4, y5, y6, y7], x < 256 := by
    intro x hx
    simp at hx
    omega
  refine walk_in n u x k by_ (zigI n) (zagI u) _ _ _ y0 y1 y2 y3 y4 y5 y6 y7 (numN (ofN [y0, y1, y2, y3, y4, y5, y6, y7])) _ w ?_ (fun w => zig_any n w n1 n2) ?_ (fun w => refzig_any n w n1 n2) (fun w => zag_any u w u1 u2) ?_ (fun w => refzag_any u w u1 u2) rfl rfl rfl hx ?_ hu ?_ ?_ (bytesN_ofN _ hb) hlen rfl
  · show _ = _
    unfold bytesV
    rw [e0, e1, e2, e3, e4, e5, e6, e7]
  · intro w
    have := zig_any (zagI u) w g1 g2
    rw [zig_zag u u1] at this
    exact this
  · intro w
    have := zag_any (zigI n) w z1 z2
    rw [zag_zig n] at this
    exact this
  · intro w
    have := of8_any y0 y1 y2 y3 y4 y5 y6 y7 w (by omega) (by omega) (by omega) (by omega) (by omega) (by omega) (by omega) (by omega)
    rw [hof] at this
    exact this
  · have := numN_lt (ofN [y0, y1, y2, y3, y4, y5, y6, y7])
    rw [hlen] at this
    exact this
  · have := bitsL_numN (ofN [y0, y1, y2, y3, y4, y5, y6, y7])
    rw [hlen] at this
    exact this
end Go.Proofs.Ytlahcmldbgeifaa.zigAll
