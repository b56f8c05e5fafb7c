import Derived.Test.YtlahcmldbgeifaaBegun
import Derived.Test.YtlahcmldbgeifaaPlainLine
import Derived.Test.YtlahcmldbgeifaaRefMore
import Derived.Deep.OwnRows
/- KoopLine: sums of three things that differ alike; no condition. -/
namespace Go.Proofs.Ytlahcmldbgeifaa.koopLine
open Go.RowKit
set_option linter.unusedVariables false
theorem bytesOf {w : World} {A : Option Addr} {n c : Nat} {z : List Int} (h : IsRow .u8 w A n c z) : ∃ l : List Nat, Rd w w.heap.size A n (nats .u8 l) ∧ (∀ x ∈ l, x < 256) ∧ l.length = n ∧ n ≤ c ∧ c ≤ maxLen := by
  obtain ⟨hr, hnc, hcm, hlen, hwf⟩ := h.rd
  rw [ints_nats fun k hk => (wf_u8 (hwf k hk)).1] at hr
  refine ⟨_, hr, ?_, by simpa using hlen, hnc, hcm⟩
  intro k hk
  obtain ⟨j, hj, rfl⟩ := List.mem_map.1 hk
  have := wf_u8 (hwf j hj)
  omega
/-- Three bytes laid over one another. -/
def mix (l0 l1 l2 : List Nat) (j : Nat) : Nat := l0.getD j 0 ^^^ l1.getD j 0 ^^^ l2.getD j 0
/-- The row as the round finds it. -/
def rowF (l0 l1 l2 : List Nat) (k : Nat) (j : Nat) : Value := if j < k then .int .u8 (mix l0 l1 l2 j : Int) else .int .u8 0
theorem over_get (a b : List Nat) (q j : Nat) (ha : q ≤ a.length) (hb : q ≤ b.length) (h : j < q) : (over (a.take q) (b.take q))[j]? = some (a.getD j 0 ^^^ b.getD j 0) := by
  rw [over, List.getElem?_zipWith, List.getElem?_take, List.getElem?_take, if_pos h, if_pos h]
  simp only [List.getD_eq_getElem?_getD, List.getElem?_eq_getElem (show j < a.length by omega), List.getElem?_eq_getElem (show j < b.length by omega), Option.getD_some]
theorem mix_get (l0 l1 l2 : List Nat) (q j : Nat) (h0 : q ≤ l0.length) (h1 : q ≤ l1.length) (h2 : q ≤ l2.length) (h : j < q) : (over (over (l0.take q) (l1.take q)) (l2.take q))[j]? = some (mix l0 l1 l2 j) := by
  have e := over_get l0 l1 q j h0 h1 h
  rw [over, List.getElem?_zipWith, e, List.getElem?_take, if_pos h]
  simp only [List.getElem?_eq_getElem (show j < l2.length by omega), mix, List.getD_eq_getElem?_getD, Option.getD_some]
theorem getD_lt (l : List Nat) (hb : ∀ x ∈ l, x < 256) (j : Nat) : l.getD j 0 < 256 := by
  rw [List.getD_eq_getElem?_getD]
  by_cases h : j < l.length
  · rw [List.getElem?_eq_getElem h]; exact hb _ (List.getElem_mem _)
  · rw [List.getElem?_eq_none (by omega)]; decide
theorem rd_row {w : World} {b : Nat} {t : TypeId} {n : Nat} {f : Nat → Value} {xs : List Value} (h : w.rowIs b t n f) (hl : xs.length = n) (hx : ∀ i, i < n → xs[i]? = some (f i)) : Rd w w.heap.size (some ⟨b, 0, none⟩) n xs := by
  refine ⟨hl, fun _ => ⟨b, 0, rfl, h.lt, fun i u hu => ?_⟩⟩
  have hi : i < n := by rw [← hl]; exact (List.getElem?_eq_some_iff.1 hu).1
  rw [Nat.zero_add, h.cell hi, ← hx i hi, hu]
theorem xor3 (a b c : Nat) (ha : a < 256) (hb : b < 256) (hc : c < 256) : bits .xor .u8 (bits .xor .u8 (a : Int) (b : Int)) (c : Int) = ((a ^^^ b ^^^ c : Nat) : Int) := by
  rw [u8_xor_nat a b ha hb, u8_xor_nat _ c (Nat.xor_lt_two_pow (n := 8) ha hb) hc]
theorem xor3w (a b c : Nat) (ha : a < 4294967296) (hb : b < 4294967296) (hc : c < 4294967296) : bits .xor .u32 (bits .xor .u32 (a : Int) (b : Int)) (c : Int) = ((a ^^^ b ^^^ c : Nat) : Int) := by
  rw [u32_xor_nat a b ha hb, u32_xor_nat _ c (Nat.xor_lt_two_pow (n := 32) ha hb) hc]
set_option maxRecDepth 100000 in
set_option maxHeartbeats 1000000 in
theorem walk (A0 : Option Addr) (n0 c0 : Nat) (z0 : List Int) (A1 : Option Addr) (n1 c1 : Nat) (z1 : List Int) (A2 : Option Addr) (n2 c2 : Nat) (z2 : List Int) (w : World) (w0 : IsRow .u8 w A0 n0 c0 z0) (w1 : IsRow .u8 w A1 n1 c1 z1) (w2 : IsRow .u8 w A2 n2 c2 z2) :
    Calls Try.prog 13 #[.slice A0 n0 c0, .slice A1 n1 c1, .slice A2 n2 c2] w fun e w' => e = .returned (.bool true) ∧ Below w.heap.size w w' := by
  obtain ⟨l0, r0, b0, e0, nc0, cm0⟩ := bytesOf w0
  obtain ⟨l1, r1, b1, e1, nc1, cm1⟩ := bytesOf w1
  obtain ⟨l2, r2, b2, e2, nc2, cm2⟩ := bytesOf w2
  clear w0 w1 w2
  obtain ⟨m2, hm2⟩ : ∃ m : Nat, m = min n2 50 := ⟨_, rfl⟩
  obtain ⟨m1, hm1⟩ : ∃ m : Nat, m = min n1 m2 := ⟨_, rfl⟩
  obtain ⟨q, hq⟩ : ∃ m : Nat, m = min n0 m1 := ⟨_, rfl⟩
  have f2 : (if (50 : Int) < (n2 : Int) then (50 : Int) else (n2 : Int)) = (m2 : Int) := by split <;> omega
  have f1 : (if m2 < n1 then (m2 : Int) else (n1 : Int)) = (m1 : Int) := by split <;> omega
  have f0 : (if m1 < n0 then (m1 : Int) else (n0 : Int)) = (q : Int) := by split <;> omega
  have q0 : q ≤ n0 := by omega
  have q1 : q ≤ n1 := by omega
  have q2 : q ≤ n2 := by omega
  have q3 : q ≤ 50 := by omega
  clear hm2 hm1 hq
  have hmk := run_make_row' (P := Try.prog) 32 5 (.int .u8 0) 1 Try.underlying32 (by kernel_rfl) rfl .i64 .i64 q (by omega) (by omega)
  go_enter Try.func13, Try.ntmps13
  go_wp2_with fail
  refine (begun_any _).mono ?_
  rintro e wA ⟨rfl, hb1⟩
  go_wp2_with fail
  clear f0 f1 f2 hmk
  have hrow : (wA.alloc (.cells (madeCells #[.int .u8 0] q) 5)).rowIs wA.heap.size 5 q (rowF l0 l1 l2 0) :=
    (World.rowIs_made wA (.int .u8 0) q 5).congr fun i _ => by simp [rowF]
  have hbA : Below w.heap.size w (wA.alloc (.cells (madeCells #[.int .u8 0] q) 5)) := hb1.alloc hb1.size _
  have hge : w.heap.size ≤ wA.heap.size := hb1.size
  generalize wA.alloc (.cells (madeCells #[.int .u8 0] q) 5) = wB at *
  generalize wA.heap.size = g at *
  clear hb1
  go_loopw [10, 27] (fun _ i wr => ∃ k : Nat, k ≤ q ∧ i = .int .i64 k ∧ wr.rowIs g 5 q (rowF l0 l1 l2 k) ∧ Below w.heap.size w wr) (fun _ i _ => 50 - (intOf i).toNat)
  case atStart => exact ⟨0, by omega, rfl, hrow, hbA⟩
  case round =>
    obtain ⟨k, hk, rfl, hrow, hbel⟩ := hrel
    clear hbA
    by_cases hlt : k < q
    · obtain ⟨p0, o0, rfl, g0, h0⟩ := (r0.below hbel (Nat.le_refl _)).at_ (show k < n0 by omega)
      obtain ⟨p1, o1, rfl, g1, h1⟩ := (r1.below hbel (Nat.le_refl _)).at_ (show k < n1 by omega)
      obtain ⟨p2, o2, rfl, g2, h2⟩ := (r2.below hbel (Nat.le_refl _)).at_ (show k < n2 by omega)
      rw [nats_at _ _ k (by omega)] at h0 h1 h2
      have hx0 := Lib.hid (b0 _ (List.getElem_mem (show k < l0.length by omega)))
      have hx1 := Lib.hid (b1 _ (List.getElem_mem (show k < l1.length by omega)))
      have hx2 := Lib.hid (b2 _ (List.getElem_mem (show k < l2.length by omega)))
      have hm : Hid (mix l0 l1 l2 k = l0[k]'(by omega) ^^^ l1[k]'(by omega) ^^^ l2[k]'(by omega)) := by
        show _ = _
        simp only [mix, List.getD_eq_getElem?_getD, List.getElem?_eq_getElem (show k < l0.length by omega), List.getElem?_eq_getElem (show k < l1.length by omega), List.getElem?_eq_getElem (show k < l2.length by omega), Option.getD_some]
      generalize l0[k]'(by omega) = x0 at *
      generalize l1[k]'(by omega) = x1 at *
      generalize l2[k]'(by omega) = x2 at *
      have hX := Lib.hid (xor3 x0 x1 x2 hx0.out hx1.out hx2.out)
      have hfz := hrow.frozen k
      have hi0 : (k : Int) < (n0 : Int) := by omega
      have hi1 : (k : Int) < (n1 : Int) := by omega
      have hi2 : (k : Int) < (n2 : Int) := by omega
      have hi3 : (k : Int) < (q : Int) := by omega
      obtain ⟨hd, hhd⟩ := (⟨_, hrow.cell hlt⟩ : ∃ v, wr.cell? ⟨g, k, none⟩ = some v)
      go_wp2_with fail
      go_region
      go_wp2_with fail
      go_roundw
      case rel =>
        refine ⟨k + 1, by omega, by go_num, ?_, ?_⟩
        · rw [hX.out, ← hm.out]
          refine ((hrow.set k _).drew).congr fun j hj => ?_
          simp only [rowF]
          by_cases e : j = k
          · subst e; rw [if_pos rfl, if_pos (by omega)]
          · rw [if_neg e]
            by_cases e2 : j < k
            · rw [if_pos e2, if_pos (by omega)]
            · rw [if_neg e2, if_neg (by omega)]
        · exact (hbel.setCell (p := ⟨g, k, none⟩) hge _).drew
      case measure => simp [intOf]; omega
    · obtain rfl : k = q := by omega
      have y0 := (r0.below hbel (Nat.le_refl _)).take (k := k) q0
      have y1 := (r1.below hbel (Nat.le_refl _)).take (k := k) q1
      have y2 := (r2.below hbel (Nat.le_refl _)).take (k := k) q2
      have t0 : (nats .u8 l0).take k = nats .u8 (l0.take k) := by rw [nats, nats, List.map_take]
      have t1 : (nats .u8 l1).take k = nats .u8 (l1.take k) := by rw [nats, nats, List.map_take]
      have t2 : (nats .u8 l2).take k = nats .u8 (l2.take k) := by rw [nats, nats, List.map_take]
      rw [t0] at y0
      rw [t1] at y1
      rw [t2] at y2
      have L0 : (l0.take k).length = k := by rw [List.length_take]; omega
      have L1 : (l1.take k).length = k := by rw [List.length_take]; omega
      have L2 : (l2.take k).length = k := by rw [List.length_take]; omega
      have LO : (over (over (l0.take k) (l1.take k)) (l2.take k)).length = k := by
        rw [over_length _ _ (by rw [over_length _ _ (by omega)]; omega), over_length _ _ (by omega), L0]
      have hget := fun j hj => mix_get l0 l1 l2 k j (by omega) (by omega) (by omega) hj
      have hrd := rd_row (xs := nats .u8 (over (over (l0.take k) (l1.take k)) (l2.take k))) hrow (by rw [nats_length]; exact LO) (fun j hj => by
        rw [nats, List.getElem?_map, hget j hj, rowF, if_pos hj]; rfl)
      have K := kof_three (l0.take k) (l1.take k) (l2.take k) (by omega) (by omega)
      have B3 : ∀ x ∈ over (over (l0.take k) (l1.take k)) (l2.take k), x < 256 := by
        intro x hx
        obtain ⟨j, hj, rfl⟩ := List.getElem_of_mem hx
        have e := hget j (by omega)
        rw [List.getElem?_eq_getElem hj] at e
        rw [Option.some.inj e, mix]
        exact Nat.xor_lt_two_pow (n := 8) (Nat.xor_lt_two_pow (n := 8) (getD_lt _ b0 _) (getD_lt _ b1 _)) (getD_lt _ b2 _)
      have B0 : ∀ x ∈ l0.take k, x < 256 := fun x hx => b0 x (List.mem_of_mem_take hx)
      have B1 : ∀ x ∈ l1.take k, x < 256 := fun x hx => b1 x (List.mem_of_mem_take hx)
      have B2 : ∀ x ∈ l2.take k, x < 256 := fun x hx => b2 x (List.mem_of_mem_take hx)
      have X := Lib.hid (xor3w (kof (l0.take k)) (kof (l1.take k)) (kof (l2.take k)) (ksum_lt _ _ (by decide) B0) (ksum_lt _ _ (by decide) B1) (ksum_lt _ _ (by decide) B2))
      rw [K] at X
      have hkm : k ≤ maxLen := by unfold maxLen; omega
      clear hget K r0 r1 r2 b0 b1 b2 hrow
      generalize hk0 : kof (l0.take k) = k0 at *
      generalize hk1 : kof (l1.take k) = k1 at *
      generalize hk2 : kof (l2.take k) = k2 at *
      generalize hk3 : kof (over (over (l0.take k) (l1.take k)) (l2.take k)) = k3 at *
      have K0 := Lib.hid hk0
      have K1 := Lib.hid hk1
      have K2 := Lib.hid hk2
      have K3 := Lib.hid hk3
      clear hk0 hk1 hk2 hk3
      have hnc0 : (k : Int) ≤ (c0 : Int) := by omega
      have hnc1 : (k : Int) ≤ (c1 : Int) := by omega
      have hnc2 : (k : Int) ≤ (c2 : Int) := by omega
      unfold maxLen at cm0 cm1 cm2
      go_wp2_with fail
      have C0 : ∀ n, Calls Try.prog 37 #[.slice A0 k c0] (wr.drewN n) fun e w' => e = .returned (.int .u32 (k0 : Int)) ∧ w' = wr.drewN n := fun n => by rw [← K0.out]; exact (kof_any A0 k c0 _ _ _ (y0.drewN n) B0 hkm).mono fun _ _ ⟨h, e⟩ => ⟨h, e.symm⟩
      have C1 : ∀ n, Calls Try.prog 37 #[.slice A1 k c1] (wr.drewN n) fun e w' => e = .returned (.int .u32 (k1 : Int)) ∧ w' = wr.drewN n := fun n => by rw [← K1.out]; exact (kof_any A1 k c1 _ _ _ (y1.drewN n) B1 hkm).mono fun _ _ ⟨h, e⟩ => ⟨h, e.symm⟩
      have C2 : ∀ n, Calls Try.prog 37 #[.slice A2 k c2] (wr.drewN n) fun e w' => e = .returned (.int .u32 (k2 : Int)) ∧ w' = wr.drewN n := fun n => by rw [← K2.out]; exact (kof_any A2 k c2 _ _ _ (y2.drewN n) B2 hkm).mono fun _ _ ⟨h, e⟩ => ⟨h, e.symm⟩
      have C3 : ∀ n, Calls Try.prog 37 #[.slice (some ⟨g, 0, none⟩) k k] (wr.drewN n) fun e w' => e = .returned (.int .u32 (k3 : Int)) ∧ w' = wr.drewN n := fun n => by rw [← K3.out]; exact (kof_any _ k k _ _ _ (hrd.drewN n) B3 hkm).mono fun _ _ ⟨h, e⟩ => ⟨h, e.symm⟩
      go_quiet (first | (go_at_call_of 37 c0; exact Calls.quiet_of_same (C0 _)) | (go_at_call_of 37 c1; exact Calls.quiet_of_same (C1 _)) | (go_at_call_of 37 c2; exact Calls.quiet_of_same (C2 _)) | (go_at_call_of 37 g; exact Calls.quiet_of_same (C3 _)))
      go_wp2_with fail
      go_ret
      exact ⟨by rw [X.out]; simp, below_drewN hbel _⟩
end Go.Proofs.Ytlahcmldbgeifaa.koopLine
