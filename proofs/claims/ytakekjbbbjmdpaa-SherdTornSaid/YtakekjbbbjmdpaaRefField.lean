import Derived.Test.YtakekjbbbjmdpaaBunE
import Derived.Test.YtakekjbbbjmdpaaBits
/- The document's field of a page's bits. -/
namespace Go.Proofs.Ytakekjbbbjmdpaa
open Go.RowKit
set_option maxRecDepth 100000 in
set_option maxHeartbeats 2000000 in
theorem field_nat (P : List Nat) (a k : Nat) (w : World) (hP : P.length = 32) (hb : ∀ x ∈ P, x < 256) (hk0 : 0 < k) (hk : k ≤ 64) (hak : a + k ≤ 256) :
    Calls Try.prog 121 #[.agg (nats .u8 P).toArray, .int .i64 (a : Int), .int .i64 (k : Int)] w fun e w' => e = .returned (.int .u64 (fld P a k)) ∧ Below w.heap.size w w' := by
  have h0 := heap_alloc_new w (.cells (nats .u8 P).toArray 42)
  have hrd := Lib.hid (rd_drop (n := 0) (m := 32) (C := w.heap.size + 1) h0 (by omega) (by omega) (by omega))
  have hbel := (Below.refl _ w).alloc (Nat.le_refl _) (.cells (nats .u8 P).toArray 42)
  rw [List.drop_zero] at hrd
  have HB := Lib.hid hb
  have HE := Lib.hid (show ((bools (ofN P)).drop a).take k = bools (cutB (ofN P) a k) by simp [bools, cutB, List.map_take, List.map_drop])
  have HF := Lib.hid (show numN (cutB (ofN P) a k) = fld P a k from rfl)
  clear h0 hb
  go_enter Try.func121, Try.ntmps121
  go_wp2_with fail
  refine (of_any _ 32 _ _ P _ hrd.out (by simp) HB.out (by decide)).mono ?_
  rintro e w1 ⟨v1, rfl, hown, hb1⟩
  obtain ⟨A1, c1, rfl, hc1, hc2⟩ := own_slice hown
  have hr1 := Lib.hid (((Rd.of_own hown).cut (k := a) (cap := c1) (by omega) hc1).take (k := k) (by omega))
  rw [HE.out] at hr1
  have hbel1 := hbel.trans (hb1.mono hbel.size)
  have hca : ¬ c1 = a := by omega
  rw [if_neg hca] at hr1
  clear hown hb1 hbel hrd
  go_wp2_with fail
  refine (num_any _ _ _ _ _ _ hr1.out (by omega)).mono ?_
  rw [HF.out]
  rintro e w' ⟨rfl, rfl⟩
  go_wp2_with fail
  go_ret
  exact ⟨rfl, hbel1⟩
end Go.Proofs.Ytakekjbbbjmdpaa
