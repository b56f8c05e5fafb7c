import Derived.Test.YtlahcmldbgeifaaOut
/- The contracts of the layer bits: reading. -/
namespace Go.Proofs.Ytlahcmldbgeifaa
open Go.RowKit
/-- Block g is an In over the bytes l (of a slice below block C), at a bit. -/
def IsIn (w : World) (C g : Nat) (l : List Nat) (at_ : Nat) : Prop :=
  ∃ A c, w.heap[g]? = some (.cells #[.slice A l.length c, .int .i64 (at_ : Int)] 81 (0, 0)) ∧ Rd w C A l.length (nats .u8 l) ∧ C ≤ g
theorem read_any (A : Option Addr) (n c B : Nat) (l : List Nat) (w : World) (hr : Rd w B A n (nats .u8 l)) (hB : B ≤ w.heap.size) : Calls Try.prog 31 #[.slice A n c] w fun e w' =>
    e = .returned (.pointer (some ⟨w.heap.size, 0, none⟩)) ∧ IsIn w' B w.heap.size l 0 ∧ Below w.heap.size w w' := by
  have hl : n = l.length := by have := hr.1; rw [nats_length] at this; exact this.symm
  subst hl
  go_enter Try.func31, Try.ntmps31
  go_wp2
  go_ret
  refine ⟨rfl, ⟨A, c, heap_alloc_new w _, ?_, hB⟩, (Below.refl _ _).alloc (Nat.le_refl _) _⟩
  exact hr.below ((Below.refl _ _).alloc (Nat.le_refl _) _) hB
theorem left_none (w : World) : Calls Try.prog 33 #[.pointer none] w fun e w' => e = .returned (.int .i64 0) ∧ w = w' := by
  go_enter Try.func33, Try.ntmps33
  go_wp2
  go_ret
  exact ⟨rfl, rfl⟩
theorem left_any (C g : Nat) (l : List Nat) (at_ : Nat) (w : World) (hi : IsIn w C g l at_) (hl : l.length ≤ 1000000000) (ha : at_ ≤ 8 * l.length) : Calls Try.prog 33 #[.pointer (some ⟨g, 0, none⟩)] w fun e w' =>
    e = .returned (.int .i64 (8 * (l.length : Int) - at_)) ∧ ∃ k, w' = w.drewN k := by
  obtain ⟨A, c, hg, -⟩ := hi
  have c0 : w.cell? ⟨g, 0, none⟩ = some (.slice A l.length c) := by rw [blk_cell hg]; rfl
  have c1 : w.cell? ⟨g, 1, none⟩ = some (.int .i64 (at_ : Int)) := by rw [blk_cell hg]; rfl
  clear hg
  have b1 : (l.length : Int) ≤ 1000000000 := by omega
  have b2 : (at_ : Int) ≤ 8 * (l.length : Int) := by omega
  go_enter Try.func33, Try.ntmps33
  go_wp2
  go_quiet (fail)
  go_wp2
  go_ret
  exact ⟨rfl, _, rfl⟩
theorem get_none (W : Int) (w : World) : Calls Try.prog 32 #[.pointer none, .int .i64 W] w fun e w' => e = .returned (.tuple #[.int .u64 0, .bool false]) ∧ w = w' := by
  cases hm : (decide (1 ≤ W) && decide (W ≤ 64)) with
  | false =>
    go_enter Try.func32, Try.ntmps32
    go_wp2_with (go_at_call 61; go_must (refine (may_any _ _).mono ?_; rw [hm]; rintro e w' ⟨rfl, rfl⟩))
    go_ret2
    exact ⟨rfl, rfl⟩
  | true =>
    simp only [Bool.and_eq_true, decide_eq_true_eq] at hm
    obtain ⟨m1, m2⟩ := hm
    have hm : (decide (1 ≤ W) && decide (W ≤ 64)) = true := by simp; omega
    have hlt : 0 < W := by omega
    go_enter Try.func32, Try.ntmps32
    go_wp2_with (first | (go_at_call 61; go_must (refine (may_any _ _).mono ?_; rw [hm]; rintro e w' ⟨rfl, rfl⟩)) | (go_at_call 33; go_must (refine (left_none _).mono ?_; rintro e w' ⟨rfl, rfl⟩)))
    go_ret2
    exact ⟨rfl, rfl⟩
theorem get_no (C g : Nat) (l : List Nat) (at_ : Nat) (W : Int) (w : World) (hi : IsIn w C g l at_) (hl : l.length ≤ 1000000000) (ha : at_ ≤ 8 * l.length) (hno : W < 1 ∨ 64 < W ∨ 8 * (l.length : Int) - at_ < W) :
    Calls Try.prog 32 #[.pointer (some ⟨g, 0, none⟩), .int .i64 W] w fun e w' => e = .returned (.tuple #[.int .u64 0, .bool false]) ∧ ∃ k, w' = w.drewN k := by
  cases hm : (decide (1 ≤ W) && decide (W ≤ 64)) with
  | false =>
    go_enter Try.func32, Try.ntmps32
    go_wp2_with (go_at_call 61; go_must (refine (may_any _ _).mono ?_; rw [hm]; rintro e w' ⟨rfl, rfl⟩))
    go_ret2
    exact ⟨rfl, 0, rfl⟩
  | true =>
    simp only [Bool.and_eq_true, decide_eq_true_eq] at hm
    obtain ⟨m1, m2⟩ := hm
    have hm : (decide (1 ≤ W) && decide (W ≤ 64)) = true := by simp; omega
    have hlt : 8 * (l.length : Int) - at_ < W := by omega
    go_enter Try.func32, Try.ntmps32
    go_wp2_with (first | (go_at_call 61; go_must (refine (may_any _ _).mono ?_; rw [hm]; rintro e w' ⟨rfl, rfl⟩)) | (go_at_call 33; go_must (refine (left_any _ _ _ _ _ hi hl ha).mono ?_; rintro e w' ⟨rfl, nd, rfl⟩)))
    go_ret2
    exact ⟨rfl, _, rfl⟩
theorem get_yes (C g : Nat) (l : List Nat) (at_ V : Nat) (w : World) (hi : IsIn w C g l at_) (hb : ∀ x ∈ l, x < 256) (hl : l.length ≤ 1000000000) (h1 : 1 ≤ V) (h2 : V ≤ 64) (ha : at_ + V ≤ 8 * l.length) :
    Calls Try.prog 32 #[.pointer (some ⟨g, 0, none⟩), .int .i64 (V : Int)] w fun e w' => e = .returned (.tuple #[.int .u64 (numN (cutB (ofN l) at_ V) : Int), .bool true]) ∧ IsIn w' C g l (at_ + V) ∧ Keep (fun k => k = g) w w' := by
  have hm : (decide (1 ≤ (V : Int)) && decide ((V : Int) ≤ 64)) = true := by simp; omega
  have b1 : (V : Int) ≤ 8 * (l.length : Int) - at_ := by omega
  have b2 : (V : Int) ≤ 64 := by omega
  have b3 : (at_ : Int) + V ≤ 8000000000 := by omega
  have d5 : decide (8 * (l.length : Int) - at_ < V) = false := by simp; omega
  have hi0 := hi
  obtain ⟨A, c, hg, hrd, hC⟩ := hi
  have c0 : w.cell? ⟨g, 0, none⟩ = some (.slice A l.length c) := by rw [blk_cell hg]; rfl
  have c1 : w.cell? ⟨g, 1, none⟩ = some (.int .i64 (at_ : Int)) := by rw [blk_cell hg]; rfl
  go_enter Try.func32, Try.ntmps32
  go_wp2_with (first | (go_at_call 61; go_must (refine (may_any _ _).mono ?_; rw [hm]; rintro e w' ⟨rfl, rfl⟩)) | (go_at_call 33; go_must (refine (left_any _ _ _ _ _ hi0 hl (by omega)).mono ?_; rintro e w' ⟨rfl, nd, rfl⟩)))
  clear hi0 c0 c1 hm
  have hlen := ofN_length l
  go_loopw [6] (fun u wr => ∃ k : Nat, k ≤ V ∧ u = .int .u64 (numN (cutB (ofN l) at_ k) : Int) ∧ wr.heap[g]? = some (.cells #[.slice A l.length c, .int .i64 ((at_ + k : Nat) : Int)] 81 (0, 0)) ∧ Rd wr C A l.length (nats .u8 l) ∧ Keep (fun k => k = g) w wr) (fun _ wr => at_ + V - (intOf ((wr.cell? ⟨g, 1, none⟩).getD undef)).toNat)
  case atStart => exact ⟨0, by omega, by simp [cutB, numN], hg, hrd, (Keep.refl _ _).drewN _⟩
  case round =>
    clear hg hrd
    obtain ⟨k, hk, rfl, hg, hrd, hkeep⟩ := hrel
    have c0 : wr.cell? ⟨g, 0, none⟩ = some (.slice A l.length c) := by rw [blk_cell hg]; rfl
    have c1 : wr.cell? ⟨g, 1, none⟩ = some (.int .i64 ((at_ + k : Nat) : Int)) := by rw [blk_cell hg]; rfl
    by_cases hlt : k < V
    · obtain ⟨x, hx1, hx2⟩ := ofN_get l (at_ + k) (by omega)
      have hp8 : (at_ + k) / 8 < l.length := by omega
      obtain ⟨bb, o, rfl, hbb, hcell⟩ := hrd.at_ hp8
      have hcx : wr.cell? ⟨bb, o + (at_ + k) / 8, none⟩ = some (.int .u8 (x : Int)) := by
        rw [hcell, nats, List.getElem?_map, hx1]; rfl
      have hxb := hb x (List.mem_of_getElem? hx1)
      have HS := Lib.hid (cutB_succ (ofN l) at_ k _ hx2)
      have hU : numN (cutB (ofN l) at_ k) < 9223372036854775808 := by
        have h := numN_lt (cutB (ofN l) at_ k)
        rw [cutB_length _ _ _ (by omega)] at h
        exact Nat.lt_of_lt_of_le h (Nat.le_trans (Nat.pow_le_pow_right (by omega) (show k ≤ 63 by omega)) (by decide))
      have HV := Lib.hid (get_val (numN (cutB (ofN l) at_ k)) x (7 - (at_ + k) % 8) hU hxb)
      have f1 := blk_frozen hg 1
      obtain ⟨p, hp⟩ : ∃ p, p = at_ + k := ⟨_, rfl⟩
      rw [← hp] at c1 hcx HV hg hp8 HS
      have HP := Lib.hid hp
      have hpl : p < at_ + V := by omega
      clear hcell hx1 hx2 hp
      have hi8 : (p : Int) / 8 < (l.length : Int) := by omega
      have hplt : (p : Int) < (at_ : Int) + (V : Int) := by omega
      have hp0 : (p : Int) ≤ 8000000000 := by omega
      have HN := Lib.hid (show numN (cutB (ofN l) at_ (k + 1)) = 2 * numN (cutB (ofN l) at_ k) + (x.testBit (7 - p % 8)).toNat by rw [HS.out, numN_snoc])
      generalize numN (cutB (ofN l) at_ k) = U at *
      go_wp2
      go_region
      go_wp2
      go_roundw
      case rel =>
        refine ⟨k + 1, by omega, ?_, ?_, ?_, ?_⟩
        · rw [HN.out, HV.out]
        · have h2 := heap_set2 (i := 1) hg (.int .i64 ((p : Int) + 1))
          rw [show ((at_ + (k + 1) : Nat) : Int) = (p : Int) + 1 by have := HP.out; omega]
          exact h2
        · exact (hrd.below (C := C) ((Below.refl _ _).setCell (p := ⟨g, 1, none⟩) hC _) (Nat.le_refl _)).drew
        · exact (hkeep.setCell (p := ⟨g, 1, none⟩) (.inl rfl) _).drew
      case measure =>
        have h2 := heap_set2 (i := 1) hg (.int .i64 ((p : Int) + 1))
        have h3 : (wr.setCell ⟨g, 1, none⟩ (.int .i64 ((p : Int) + 1))).drew.cell? ⟨g, 1, none⟩ = some (.int .i64 ((p : Int) + 1)) := by
          show (wr.setCell ⟨g, 1, none⟩ (.int .i64 ((p : Int) + 1))).cell? ⟨g, 1, none⟩ = _
          rw [blk_cell h2]; rfl
        rw [h3, c1]
        simp only [Option.getD_some, intOf]
        omega
    · obtain rfl : k = V := by omega
      have hd : decide (((at_ + k : Nat) : Int) < (at_ : Int) + (k : Int)) = false := by simp
      go_wp2
      go_ret2
      exact ⟨rfl, ⟨A, c, hg, hrd, hC⟩, hkeep⟩
end Go.Proofs.Ytlahcmldbgeifaa
