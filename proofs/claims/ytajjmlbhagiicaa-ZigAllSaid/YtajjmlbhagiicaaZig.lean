import Derived.Test.YtajjmlbhagiicaaLane
import Derived.Test.YtajjmlbhagiicaaPlainZig
import Derived.Handy
/- The contracts of the layer zig and of the reference's numbers. -/
namespace Go.Proofs.Ytajjmlbhagiicaa
open Go.RowKit

theorem zig_any (n : Int) (w : World) (h1 : -9223372036854775808 ≤ n) (h2 : n ≤ 9223372036854775807) : Calls Try.prog 7 #[.int .i64 n] w fun e w' => e = .returned (.int .u64 (zigI n)) ∧ w = w' := by
  have H := Lib.hid (zig_form n h1 h2)
  go_enter Try.func7, Try.ntmps7
  go_wp2
  go_ret
  exact ⟨by rw [← H.out]; rfl, rfl⟩
theorem zag_any (u : Int) (w : World) (h0 : 0 ≤ u) (h1 : u < 18446744073709551616) : Calls Try.prog 9 #[.int .u64 u] w fun e w' => e = .returned (.int .i64 (zagI u)) ∧ w = w' := by
  have H := Lib.hid (zag_form u h0 h1)
  go_enter Try.func9, Try.ntmps9
  go_wp2
  go_ret
  exact ⟨by rw [← H.out]; rfl, rfl⟩
theorem narrow_any (n k : Int) (w : World) : Calls Try.prog 11 #[.int .i64 n, .int .i64 k] w fun e w' => e = .returned (.int .i64 (narrowI n k)) ∧ w = w' := by
  by_cases h1 : k < 1
  · have H := Lib.hid (show narrowI n k = 0 by simp [narrowI, h1])
    go_enter Try.func11, Try.ntmps11
    go_wp2
    go_ret
    exact ⟨by rw [H.out]; rfl, rfl⟩
  · by_cases h2 : 64 < k
    · have H := Lib.hid (show narrowI n k = 0 by simp [narrowI, h2])
      go_enter Try.func11, Try.ntmps11
      go_wp2
      go_ret
      exact ⟨by rw [H.out]; rfl, rfl⟩
    · have H := Lib.hid (narrow_form n k (by omega) (by omega))
      go_enter Try.func11, Try.ntmps11
      go_wp2
      go_ret
      exact ⟨by rw [← H.out]; rfl, rfl⟩
theorem wide_any (u k : Int) (w : World) : Calls Try.prog 12 #[.int .u64 u, .int .i64 k] w fun e w' => e = .returned (.int .i64 (narrowI (wrap64 u) k)) ∧ w = w' := by
  go_enter Try.func12, Try.ntmps12
  go_wp2_with (go_at_call 11; refine (narrow_any _ _ _).mono ?_; rintro e w' ⟨rfl, rfl⟩)
  go_ret
  exact ⟨rfl, rfl⟩
theorem fit_any (n k : Int) (w : World) : Calls Try.prog 13 #[.int .i64 n, .int .i64 k] w fun e w' => e = .returned (.bool (narrowI n k == n)) ∧ w = w' := by
  go_enter Try.func13, Try.ntmps13
  go_wp2_with (go_at_call 11; refine (narrow_any _ _ _).mono ?_; rintro e w' ⟨rfl, rfl⟩)
  go_ret
  exact ⟨rfl, rfl⟩
theorem turn_any (u n : Int) (w : World) (h0 : 0 ≤ u) (h1 : u < 4294967296) : Calls Try.prog 14 #[.int .u32 u, .int .i64 n] w fun e w' => e = .returned (.int .u32 (turnI u n)) ∧ ∃ k, w' = w.drewN k := by
  have H := Lib.hid (turn_form u n h0 h1)
  have e := and31 n
  have b1 : 0 ≤ n % 32 := by omega
  have b2 : n % 32 ≤ 31 := by omega
  go_enter Try.func14, Try.ntmps14
  go_wp2
  go_quiet (fail)
  go_wp2
  go_ret
  exact ⟨by rw [← H.out]; rfl, _, rfl⟩
theorem refzig_form (n : Int) (h : n < 0) (h1 : -9223372036854775808 ≤ n) : (IntKind.u64.wrap (IntKind.u64.wrap (IntKind.u64.wrap (wrap64 (-wrap64 (n + 1))) * 2) + 1)) = zigI n := by
  rw [zigI, if_pos h]; simp only [IntKind.wrap_u64]; unfold wrap64; omega
theorem refzig_form2 (n : Int) (h : 0 ≤ n) (h1 : n ≤ 9223372036854775807) : (IntKind.u64.wrap (IntKind.u64.wrap n * 2)) = zigI n := by
  rw [zigI, if_neg (by omega)]; simp only [IntKind.wrap_u64]; omega
theorem refzig_any (n : Int) (w : World) (h1 : -9223372036854775808 ≤ n) (h2 : n ≤ 9223372036854775807) : Calls Try.prog 8 #[.int .i64 n] w fun e w' => e = .returned (.int .u64 (zigI n)) ∧ w = w' := by
  by_cases h : n < 0
  · have H := Lib.hid (refzig_form n h h1)
    clear h1 h2
    go_enter Try.func8, Try.ntmps8
    go_wp2
    go_ret
    exact ⟨by rw [← H.out]; rfl, rfl⟩
  · have H := Lib.hid (refzig_form2 n (by omega) h2)
    clear h1 h2
    go_enter Try.func8, Try.ntmps8
    go_wp2
    go_ret
    exact ⟨by rw [← H.out]; rfl, rfl⟩
theorem refzag_any (u : Int) (w : World) (h0 : 0 ≤ u) (h1 : u < 18446744073709551616) : Calls Try.prog 10 #[.int .u64 u] w fun e w' => e = .returned (.int .i64 (zagI u)) ∧ w = w' := by
  by_cases h : u % 2 = 1
  · have H := Lib.hid (show zagI u = -(u / 2) - 1 by simp [zagI, h])
    have hb : (u % 2 == 1) = true := by simpa using h
    clear h
    go_enter Try.func10, Try.ntmps10
    go_wp2
    go_ret
    exact ⟨by rw [H.out]; rfl, rfl⟩
  · have H := Lib.hid (show zagI u = (u / 2) by simp [zagI, h])
    have hb : (u % 2 == 1) = false := by simpa using h
    clear h
    go_enter Try.func10, Try.ntmps10
    go_wp2
    go_ret
    exact ⟨by rw [H.out]; rfl, rfl⟩
def bytesV (n : Int) : Value := .agg #[.int .u8 (byteI n 0), .int .u8 (byteI n 1), .int .u8 (byteI n 2), .int .u8 (byteI n 3), .int .u8 (byteI n 4), .int .u8 (byteI n 5), .int .u8 (byteI n 6), .int .u8 (byteI n 7)]
theorem bytes8_any (n : Int) (w : World) : Calls Try.prog 6 #[.int .i64 n] w fun e w' => e = .returned (bytesV n) ∧ Below w.heap.size w w' := by
  go_enter Try.func6, Try.ntmps6
  go_wp2
  go_rounds 9
  refine bodyPost_ret (v := bytesV n) (by simp [results, Try.results6, go_sem, bytesV, byteI]) rfl ⟨rfl, ?_⟩
  go_grown
theorem of8_any (b0 b1 b2 b3 b4 b5 b6 b7 : Int) (w : World) (h0 : 0 ≤ b0 ∧ b0 < 256) (h1 : 0 ≤ b1 ∧ b1 < 256) (h2 : 0 ≤ b2 ∧ b2 < 256) (h3 : 0 ≤ b3 ∧ b3 < 256) (h4 : 0 ≤ b4 ∧ b4 < 256) (h5 : 0 ≤ b5 ∧ b5 < 256) (h6 : 0 ≤ b6 ∧ b6 < 256) (h7 : 0 ≤ b7 ∧ b7 < 256) :
    Calls Try.prog 16 #[.agg #[.int .u8 b0, .int .u8 b1, .int .u8 b2, .int .u8 b3, .int .u8 b4, .int .u8 b5, .int .u8 b6, .int .u8 b7]] w fun e w' => e = .returned (.int .i64 (of8I b0 b1 b2 b3 b4 b5 b6 b7)) ∧ Below w.heap.size w w' := by
  have H := Lib.hid (of8_form b0 b1 b2 b3 b4 b5 b6 b7 h0 h1 h2 h3 h4 h5 h6 h7)
  clear h0 h1 h2 h3 h4 h5 h6 h7
  have i0 : ∀ w, (Instr.index 26 (.agg #[.int .u8 b0, .int .u8 b1, .int .u8 b2, .int .u8 b3, .int .u8 b4, .int .u8 b5, .int .u8 b6, .int .u8 b7]) (.int .i64 0)).run Try.prog w = .ok (.int .u8 b0) w := fun _ => by kernel_rfl
  have i1 : ∀ w, (Instr.index 26 (.agg #[.int .u8 b0, .int .u8 b1, .int .u8 b2, .int .u8 b3, .int .u8 b4, .int .u8 b5, .int .u8 b6, .int .u8 b7]) (.int .i64 1)).run Try.prog w = .ok (.int .u8 b1) w := fun _ => by kernel_rfl
  have i2 : ∀ w, (Instr.index 26 (.agg #[.int .u8 b0, .int .u8 b1, .int .u8 b2, .int .u8 b3, .int .u8 b4, .int .u8 b5, .int .u8 b6, .int .u8 b7]) (.int .i64 2)).run Try.prog w = .ok (.int .u8 b2) w := fun _ => by kernel_rfl
  have i3 : ∀ w, (Instr.index 26 (.agg #[.int .u8 b0, .int .u8 b1, .int .u8 b2, .int .u8 b3, .int .u8 b4, .int .u8 b5, .int .u8 b6, .int .u8 b7]) (.int .i64 3)).run Try.prog w = .ok (.int .u8 b3) w := fun _ => by kernel_rfl
  have i4 : ∀ w, (Instr.index 26 (.agg #[.int .u8 b0, .int .u8 b1, .int .u8 b2, .int .u8 b3, .int .u8 b4, .int .u8 b5, .int .u8 b6, .int .u8 b7]) (.int .i64 4)).run Try.prog w = .ok (.int .u8 b4) w := fun _ => by kernel_rfl
  have i5 : ∀ w, (Instr.index 26 (.agg #[.int .u8 b0, .int .u8 b1, .int .u8 b2, .int .u8 b3, .int .u8 b4, .int .u8 b5, .int .u8 b6, .int .u8 b7]) (.int .i64 5)).run Try.prog w = .ok (.int .u8 b5) w := fun _ => by kernel_rfl
  have i6 : ∀ w, (Instr.index 26 (.agg #[.int .u8 b0, .int .u8 b1, .int .u8 b2, .int .u8 b3, .int .u8 b4, .int .u8 b5, .int .u8 b6, .int .u8 b7]) (.int .i64 6)).run Try.prog w = .ok (.int .u8 b6) w := fun _ => by kernel_rfl
  have i7 : ∀ w, (Instr.index 26 (.agg #[.int .u8 b0, .int .u8 b1, .int .u8 b2, .int .u8 b3, .int .u8 b4, .int .u8 b5, .int .u8 b6, .int .u8 b7]) (.int .i64 7)).run Try.prog w = .ok (.int .u8 b7) w := fun _ => by kernel_rfl
  go_enter Try.func16, Try.ntmps16
  go_wp2
  go_rounds 9
  go_ret
  exact ⟨by rw [← H.out]; rfl, by go_grown⟩
end Go.Proofs.Ytajjmlbhagiicaa
