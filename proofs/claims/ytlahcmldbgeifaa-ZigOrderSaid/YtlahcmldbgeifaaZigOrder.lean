import Derived.Test.YtlahcmldbgeifaaBegun
import Derived.Test.YtlahcmldbgeifaaPlainTurn
/- ZigOrder: small ones come first, whichever their sign; turns add up; no condition. -/
namespace Go.Proofs.Ytlahcmldbgeifaa.zigOrder
open Go.RowKit
set_option linter.unusedVariables false
theorem tmod1000 (b : Int) : -1000 < b.tmod 1000 ∧ b.tmod 1000 < 1000 := by
  have h1 := Int.lt_tmod_of_pos b (show (0 : Int) < 1000 by decide)
  have h2 := Int.tmod_lt_of_pos b (show (0 : Int) < 1000 by decide)
  exact ⟨by omega, by omega⟩
set_option maxRecDepth 100000 in
set_option maxHeartbeats 8000000 in
theorem walk (n u a b : Int) (w : World) (w0 : (Lit.int .i64 n).wf = true) (w1 : (Lit.int .u32 u).wf = true) (w2 : (Lit.int .i64 a).wf = true) (w3 : (Lit.int .i64 b).wf = true) :
    Calls Try.prog 4 #[.int .i64 n, .int .u32 u, .int .i64 a, .int .i64 b] w fun e w' => e = .returned (.bool true) ∧ Below w.heap.size w w' := by
  obtain ⟨u0, u1⟩ := wf_u32 w1
  obtain ⟨n0, n1⟩ := wf_i64 w0
  obtain ⟨U, rfl⟩ := Int.eq_ofNat_of_zero_le u0
  clear w0 w1 w2 w3
  by_cases hn : 4611686018427387904 < n ∨ n < -4611686018427387904
  · clear n0 n1 u0 u1
    have d : (decide (4611686018427387904 < n) = true) ∨ (decide (4611686018427387904 < n) = false ∧ decide (n < -4611686018427387904) = true) := by
      by_cases h : 4611686018427387904 < n
      · exact .inl (by simpa using h)
      · exact .inr ⟨by simpa using h, by simp; omega⟩
    clear hn
    go_enter Try.func4, Try.ntmps4
    go_wp2_with fail
    refine (begun_any _).mono ?_
    rintro e w1 ⟨rfl, hb1⟩
    rcases d with d | ⟨d, d2⟩
    all_goals
      go_wp2_with fail
      all_goals go_ret
      all_goals exact ⟨rfl, hb1⟩
  · have hm1 : -4611686018427387904 ≤ n := by omega
    have hm2 : n ≤ 4611686018427387904 := by omega
    have HU := Lib.hid u1
    have HN := Lib.hid (And.intro n0 n1)
    obtain ⟨N, hN⟩ : ∃ N, wrap64 (-n) = N := ⟨_, rfl⟩
    have hN2 : N = -n := by rw [← hN]; unfold wrap64; omega
    have HM : Hid (-9223372036854775808 ≤ N ∧ N ≤ 9223372036854775807) := ⟨by omega, by omega⟩
    have d1 : decide (4611686018427387904 < n) = false := by simp; omega
    have d2 : decide (n < -4611686018427387904) = false := by simp; omega
    obtain ⟨Z, hZ⟩ : ∃ Z, zigI n = Z := ⟨_, rfl⟩
    have Z1 := Lib.hid hZ
    obtain ⟨Y, hY⟩ : ∃ Y, zigI n = Y := ⟨_, rfl⟩
    have Y1 := Lib.hid hY
    obtain ⟨X, hX⟩ : ∃ X, zigI n = X := ⟨_, rfl⟩
    have X1 := Lib.hid hX
    obtain ⟨V, hV⟩ : ∃ V, IntKind.u64.wrap (Y + 2) = V := ⟨_, rfl⟩
    have hlt : decide (Z < V) = true := by
      rw [← hV, ← hY, ← hZ, IntKind.wrap_u64, zigI]; simp; split <;> omega
    obtain ⟨a1, a2⟩ := tmod1000 a
    obtain ⟨b1, b2⟩ := tmod1000 b
    obtain ⟨p, hp⟩ : ∃ p, a.tmod 1000 = p := ⟨_, rfl⟩
    obtain ⟨q, hq⟩ : ∃ q, b.tmod 1000 = q := ⟨_, rfl⟩
    rw [hp] at a1 a2
    rw [hq] at b1 b2
    obtain ⟨T1, hT1⟩ : ∃ T, turnI (U : Int) p = T := ⟨_, rfl⟩
    obtain ⟨T2, hT2⟩ : ∃ T, turnI T1 q = T := ⟨_, rfl⟩
    obtain ⟨T3, hT3⟩ : ∃ T, turnI (U : Int) (-p) = T := ⟨_, rfl⟩
    have P1 := Lib.hid hT1
    have P2 := Lib.hid hT2
    have P3 : Hid (turnI (U : Int) (p + q) = T2) := by
      show _ = _
      rw [← hT2, ← hT1, turn_turn U p q (by omega)]
    have P4 := Lib.hid hT3
    have P5 : Hid (turnI (U : Int) (1280 - p) = T3) := by
      show _ = _
      rw [← hT3]; exact turn_congr _ _ _ (by omega)
    have hP := turnI_bd U p (by omega)
    rw [hT1] at hP
    have HP := Lib.hid hP
    have hZ2 := hZ
    unfold zigI at hZ2
    clear hT1 hT2 hT3 hP
    rcases (show n < 0 ∨ n = 0 ∨ 0 < n by omega) with hs | hs | hs
    · have d3 : decide (n < 0) = true := by simpa using hs
      clear hs hn n0 n1 u1 u0 hm1 hm2 hZ hZ2 hX hY hN2
      go_enter Try.func4, Try.ntmps4
      go_wp2_with fail
      refine (begun_any _).mono ?_
      rintro e w1 ⟨rfl, hb1⟩
      go_wp2_with fail
      refine (zig_any _ _ HN.out.1 HN.out.2).mono ?_
      rw [Z1.out]; rintro e w' ⟨rfl, rfl⟩
      go_wp2_with fail
      refine (zig_any _ _ HN.out.1 HN.out.2).mono ?_
      rw [Y1.out]; rintro e w' ⟨rfl, rfl⟩
      go_wp2_with fail
      refine (turn_any _ _ _ (by omega) HU.out).mono ?_
      rw [P1.out]; rintro e w' ⟨rfl, k1, rfl⟩
      go_wp2_with fail
      refine (turn_any _ _ _ HP.out.1 HP.out.2).mono ?_
      rw [P2.out]; rintro e w' ⟨rfl, k2, rfl⟩
      go_wp2_with fail
      refine (turn_any _ _ _ (by omega) HU.out).mono ?_
      rw [P3.out]; rintro e w' ⟨rfl, k3, rfl⟩
      go_wp2_with fail
      refine (turn_any _ _ _ (by omega) HU.out).mono ?_
      rw [P4.out]; rintro e w' ⟨rfl, k4, rfl⟩
      go_wp2_with fail
      refine (turn_any _ _ _ (by omega) HU.out).mono ?_
      rw [P5.out]; rintro e w' ⟨rfl, k5, rfl⟩
      go_wp2_with fail
      go_ret
      exact ⟨rfl, below_drewN hb1 _⟩
    · have d3 : decide (n < 0) = false := by simp; omega
      have d4 : decide (0 < n) = false := by simp; omega
      have Z2 : Hid (zigI N = 0) := by show _ = _; rw [hN2, zigI]; split <;> omega
      have e0 : X = 0 := by rw [← hX, hs]; rfl
      subst e0
      clear hs hn n0 n1 u1 u0 hm1 hm2 hZ hZ2 hX hY hN2
      go_enter Try.func4, Try.ntmps4
      go_wp2_with fail
      refine (begun_any _).mono ?_
      rintro e w1 ⟨rfl, hb1⟩
      go_wp2_with fail
      refine (zig_any _ _ HN.out.1 HN.out.2).mono ?_
      rw [Z1.out]; rintro e w' ⟨rfl, rfl⟩
      go_wp2_with fail
      refine (zig_any _ _ HN.out.1 HN.out.2).mono ?_
      rw [Y1.out]; rintro e w' ⟨rfl, rfl⟩
      go_wp2_with fail
      refine (zig_any _ _ HN.out.1 HN.out.2).mono ?_
      rw [X1.out]; rintro e w' ⟨rfl, rfl⟩
      go_wp2_with fail
      refine (zig_any _ _ HM.out.1 HM.out.2).mono ?_
      rw [Z2.out]; rintro e w' ⟨rfl, rfl⟩
      go_wp2_with fail
      refine (b2u_any _ _).mono ?_
      rintro e w' ⟨rfl, rfl⟩
      go_wp2_with fail
      refine (turn_any _ _ _ (by omega) HU.out).mono ?_
      rw [P1.out]; rintro e w' ⟨rfl, k1, rfl⟩
      go_wp2_with fail
      refine (turn_any _ _ _ HP.out.1 HP.out.2).mono ?_
      rw [P2.out]; rintro e w' ⟨rfl, k2, rfl⟩
      go_wp2_with fail
      refine (turn_any _ _ _ (by omega) HU.out).mono ?_
      rw [P3.out]; rintro e w' ⟨rfl, k3, rfl⟩
      go_wp2_with fail
      refine (turn_any _ _ _ (by omega) HU.out).mono ?_
      rw [P4.out]; rintro e w' ⟨rfl, k4, rfl⟩
      go_wp2_with fail
      refine (turn_any _ _ _ (by omega) HU.out).mono ?_
      rw [P5.out]; rintro e w' ⟨rfl, k5, rfl⟩
      go_wp2_with fail
      go_ret
      exact ⟨rfl, below_drewN hb1 _⟩
    · have d3 : decide (n < 0) = false := by simp; omega
      have d4 : decide (0 < n) = true := by simp; omega
      obtain ⟨X2, hX2⟩ : ∃ X2, X - 1 = X2 := ⟨_, rfl⟩
      have Z2 : Hid (zigI N = X2) := by show _ = _; rw [hN2, ← hX2, ← hX, zigI, zigI]; split <;> split <;> omega
      have hz2 : IntKind.u64.wrap (X2 + 1) = X := by rw [← hX2, ← hX, IntKind.wrap_u64, zigI]; split <;> omega
      clear hs hn n0 n1 u1 u0 hm1 hm2 hZ hZ2 hX hY hN2
      go_enter Try.func4, Try.ntmps4
      go_wp2_with fail
      refine (begun_any _).mono ?_
      rintro e w1 ⟨rfl, hb1⟩
      go_wp2_with fail
      refine (zig_any _ _ HN.out.1 HN.out.2).mono ?_
      rw [Z1.out]; rintro e w' ⟨rfl, rfl⟩
      go_wp2_with fail
      refine (zig_any _ _ HN.out.1 HN.out.2).mono ?_
      rw [Y1.out]; rintro e w' ⟨rfl, rfl⟩
      go_wp2_with fail
      refine (zig_any _ _ HN.out.1 HN.out.2).mono ?_
      rw [X1.out]; rintro e w' ⟨rfl, rfl⟩
      go_wp2_with fail
      refine (zig_any _ _ HM.out.1 HM.out.2).mono ?_
      rw [Z2.out]; rintro e w' ⟨rfl, rfl⟩
      go_wp2_with fail
      refine (b2u_any _ _).mono ?_
      rintro e w' ⟨rfl, rfl⟩
      go_wp2_with fail
      refine (turn_any _ _ _ (by omega) HU.out).mono ?_
      rw [P1.out]; rintro e w' ⟨rfl, k1, rfl⟩
      go_wp2_with fail
      refine (turn_any _ _ _ HP.out.1 HP.out.2).mono ?_
      rw [P2.out]; rintro e w' ⟨rfl, k2, rfl⟩
      go_wp2_with fail
      refine (turn_any _ _ _ (by omega) HU.out).mono ?_
      rw [P3.out]; rintro e w' ⟨rfl, k3, rfl⟩
      go_wp2_with fail
      refine (turn_any _ _ _ (by omega) HU.out).mono ?_
      rw [P4.out]; rintro e w' ⟨rfl, k4, rfl⟩
      go_wp2_with fail
      refine (turn_any _ _ _ (by omega) HU.out).mono ?_
      rw [P5.out]; rintro e w' ⟨rfl, k5, rfl⟩
      go_wp2_with fail
      go_ret
      exact ⟨rfl, below_drewN hb1 _⟩
end Go.Proofs.Ytlahcmldbgeifaa.zigOrder
