import Derived.Test.YtakekjbbbjmdpaaBunE
/- The law's own look whether a page is blank. -/
namespace Go.Proofs.Ytakekjbbbjmdpaa
open Go.RowKit
set_option linter.unusedVariables false
set_option maxRecDepth 100000 in
set_option maxHeartbeats 2000000 in
theorem refblank_any (P : List Nat) (w : World) (hP : P.length = 32) :
    Calls Try.prog 43 #[.agg (nats .u8 P).toArray] w fun e w' => e = .returned (.bool (blankB P)) ∧ Below w.heap.size w w' := by
  have h0 := heap_alloc_new w (.cells (nats .u8 P).toArray 42)
  have hbel := (Below.refl _ w).alloc (Nat.le_refl _) (.cells (nats .u8 P).toArray 42)
  have hsz := lt_of_cells h0
  have H0 := Lib.hid h0
  have HP := Lib.hid hP
  clear h0
  go_enter Try.func43, Try.ntmps43
  go_wp2_with fail
  generalize w.alloc (.cells (nats .u8 P).toArray 42) = w1 at *
  go_loop [4] (fun i => ∃ k : Nat, k ≤ 32 ∧ i = .int .i64 k ∧ ∀ j (hj : j < P.length), j < k → P[j] = 255) (fun i => 32 - (intOf i).toNat)
  case atStart => exact ⟨0, by omega, rfl, fun _ _ h => by omega⟩
  case round =>
    obtain ⟨k, hk, rfl, hall⟩ := hrel
    have HA := Lib.hid hall
    clear hall
    by_cases hlt : k < 32
    · have hkl : k < P.length := by rw [HP.out]; exact hlt
      have hc : w1.cell? ⟨w.heap.size, k, none⟩ = some (.int .u8 (P[k] : Int)) := by rw [blk_cell H0.out, List.getElem?_toArray, nats_at .u8 P k hkl]
      have hlt2 : (k : Int) < 32 := by omega
      by_cases hx : P[k] = 255
      · rw [hx] at hc
        go_wp2
        go_round
        case rel => exact ⟨k + 1, by omega, by go_num, fun j hj h => by
          by_cases e : j = k
          · subst e; exact hx
          · exact HA.out j hj (by omega)⟩
        case measure => simp [intOf]; omega
      · have HB := Lib.hid (show blankB P = false by
          unfold blankB
          rw [Bool.eq_false_iff]
          intro e
          exact hx (by simpa using List.all_eq_true.1 e P[k] (List.getElem_mem hkl)))
        have hx2 : ¬ (P[k] : Int) = 255 := by omega
        clear hx
        generalize P[k] = z at *
        go_wp2
        go_ret
        exact ⟨by rw [HB.out]; rfl, hbel⟩
    · obtain rfl : k = 32 := by omega
      have HB := Lib.hid (show blankB P = true by
        unfold blankB
        rw [List.all_eq_true]
        intro x hx
        obtain ⟨j, hj, rfl⟩ := List.getElem_of_mem hx
        simpa using HA.out j hj (by rw [← HP.out]; exact hj))
      go_wp2
      go_ret
      exact ⟨by rw [HB.out]; rfl, hbel⟩
end Go.Proofs.Ytakekjbbbjmdpaa
