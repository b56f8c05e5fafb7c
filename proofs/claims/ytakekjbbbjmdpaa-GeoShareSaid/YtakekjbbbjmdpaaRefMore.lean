import Derived.Test.YtakekjbbbjmdpaaRefStep
/- The contracts of the reference's sum, narrowing and turning. -/
namespace Go.Proofs.Ytakekjbbbjmdpaa
open Go.RowKit

theorem refsum_any (A : Option Addr) (n c B : Nat) (l : List Nat) (w : World) (hr : Rd w B A n (nats .u8 l)) (hB : B ≤ w.heap.size) (hb : ∀ x ∈ l, x < 256) (hnm : n ≤ maxLen) : Calls Try.prog 84 #[.slice A n c] w fun e w' => e = .returned (.int .u32 (kof l)) ∧ Below w.heap.size w w' := by
  have hl : l.length = n := by have := hr.1; rwa [nats_length] at this
  unfold maxLen at hnm
  go_enter Try.func84, Try.ntmps84
  go_wp2
  go_loopw [3, 4] (fun a i wr => ∃ k : Nat, k ≤ n ∧ i = .int .i64 k ∧ a = .int .u32 (ksum 4294967295 (l.take k)) ∧ Below w.heap.size w wr) (fun _ i _ => n - (intOf i).toNat)
  case atStart => exact ⟨0, by omega, rfl, rfl, Below.refl _ _⟩
  case round =>
    obtain ⟨k, hk, rfl, rfl, hbel⟩ := hrel
    by_cases hlt : k < n
    · have hrw : Rd wr B A n (nats .u8 l) := hr.below hbel hB
      obtain ⟨b, o, rfl, hb2, hc⟩ := hrw.at_ hlt
      rw [nats_at _ l k (by omega)] at hc
      have hx : l[k] < 256 := hb _ (List.getElem_mem _)
      have HS := Lib.hid (show ksum 4294967295 (l.take (k + 1)) = kstep (ksum 4294967295 (l.take k)) l[k] by rw [take_snoc' l k (by omega), ksum_snoc])
      have hlt32 := ksum_lt (l.take k) 4294967295 (by decide) fun x hx => hb x (List.mem_of_mem_take hx)
      generalize l[k]'(by omega) = x at hc hx HS
      generalize ksum 4294967295 (l.take k) = t at *
      go_wp2_with (go_at_call 119; go_must (refine (refstep_any _ _ _ (by omega) (by omega) (by omega) (by omega)).mono ?_; rintro e w1 ⟨rfl, hb1⟩))
      go_roundw
      case rel => exact ⟨k + 1, by omega, by go_num, by rw [HS.out], below_then hbel hb1⟩
      case measure => simp [intOf]; omega
    · obtain rfl : k = n := by omega
      have E := Lib.hid (show ksum 4294967295 (l.take k) = kof l by rw [List.take_of_length_le (by omega)]; rfl)
      go_wp2
      go_ret
      exact ⟨by rw [← E.out]; rfl, hbel⟩

end Go.Proofs.Ytakekjbbbjmdpaa
