import Derived.Test.YtajjmlbhagiicaaLane
import Derived.Test.YtajjmlbhagiicaaZig
import Derived.Test.YtajjmlbhagiicaaBase
import Derived.Test.YtajjmlbhagiicaaBunP
import Derived.Deep.DeepMust
/- The contracts of the reference's lists of bits. -/
namespace Go.Proofs.Ytajjmlbhagiicaa
open Go.RowKit
theorem boolInfo : (Try.prog.info? 4).map (fun i => (i.zero, i.size, i.bytes)) = some (some (.bool false), 1, 1) := by kernel_rfl
theorem pow_any (n : Int) (w : World) (h0 : 0 ≤ n) (h1 : n ≤ 63) : Calls Try.prog 32 #[.int .i64 n] w fun e w' => e = .returned (.int .u64 (powI n)) ∧ w = w' := by
  obtain ⟨N, rfl⟩ := Int.eq_ofNat_of_zero_le h0
  go_enter Try.func32, Try.ntmps32
  go_wp2
  go_loop [3, 4] (fun p i => ∃ k : Nat, k ≤ N ∧ i = .int .i64 k ∧ p = .int .u64 (powI k)) (fun _ i => N - (intOf i).toNat)
  case atStart => exact ⟨0, by omega, rfl, rfl⟩
  case round =>
    obtain ⟨k, hk, rfl, rfl⟩ := hrel
    by_cases hlt : k < N
    · have E := Lib.hid (powI_step k (by omega))
      go_wp2
      go_round
      case rel => exact ⟨k + 1, by omega, by go_num, by rw [E.out]; rfl⟩
      case measure => simp [intOf]; omega
    · obtain rfl : k = N := by omega
      go_wp2
      go_ret
      exact ⟨rfl, rfl⟩
theorem bits_nat (u W : Nat) (w : World) (hu : u < 18446744073709551616) (hW : W ≤ 64) : Calls Try.prog 18 #[.int .u64 (u : Int), .int .i64 (W : Int)] w fun e w' =>
    ∃ v, e = .returned v ∧ w'.ownsRow w.heap.size 4 1 v W (bools (bitsL u W)) ∧ Below w.heap.size w w' := by
  go_enter Try.func18, Try.ntmps18
  go_wp2_with fail
  go_loopw [5, 6] (fun v i wr => ∃ k : Nat, k ≤ W ∧ i = .int .i64 ((W : Int) - 1 - k) ∧ wr.ownsRow w.heap.size 4 1 v k (bools (bitsTo u W k)) ∧ Below w.heap.size w wr) (fun _ i _ => (intOf i + 1).toNat)
  case atStart => exact ⟨0, by omega, by simp, World.ownsRow_nil _ _ _ _, Below.refl _ _⟩
  case round =>
    obtain ⟨k, hk, rfl, hown, hbel⟩ := hrel
    by_cases hlt : k < W
    · have hp := powI_pos ((W : Int) - 1 - k)
      have hd := bit_div u ((W : Int) - 1 - k) hu
      have hd0 := bit_div0 u ((W : Int) - 1 - k)
      have hsz := hbel.size
      go_wp2_with (first
        | (go_at_call 32; refine (pow_any _ _ (by omega) (by omega)).mono ?_; rintro e w' ⟨rfl, rfl⟩)
        | (at_builtin; go_must (refine wpList_append1 rfl (.tmp 13) (.tmp 20) 36 rfl 4 _ _ Try.underlying36 boolInfo rfl hown hbel rfl rfl rfl (by unfold maxLen; omega) (by omega) hsz (Nat.le_refl _) ?_)))
      clear hd hd0 hp
      intro v1 w1 hown1 hbel1 _ _
      go_wp2
      go_roundw
      case rel => exact ⟨k + 1, by omega, by go_num, by rw [bitsTo_snoc u W k hlt]; exact hown1, hbel1⟩
      case measure => simp [intOf]; omega
    · obtain rfl : k = W := by omega
      go_wp2
      go_ret
      exact ⟨_, rfl, hown, hbel⟩

theorem bits_any (u W : Int) (w : World) (hu0 : 0 ≤ u) (hu : u < 18446744073709551616) (hW0 : 0 ≤ W) (hW : W ≤ 64) : Calls Try.prog 18 #[.int .u64 u, .int .i64 W] w fun e w' =>
    ∃ v, e = .returned v ∧ w'.ownsRow w.heap.size 4 1 v W.toNat (bools (bitsL u.toNat W.toNat)) ∧ Below w.heap.size w w' := by
  obtain ⟨U, rfl⟩ := Int.eq_ofNat_of_zero_le hu0
  obtain ⟨V, rfl⟩ := Int.eq_ofNat_of_zero_le hW0
  exact bits_nat U V w (by omega) (by omega)
theorem u8Info : (Try.prog.info? 5).map (fun i => (i.zero, i.size, i.bytes)) = some (some (.int .u8 0), 1, 1) := by kernel_rfl
theorem intInfo : (Try.prog.info? 3).map (fun i => (i.zero, i.size, i.bytes)) = some (some (.int .i64 0), 1, 8) := by kernel_rfl

theorem num_any (A : Option Addr) (n c B : Nat) (l : List Bool) (w : World) (hr : Rd w B A n (bools l)) (hn : n ≤ 64) : Calls Try.prog 31 #[.slice A n c] w fun e w' => e = .returned (.int .u64 (numN l)) ∧ w = w' := by
  have hl : l.length = n := by have := hr.1; rwa [bools_length] at this
  go_enter Try.func31, Try.ntmps31
  go_wp2
  go_loop [3, 4] (fun s i => ∃ k : Nat, k ≤ n ∧ i = .int .i64 k ∧ s = .int .u64 (numTo l k)) (fun _ i => n - (intOf i).toNat)
  case atStart => exact ⟨0, by omega, rfl, by rw [numTo_zero]; rfl⟩
  case round =>
    obtain ⟨k, hk, rfl, rfl⟩ := hrel
    by_cases hlt : k < n
    · obtain ⟨b, o, rfl, hb, hc⟩ := hr.at_ hlt
      rw [bools_at l k (by omega)] at hc
      have hs := numTo_succ l k (by omega)
      have hb63 := numTo_lt63 l k (by omega)
      generalize l[k]'(by omega) = x at hc hs
      have HS := Lib.hid hs
      clear hs
      cases x
      · go_wp2
        go_round
        case rel => exact ⟨k + 1, by omega, by go_num, by rw [HS.out]; simp; omega⟩
        case measure => simp [intOf]; omega
      · go_wp2
        go_round
        case rel => exact ⟨k + 1, by omega, by go_num, by rw [HS.out]; simp; omega⟩
        case measure => simp [intOf]; omega
    · obtain rfl : k = n := by omega
      have E := Lib.hid (numTo_all l k hl)
      go_wp2
      go_ret
      exact ⟨by rw [← E.out]; rfl, rfl⟩
theorem bytes_any (A : Option Addr) (n c B : Nat) (l : List Bool) (w : World) (hr : Rd w B A n (bools l)) (hB : B ≤ w.heap.size) (hn : n ≤ 1000000) : Calls Try.prog 17 #[.slice A n c] w fun e w' =>
    ∃ v, e = .returned v ∧ w'.ownsRow w.heap.size 5 1 v ((n + 7) / 8) (nats .u8 (bytesN l)) ∧ Below w.heap.size w w' := by
  have hl : l.length = n := by have := hr.1; rwa [bools_length] at this
  go_enter Try.func17, Try.ntmps17
  go_wp2
  go_loopw [3, 4, 5, 6] (fun v i _ _ wr => ∃ j : Nat, j ≤ (n + 7) / 8 ∧ i = .int .i64 ((8 * j : Nat) : Int) ∧ wr.ownsRow w.heap.size 5 1 v j (nats .u8 (bytesTo l j)) ∧ Below w.heap.size w wr) (fun _ i _ _ _ => n - (intOf i).toNat)
  case atStart => exact ⟨0, by omega, rfl, World.ownsRow_nil _ _ _ _, Below.refl _ _⟩
  case round =>
    obtain ⟨j, hj, rfl, hown, hbel⟩ := hrel
    by_cases hlt : 8 * j < n
    · have hrw : Rd wr B A n (bools l) := hr.below hbel hB
      have hlt' : ((8 * j : Nat) : Int) < (n : Int) := by omega
      have hsz := hbel.size
      go_wp2
      go_loop [5, 6] (fun s i => ∃ m : Nat, m ≤ 8 ∧ i = .int .i64 ((8 * j : Nat) + (m : Int)) ∧ s = .int .u8 (octTo l (8 * j) m)) (fun _ i => 8 * j + 8 - (intOf i).toNat)
      case atStart => exact ⟨0, by omega, by simp, rfl⟩
      case round =>
        obtain ⟨m, hm, rfl, rfl⟩ := hrel
        by_cases hm8 : m < 8
        · have ho := octTo_succ l (8 * j) m
          have hb := Nat.lt_of_lt_of_le (octTo_lt l (8 * j) m) (Nat.pow_le_pow_right (show 0 < 2 by omega) (show m ≤ 7 by omega))
          have hb' : octTo l (8 * j) m < 128 := hb
          clear hb
          by_cases hk : 8 * j + m < n
          · obtain ⟨b, o, rfl, hb2, hc⟩ := hrw.at_ hk
            rw [bools_at l _ (by omega)] at hc
            rw [List.getD_eq_getElem?_getD, List.getElem?_eq_getElem (show 8 * j + m < l.length by omega)] at ho
            simp only [Option.getD_some] at ho
            generalize l[8 * j + m]'(by omega) = x at hc ho
            have HO := Lib.hid ho
            clear ho
            have hc' : wr.cell? ⟨b, o + ((8 * j : Nat) + (m : Int)).toNat, none⟩ = some (.bool x) := by rw [show ((8 * j : Nat) + (m : Int)).toNat = 8 * j + m by omega]; exact hc
            cases x
            · go_wp2
              go_round
              case rel => exact ⟨m + 1, by omega, by go_num, by rw [HO.out]; simp; omega⟩
              case measure => simp [intOf]; omega
            · go_wp2
              go_round
              case rel => exact ⟨m + 1, by omega, by go_num, by rw [HO.out]; simp; omega⟩
              case measure => simp [intOf]; omega
          · rw [List.getD_eq_getElem?_getD, List.getElem?_eq_none (show l.length ≤ 8 * j + m by omega)] at ho
            simp only [Option.getD_none] at ho
            have HO := Lib.hid ho
            clear ho
            have hd : decide (((8 * j : Nat) : Int) + (m : Int) < (n : Int)) = false := by simp; omega
            go_wp2
            go_round
            case rel => exact ⟨m + 1, by omega, by go_num, by rw [HO.out]; simp; omega⟩
            case measure => simp [intOf]; omega
        · obtain rfl : m = 8 := by omega
          go_wp2_with (at_builtin; go_must (refine wpList_append1 rfl (.tmp 34) (.tmp 36) 34 rfl 5 _ _ Try.underlying34 u8Info rfl hown hbel rfl rfl rfl (by unfold maxLen; omega) (by omega) hsz (Nat.le_refl _) ?_))
          intro v1 w1 hown1 hbel1 _ _
          go_wp2
          go_roundw
          case rel => exact ⟨j + 1, by omega, by go_num, by rw [bytesTo_succ]; simpa [nats, octN] using hown1, hbel1⟩
          case measure => simp [intOf]; omega
    · obtain rfl : j = (n + 7) / 8 := by omega
      go_wp2
      go_ret
      exact ⟨_, rfl, by rw [bytesN, hl]; exact hown, hbel⟩
end Go.Proofs.Ytajjmlbhagiicaa
