import Derived.Test.YtpbigfopmompfaaGreatBits
import Derived.WalkSpells
/- The contracts of the reference's sets, of Short and of the library's Clone of bytes. -/
namespace Go.Proofs.YtpbigfopmompfaaGreat
open Go.RowKit
theorem dies_nat (M : Nat) (hM : M < 256) (w : World) : Calls Tryz.prog 73 #[.int .i64 (M : Int)] w fun e w' =>
 ∃ v, e = .returned v ∧ w'.ownsRow w.heap.size 3 1 v (diesN M).length (nats .i64 (diesN M)) ∧ Below w.heap.size w w' := by
 go_enter Tryz.func73, Tryz.ntmps73
 go_wp2
 go_loopw [3, 4] (fun v i wr => ∃ k : Nat, k ≤ 8 ∧ i = .int .i64 k ∧ wr.ownsRow w.heap.size 3 1 v (diesTo M k).length (nats .i64 (diesTo M k)) ∧ Below w.heap.size w wr) (fun _ i _ => 8 - (intOf i).toNat)
 case atStart => exact ⟨0, by omega, rfl, World.ownsRow_nil _ _ _ _, Below.refl _ _⟩
 case round =>
  obtain ⟨k, hk, rfl, hown, hbel⟩ := hrel; by_cases hlt : k < 8
  · have hlt' : (k : Int) < 8 := by omega
    have hp := powI_pos (k : Int); have hp2 := powI_le k hlt; have hd := die_div M k hM; have hd0 := bit_div0 M (k : Int); have hsz := hbel.size; have hlen := diesTo_length M k; cases hb : M.testBit k with
    | false =>
     have ht : ((M : Int) / powI k % 2 == 1) = false := by rw [bit_form]; exact hb
     have HS := Lib.hid (diesTo_succ M k); rw [hb] at HS; clear hb; go_wp2_with (go_at_call 98; refine (pow_any _ _ (by omega) (by omega)).mono ?_; rintro e w' ⟨rfl, rfl⟩)
     go_roundw
     case rel => exact ⟨k + 1, by omega, by go_num, by rw [HS.out]; simpa using hown, hbel⟩
     case measure => simp [intOf]; omega
    | true =>
     have ht : ((M : Int) / powI k % 2 == 1) = true := by rw [bit_form]; exact hb
     have HS := Lib.hid (diesTo_succ M k); rw [hb] at HS; clear hb
     go_wp2_with (first
      | (go_at_call 98; refine (pow_any _ _ (by omega) (by omega)).mono ?_; rintro e w' ⟨rfl, rfl⟩)
      | (at_builtin; go_must (refine zbm rfl (.tmp 24) (.tmp 26) 53 rfl 3 _ _ Tryz.underlying53 intInfo rfl hown hbel rfl rfl rfl (by unfold maxLen; omega) (by omega) hsz (Nat.le_refl _) ?_)))
     intro v1 w1 hown1 hbel1 _ _; clear hd hd0 hp hp2; go_wp2
     go_roundw
     case rel => exact ⟨k + 1, by omega, by go_num, by rw [HS.out]; simpa [nats] using hown1, hbel1⟩
     case measure => simp [intOf]; omega
  · obtain rfl : k = 8 := by omega
    go_wp2
    go_ret
    exact ⟨_, rfl, hown, hbel⟩
theorem dies_any (m : Int) (w : World) : Calls Tryz.prog 73 #[.int .i64 m] w fun e w' =>
 ∃ v, e = .returned v ∧ w'.ownsRow w.heap.size 3 1 v (diesL m).length (nats .i64 (diesL m)) ∧ Below w.heap.size w w' := by
 by_cases h0 : m < 0
 · have H := Lib.hid (show diesL m = [] by rw [diesL, setB_neg h0]; rfl)
   go_enter Tryz.func73, Tryz.ntmps73
   go_wp2
   go_rounds 1
   go_ret
   exact ⟨_, rfl, by rw [H.out]; exact World.ownsRow_nil _ _ _ _, Below.refl _ _⟩
 · by_cases h1 : 255 < m
   · have H := Lib.hid (show diesL m = [] by rw [diesL, setB_big (by omega)]; rfl)
     go_enter Tryz.func73, Tryz.ntmps73
     go_wp2
     go_rounds 1
     go_ret
     exact ⟨_, rfl, by rw [H.out]; exact World.ownsRow_nil _ _ _ _, Below.refl _ _⟩
   · obtain ⟨M, rfl⟩ := Int.eq_ofNat_of_zero_le (show 0 ≤ m by omega)
     rw [diesL_nat (by omega)]; exact dies_nat M (by omega) w

theorem refspot_any (m d : Int) (w : World) : Calls Tryz.prog 42 #[.int .i64 m, .int .i64 d] w fun e w' =>
 e = .returned (.int .i64 (spotI m d)) ∧ Below w.heap.size w w' := by
 have hlen : (diesL m).length ≤ 8 := by
  unfold diesL; split
  · rw [dies_length]; exact cnt_le _ _
  · simp
 have hno : (∀ (j D : Nat), (diesL m)[j]? = some D → (D : Int) ≠ d) → spotI m d = -1 := by
  intro h; by_cases h0 : m < 0
  · simp [spotI, hasB, setB_neg h0]
  · by_cases h1 : 255 < m
    · simp [spotI, hasB, setB_big (show 256 ≤ m by omega)]
    · obtain ⟨M, rfl⟩ := Int.eq_ofNat_of_zero_le (show 0 ≤ m by omega)
      rw [diesL_nat (by omega)] at h; exact spot_none (by omega) h
 have hyes : ∀ (j D : Nat), (diesL m)[j]? = some D → (D : Int) = d → spotI m d = j := by
  rintro j D h rfl; by_cases h0 : m < 0
  · simp [diesL, setB_neg h0] at h
  · by_cases h1 : 255 < m
    · simp [diesL, setB_big (show 256 ≤ m by omega)] at h
    · obtain ⟨M, rfl⟩ := Int.eq_ofNat_of_zero_le (show 0 ≤ m by omega)
      rw [diesL_nat (by omega)] at h; exact spot_found (by omega) (by simpa using h) (by omega)
 have HN := Lib.hid hno
 have HY := Lib.hid hyes
 clear hno hyes
 go_enter Tryz.func42, Tryz.ntmps42
 go_wp2_with (go_at_call 73; go_must (refine (dies_any _ _).mono ?_; rintro e w1 ⟨v1, rfl, hown, hbel⟩; obtain ⟨A1, c1, rfl, -, -⟩ := own_slice hown; have hrd := Rd.of_own hown))
 clear hown
 generalize hl : diesL m = l at *
 clear hl
 go_loop [6] (fun i => ∃ k : Nat, k ≤ l.length ∧ i = .int .i64 k ∧ Hid (∀ (j D : Nat), j < k → l[j]? = some D → (D : Int) ≠ d)) (fun i => l.length - (intOf i).toNat)
 case atStart => exact ⟨0, by omega, rfl, fun j D hj => by omega⟩
 case round =>
  obtain ⟨k, hk, rfl, hn⟩ := hrel; by_cases hlt : k < l.length
  · obtain ⟨b, o, rfl, hb2, hc⟩ := hrd.at_ hlt
    rw [nats_at _ l k hlt] at hc; have hget := List.getElem?_eq_getElem hlt; generalize l[k] = x at hc hget; have HG := Lib.hid hget; clear hget; by_cases hx : (x : Int) = d
    · have ht : ((x : Int) == d) = true := by simpa using hx
      have R := Lib.hid (HY.out k x HG.out hx); clear hx; go_wp2
      go_ret
      exact ⟨by rw [R.out]; rfl, hbel⟩
    · have ht : ((x : Int) == d) = false := by simpa using hx
      have hn' : Hid (∀ (j D : Nat), j < k + 1 → l[j]? = some D → (D : Int) ≠ d) := by
       intro j D hj hD; by_cases e : j = k
       · subst e
         rw [HG.out] at hD; injection hD with hD
         subst hD; exact hx
       · exact hn j D (by omega) hD
      clear hx hn; go_wp2
      go_round
      case rel => exact ⟨k + 1, by omega, by go_num, hn'⟩
      case measure => simp [intOf]; omega
  · obtain rfl : k = l.length := by omega
    have R := Lib.hid (HN.out fun j D hD => hn.out j D (List.getElem?_eq_some_iff.1 hD).1 hD); clear hn; go_wp2
    go_ret
    exact ⟨by rw [R.out]; rfl, hbel⟩

theorem clone_any (b o n c B : Nat) (l : List Nat) (w : World) (hr : Rd w B (some ⟨b, o, none⟩) n (nats .u8 l)) (hB : B ≤ w.heap.size) (hn : n ≤ 1000000) : Calls Tryz.prog 165 #[.slice (some ⟨b, o, none⟩) n c] w fun e w' =>
 ∃ v, e = .returned v ∧ w'.ownsRow w.heap.size 5 1 v n (nats .u8 l) ∧ Below w.heap.size w w' := by
 have hq := fun W : World => Lib.run_eql_slice_nil (P := Tryz.prog) W 183 5 (some ⟨b, o, none⟩) n c 0 0 Tryz.underlying183
 have hmade : (w.alloc (.cells #[] 5)).ownsRow w.heap.size 5 1 (.slice (some ⟨w.heap.size, 0, none⟩) 0 0) 0 [] := World.ownsRow_made w #[] 0 (Nat.le_refl _) (by unfold maxLen; omega) rfl
 have hbel : Below w.heap.size w (w.alloc (.cells #[] 5)) := (Below.refl _ _).alloc (Nat.le_refl _) _
 have hr2 : Rd (w.alloc (.cells #[] 5)) B (some ⟨b, o, none⟩) n (nats .u8 l) := hr.below hbel hB
 go_enter Tryz.func165, Tryz.ntmps165
 go_wp2_with (at_builtin; go_must (refine wpList_appendN rfl (.tmp 5) (.tmp 6) 183 rfl 5 _ _ Tryz.underlying183 u8Info rfl hmade hbel rfl rfl hr2 (za1 _ _) (by unfold maxLen; omega) (by omega) (by simp) (Nat.le_refl _) ?_))
 intro v1 w1 hown1 hbel1 _ _
 go_wp2
 go_ret
 exact ⟨_, rfl, by simpa using hown1, hbel1⟩
theorem clone_nil (n c : Nat) (w : World) : Calls Tryz.prog 165 #[.slice none n c] w fun e w' =>
 e = .returned (.slice none 0 0) ∧ w = w' := by
 have hq := fun W : World => Lib.run_eql_slice_nil (P := Tryz.prog) W 183 5 none n c 0 0 Tryz.underlying183
 go_enter Tryz.func165, Tryz.ntmps165
 go_wp2
 go_ret
 exact ⟨rfl, rfl⟩
end Go.Proofs.YtpbigfopmompfaaGreat
