import Derived.Test.YtakekjbbbjmdpaaKoop
import Derived.RegionTactic
import Derived.ChangeAlike
import Derived.BigRegion
/- What a claim's proof leans on: RefStep, RefMore. -/
/- The contract of the reference's step of a sum. -/
namespace Go.Proofs.Ytakekjbbbjmdpaa
open Go.RowKit

theorem refstep_nat (s x : Nat) (w : World) (hs : s < 4294967296) (hx : x < 256) : Calls Try.prog 119 #[.int .u32 (s : Int), .int .u8 (x : Int)] w fun e w' => e = .returned (.int .u32 (kstep s x)) ∧ Below w.heap.size w w' := by
  go_enter Try.func119, Try.ntmps119
  go_wp2_with fail
  refine (bits_any _ _ _ (by omega) (by omega) (by omega) (by omega)).mono ?_
  rintro e w1 ⟨v1, rfl, hown0, hb1⟩
  have hr1 : w1.ownsRow w.heap.size 4 1 v1 32 (bools (bitsL s 32)) := hown0
  clear hown0
  obtain ⟨g1, c1, rfl, g1a, g1b, g1c, g1d⟩ := own_form hr1 (by omega)
  go_wp2_with fail
  refine (bits_any _ _ _ (by omega) (by omega) (by omega) (by omega)).mono ?_
  rintro e w2 ⟨v2, rfl, hown0, hb2⟩
  have hr2 : w2.ownsRow w1.heap.size 4 1 v2 8 (bools (bitsL x 8)) := hown0
  clear hown0
  obtain ⟨g2, c2, rfl, g2a, g2b, g2c, g2d⟩ := own_form hr2 (by omega)
  go_wp2_with fail
  refine (bits_any _ _ _ (by omega) (by omega) (by omega) (by omega)).mono ?_
  rintro e w3 ⟨v3, rfl, hown0, hb3⟩
  have hr3 : w3.ownsRow w2.heap.size 4 1 v3 32 (bools (bitsL poly 32)) := hown0
  clear hown0
  obtain ⟨g3, c3, rfl, g3a, g3b, g3c, g3d⟩ := own_form hr3 (by omega)
  have hz1 := hb1.size
  have hz2 := hb2.size
  have hz3 := hb3.size
  have h3 : Below w.heap.size w w3 := below_then (below_then hb1 hb2) hb3
  replace hr1 := own_below (own_below hr1 hb2) hb3
  replace hr2 := own_below hr2 hb3
  go_wp2_with fail
  go_loopw [8] (fun i wr => ∃ k : Nat, k ≤ 8 ∧ i = .int .i64 k ∧ wr.ownsRow w.heap.size 4 1 (.slice (some ⟨g1, 0, none⟩) 32 c1) 32 (bools (xorTo (bitsL s 32) (bitsL x 8) k)) ∧ wr.ownsRow w1.heap.size 4 1 (.slice (some ⟨g2, 0, none⟩) 8 c2) 8 (bools (bitsL x 8)) ∧ wr.ownsRow w2.heap.size 4 1 (.slice (some ⟨g3, 0, none⟩) 32 c3) 32 (bools (bitsL poly 32)) ∧ Below w.heap.size w wr) (fun i _ => 8 - (intOf i).toNat)
  case atStart => exact ⟨0, by omega, rfl, by rw [xorTo_zero]; exact hr1, hr2, hr3, h3⟩
  case round =>
    obtain ⟨k, hk, rfl, o1, o2, o3, hbel⟩ := hrel
    clear hr1 hr2 hr3 hb1 hb2 hb3 h3
    by_cases hlt : k < 8
    · have hlt' : (k : Int) < 8 := by omega
      have hlt2 : (k : Int) < 32 := by omega
      have q1 : wr.cell? ⟨g1, k, none⟩ = some (.bool ((bitsL s 32).getD k false)) := by
        rw [o1.cellAt k (by omega), bools, List.getElem?_map, xorTo_get _ _ _ _ (by rw [bitsL_length]; omega), if_neg (by omega)]; rfl
      have q2 : wr.cell? ⟨g2, k, none⟩ = some (.bool ((bitsL x 8).getD k false)) := by
        rw [o2.cellAt k (by omega), bools, List.getElem?_map, bitsL_get _ _ _ (by omega), bitsL_getD _ _ _ (by omega)]; rfl
      have q3 := o1.frozenAt k
      have HS := Lib.hid (xorTo_set (bitsL s 32) (bitsL x 8) k (by rw [bitsL_length]; omega))
      generalize (bitsL s 32).getD k false = a at q1 HS
      generalize (bitsL x 8).getD k false = b at q2 HS
      go_wp2
      go_region
      go_wp2
      go_roundw
      case rel =>
        refine ⟨k + 1, by omega, by go_num, ?_, ?_, ?_, ?_⟩
        · rw [← HS.out]
          have := (o1.stored k (.bool (a != b))).1
          rw [bools, List.map_set]
          exact this
        · exact own_far o2 (by simp [Value.ownBlock]; omega) _
        · exact own_far o3 (by simp [Value.ownBlock]; omega) _
        · exact (hbel.setCell (p := ⟨g1, k, none⟩) g1a _).drew
      case measure => simp [intOf]; omega
    · obtain rfl : k = 8 := by omega
      rw [xor_byte] at o1
      have hS := kstart_lt s x hs hx
      have HK : Hid (kstep s x = kiter 8 (s ^^^ (x * 16777216))) := rfl
      generalize s ^^^ (x * 16777216) = S at *
      clear o2
      rw [show ((8 : Nat) : Int) = 8 from rfl]
      go_wp2_with fail
      go_loopw [5, 9, 10, 11] (fun r i _ _ wq => ∃ k g c : Nat, k ≤ 8 ∧ i = .int .i64 k ∧ r = .slice (some ⟨g, 0, none⟩) 32 c ∧ 32 ≤ c ∧ c ≤ maxLen ∧ wq.ownsRow w.heap.size 4 1 r 32 (bools (bitsL (kiter k S) 32)) ∧ wq.ownsRow w2.heap.size 4 1 (.slice (some ⟨g3, 0, none⟩) 32 c3) 32 (bools (bitsL poly 32)) ∧ Below w.heap.size w wq) (fun _ i _ _ _ => 8 - (intOf i).toNat)
      case atStart => exact ⟨0, g1, c1, by omega, rfl, rfl, g1c, g1d, o1, o3, hbel⟩
      case round =>
        clear o1 o3 hbel
        obtain ⟨wo, rfl⟩ : ∃ wo : World, wo = wr := ⟨_, rfl⟩
        obtain ⟨k, g, c, hk, rfl, rfl, hc1, hc2, o1, o3, hbel⟩ := hrel
        by_cases hlt : k < 8
        · have hlt' : (k : Int) < 8 := by omega
          have ht := kiter_lt k S hS
          have HS : Hid (kiter (k + 1) S = kround (kiter k S)) := rfl
          generalize kiter k S = t at *
          have hsz := hbel.size
          have hnil : wo.ownsRow wo.heap.size 4 1 (.slice none 0 0) 0 [] := World.ownsRow_nil _ _ _ _
          have hrd : Rd wo wo.heap.size (some ⟨g, 1, none⟩) 31 (bools ((bitsL t 32).drop 1)) := by
            have := (Rd.of_own o1).cut (k := 1) (cap := c) (by omega) (by omega)
            rw [if_neg (by omega)] at this
            simpa [bools, Addr.add] using this
          have hg3 : g3 < wo.heap.size := (o3.lt g3 rfl).2
          have HX := Lib.hid (shift_one t)
          cases hb : t.testBit 31 with
          | false =>
            have q1 : wo.cell? ⟨g, 0, none⟩ = some (.bool false) := by
              rw [o1.cellAt 0 (by omega), bools, List.getElem?_map, bitsL_get _ _ _ (by omega), ← hb]; rfl
            have HR := Lib.hid (show kround t = 2 * t % 4294967296 by rw [kround, hb]; rfl)
            clear hb
            go_wp2_with (first
              | (at_builtin; refine wpList_appendN rfl (.const (.slice none 0 0)) (.tmp 43) 59 rfl 4 _ _ Try.underlying59 boolInfo rfl hnil hbel rfl rfl hrd (one_bools _) (by unfold maxLen; omega) (by omega) (Nat.le_refl _) hsz ?_; intro v5 w5 hown5 hbel5 hgr5 _; have o35 := o3.kept hgr5 (Or.inr (by simp [Value.ownBlock])); have hsz5 := hgr5.size)
              | (at_builtin; refine wpList_append1 rfl (.tmp 44) (.tmp 45) 59 rfl 4 _ _ Try.underlying59 boolInfo rfl hown5 hbel5 rfl rfl rfl (by unfold maxLen; omega) (by omega) hsz5 hsz ?_; intro v6 w6 hown6 hbel6 hgr6 _; have o36 := (o35.alloc _).kept hgr6 (Or.inr (fun e => by have := (hown5.lt g3 e.symm).1; omega))))
            have o6 : w6.ownsRow wo.heap.size 4 1 v6 32 (bools (bitsL (2 * t % 4294967296) 32)) := by
              rw [← HX.out]; simpa [bools] using hown6
            obtain ⟨g6, c6, rfl, g6a, g6b, g6c, g6d⟩ := own_form o6 (by omega)
            clear hown5 hown6 hgr5 hgr6 o35 hbel5 q1 hrd hnil o1 o3
            refine wp_loop_rounds 1 ?_
            rw [rounds_succ]
            go_wp2
            go_roundw
            case rel => exact ⟨k + 1, g6, c6, by omega, by go_num, rfl, g6c, g6d, by rw [HS.out, HR.out]; exact own_base o6 hsz, o36, hbel6⟩
            case measure => simp [intOf]; omega
          | true =>
            have q1 : wo.cell? ⟨g, 0, none⟩ = some (.bool true) := by
              rw [o1.cellAt 0 (by omega), bools, List.getElem?_map, bitsL_get _ _ _ (by omega), ← hb]; rfl
            have HR := Lib.hid (show kround t = (2 * t % 4294967296) ^^^ poly by rw [kround, hb]; rfl)
            clear hb
            go_wp2_with (first
              | (at_builtin; refine wpList_appendN rfl (.const (.slice none 0 0)) (.tmp 43) 59 rfl 4 _ _ Try.underlying59 boolInfo rfl hnil hbel rfl rfl hrd (one_bools _) (by unfold maxLen; omega) (by omega) (Nat.le_refl _) hsz ?_; intro v5 w5 hown5 hbel5 hgr5 _; have o35 := o3.kept hgr5 (Or.inr (by simp [Value.ownBlock])); have hsz5 := hgr5.size)
              | (at_builtin; refine wpList_append1 rfl (.tmp 44) (.tmp 45) 59 rfl 4 _ _ Try.underlying59 boolInfo rfl hown5 hbel5 rfl rfl rfl (by unfold maxLen; omega) (by omega) hsz5 hsz ?_; intro v6 w6 hown6 hbel6 hgr6 _; have o36 := (o35.alloc _).kept hgr6 (Or.inr (fun e => by have := (hown5.lt g3 e.symm).1; omega))))
            have o6 : w6.ownsRow wo.heap.size 4 1 v6 32 (bools (bitsL (2 * t % 4294967296) 32)) := by
              rw [← HX.out]; simpa [bools] using hown6
            obtain ⟨g6, c6, rfl, g6a, g6b, g6c, g6d⟩ := own_form o6 (by omega)
            clear hown5 hown6 hgr5 hgr6 o35 hbel5 q1 hrd hnil o1 o3
            generalize 2 * t % 4294967296 = T at *
            go_loopw [11] (fun i wq => ∃ m : Nat, m ≤ 32 ∧ i = .int .i64 m ∧ wq.ownsRow wo.heap.size 4 1 (.slice (some ⟨g6, 0, none⟩) 32 c6) 32 (bools (xorTo (bitsL T 32) (bitsL poly 32) m)) ∧ wq.ownsRow w2.heap.size 4 1 (.slice (some ⟨g3, 0, none⟩) 32 c3) 32 (bools (bitsL poly 32)) ∧ Below w.heap.size w wq) (fun i _ => 32 - (intOf i).toNat)
            case atStart => exact ⟨0, by omega, rfl, by rw [xorTo_zero]; exact o6, o36, hbel6⟩
            case round =>
              clear o6 o36 hbel6
              obtain ⟨m, hm, rfl, p1, p3, pbel⟩ := hrel
              by_cases hlt2 : m < 32
              · have hlt2' : (m : Int) < 32 := by omega
                have r1 : wr.cell? ⟨g6, m, none⟩ = some (.bool ((bitsL T 32).getD m false)) := by
                  rw [p1.cellAt m (by omega), bools, List.getElem?_map, xorTo_get _ _ _ _ (by rw [bitsL_length]; omega), if_neg (by omega)]; rfl
                have r3 : wr.cell? ⟨g3, m, none⟩ = some (.bool ((bitsL poly 32).getD m false)) := by
                  rw [p3.cellAt m (by omega), bools, List.getElem?_map, bitsL_get _ _ _ (by omega), bitsL_getD _ _ _ (by omega)]; rfl
                have r4 := p1.frozenAt m
                have HM := Lib.hid (xorTo_set (bitsL T 32) (bitsL poly 32) m (by rw [bitsL_length]; omega))
                generalize (bitsL T 32).getD m false = a at r1 HM
                generalize (bitsL poly 32).getD m false = b at r3 HM
                go_wp2
                go_region
                go_wp2
                go_roundw
                case rel =>
                  refine ⟨m + 1, by omega, by go_num, ?_, ?_, ?_⟩
                  · rw [← HM.out]
                    have := (p1.stored m (.bool (a != b))).1
                    rw [bools, List.map_set]
                    exact this
                  · exact own_far p3 (by simp [Value.ownBlock]; omega) _
                  · exact (pbel.setCell (p := ⟨g6, m, none⟩) (by show w.heap.size ≤ g6; omega) _).drew
                case measure => simp [intOf]; omega
              · obtain rfl : m = 32 := by omega
                rw [xor_all] at p1
                go_wp2
                go_roundw
                case rel => exact ⟨k + 1, g6, c6, by omega, by go_num, rfl, g6c, g6d, by rw [HS.out, HR.out]; exact own_base p1 hsz, p3, pbel⟩
                case measure => simp [intOf]; omega
        · obtain rfl : k = 8 := by omega
          have ht := kiter_lt 8 S hS
          have HN := Lib.hid (numN_bitsL (kiter 8 S) 32 ht)
          generalize kiter 8 S = t at *
          have hrd := Rd.of_own o1
          go_wp2_with (go_at_call 46; refine (num_any _ _ _ _ _ _ hrd (by omega)).mono ?_; rw [HN.out]; rintro e w' ⟨rfl, rfl⟩)
          go_ret
          exact ⟨by rw [HK.out]; rfl, hbel⟩
theorem refstep_any (s x : Int) (w : World) (hs0 : 0 ≤ s) (hs : s < 4294967296) (hx0 : 0 ≤ x) (hx : x < 256) : Calls Try.prog 119 #[.int .u32 s, .int .u8 x] w fun e w' => e = .returned (.int .u32 (kstep s.toNat x.toNat)) ∧ Below w.heap.size w w' := by
  obtain ⟨S, rfl⟩ := Int.eq_ofNat_of_zero_le hs0
  obtain ⟨X, rfl⟩ := Int.eq_ofNat_of_zero_le hx0
  exact refstep_nat S X w (by omega) (by omega)
end Go.Proofs.Ytakekjbbbjmdpaa
/- The contracts of the reference's sum, narrowing and turning. -/
namespace Go.Proofs.Ytakekjbbbjmdpaa
open Go.RowKit

theorem refsum_any (A : Option Addr) (n c B : Nat) (l : List Nat) (w : World) (hr : Rd w B A n (nats .u8 l)) (hB : B ≤ w.heap.size) (hb : ∀ x ∈ l, x < 256) (hnm : n ≤ maxLen) : Calls Try.prog 84 #[.slice A n c] w fun e w' => e = .returned (.int .u32 (kof l)) ∧ Below w.heap.size w w' := by
  have hl : l.length = n := by have := hr.1; rwa [nats_length] at this
  unfold maxLen at hnm
  go_enter Try.func84, Try.ntmps84
  go_wp2
  go_loopw [3, 4] (fun a i wr => ∃ k : Nat, k ≤ n ∧ i = .int .i64 k ∧ a = .int .u32 (ksum 4294967295 (l.take k)) ∧ Below w.heap.size w wr) (fun _ i _ => n - (intOf i).toNat)
  case atStart => exact ⟨0, by omega, rfl, rfl, Below.refl _ _⟩
  case round =>
    obtain ⟨k, hk, rfl, rfl, hbel⟩ := hrel
    by_cases hlt : k < n
    · have hrw : Rd wr B A n (nats .u8 l) := hr.below hbel hB
      obtain ⟨b, o, rfl, hb2, hc⟩ := hrw.at_ hlt
      rw [nats_at _ l k (by omega)] at hc
      have hx : l[k] < 256 := hb _ (List.getElem_mem _)
      have HS := Lib.hid (show ksum 4294967295 (l.take (k + 1)) = kstep (ksum 4294967295 (l.take k)) l[k] by rw [take_snoc' l k (by omega), ksum_snoc])
      have hlt32 := ksum_lt (l.take k) 4294967295 (by decide) fun x hx => hb x (List.mem_of_mem_take hx)
      generalize l[k]'(by omega) = x at hc hx HS
      generalize ksum 4294967295 (l.take k) = t at *
      go_wp2_with (go_at_call 119; go_must (refine (refstep_any _ _ _ (by omega) (by omega) (by omega) (by omega)).mono ?_; rintro e w1 ⟨rfl, hb1⟩))
      go_roundw
      case rel => exact ⟨k + 1, by omega, by go_num, by rw [HS.out], below_then hbel hb1⟩
      case measure => simp [intOf]; omega
    · obtain rfl : k = n := by omega
      have E := Lib.hid (show ksum 4294967295 (l.take k) = kof l by rw [List.take_of_length_le (by omega)]; rfl)
      go_wp2
      go_ret
      exact ⟨by rw [← E.out]; rfl, hbel⟩

end Go.Proofs.Ytakekjbbbjmdpaa
