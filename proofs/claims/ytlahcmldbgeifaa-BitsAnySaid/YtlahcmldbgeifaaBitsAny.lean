import Derived.Test.YtlahcmldbgeifaaBegun
import Derived.Test.YtlahcmldbgeifaaRefMore
/- BitsAny: any bytes, read by any widths; what is not there is not read, and nothing moves; no condition. -/
namespace Go.Proofs.Ytlahcmldbgeifaa.bitsAny
open Go.RowKit
set_option linter.unusedVariables false
theorem bytesOf {w : World} {A : Option Addr} {n c : Nat} {z : List Int} (h : IsRow .u8 w A n c z) : ∃ l : List Nat, Rd w w.heap.size A n (nats .u8 l) ∧ (∀ x ∈ l, x < 256) ∧ l.length = n ∧ n ≤ c ∧ c ≤ maxLen := by
  obtain ⟨hr, hnc, hcm, hlen, hwf⟩ := h.rd
  rw [ints_nats fun k hk => (wf_u8 (hwf k hk)).1] at hr
  refine ⟨_, hr, ?_, by simpa using hlen, hnc, hcm⟩
  intro k hk
  obtain ⟨j, hj, rfl⟩ := List.mem_map.1 hk
  have := wf_u8 (hwf j hj)
  omega
theorem lt_size {w : World} {C g : Nat} {l : List Nat} {a : Nat} (h : IsIn w C g l a) : C ≤ w.heap.size := by
  obtain ⟨A, c, hg, -, hC⟩ := h
  have := lt_of_cells hg
  omega
set_option maxRecDepth 100000 in
set_option maxHeartbeats 2000000 in
theorem walk (A : Option Addr) (n c : Nat) (z : List Int) (A1 : Option Addr) (n1 c1 : Nat) (z1 : List Int) (w : World) (w0 : IsRow .u8 w A n c z) (w1 : IsRow .i64 w A1 n1 c1 z1) :
    Calls Try.prog 6 #[.slice A n c, .slice A1 n1 c1] w fun e w' => e = .returned (.bool true) ∧ Below w.heap.size w w' := by
  obtain ⟨l0, hr, hb0, hl0, hnc, hcm⟩ := bytesOf w0
  obtain ⟨hs, hnc1, hcm1, hlen1, hwf1⟩ := w1.rd
  generalize z1.take n1 = ws at *
  clear w0 w1
  have hb : ∀ x ∈ l0.take 60, x < 256 := fun x hx => hb0 x (List.mem_of_mem_take hx)
  have hql : (l0.take 60).length = min n 60 := by rw [List.length_take]; omega
  have hq60 : min n 60 ≤ 60 := by omega
  unfold maxLen at hcm1
  go_enter Try.func6, Try.ntmps6
  go_wp2_with fail
  refine (begun_any _).mono ?_
  rintro e w1 ⟨rfl, hb1⟩
  have hr1 := hr.below hb1 (Nat.le_refl _)
  go_wp2_with fail
  refine (short_any A n c _ l0 60 _ hr1 hnc hcm (by omega) (by omega)).mono ?_
  rintro e w2 ⟨v, rfl, hown, hb2⟩
  have hb3 := below_then hb1 hb2
  obtain ⟨A', c', rfl, hc1, hc2⟩ := own_slice hown
  rw [show (60 : Int).toNat = 60 from rfl] at *
  have hr2 := Rd.of_own hown
  clear hr hr1 hown hnc hcm hb1 hb2 hl0 hb0
  generalize l0.take 60 = l at *
  generalize min n 60 = q at *
  go_wp2_with fail
  refine (of_any A' q c' _ l _ hr2 (Nat.le_refl _) hb (by omega)).mono ?_
  rintro e w3 ⟨v, rfl, hown3, hb4⟩
  have hb5 := below_then hb3 hb4
  obtain ⟨A6, c6, rfl, hc3, hc4⟩ := own_slice hown3
  have hr6 := Rd.of_own hown3
  have hr3 := (hr2.below hb4 (Nat.le_refl _)).mono hb4.size
  clear hown3 hb3 hb4 hr2
  go_wp2_with fail
  refine (read_any A' q c' _ l _ hr3 (Nat.le_refl _)).mono ?_
  rintro e w4 ⟨rfl, hin, hb6⟩
  have hb7 := below_then hb5 hb6
  have hr7 := hr6.below hb6 (Nat.le_refl _)
  have hge := hb5.size
  generalize w3.heap.size = g at *
  clear hb5 hb6 hr6 hr3
  go_wp2_with fail
  go_loopw [8, 9] (fun at_ i wr => ∃ k a : Nat, k ≤ n1 ∧ k ≤ 40 ∧ a ≤ 8 * q ∧ at_ = .int .i64 a ∧ i = .int .i64 k ∧ IsIn wr g g l a ∧ Rd wr g A6 (8 * q) (bools (ofN l)) ∧ Below w.heap.size w wr) (fun _ i _ => 40 - (intOf i).toNat)
  case atStart => exact ⟨0, 0, by omega, by omega, by omega, rfl, rfl, hin, hr7, hb7⟩
  case round =>
    obtain ⟨k, a, hk1, hk2, ha, rfl, rfl, hin, hr6, hbel⟩ := hrel
    clear hr7 hb7
    by_cases hlt : k < n1
    · by_cases hlt2 : k < 40
      · have i1 : (k : Int) < (n1 : Int) := by omega
        have i2 : (k : Int) < 40 := by omega
        obtain ⟨b, o, rfl, hb2, hc⟩ := (hs.below hbel (Nat.le_refl _)).at_ hlt
        rw [ints_at' _ ws k (by omega)] at hc
        generalize ws[k]'(by omega) = W at hc
        by_cases hyes : 1 ≤ W ∧ W ≤ 64 ∧ W ≤ 8 * (q : Int) - a
        · obtain ⟨y1, y2, y3⟩ := hyes
          obtain ⟨V, rfl⟩ := Int.eq_ofNat_of_zero_le (show 0 ≤ W by omega)
          have hV1 : 1 ≤ V := by omega
          have hV2 : V ≤ 64 := by omega
          have hVa : a + V ≤ 8 * q := by omega
          obtain ⟨b6, o6, rfl, hb6, -⟩ := hr6.at_ (show a < 8 * q by omega)
          have hcut := (hr6.cut (k := a) (cap := c6) (by omega) hc3).take (k := V) (by omega)
          rw [if_neg (by omega)] at hcut
          have hlist : ((bools (ofN l)).drop a).take V = bools (cutB (ofN l) a V) := by
            rw [bools, bools, cutB, List.map_take, List.map_drop]
          rw [hlist] at hcut
          simp only [Option.map_some, Addr.add_lit] at hcut
          have j1 : (a : Int) ≤ (a : Int) + (V : Int) := by omega
          have j2 : (a : Int) + (V : Int) ≤ (c6 : Int) := by omega
          have j3 : ((a : Int) == (c6 : Int)) = false := by simp; omega
          unfold maxLen at hc4
          go_wp2_with fail
          refine (get_yes g g l a V _ hin hb (by omega) hV1 hV2 (by omega)).mono ?_
          rintro e w5 ⟨rfl, hin5, hk5⟩
          have hcut5 := hcut.keep hk5 (lt_size hin) (by intro i hi e; omega)
          have hr5 := hr6.keep hk5 (lt_size hin) (by intro i hi e; omega)
          have hb5 := hbel.trans (hk5.below hbel.size (by rintro i rfl; exact hge))
          clear hin hcut hr6 hbel hlist
          go_wp2_with fail
          refine (num_any (some ⟨b6, o6 + a, none⟩) V (c6 - a) g _ _ hcut5 hV2).mono ?_
          generalize numN (cutB (ofN l) a V) = NV at *
          rintro e w6 ⟨rfl, rfl⟩
          go_wp2_with fail
          refine (left_any g g l (a + V) _ hin5 (by omega) (by omega)).mono ?_
          rw [hql, show (8 * (q : Int) - ((a + V : Nat) : Int)) = 8 * (q : Int) - ((a : Int) + (V : Int)) by omega]
          rintro e w6 ⟨rfl, k6, rfl⟩
          go_wp2_with fail
          go_roundw
          case rel => exact ⟨k + 1, a + V, by omega, by omega, by omega, by go_num, by go_num, hin5.drewN _, hr5.drewN _, below_drewN hb5 _⟩
          case measure => simp [intOf]; omega
        · go_wp2_with fail
          refine (get_no g g l a W _ hin (by omega) (by omega) (by omega)).mono ?_
          rintro e w5 ⟨rfl, k5, rfl⟩
          have e1 : decide (1 ≤ W) = false ∨ (1 ≤ W ∧ decide (W ≤ 64) = false) ∨ (1 ≤ W ∧ W ≤ 64 ∧ decide (W ≤ 8 * (q : Int) - (a : Int)) = false) := by
            by_cases h1 : 1 ≤ W
            · by_cases h2 : W ≤ 64
              · exact .inr (.inr ⟨h1, h2, decide_eq_false (by omega)⟩)
              · exact .inr (.inl ⟨h1, decide_eq_false h2⟩)
            · exact .inl (decide_eq_false h1)
          rcases e1 with e1 | ⟨e0, e1⟩ | ⟨e0, e2, e1⟩
          all_goals
            go_wp2_with fail
          all_goals
            refine (left_any g g l a _ (hin.drewN k5) (by omega) (by omega)).mono ?_
            rw [hql]; rintro e w6 ⟨rfl, k6, rfl⟩
            go_wp2_with fail
            go_roundw
            case rel => exact ⟨k + 1, a, by omega, by omega, ha, rfl, by go_num, hin.drewN _, hr6.drewN _, below_drewN hbel _⟩
            case measure => simp [intOf]; omega
      · obtain rfl : k = 40 := by omega
        rw [show ((40 : Nat) : Int) = 40 from rfl]
        have d2 : decide ((40 : Int) < 40) = false := by decide
        go_wp2_with fail
        go_ret
        exact ⟨rfl, hbel⟩
    · obtain rfl : k = n1 := by omega
      have d2 : decide ((k : Int) < (k : Int)) = false := by simp
      go_wp2_with fail
      go_ret
      exact ⟨rfl, hbel⟩
end Go.Proofs.Ytlahcmldbgeifaa.bitsAny
