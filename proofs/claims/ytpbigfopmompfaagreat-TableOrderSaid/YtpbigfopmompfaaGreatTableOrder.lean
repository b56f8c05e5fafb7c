import Derived.Test.YtpbigfopmompfaaGreatBegun13
/- Whichever order entries come in, the newest one stands. -/
namespace Go.Proofs.YtpbigfopmompfaaGreat.tableOrder
open Go.RowKit
set_option linter.unusedVariables false
/-- The i-th sequence. -/
def sq (n k i : Nat) : Nat := (i * 7 + k) % n
/-- The greatest of the first i. -/
def mx (n k : Nat) : Nat → Nat
  | 0 => 0
  | i + 1 => max (mx n k i) (sq n k i)
theorem sq_lt {n : Nat} (k i : Nat) (h : 0 < n) : sq n k i < n := Nat.mod_lt _ h
theorem mx_lt {n : Nat} (k : Nat) (h : 0 < n) : ∀ i, mx n k i < n
  | 0 => h
  | i + 1 => by have := mx_lt k h i; have := sq_lt k i h; unfold mx; omega
/-- What stands behind i entries, M the greatest of them. -/
structure Std (T : tab.Tb) (i M : Nat) : Prop where
  log : T.logical = 1
  start : i = 0 → T.f = [] ∧ T.next = 1 ∧ M = 0
  on : 0 < i → tab.getE T.f 0 = some ⟨M, 0, 0, 3, (M : Int) + 1, 1⟩ ∧ T.next = (M : Int) + 2
theorem Std.step {T : tab.Tb} {i M s : Nat} (h : Std T i M) (hM : M < 1000) (hs : s < 1000) : Std (T.putT 0 ((s : Int) + 1) 1 s 0 0 3) (i + 1) (max M s) := by
  have hr : tab.roleB 1 = true := rfl
  by_cases h0 : i = 0
  · obtain ⟨hf, hn, rfl⟩ := h.start h0
    have hb : T.putB 0 ((s : Int) + 1) 1 = true := by
      unfold tab.Tb.putB
      rw [h.log, hf, hr]
      simp [tab.getE]
    unfold tab.Tb.putT
    rw [hb, if_pos rfl]
    refine ⟨h.log, by omega, fun _ => ⟨?_, ?_⟩⟩
    · rw [tab.get_put_same]; simp
    · show tab.nextS T.next _ = _
      rw [hn]; unfold tab.nextS
      rw [if_pos (by omega), wrap64_in' _ (by omega) (by omega)]
      omega
  · obtain ⟨hg, hn⟩ := h.on (by omega)
    by_cases hlt : s < M
    · have hb : T.putB 0 ((s : Int) + 1) 1 = false := by
        unfold tab.Tb.putB
        rw [h.log, hg, hr]
        simp; omega
      unfold tab.Tb.putT
      rw [hb, if_neg (by decide)]
      exact ⟨h.log, by omega, fun _ => by rw [show max M s = M by omega]; exact ⟨hg, hn⟩⟩
    · have hb : T.putB 0 ((s : Int) + 1) 1 = true := by
        unfold tab.Tb.putB
        rw [h.log, hg, hr]
        simp; omega
      unfold tab.Tb.putT
      rw [hb, if_pos rfl, show max M s = s by omega]
      refine ⟨h.log, by omega, fun _ => ⟨?_, ?_⟩⟩
      · rw [tab.get_put_same]
      · show tab.nextS T.next _ = _
        rw [hn]; unfold tab.nextS
        by_cases e : (M : Int) + 2 ≤ (s : Int) + 1
        · rw [if_pos e, wrap64_in' _ (by omega) (by omega)]; omega
        · rw [if_neg e]; omega
theorem built_e (s : Int) : Tryz.prog.built 29 [(1, .int .i64 s), (2, .int .i64 1)] = some (enV 0 s 1 zero16).toArray := by kernel_rfl
set_option maxRecDepth 100000 in
set_option maxHeartbeats 4000000 in
theorem walk (a0 a1 : Int) (w : World) (w0 : (Lit.int .i64 a0).wf = true) (w1 : (Lit.int .i64 a1).wf = true) : Calls Tryz.prog 3 #[.int .i64 a0, .int .i64 a1] w fun e w' => e = .returned (.bool true) ∧ Below w.heap.size w w' := by
  obtain ⟨n, hn⟩ : ∃ n : Nat, (n : Int) = 1 + a0 % 20 := ⟨(1 + a0 % 20).toNat, by omega⟩
  have hn1 : 1 ≤ n ∧ n ≤ 20 := by omega
  obtain ⟨k, hk⟩ : ∃ k : Nat, (k : Int) = a1 % (n : Int) := ⟨(a1 % (n : Int)).toNat, by have := Int.emod_nonneg a1 (show (n : Int) ≠ 0 by omega); omega⟩
  have hkn : k < n := by have := Int.emod_lt_of_pos a1 (show (0 : Int) < n by omega); omega
  have e1 := norm_wrap a0 20 (by decide) (by decide)
  have e2 := norm_wrap a1 (n : Int) (by omega) (by omega)
  rw [← hk] at e2
  obtain ⟨n0, hn0⟩ : ∃ n0 : Nat, (n0 : Int) = a0 % 20 := ⟨(a0 % 20).toNat, by omega⟩
  rw [← hn0] at e1 hn
  obtain ⟨hn1, hn2⟩ := hn1
  have hna : (1 : Int) + (n0 : Int) = (n : Int) := hn.symm
  have hn19 : n0 ≤ 19 := by omega
  clear hn hn0 hk w0 w1
  go_enter Tryz.func3, Tryz.ntmps3
  go_wp2_with fail
  refine (begun13.begun13_any w).mono ?_
  rintro e w1 ⟨rfl, hb1⟩
  have HB1 := Lib.hid hb1
  clear hb1
  go_wp2_with fail
  have hN : Calls Tryz.prog 15 #[.int .i64 1] w1 _ := tab.new_any w1 1 (by decide)
  refine hN.mono ?_
  rintro e w2 ⟨g, mb, cb, rfl, ht, hg1, hg2, hg3, hb2⟩
  have HB2 := Lib.hid (HB1.out.trans (hb2.mono HB1.out.size))
  have hT0 : ∃ T, tab.TabAt w2 g mb cb (3 * 0) T ∧ Std T 0 0 := ⟨_, ht, rfl, fun _ => ⟨rfl, rfl, rfl⟩, fun h => by omega⟩
  have HT0 := Lib.hid hT0
  have HG := Lib.hid (show ∀ k, tab.TabF g mb cb k → w.heap.size ≤ k from fun k hk => by have := HB1.out.size; rcases hk with rfl | rfl | rfl <;> omega)
  clear hN ht hg1 hg2 hg3 hb2 HB1 hT0 e1
  have hsq : ∀ i, sq n k i < n := fun i => sq_lt k i (by omega)
  have hmx : ∀ i, mx n k i < n := fun i => mx_lt k (by omega) i
  have hrem : ∀ i : Nat, i < n → (((i : Int) * 7 + (k : Int)).tmod (n : Int)) = (sq n k i : Int) := fun i _ => by
    rw [Int.tmod_eq_emod_of_nonneg (by omega)]
    unfold sq
    rw [Int.natCast_emod, Int.natCast_add, Int.natCast_mul]; rfl
  have HSQ := Lib.hid hsq
  have HMX := Lib.hid hmx
  have HR := Lib.hid hrem
  clear hsq hmx hrem
  go_wp2_with fail
  go_loopw [8, 9] (fun vi _ wr => ∃ i : Nat, i ≤ n ∧ vi = .int .i64 i ∧ (∃ T, tab.TabAt wr g mb cb (3 * i) T ∧ Std T i (mx n k i)) ∧ Below w.heap.size w wr) (fun vi _ _ => n - (intOf vi).toNat)
  case atStart => exact ⟨0, by omega, rfl, HT0.out, HB2.out⟩
  case round =>
    obtain ⟨i, hi, rfl, ⟨T, hT, hS⟩, hbel⟩ := hrel
    by_cases hlt : i < n
    · have hltI : (i : Int) < (n : Int) := by omega
      have hr := HR.out i hlt
      have hs := HSQ.out i
      have hm := HMX.out i
      have HSt := Lib.hid (hS.step (s := sq n k i) (by omega) (by omega))
      have hmx1 : mx n k (i + 1) = max (mx n k i) (sq n k i) := rfl
      rw [← hmx1] at HSt
      generalize sq n k i = s at *
      have HP := Lib.hid (tab.put_any hT 0 ((s : Int) + 1) 1 s 0 0 3 zero16 rfl (begun13.wf0 (by decide)) (begun13.wf0 (by omega)) (begun13.wf0 (by omega)) (by omega))
      have HB := Lib.hid hbel
      clear hT hS hbel hm hmx1 HT0 HB2
      go_wp2_with (first | (refine wpList_build_l rfl 29 _ rfl _ rfl _ (built_e _) ?_))
      refine HP.out.mono ?_
      rintro e w3 ⟨rfl, hT3, hk3⟩
      have HT3 := Lib.hid hT3
      have HB3 := Lib.hid (HB.out.trans (hk3.below HB.out.size HG.out))
      clear hT3 hk3
      go_wp2_with fail
      go_roundw
      case rel => exact ⟨i + 1, by omega, by go_num, ⟨_, HT3.out, HSt.out⟩, HB3.out⟩
      case measure => simp [intOf]; omega
    · obtain rfl : i = n := by omega
      have HT := Lib.hid hT
      have HS := Lib.hid hS
      have HB := Lib.hid hbel
      clear hT hS hbel HT0 HB2
      go_wp2_with fail
      go_loop [10, 11] (fun vt vj => ∃ j : Nat, j ≤ i ∧ vj = .int .i64 j ∧ vt = .int .i64 (mx i k j)) (fun _ vj => i - (intOf vj).toNat)
      case atStart => exact ⟨0, by omega, rfl, rfl⟩
      case round =>
        obtain ⟨j, hj, rfl, rfl⟩ := hrel
        by_cases hlt2 : j < i
        · have hltI : (j : Int) < (i : Int) := by omega
          have hr := HR.out j hlt2
          have hs := HSQ.out j
          have hm := HMX.out j
          have hmx1 : max (mx i k j : Int) (sq i k j : Int) = (mx i k (j + 1) : Int) := by
            show _ = ((max (mx i k j) (sq i k j) : Nat) : Int)
            omega
          generalize sq i k j = s at *
          generalize mx i k j = m at *
          obtain ⟨m', hm'⟩ : ∃ m', m' = mx i k (j + 1) := ⟨_, rfl⟩
          rw [← hm'] at hmx1
          have HM' := Lib.hid hm'
          clear hm'
          go_wp2_with fail
          go_round
          case rel => exact ⟨j + 1, by omega, by go_num, by rw [HM'.out]⟩
          case measure => simp [intOf]; omega
        · obtain rfl : j = i := by omega
          obtain ⟨hg, hnx⟩ := HS.out.on (by omega)
          have hm := HMX.out j
          generalize mx j k j = m at *
          have HGt := Lib.hid (tab.get_any HT.out 0 (begun13.wf0 (by decide)))
          rw [hg] at HGt
          have HTk := Lib.hid (fun W (h : Below wr.heap.size wr W) => (tab.next_any (HT.out.below h)))
          rw [hnx] at HTk
          clear hg hnx
          go_wp2_with fail
          refine HGt.out.mono ?_
          rintro e w4 ⟨rfl, hb4⟩
          have hbr := hb4.alloc hb4.size (.cells tab.At6.zero.v.toArray 33)
          have hs4 := hb4.size
          clear hb4
          go_upto_region 18 with (first | (refine wpList_put_row rfl 33 (.tmp 12) (.tmp 64) rfl w4.heap.size (tab.At6.v ⟨(m : Int), 0, 0, 3, (m : Int) + 1, 1⟩) rfl rfl 33 _ (heap_new' w4 _ _ rfl) tab.atInfo rfl (tab.one_at _) ?_; intro w5 hU5; have hx := hU5.at_; have hb5 := hU5.below hbr hs4; clear hU5 hbr))
          have HTx := Lib.hid (HTk.out w5 hb5)
          have c0 : w5.cell? ⟨w4.heap.size, 0, none⟩ = some (.int .i64 (m : Int)) := by rw [blk_cell hx]; rfl
          have c4 : w5.cell? ⟨w4.heap.size, 4, none⟩ = some (.int .i64 ((m : Int) + 1)) := by rw [blk_cell hx]; rfl
          have HB5 := Lib.hid (HB.out.trans (hb5.mono HB.out.size))
          clear hx hb5
          go_wp2_with fail
          refine HTx.out.mono ?_
          rintro e w6 ⟨rfl, rfl⟩
          go_wp2_with fail
          go_ret
          exact ⟨rfl, HB5.out⟩
end Go.Proofs.YtpbigfopmompfaaGreat.tableOrder
