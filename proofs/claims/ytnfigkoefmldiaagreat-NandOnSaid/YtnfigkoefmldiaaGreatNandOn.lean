import Derived.Test.YtnfigkoefmldiaaGreatBunR
import Derived.Test.YtnfigkoefmldiaaGreatClean
/- NandOn: a cut that did not come is forgotten when power comes; without power nothing is done; no condition. -/
namespace Go.Proofs.YtnfigkoefmldiaaGreat.nandOn
open Go.RowKit
open Go.Proofs.YtnfigkoefmldiaaGreat.nand
set_option linter.unusedVariables false
structure On (N : Nd) (i : Nat) : Prop where
  fine : Fine N 3 8 4
  good : ∀ d b, (N.blk d b).fails = false
  worn : ∀ d b, (N.blk d b).worn ≤ i
  ops : N.ops = i
def M1 (k : Nat) : Nd := (Nd.new 3 8 4).cutAt k 3
def M2 (k : Nat) : Nd := (M1 k).cutAt (-1) 0
theorem on_plain (k : Nat) : On (M1 k).on 0 ∧ On (M2 k).on 0 := by
  have e1 : M1 k = { Nd.new 3 8 4 with cuts := true, left := (k : Int), keep := 3, off := false } := by
    simp [M1, Nd.cutAt, Nd.new]
    omega
  have e2 : M2 k = { Nd.new 3 8 4 with cuts := false, left := -1, keep := 0, off := true } := by
    simp [M2, e1, Nd.cutAt, Nd.new]
    try decide
  rw [e1, e2]
  exact ⟨⟨⟨⟨rfl, rfl, rfl⟩, rfl, rfl, rfl, rfl⟩, fun _ _ => rfl, fun _ _ => Nat.zero_le _, rfl⟩, ⟨⟨⟨rfl, rfl, rfl⟩, rfl, rfl, rfl, rfl⟩, fun _ _ => rfl, fun _ _ => Nat.zero_le _, rfl⟩⟩
theorem off_plain (k : Nat) : (M2 k).off = true ∧ (M2 k).ops = 0 ∧ (M2 k).broken = 0 ∧ ((M2 k).blk 0 0).worn = 0 := by
  have e1 : M1 k = { Nd.new 3 8 4 with cuts := true, left := (k : Int), keep := 3, off := false } := by
    simp [M1, Nd.cutAt, Nd.new]
    omega
  have e2 : M2 k = { Nd.new 3 8 4 with cuts := false, left := -1, keep := 0, off := true } := by
    simp [M2, e1, Nd.cutAt, Nd.new]
    try decide
  rw [e2]
  exact ⟨rfl, rfl, rfl, rfl⟩
theorem off_prog {N : Nd} (h : N.off = true) (x : Ad) (p : List Nat) : N.programE x p = 9 ∧ N.programN x p = N := by
  have hr : N.refuses x = 9 := by simp [Nd.refuses, h]
  exact ⟨by simp [Nd.programE, hr], by simp [Nd.programN, hr]⟩
theorem off_erase {N : Nd} (h : N.off = true) (d b : Int) : N.eraseE d b = 9 ∧ N.eraseN d b = N := by
  have hr : N.refuses (key d b) = 9 := by simp [Nd.refuses, h]
  exact ⟨by simp [Nd.eraseE, hr], by simp [Nd.eraseN, hr]⟩
theorem On.erase {N : Nd} {i d b : Nat} (h : On N i) (hd : d < 3) (hb : b < 8) : N.eraseE d b = 0 ∧ On (N.eraseN d b) (i + 1) := by
  obtain ⟨e, n⟩ := h.fine.erase hd hb (by omega) (h.good d b)
  refine ⟨e, n.clean, fun i' j => ?_, fun i' j => ?_, by rw [show (N.eraseN d b).ops = _ from n.ops, h.ops]⟩
  · by_cases e1 : i' = d ∧ j = b
    · rw [e1.1, e1.2, n.at_]; exact h.good d b
    · rw [n.other e1]; exact h.good i' j
  · by_cases e1 : i' = d ∧ j = b
    · rw [e1.1, e1.2, n.at_]; have := h.worn d b; simp only; omega
    · rw [n.other e1]; have := h.worn i' j; omega
set_option maxRecDepth 100000 in
set_option maxHeartbeats 8000000 in
theorem walk (a0 : Int) (a1 : Bool) (w : World) (w0 : (Lit.int .i64 a0).wf = true) :
    Calls Tryz.prog 13 #[.int .i64 a0, .bool a1] w fun e w' => e = .returned (.bool true) ∧ Below w.heap.size w w' := by
  clear w0
  go_enter Tryz.func13, Tryz.ntmps13
  go_wp2_with fail
  refine (begun7_any _).mono ?_
  rintro e w1 ⟨rfl, hb1⟩
  have HB1 := Lib.hid hb1
  clear hb1
  by_cases hbad : a0 < 0 ∨ 20 < a0
  · rcases hbad with h | h
    all_goals
      go_wp2_with fail
      go_ret
      exact ⟨rfl, HB1.out⟩
  obtain ⟨k, rfl⟩ := Int.eq_ofNat_of_zero_le (show 0 ≤ a0 by omega)
  have hk : k ≤ 20 := by omega
  clear hbad
  have q1 : decide ((k : Int) < 0) = false := by simp
  have q2 : decide (20 < (k : Int)) = false := by simp; omega
  go_wp2_with fail
  refine (made_any w1).mono ?_
  rintro e w2 ⟨g, rfl, hn2, hb2⟩
  obtain ⟨base, hbase⟩ : ∃ base, base = w1.heap.size := ⟨_, rfl⟩
  rw [← hbase] at hn2
  have HLB := Lib.hid (show w.heap.size ≤ base by rw [hbase]; exact HB1.out.size)
  have HN2 := Lib.hid hn2
  have HB2 := Lib.hid (HB1.out.trans (hb2.mono HB1.out.size))
  clear hn2 hb2 HB1 hbase
  go_wp2_with fail
  refine (cut_in (show NandIn _ _ _ 0 (Nd.new 3 8 4) from HN2.out) (k : Int) 3 (by omega)).mono ?_
  rintro e w3 ⟨rfl, hn3, hf3⟩
  replace hn3 : NandIn w3 base g (0) (M1 k) := by rw [show (M1 k) = ((Nd.new 3 8 4).cutAt (k : Int) 3) from rfl]; exact hn3
  have HN3 := Lib.hid hn3
  have HB3 := Lib.hid (hf3.below HB2.out HLB.out (Nat.le_refl _))
  clear hn3 hf3 HN2 HB2 
  cases a1 with
  | true =>
    go_wp2_with fail
    refine (cut_in (show NandIn _ _ _ 0 (M1 k) from HN3.out) (-1) 0 (by omega)).mono ?_
    rintro e w4 ⟨rfl, hn4, hf4⟩
    replace hn4 : NandIn w4 base g (0) (M2 k) := by rw [show (M2 k) = ((M1 k).cutAt (-1) 0) from rfl]; exact hn4
    have HN4 := Lib.hid hn4
    have HB4 := Lib.hid (hf4.below HB3.out HLB.out (Nat.le_refl _))
    clear hn4 hf4 HN3 HB3 
    obtain ⟨o1, o2, o3, o4⟩ := off_plain k
    have HOF := Lib.hid (And.intro o1 (And.intro o2 (And.intro o3 o4)))
    clear o1 o2 o3 o4
    have HP := Lib.hid (show (!(M2 k).off) = false by rw [HOF.out.1]; rfl)
    go_wp2_with fail
    refine (power_in (show NandIn _ _ _ 0 (M2 k) from HN4.out)).mono ?_
    rw [HP.out]
    rintro e wq ⟨rfl, rfl⟩
    go_wp2_with (first | (refine want_build 32 _ rfl [] rfl _ ad_0 (by rfl) ?_) | (refine want_build 34 _ rfl [] rfl _ built_pz (by rfl) ?_))
    refine (program_any (show NandIn _ _ _ 0 (M2 k) from HN4.out) ⟨0, 0, 0⟩ ⟨rfl, rfl, rfl⟩ zero32 zero32_ok.1 zero32_ok.2 (by rw [HOF.out.2.1]; omega) (by rw [HOF.out.2.2.1]; omega)).mono ?_
    rw [(off_prog HOF.out.1 _ _).1, (off_prog HOF.out.1 _ _).2]
    rintro e w5 ⟨rfl, hn5, hf5⟩
    have HN5 := Lib.hid hn5
    have HB5 := Lib.hid (hf5.below HB4.out HLB.out (Nat.le_refl _))
    clear hn5 hf5 HN4 HB4 
    go_wp2_with fail
    refine (erase_any (show NandIn _ _ _ 0 (M2 k) from HN5.out) 0 0 ⟨rfl, rfl, rfl⟩ (by rw [HOF.out.2.1]; omega) (by rw [show (0 : Int).toNat = 0 from rfl, HOF.out.2.2.2]; omega) (by omega)).mono ?_
    rw [(off_erase HOF.out.1 _ _).1, (off_erase HOF.out.1 _ _).2]
    rintro e w6 ⟨rfl, hn6, hf6⟩
    have HN6 := Lib.hid hn6
    have HB6 := Lib.hid (hf6.below HB5.out HLB.out (Nat.le_refl _))
    clear hn6 hf6 HN5 HB5 
    have HO := Lib.hid (show ((M2 k).ops : Int) = 0 by rw [HOF.out.2.1]; rfl)
    go_wp2_with fail
    refine (ops_in (show NandIn _ _ _ 0 (M2 k) from HN6.out)).mono ?_
    rw [HO.out]
    rintro e wq ⟨rfl, rfl⟩
    go_wp2_with fail
    refine (on_in (show NandIn _ _ _ 0 (M2 k) from HN6.out)).mono ?_
    rintro e w7 ⟨rfl, hn7, hf7⟩
    have HN7 := Lib.hid hn7
    have HB7 := Lib.hid (hf7.below HB6.out HLB.out (Nat.le_refl _))
    clear hn7 hf7 HN6 HB6 
    have HON := Lib.hid (on_plain k).2
    generalize (M2 k).on = Mx at *
    clear HO HP HOF
    go_wp2_with fail
    go_loopw [7] (fun i wr => ∃ (m : Nat) (N : Nd), m ≤ 20 ∧ i = .int .i64 m ∧ On N m ∧ NandIn wr base g 0 N ∧ Below w.heap.size w wr) (fun i _ => 20 - (intOf i).toNat)
    case atStart => exact ⟨0, _, by omega, rfl, HON.out, HN7.out, HB7.out⟩
    case round =>
      clear HON HN7 HB7
      obtain ⟨m, N, hm, rfl, hon, hnd, hbl⟩ := hrel
      by_cases hlt : m < 20
      · have hltI : (m : Int) < 20 := by omega
        have e3 : (m : Int) % 3 = ((m % 3 : Nat) : Int) := rfl
        have e8 : (m : Int) % 8 = ((m % 8 : Nat) : Int) := rfl
        obtain ⟨d, hd⟩ : ∃ d, d = m % 3 := ⟨_, rfl⟩
        obtain ⟨b, hb⟩ : ∃ b, b = m % 8 := ⟨_, rfl⟩
        rw [← hd] at e3
        rw [← hb] at e8
        have hd3 : d < 3 := by omega
        have hb8 : b < 8 := by omega
        obtain ⟨pe, hon2⟩ := hon.erase hd3 hb8
        have HBD := Lib.hid (show N.ops ≤ 1000000 ∧ (N.blk (d : Int).toNat (b : Int).toNat).worn ≤ 1000000 from ⟨by rw [hon.ops]; omega, by have := hon.worn d b; simp only [Int.toNat_natCast]; omega⟩)
        have HON := Lib.hid hon2
        have HPE := Lib.hid pe
        have HN5 := Lib.hid hnd
        have HB5 := Lib.hid hbl
        have HDB := Lib.hid (And.intro hd3 hb8)
        clear hon hon2 hnd hbl pe hd hb hd3 hb8
        go_wp2_with fail
        refine (erase_any (show NandIn _ _ _ 0 (N) from HN5.out) (d : Int) (b : Int) (ad_wf (by have := HDB.out; omega) (by have := HDB.out; omega) (by omega)) HBD.out.1 HBD.out.2 (by omega)).mono ?_
        rw [HPE.out]
        rintro e w6 ⟨rfl, hn6, hf6⟩
        replace hn6 : NandIn w6 base g (0) (N.eraseN (d : Int) (b : Int)) := by rw [show (N.eraseN (d : Int) (b : Int)) = ((N).eraseN (d : Int) (b : Int)) from rfl]; exact hn6
        have HN6 := Lib.hid hn6
        have HB6 := Lib.hid (hf6.below HB5.out HLB.out (Nat.le_refl _))
        clear hn6 hf6 HN5 HB5 
        go_wp2_with fail
        go_roundw
        case rel => exact ⟨m + 1, _, by omega, by go_num, HON.out, HN6.out, HB6.out⟩
        case measure => simp [intOf]; omega
      · obtain rfl : m = 20 := by omega
        have HO := Lib.hid (show (N.ops : Int) = 20 by rw [hon.ops]; rfl)
        have HP := Lib.hid (show (!N.off) = true by rw [hon.fine.off]; rfl)
        have HN5 := Lib.hid hnd
        have HB5 := Lib.hid hbl
        clear hon hnd hbl
        go_wp2_with fail
        refine (power_in (show NandIn _ _ _ 0 N from HN5.out)).mono ?_
        rw [HP.out]
        rintro e wq ⟨rfl, rfl⟩
        go_wp2_with fail
        refine (ops_in (show NandIn _ _ _ 0 N from HN5.out)).mono ?_
        rw [HO.out]
        rintro e wq ⟨rfl, rfl⟩
        go_wp2_with fail
        go_ret
        exact ⟨rfl, HB5.out⟩
  | false =>
    go_wp2_with fail
    refine (on_in (show NandIn _ _ _ 0 (M1 k) from HN3.out)).mono ?_
    rintro e w7 ⟨rfl, hn7, hf7⟩
    have HN7 := Lib.hid hn7
    have HB7 := Lib.hid (hf7.below HB3.out HLB.out (Nat.le_refl _))
    clear hn7 hf7 HN3 HB3 
    have HON := Lib.hid (on_plain k).1
    generalize (M1 k).on = Mx at *
    go_wp2_with fail
    go_loopw [7] (fun i wr => ∃ (m : Nat) (N : Nd), m ≤ 20 ∧ i = .int .i64 m ∧ On N m ∧ NandIn wr base g 0 N ∧ Below w.heap.size w wr) (fun i _ => 20 - (intOf i).toNat)
    case atStart => exact ⟨0, _, by omega, rfl, HON.out, HN7.out, HB7.out⟩
    case round =>
      clear HON HN7 HB7
      obtain ⟨m, N, hm, rfl, hon, hnd, hbl⟩ := hrel
      by_cases hlt : m < 20
      · have hltI : (m : Int) < 20 := by omega
        have e3 : (m : Int) % 3 = ((m % 3 : Nat) : Int) := rfl
        have e8 : (m : Int) % 8 = ((m % 8 : Nat) : Int) := rfl
        obtain ⟨d, hd⟩ : ∃ d, d = m % 3 := ⟨_, rfl⟩
        obtain ⟨b, hb⟩ : ∃ b, b = m % 8 := ⟨_, rfl⟩
        rw [← hd] at e3
        rw [← hb] at e8
        have hd3 : d < 3 := by omega
        have hb8 : b < 8 := by omega
        obtain ⟨pe, hon2⟩ := hon.erase hd3 hb8
        have HBD := Lib.hid (show N.ops ≤ 1000000 ∧ (N.blk (d : Int).toNat (b : Int).toNat).worn ≤ 1000000 from ⟨by rw [hon.ops]; omega, by have := hon.worn d b; simp only [Int.toNat_natCast]; omega⟩)
        have HON := Lib.hid hon2
        have HPE := Lib.hid pe
        have HN5 := Lib.hid hnd
        have HB5 := Lib.hid hbl
        have HDB := Lib.hid (And.intro hd3 hb8)
        clear hon hon2 hnd hbl pe hd hb hd3 hb8
        go_wp2_with fail
        refine (erase_any (show NandIn _ _ _ 0 (N) from HN5.out) (d : Int) (b : Int) (ad_wf (by have := HDB.out; omega) (by have := HDB.out; omega) (by omega)) HBD.out.1 HBD.out.2 (by omega)).mono ?_
        rw [HPE.out]
        rintro e w6 ⟨rfl, hn6, hf6⟩
        replace hn6 : NandIn w6 base g (0) (N.eraseN (d : Int) (b : Int)) := by rw [show (N.eraseN (d : Int) (b : Int)) = ((N).eraseN (d : Int) (b : Int)) from rfl]; exact hn6
        have HN6 := Lib.hid hn6
        have HB6 := Lib.hid (hf6.below HB5.out HLB.out (Nat.le_refl _))
        clear hn6 hf6 HN5 HB5 
        go_wp2_with fail
        go_roundw
        case rel => exact ⟨m + 1, _, by omega, by go_num, HON.out, HN6.out, HB6.out⟩
        case measure => simp [intOf]; omega
      · obtain rfl : m = 20 := by omega
        have HO := Lib.hid (show (N.ops : Int) = 20 by rw [hon.ops]; rfl)
        have HP := Lib.hid (show (!N.off) = true by rw [hon.fine.off]; rfl)
        have HN5 := Lib.hid hnd
        have HB5 := Lib.hid hbl
        clear hon hnd hbl
        go_wp2_with fail
        refine (power_in (show NandIn _ _ _ 0 N from HN5.out)).mono ?_
        rw [HP.out]
        rintro e wq ⟨rfl, rfl⟩
        go_wp2_with fail
        refine (ops_in (show NandIn _ _ _ 0 N from HN5.out)).mono ?_
        rw [HO.out]
        rintro e wq ⟨rfl, rfl⟩
        go_wp2_with fail
        go_ret
        exact ⟨rfl, HB5.out⟩
end Go.Proofs.YtnfigkoefmldiaaGreat.nandOn
