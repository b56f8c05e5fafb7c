import Derived.Test.YtpbigfopmompfaaGreatBegun13
import Derived.Test.YtpbigfopmompfaaGreatPickOrder
/- Superblocks that are opened one by one are worn alike. -/
namespace Go.Proofs.YtpbigfopmompfaaGreat.pickWear
open Go.RowKit
open Go.Proofs.YtpbigfopmompfaaGreat.pick
set_option linter.unusedVariables false
theorem minL_le {W : Nat → Int} : ∀ {l : List Nat}, ∀ x ∈ l, W (minL (fun a b => cmpI (W a) (W b)) l) ≤ W x
  | [], x, h => by simp at h
  | y :: l, x, h => by
    have key : ∀ (r : List Nat) (y : Nat), W (r.foldl (fun m z => if cmpI (W z) (W m) < 0 then z else m) y) ≤ W y ∧ ∀ z ∈ r, W (r.foldl (fun m z => if cmpI (W z) (W m) < 0 then z else m) y) ≤ W z := by
      intro r
      induction r with
      | nil => intro y; simp
      | cons z r ih =>
        intro y
        rw [List.foldl_cons]
        by_cases e : cmpI (W z) (W y) < 0
        · have hlt := (cmpI_lt _ _).1 e
          rw [if_pos e]
          obtain ⟨i1, i2⟩ := ih z
          refine ⟨by omega, fun u hu => ?_⟩
          rcases List.mem_cons.1 hu with rfl | hu
          · exact i1
          · exact i2 u hu
        · have hge : ¬ W z < W y := fun h => e ((cmpI_lt _ _).2 h)
          rw [if_neg e]
          obtain ⟨i1, i2⟩ := ih y
          refine ⟨i1, fun u hu => ?_⟩
          rcases List.mem_cons.1 hu with rfl | hu
          · omega
          · exact i2 u hu
    obtain ⟨h1, h2⟩ := key l y
    rcases List.mem_cons.1 h with rfl | h
    · exact h1
    · exact h2 x h
structure Alike (B : Nat) (W : Nat → Int) (op : Int) (top : Int) : Prop where
  on : ∃ r : Int, 0 ≤ r ∧ r ≤ top ∧ (∀ b, b < B → W b = r ∨ W b = r + 1) ∧ (op = -1 ∨ ∃ o : Nat, o < B ∧ op = (o : Int) ∧ W o = r + 1)
theorem Alike.start (B : Nat) : Alike B (fun _ => 0) (-1) 0 := ⟨0, by omega, by omega, fun _ _ => .inl rfl, .inl rfl⟩
theorem Alike.step {B : Nat} {W : Nat → Int} {op top : Int} (h : Alike B W op top) (hB : 2 ≤ B) : ∃ b : Nat, b < B ∧ (b : Int) ≠ op ∧ leastI (fun a b => cmpI (W a) (W b)) (someL (fun _ => true) op B) = (b : Int) ∧ Alike B (fun x => if x = b then W b + 1 else W x) b (top + 1) ∧ 0 ≤ W b ∧ W b ≤ top + 1 := by
  obtain ⟨r, hr0, hrt, hW, hop⟩ := h.on
  have hmem : ∀ x, x ∈ someL (fun _ => true) op B ↔ x < B ∧ (x : Int) ≠ op := by
    intro x; simp [someL]
  rcases leastI_mem (ord := fun a b => cmpI (W a) (W b)) (l := someL (fun _ => true) op B) with ⟨-, hnil⟩ | ⟨b, hb, he⟩
  · exfalso
    have h0 : ¬ ((0 : Nat) < B ∧ ((0 : Nat) : Int) ≠ op) := fun hh => by have := (hmem 0).2 hh; rw [hnil] at this; simp at this
    have h1 : ¬ ((1 : Nat) < B ∧ ((1 : Nat) : Int) ≠ op) := fun hh => by have := (hmem 1).2 hh; rw [hnil] at this; simp at this
    omega
  · obtain ⟨hbB, hbo⟩ := (hmem b).1 hb
    have hne : someL (fun _ => true) op B ≠ [] := fun e => by rw [e] at hb; simp at hb
    have hmin : minL (fun a b => cmpI (W a) (W b)) (someL (fun _ => true) op B) = b := by
      unfold leastI at he
      rw [if_neg hne] at he
      omega
    have hle : ∀ x, x < B → (x : Int) ≠ op → W b ≤ W x := fun x hx hxo => by
      have := minL_le (W := W) x ((hmem x).2 ⟨hx, hxo⟩)
      rwa [hmin] at this
    refine ⟨b, hbB, hbo, he, ?_, ?_, ?_⟩
    · rcases hW b hbB with e | e
      · refine ⟨r, hr0, by omega, fun x hx => ?_, .inr ⟨b, hbB, rfl, by rw [if_pos rfl]; omega⟩⟩
        by_cases hxb : x = b
        · rw [if_pos hxb]; omega
        · rw [if_neg hxb]; exact hW x hx
      · refine ⟨r + 1, by omega, by omega, fun x hx => ?_, .inr ⟨b, hbB, rfl, by rw [if_pos rfl]; omega⟩⟩
        by_cases hxb : x = b
        · rw [if_pos hxb]; omega
        · rw [if_neg hxb]
          by_cases hxo : (x : Int) = op
          · rcases hop with hop | ⟨o, ho, hoe, hoW⟩
            · omega
            · have : x = o := by omega
              subst this; exact .inl hoW
          · have h1 := hle x hx hxo
            have h2 := hW x hx
            omega
    · rcases hW b hbB with e | e <;> omega
    · rcases hW b hbB with e | e <;> omega
set_option maxRecDepth 100000 in
set_option maxHeartbeats 8000000 in
theorem walk0 (a b c : Int) (tm : Int) (w : World) : Calls Tryz.prog 4 #[.agg #[.int .i64 a, .int .i64 b, .int .i64 c], .int .i64 tm] w fun e w' => e = .returned (.bool true) ∧ Below w.heap.size w w' := by
  obtain ⟨D, hD⟩ : ∃ D : Nat, (D : Int) = 3 + a % 4 := ⟨(3 + a % 4).toNat, by omega⟩
  obtain ⟨B, hB⟩ : ∃ B : Nat, (B : Int) = 8 + b % 9 := ⟨(8 + b % 9).toNat, by omega⟩
  obtain ⟨P, hP⟩ : ∃ P : Nat, (P : Int) = 2 + c % 7 := ⟨(2 + c % 7).toNat, by omega⟩
  have HG := Lib.hid (show 3 ≤ D ∧ D ≤ 6 ∧ 8 ≤ B ∧ B ≤ 16 ∧ 2 ≤ P ∧ P ≤ 8 by omega)
  have HGA := Lib.hid (geo_any a b c)
  rw [← hD, ← hB, ← hP] at HGA
  have hB8 : 8 ≤ B ∧ B ≤ 16 := by omega
  obtain ⟨hB8, hB16⟩ := hB8
  have hb0 := nand.alloc_low w (.cells #[.int .i64 a, .int .i64 b, .int .i64 c] 39)
  have he := heap_new' w (.cells #[.int .i64 a, .int .i64 b, .int .i64 c] 39) _ rfl
  have HB0 := Lib.hid hb0
  have HE0 := Lib.hid he
  clear hD hB hP hb0 he
  go_enter Tryz.func4, Tryz.ntmps4
  go_upto_region 1 with fail
  change Code.wp _ _ _ _ (w.alloc (.cells #[.int .i64 a, .int .i64 b, .int .i64 c] 39))
  generalize w.alloc (.cells #[.int .i64 a, .int .i64 b, .int .i64 c] 39) = wa at *
  go_wp2_with fail
  refine (begun13.begun13_any wa).mono ?_
  rintro e w1 ⟨rfl, hb1⟩
  have he1 := blk_below HE0.out hb1
  have hB1 := HB0.out.trans (hb1.mono HB0.out.size)
  have HB1 := Lib.hid hB1
  have c0 : w1.cell? ⟨w.heap.size, 0, none⟩ = some (.int .i64 a) := by rw [blk_cell he1]; rfl
  have c1 : w1.cell? ⟨w.heap.size, 1, none⟩ = some (.int .i64 b) := by rw [blk_cell he1]; rfl
  have c2 : w1.cell? ⟨w.heap.size, 2, none⟩ = some (.int .i64 c) := by rw [blk_cell he1]; rfl
  have HE1 := Lib.hid he1
  clear hb1 he1 hB1
  go_wp2_with fail
  refine (HGA.out _).mono ?_
  rintro e w2 ⟨rfl, hb2⟩
  have he2 := blk_below HE1.out hb2
  have hB2 := HB1.out.trans (hb2.mono HB1.out.size)
  have hs2 := hB2.size
  clear hb2 c0 c1 c2
  have HE2 := Lib.hid he2
  by_cases ht : 0 ≤ tm ∧ tm ≤ 80
  · obtain ⟨N, rfl⟩ := Int.eq_ofNat_of_zero_le ht.1
    have hN80 : N ≤ 80 := by omega
    clear ht
    go_upto_region 7 with (first | (refine wpList_put_row rfl 39 (.tmp 2) (.tmp 23) rfl w.heap.size (tal.geoV D B P) rfl rfl 39 _ he2 nand.geoInfo rfl (fun u hu => by simp [tal.geoV] at hu; rcases hu with rfl | rfl | rfl <;> rfl) ?_; intro w3 hU3; have he3 := hU3.at_; have hB3 := hU3.below hB2 (Nat.le_refl _); clear hU3 he2 hB2 hs2))
    have hrow := range_blk he3
    have HE3 := Lib.hid he3
    have HB3 := Lib.hid hB3
    clear he3 hB3 HE2
    go_wp2_with (first | (refine wpList_load_mid rfl 39 (.tmp 2) rfl w.heap.size 0 rfl (tal.geoV D B P) _ hrow Tryz.underlying39 rfl nand.geoInfo ?_))
    have hN : Calls Tryz.prog 20 #[.agg (tal.geoV D B P).toArray] w3 _ := tal.new_any w3 D B P HG.out
    refine hN.mono ?_
    rintro e w4 ⟨gt_, lb, rfl, hy4, hl1, hl2, hb4⟩
    clear hrow hN
    have HE4 := Lib.hid (blk_below HE3.out hb4)
    have HB4 := Lib.hid (HB3.out.trans (hb4.mono HB3.out.size))
    have HL := Lib.hid (show ∀ k, tal.TalF gt_ lb k → w.heap.size ≤ k ∧ k ≠ w.heap.size from fun k hk => by have h1 := HB3.out.size; have h2 := lt_of_cells HE3.out; rcases hk with rfl | rfl <;> omega)
    have HY4 := Lib.hid hy4
    clear hy4 hb4 hl1 hl2 HE3 HB3
    go_wp2_with fail
    have hN : Calls Tryz.prog 15 #[.int .i64 4] w4 _ := tab.new_any w4 4 (by decide)
    refine hN.mono ?_
    rintro e w5 ⟨g, mb, cb, rfl, ht, hg1, hg2, hg3, hb5⟩
    have HE5 := Lib.hid (blk_below HE4.out hb5)
    have HB5 := Lib.hid (HB4.out.trans (hb5.mono HB4.out.size))
    have hv5 : View w5 gt_ lb (Ty.worn D B P (fun _ => 0)) g mb cb 0 ⟨4, [], 1⟩ := ⟨by rw [worn_zero]; exact HY4.out.below hb5, ht⟩
    have HV5 := Lib.hid hv5
    have HT := Lib.hid (show ∀ k, tab.TabF g mb cb k → ¬ tal.TalF gt_ lb k from fun k hk hf => by have h1 := HY4.out.lt; rcases hk with rfl | rfl | rfl <;> rcases hf with h | h <;> omega)
    clear ht hg1 hg2 hg3 hb5 hv5 hN HY4 HE4 HB4
    go_wp2_with fail
    go_loopw [8, 9, 10] (fun vo vi _ wr => ∃ i : Nat, i ≤ N ∧ vi = .int .i64 i ∧ (∃ (W : Nat → Int) (op : Int), vo = .int .i64 op ∧ View wr gt_ lb (Ty.worn D B P W) g mb cb 0 ⟨4, [], 1⟩ ∧ Alike B W op i) ∧ wr.heap[w.heap.size]? = some (.cells (tal.geoV D B P).toArray 39 (0, 0)) ∧ Below w.heap.size w wr) (fun _ vi _ _ => N - (intOf vi).toNat)
    case atStart => exact ⟨0, by omega, rfl, ⟨_, -1, rfl, HV5.out, Alike.start B⟩, HE5.out, HB5.out⟩
    case round =>
      obtain ⟨i, hi, rfl, ⟨W, op, rfl, hv, hal⟩, he, hbel⟩ := hrel
      have HV := Lib.hid hv
      have HE := Lib.hid he
      have HB := Lib.hid hbel
      clear he hbel HV5 HE5 HB5
      by_cases hlt : i < N
      · have hltI : (i : Int) < (N : Int) := by omega
        obtain ⟨b, hbB, hbo, hle, hal2, hw0, hwt⟩ := hal.step (by omega)
        have hop := open_any hv op
        rw [worn_open op 1 HG.out.2.1 HG.out.1, hle] at hop
        have HO := Lib.hid hop
        have HA := Lib.hid hal2
        have hq : ((b : Int) == op) = false := by simpa using hbo
        obtain ⟨x, hx⟩ : ∃ x, x = W b := ⟨_, rfl⟩
        rw [← hx] at hw0 hwt
        have HX := Lib.hid hx
        clear hop hal hal2 hle hbo hv hx
        go_wp2_with fail
        refine HO.out.mono ?_
        rintro e w6 ⟨rfl, hb6⟩
        have hv6 := HV.out.below hb6
        have HE6 := Lib.hid (blk_below HE.out hb6)
        have HB6 := Lib.hid (HB.out.trans (hb6.mono HB.out.size))
        have hwr := tal.wear_any hv6.tal (b : Int)
        rw [worn_wear hbB, ← HX.out] at hwr
        have HWr := Lib.hid hwr
        have HWo := Lib.hid (tal.wore_any hv6.tal (b : Int) (x + 1))
        have HV6 := Lib.hid hv6
        clear hb6 hv6 hwr
        go_wp2_with fail
        refine HWr.out.mono ?_
        rintro e w7 ⟨rfl, rfl⟩
        go_wp2_with fail
        refine HWo.out.mono ?_
        rintro e w7 ⟨rfl, hy7, hk7⟩
        have HR := Lib.hid (show View w7 gt_ lb (Ty.worn D B P (fun y => if y = b then W b + 1 else W y)) g mb cb 0 ⟨4, [], 1⟩ ∧ w7.heap[w.heap.size]? = some (.cells (tal.geoV D B P).toArray 39 (0, 0)) ∧ Below w.heap.size w w7 from by
          rw [worn_wore hbB, HX.out, show max (W b) (W b + 1) = W b + 1 by omega] at hy7
          exact ⟨⟨hy7, HV6.out.tab.keep hk7 HT.out⟩, blk_keep HE6.out hk7 (fun h => (HL.out _ h).2 rfl), HB6.out.trans (hk7.below HB6.out.size (fun i h => (HL.out i h).1))⟩)
        clear hy7 hk7
        go_wp2_with fail
        go_roundw
        case rel => exact ⟨i + 1, by omega, by go_num, ⟨_, (b : Int), rfl, HR.out.1, by have := HA.out; push_cast; exact this⟩, HR.out.2⟩
        case measure => simp [intOf]; omega
      · obtain rfl : i = N := by omega
        obtain ⟨r, hr0, hrt, hW, -⟩ := hal.on
        have hwr : ∀ y : Nat, y < B → Calls Tryz.prog 23 #[.pointer (some ⟨gt_, 0, none⟩), .int .i64 (y : Int)] wr fun e w' => e = .returned (.int .i64 (W y)) ∧ wr = w' := fun y hy => by
          have h := tal.wear_any hv.tal (y : Int)
          rw [worn_wear hy] at h
          exact h
        have HWr := Lib.hid hwr
        have HWW := Lib.hid hW
        have h0 := hW 0 (by omega)
        have HW0 := Lib.hid (hwr 0 (by omega))
        have c1 : wr.cell? ⟨w.heap.size, 1, none⟩ = some (.int .i64 (B : Int)) := by rw [blk_cell HE.out]; rfl
        generalize W 0 = x0 at HW0 h0
        clear hwr hW hal hv
        go_wp2_with fail
        refine (show Calls _ _ #[.pointer (some ⟨gt_, 0, none⟩), .int .i64 0] wr _ from HW0.out).mono ?_
        rintro e w8 ⟨rfl, rfl⟩
        go_wp2_with fail
        refine (show Calls _ _ #[.pointer (some ⟨gt_, 0, none⟩), .int .i64 0] wr _ from HW0.out).mono ?_
        rintro e w8 ⟨rfl, rfl⟩
        go_wp2_with fail
        go_loop [11, 12, 13] (fun v1 v2 vj => ∃ j : Nat, 1 ≤ j ∧ j ≤ B ∧ vj = .int .i64 j ∧ ∃ lo hi : Int, v1 = .int .i64 lo ∧ v2 = .int .i64 hi ∧ (lo = r ∨ lo = r + 1) ∧ (hi = r ∨ hi = r + 1)) (fun _ _ vj => B - (intOf vj).toNat)
        case atStart => exact ⟨1, by omega, by omega, rfl, x0, x0, rfl, rfl, h0, h0⟩
        case round =>
          obtain ⟨j, hj1, hj, rfl, lo, hi2, rfl, rfl, hlo, hhi⟩ := hrel
          by_cases hlt2 : j < B
          · have hltI : (j : Int) < (B : Int) := by omega
            have HWj := Lib.hid (HWr.out j hlt2)
            have hwj := HWW.out j hlt2
            generalize W j = y at HWj hwj
            have HMM := Lib.hid (show (min lo y = r ∨ min lo y = r + 1) ∧ (max hi2 y = r ∨ max hi2 y = r + 1) by omega)
            go_wp2_with fail
            refine HWj.out.mono ?_
            rintro e w8 ⟨rfl, rfl⟩
            go_wp2_with fail
            refine HWj.out.mono ?_
            rintro e w8 ⟨rfl, rfl⟩
            go_wp2_with fail
            go_round
            case rel => exact ⟨j + 1, by omega, by omega, by go_num, _, _, rfl, rfl, HMM.out.1, HMM.out.2⟩
            case measure => simp [intOf]; omega
          · obtain rfl : j = B := by omega
            have hd : hi2 - lo ≤ 1 := by omega
            have hr1 : lo ≤ 82 ∧ 0 ≤ lo ∧ 0 ≤ hi2 ∧ hi2 ≤ 82 := by omega
            obtain ⟨q1, q2, q3, q4⟩ := hr1
            go_wp2_with fail
            go_ret
            exact ⟨rfl, HB.out⟩
  · have HB2 := Lib.hid hB2
    by_cases h0 : tm < 0
    · go_wp2_with (first | (refine wpList_put_row rfl 39 (.tmp 2) (.tmp 23) rfl w.heap.size (tal.geoV D B P) rfl rfl 39 _ he2 nand.geoInfo rfl (fun u hu => by simp [tal.geoV] at hu; rcases hu with rfl | rfl | rfl <;> rfl) ?_; intro w3 hU3; have hB3 := Lib.hid (hU3.below hB2 (Nat.le_refl _)); clear hU3 he2 hB2 hs2))
      go_ret
      exact ⟨rfl, hB3.out⟩
    · have h1 : 80 < tm := by omega
      go_wp2_with (first | (refine wpList_put_row rfl 39 (.tmp 2) (.tmp 23) rfl w.heap.size (tal.geoV D B P) rfl rfl 39 _ he2 nand.geoInfo rfl (fun u hu => by simp [tal.geoV] at hu; rcases hu with rfl | rfl | rfl <;> rfl) ?_; intro w3 hU3; have hB3 := Lib.hid (hU3.below hB2 (Nat.le_refl _)); clear hU3 he2 hB2 hs2))
      go_ret
      exact ⟨rfl, hB3.out⟩
theorem walk (a0 : List Value) (tm : Int) (w : World) (w0 : okAll (List.replicate 3 (Kd.int .i64)) a0 = true) (w1 : (Lit.int .i64 tm).wf = true) : Calls Tryz.prog 4 #[.agg a0.toArray, .int .i64 tm] w fun e w' => e = .returned (.bool true) ∧ Below w.heap.size w w' := by
  obtain ⟨x, y, v, rfl⟩ := pickOrder.open_geo w0
  exact walk0 x y v tm w
end Go.Proofs.YtpbigfopmompfaaGreat.pickWear
