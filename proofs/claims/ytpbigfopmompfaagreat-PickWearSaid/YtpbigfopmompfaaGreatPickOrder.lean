import Derived.Test.YtpbigfopmompfaaGreatBegun13
import Derived.Test.YtpbigfopmompfaaGreatBunS
import Derived.Test.YtpbigfopmompfaaGreatOpenF
import Derived.Deep.DeepCutAuto
/- Of superblocks that are alike the one of the least number; of others the least worn. -/
namespace Go.Proofs.YtpbigfopmompfaaGreat.pickOrder
open Go.RowKit
open Go.Proofs.YtpbigfopmompfaaGreat.pick
set_option linter.unusedVariables false
theorem open_geo {cs : List Value} (h : okAll (List.replicate 3 (Kd.int .i64)) cs = true) : ∃ a b c : Int, cs = [.int .i64 a, .int .i64 b, .int .i64 c] := by
  have hl := okAll_length h
  match cs, hl, h with
  | [c0, c1, c2], _, h =>
    simp only [List.replicate_succ, List.replicate_zero, okAll, Bool.and_eq_true, and_true] at h
    obtain ⟨h0, h1, h2⟩ := h
    obtain ⟨a, rfl, -⟩ := ok_int h0
    obtain ⟨b, rfl, -⟩ := ok_int h1
    obtain ⟨c, rfl, -⟩ := ok_int h2
    exact ⟨a, b, c, rfl⟩
def wv (z : List Int) (n k b : Nat) : Int := if b < k ∧ b < n then bits .and .i64 (z.getD b 0) 7 else 0
theorem and7e (x : Int) : bits .and .i64 x 7 = x % 8 := i64_mask x 3 (by omega)
theorem and7 (x : Int) : 0 ≤ bits .and .i64 x 7 := by rw [and7e]; omega
theorem wv_step {z : List Int} {n k : Nat} (h : k < n) : (fun b => if b = k then max (wv z n k k) (bits .and .i64 (z.getD k 0) 7) else wv z n k b) = wv z n (k + 1) := by
  funext b
  have := and7 (z.getD k 0)
  unfold wv
  by_cases e : b = k
  · subst e
    rw [if_pos rfl, if_neg (by omega), if_pos (by omega)]
    omega
  · rw [if_neg e]
    have : (b < k ∧ b < n) ↔ (b < k + 1 ∧ b < n) := by omega
    simp only [this]
theorem wv_stay {z : List Int} {n k : Nat} (h : n ≤ k) : wv z n k = wv z n (k + 1) := by
  funext b
  unfold wv
  have : (b < k ∧ b < n) ↔ (b < k + 1 ∧ b < n) := by omega
  simp only [this]
def bst (z : List Int) (n : Nat) (op : Int) (k : Nat) : Int := leastI (fun a b => cmpI (wv z n k a) (wv z n k b)) (someL (fun _ => true) op k)
theorem wv_old {z : List Int} {n k b : Nat} (h : b < k) : wv z n (k + 1) b = wv z n k b := by
  unfold wv
  have : (b < k ∧ b < n) ↔ (b < k + 1 ∧ b < n) := by omega
  simp only [this]
theorem bst_old (z : List Int) (n : Nat) (op : Int) (k : Nat) : leastI (fun a b => cmpI (wv z n (k + 1) a) (wv z n (k + 1) b)) (someL (fun _ => true) op k) = bst z n op k := by
  unfold bst
  refine leastI_congr fun a ha b hb => ?_
  rw [wv_old (someL_lt _ _ _ a ha), wv_old (someL_lt _ _ _ b hb)]
theorem bst_skip {z : List Int} {n k : Nat} {op : Int} (h : (k : Int) = op) : bst z n op (k + 1) = bst z n op k := by
  rw [← bst_old z n op k]
  show leastI (fun a b => cmpI (wv z n (k + 1) a) (wv z n (k + 1) b)) (someL (fun _ => true) op (k + 1)) = _
  rw [someL_succ, if_neg (by simp [h]), List.append_nil]
theorem bst_mem (z : List Int) (n : Nat) (op : Int) (k : Nat) : bst z n op k = -1 ∨ ∃ m : Nat, m < k ∧ bst z n op k = (m : Int) := by
  rcases leastI_mem (ord := fun a b => cmpI (wv z n k a) (wv z n k b)) (l := someL (fun _ => true) op k) with ⟨h, -⟩ | ⟨m, hm, h⟩
  · exact .inl h
  · exact .inr ⟨m, someL_lt _ _ _ m hm, h⟩
theorem bst_new {z : List Int} {n k : Nat} {op : Int} (h : (k : Int) ≠ op) (hb : bst z n op k = -1) : bst z n op (k + 1) = k := by
  have hl : someL (fun _ => true) op k = [] := by
    rcases leastI_mem (ord := fun a b => cmpI (wv z n k a) (wv z n k b)) (l := someL (fun _ => true) op k) with ⟨_, h⟩ | ⟨m, hm, h⟩
    · exact h
    · have : bst z n op k = (m : Int) := h
      omega
  unfold bst
  rw [someL_succ, if_pos (by simp [h]), hl, leastI_append, if_pos (.inl rfl)]
theorem bst_cmp {z : List Int} {n k m : Nat} {op : Int} (h : (k : Int) ≠ op) (hb : bst z n op k = (m : Int)) : bst z n op (k + 1) = if wv z n (k + 1) k < wv z n (k + 1) m then (k : Int) else (m : Int) := by
  have ho := bst_old z n op k
  rw [hb] at ho
  have hl : someL (fun _ => true) op k ≠ [] := by
    intro e
    rw [e] at ho
    have : (-1 : Int) = (m : Int) := ho
    omega
  have hm : minL (fun a b => cmpI (wv z n (k + 1) a) (wv z n (k + 1) b)) (someL (fun _ => true) op k) = m := by
    unfold leastI at ho
    rw [if_neg hl] at ho
    omega
  unfold bst
  rw [someL_succ, if_pos (by simp [h]), leastI_append, hm, ho]
  simp only [hl, false_or, cmpI_lt]
theorem some_count (op : Int) : ∀ B : Nat, (someL (fun _ => true) op B).length = if 0 ≤ op ∧ op < (B : Int) then B - 1 else B
  | 0 => by
    have : ¬ (0 ≤ op ∧ op < ((0 : Nat) : Int)) := by omega
    rw [if_neg this]; rfl
  | B + 1 => by
    rw [someL_succ, List.length_append, some_count op B]
    by_cases e : (B : Int) = op
    · have h1 : (if (decide ((B : Int) ≠ op) && true) = true then [B] else []) = [] := if_neg (by simp [e])
      rw [h1, if_neg (show ¬ (0 ≤ op ∧ op < (B : Int)) by omega), if_pos (show 0 ≤ op ∧ op < ((B + 1 : Nat) : Int) by omega)]
      simp
    · have h1 : (if (decide ((B : Int) ≠ op) && true) = true then [B] else []) = [B] := if_pos (by simp [e])
      rw [h1]
      by_cases h : 0 ≤ op ∧ op < (B : Int)
      · rw [if_pos h, if_pos (show 0 ≤ op ∧ op < ((B + 1 : Nat) : Int) by omega)]
        simp; omega
      · rw [if_neg h, if_neg (show ¬ (0 ≤ op ∧ op < ((B + 1 : Nat) : Int)) by omega)]
        simp
set_option maxRecDepth 100000 in
set_option maxHeartbeats 8000000 in
theorem walk0 (a b c : Int) (A : Option Addr) (n cp : Nat) (z : List Int) (op : Int) (w : World) (hr : Rd w w.heap.size A n (z.map (Value.int .i64))) (hzl : z.length = n) : Calls Tryz.prog 8 #[.agg #[.int .i64 a, .int .i64 b, .int .i64 c], .slice A n cp, .int .i64 op] w fun e w' => e = .returned (.bool true) ∧ Below w.heap.size w w' := by
  obtain ⟨D, hD⟩ : ∃ D : Nat, (D : Int) = 3 + a % 4 := ⟨(3 + a % 4).toNat, by omega⟩
  obtain ⟨B, hB⟩ : ∃ B : Nat, (B : Int) = 8 + b % 9 := ⟨(8 + b % 9).toNat, by omega⟩
  obtain ⟨P, hP⟩ : ∃ P : Nat, (P : Int) = 2 + c % 7 := ⟨(2 + c % 7).toNat, by omega⟩
  have HG := Lib.hid (show 3 ≤ D ∧ D ≤ 6 ∧ 8 ≤ B ∧ B ≤ 16 ∧ 2 ≤ P ∧ P ≤ 8 by omega)
  have HGA := Lib.hid (geo_any a b c)
  rw [← hD, ← hB, ← hP] at HGA
  have hB8 : 8 ≤ B ∧ B ≤ 16 := by omega
  obtain ⟨hB8, hB16⟩ := hB8
  have hb0 := nand.alloc_low w (.cells #[.int .i64 a, .int .i64 b, .int .i64 c] 39)
  have he := heap_new' w (.cells #[.int .i64 a, .int .i64 b, .int .i64 c] 39) _ rfl
  have HB0 := Lib.hid hb0
  have HE0 := Lib.hid he
  have HW1 := Lib.hid hr
  have HZ := Lib.hid hzl
  clear hD hB hP hb0 he hr hzl
  go_enter Tryz.func8, Tryz.ntmps8
  go_upto_region 1 with fail
  change Code.wp _ _ _ _ (w.alloc (.cells #[.int .i64 a, .int .i64 b, .int .i64 c] 39))
  generalize w.alloc (.cells #[.int .i64 a, .int .i64 b, .int .i64 c] 39) = wa at *
  go_wp2_with fail
  refine (begun13.begun13_any wa).mono ?_
  rintro e w1 ⟨rfl, hb1⟩
  have he1 := blk_below HE0.out hb1
  have hB1 := HB0.out.trans (hb1.mono HB0.out.size)
  have HB1 := Lib.hid hB1
  have c0 : w1.cell? ⟨w.heap.size, 0, none⟩ = some (.int .i64 a) := by rw [blk_cell he1]; rfl
  have c1 : w1.cell? ⟨w.heap.size, 1, none⟩ = some (.int .i64 b) := by rw [blk_cell he1]; rfl
  have c2 : w1.cell? ⟨w.heap.size, 2, none⟩ = some (.int .i64 c) := by rw [blk_cell he1]; rfl
  have HE1 := Lib.hid he1
  clear hb1 he1 hB1
  go_wp2_with fail
  refine (HGA.out _).mono ?_
  rintro e w2 ⟨rfl, hb2⟩
  have he2 := blk_below HE1.out hb2
  have hB2 := HB1.out.trans (hb2.mono HB1.out.size)
  have hs2 := hB2.size
  clear hb2 c0 c1 c2
  go_upto_region 5 with (first | (refine wpList_put_row rfl 39 (.tmp 3) (.tmp 22) rfl w.heap.size (tal.geoV D B P) rfl rfl 39 _ he2 nand.geoInfo rfl (fun u hu => by simp [tal.geoV] at hu; rcases hu with rfl | rfl | rfl <;> rfl) ?_; intro w3 hU3; have he3 := hU3.at_; have hB3 := hU3.below hB2 (Nat.le_refl _); clear hU3 he2 hB2 hs2))
  have hrow := range_blk he3
  have HE3 := Lib.hid he3
  have HB3 := Lib.hid hB3
  clear he3 hB3
  go_wp2_with (first | (refine wpList_load_mid rfl 39 (.tmp 3) rfl w.heap.size 0 rfl (tal.geoV D B P) _ hrow Tryz.underlying39 rfl nand.geoInfo ?_))
  have hN : Calls Tryz.prog 20 #[.agg (tal.geoV D B P).toArray] w3 _ := tal.new_any w3 D B P HG.out
  refine hN.mono ?_
  rintro e w4 ⟨gt_, lb, rfl, hy4, hl1, hl2, hb4⟩
  clear hrow hN
  have HE4 := Lib.hid (blk_below HE3.out hb4)
  have HB4 := Lib.hid (HB3.out.trans (hb4.mono HB3.out.size))
  have HL := Lib.hid (show ∀ k, tal.TalF gt_ lb k → w.heap.size ≤ k ∧ k ≠ w.heap.size from fun k hk => by have h1 := HB3.out.size; have h2 := lt_of_cells HE3.out; rcases hk with rfl | rfl <;> omega)
  have HY4 := Lib.hid hy4
  clear hy4 hb4 hl1 hl2 HE3 HB3
  go_wp2_with fail
  have hN : Calls Tryz.prog 15 #[.int .i64 3] w4 _ := tab.new_any w4 3 (by decide)
  refine hN.mono ?_
  rintro e w5 ⟨g, mb, cb, rfl, ht, hg1, hg2, hg3, hb5⟩
  have HE5 := Lib.hid (blk_below HE4.out hb5)
  have HB5 := Lib.hid (HB4.out.trans (hb5.mono HB4.out.size))
  have hv5 : View w5 gt_ lb (Ty.worn D B P (wv z n 0)) g mb cb 0 ⟨3, [], 1⟩ := ⟨by
    have e0 : wv z n 0 = fun _ => 0 := by funext b; unfold wv; rw [if_neg (by omega)]
    rw [e0, worn_zero]; exact HY4.out.below hb5, ht⟩
  have HV5 := Lib.hid hv5
  have HT := Lib.hid (show ∀ k, tab.TabF g mb cb k → ¬ tal.TalF gt_ lb k from fun k hk hf => by have h1 := HY4.out.lt; rcases hk with rfl | rfl | rfl <;> rcases hf with h | h <;> omega)
  clear ht hg1 hg2 hg3 hb5 hv5 hN HY4 HE4 HB4
  go_wp2_with fail
  go_loopw [10, 11] (fun vb vi wr => ∃ k : Nat, k ≤ B ∧ vi = .int .i64 k ∧ vb = .int .i64 (bst z n op k) ∧ View wr gt_ lb (Ty.worn D B P (wv z n k)) g mb cb 0 ⟨3, [], 1⟩ ∧ wr.heap[w.heap.size]? = some (.cells (tal.geoV D B P).toArray 39 (0, 0)) ∧ Below w.heap.size w wr) (fun _ vi _ => B - (intOf vi).toNat)
  case atStart => exact ⟨0, by omega, rfl, rfl, HV5.out, HE5.out, HB5.out⟩
  case round =>
    obtain ⟨k, hk, rfl, rfl, hv, he, hbel⟩ := hrel
    have c1 : wr.cell? ⟨w.heap.size, 1, none⟩ = some (.int .i64 (B : Int)) := by rw [blk_cell he]; rfl
    have HV := Lib.hid hv
    have HE := Lib.hid he
    have HB := Lib.hid hbel
    clear hv he hbel HV5 HE5 HB5
    by_cases hlt : k < B
    · have hltI : (k : Int) < (B : Int) := by omega
      obtain ⟨bk, hbk⟩ : ∃ bk, bk = bst z n op k := ⟨_, rfl⟩
      rw [← hbk]
      have HBK := Lib.hid hbk
      clear hbk
      go_upto_if 35 with fail
      go_cut [] (fun wx => View wx gt_ lb (Ty.worn D B P (wv z n (k + 1))) g mb cb 0 ⟨3, [], 1⟩ ∧ wx.heap[w.heap.size]? = some (.cells (tal.geoV D B P).toArray 39 (0, 0)) ∧ Below w.heap.size w wx)
      case first =>
        by_cases hkn : k < n
        · have hknI : (k : Int) < (n : Int) := by omega
          obtain ⟨xb, xo, rfl, hxb, hz⟩ := HW1.out.at_ hkn
          have hzr : wr.cell? ⟨xb, xo + k, none⟩ = some (.int .i64 (z.getD k 0)) := (HB.out.cell (p := ⟨xb, xo + k, none⟩) hxb).trans (by rw [hz, List.getElem?_map, List.getElem?_eq_getElem (show k < z.length by have := HZ.out; omega)]; simp [List.getD, List.getElem?_eq_getElem (show k < z.length by have := HZ.out; omega)])
          have HWo := Lib.hid (tal.wore_any HV.out.tal (k : Int) (bits .and .i64 (z.getD k 0) 7))
          have HS := Lib.hid (wv_step (z := z) (n := n) (k := k) hkn)
          generalize z.getD k 0 = zk at *
          clear hz
          go_wp2_with fail
          refine HWo.out.mono ?_
          rintro e w6 ⟨rfl, hy6, hk6⟩
          have HX := Lib.hid (show View w6 gt_ lb (Ty.worn D B P (wv z n (k + 1))) g mb cb 0 ⟨3, [], 1⟩ ∧ w6.heap[w.heap.size]? = some (.cells (tal.geoV D B P).toArray 39 (0, 0)) ∧ Below w.heap.size w w6 from
            ⟨⟨by rw [worn_wore hlt, HS.out] at hy6; exact hy6, HV.out.tab.keep hk6 HT.out⟩, blk_keep HE.out hk6 (fun h => (HL.out _ h).2 rfl), HB.out.trans (hk6.below HB.out.size (fun i h => (HL.out i h).1))⟩)
          clear hy6 hk6
          go_wp2_with fail
          go_meet
          exact HX.out
        · have hknI : (n : Int) ≤ (k : Int) := by omega
          have HS := Lib.hid (wv_stay (z := z) (n := n) (k := k) (by omega))
          go_wp2_with fail
          go_meet
          exact ⟨by rw [← HS.out]; exact HV.out, HE.out, HB.out⟩
      case rest =>
        obtain ⟨hv2, he2, hb2⟩ := hcut
        have HX := Lib.hid (And.intro hv2 (And.intro he2 hb2))
        have HWr := Lib.hid (fun x => tal.wear_any hv2.tal x)
        clear hv2 he2 hb2
        by_cases hop : (k : Int) = op
        · have hq : ((k : Int) != op) = false := by simpa using hop
          have HS := Lib.hid (show bk = bst z n op (k + 1) by rw [HBK.out, bst_skip hop])
          clear hop
          go_wp2_with fail
          go_roundw
          case rel => exact ⟨k + 1, by omega, by go_num, by rw [HS.out], HX.out⟩
          case measure => simp [intOf]; omega
        · have hq : ((k : Int) != op) = true := by simpa using hop
          rcases bst_mem z n op k with hm | ⟨m, hmk, hm⟩
          · have HS := Lib.hid (show (k : Int) = bst z n op (k + 1) from (bst_new hop hm).symm)
            obtain rfl : bk = -1 := by rw [HBK.out, hm]
            clear hop hm
            go_wp2_with fail
            go_roundw
            case rel => exact ⟨k + 1, by omega, by go_num, by rw [← HS.out], HX.out⟩
            case measure => simp [intOf]; omega
          · have hc := bst_cmp hop hm
            obtain rfl : bk = (m : Int) := by rw [HBK.out, hm]
            have hw1 := HWr.out (k : Int)
            have hw2 := HWr.out (m : Int)
            rw [worn_wear hlt] at hw1
            rw [worn_wear (show m < B by omega)] at hw2
            have H1 := Lib.hid hw1
            have H2 := Lib.hid hw2
            have HS := Lib.hid hc
            clear hw1 hw2 hc hop hm HWr
            generalize wv z n (k + 1) k = x1 at H1 HS
            generalize wv z n (k + 1) m = x2 at H2 HS
            go_wp2_with fail
            refine H1.out.mono ?_
            rintro e w7 ⟨rfl, rfl⟩
            go_wp2_with fail
            refine H2.out.mono ?_
            rintro e w7 ⟨rfl, rfl⟩
            by_cases hx : x1 < x2
            · have HS2 := Lib.hid (show bst z n op (k + 1) = (k : Int) by rw [HS.out, if_pos hx])
              clear HS
              go_wp2_with fail
              go_roundw
              case rel => exact ⟨k + 1, by omega, by go_num, by rw [HS2.out], HX.out⟩
              case measure => simp [intOf]; omega
            · have HS2 := Lib.hid (show bst z n op (k + 1) = (m : Int) by rw [HS.out, if_neg hx])
              clear HS
              go_wp2_with fail
              go_roundw
              case rel => exact ⟨k + 1, by omega, by go_num, by rw [HS2.out], HX.out⟩
              case measure => simp [intOf]; omega
    · obtain rfl : k = B := by omega
      obtain ⟨bk, hbk⟩ : ∃ bk, bk = bst z n op k := ⟨_, rfl⟩
      rw [← hbk]
      have hop := open_any HV.out op
      have hbo : leastI (wearOrd (Ty.worn D k P (wv z n k))) (freeL (Ty.worn D k P (wv z n k)) ⟨3, [], 1⟩ op) = bk := by
        rw [worn_open op 1 HG.out.2.1 HG.out.1, hbk]; rfl
      rw [hbo] at hop
      have HO := Lib.hid hop
      obtain ⟨fr, hfr⟩ : ∃ fr : Nat, fr = (someL (fun _ => true) op k).length := ⟨_, rfl⟩
      have HF := Lib.hid (show ∀ W, View W gt_ lb (Ty.worn D k P (wv z n k)) g mb cb 0 ⟨3, [], 1⟩ → Calls Tryz.prog 27 #[.pointer (some ⟨gt_, 0, none⟩), .pointer (some ⟨g, 0, none⟩), .int .i64 op] W fun e w' => e = .returned (.int .i64 (fr : Int)) ∧ Below W.heap.size W w' from fun W hv => by
        have h := frees_any hv op
        rw [worn_free op 1 HG.out.2.1 HG.out.1, ← hfr] at h
        exact h)
      have HVi := Lib.hid (show ∀ W, View W gt_ lb (Ty.worn D k P (wv z n k)) g mb cb 0 ⟨3, [], 1⟩ → Calls Tryz.prog 28 #[.pointer (some ⟨gt_, 0, none⟩), .pointer (some ⟨g, 0, none⟩), .int .i64 op] W fun e w' => e = .returned (.int .i64 (-1)) ∧ Below W.heap.size W w' from fun W hv => by
        have h := victim_any hv op
        rw [new_victim] at h
        exact h)
      have HHu := Lib.hid (show ∀ W, View W gt_ lb (Ty.worn D k P (wv z n k)) g mb cb 0 ⟨3, [], 1⟩ → Calls Tryz.prog 29 #[.pointer (some ⟨gt_, 0, none⟩), .pointer (some ⟨g, 0, none⟩)] W fun e w' => ∃ A c, e = .returned (.slice A 0 c) ∧ Below W.heap.size W w' from fun W hv => by
        have h := hurt_any hv
        rw [new_hurt] at h
        refine h.mono ?_
        rintro e w' ⟨u, rfl, hown, hb⟩
        obtain ⟨A, c, rfl⟩ := len_nats hown
        exact ⟨A, c, rfl, hb⟩)
      have HFR := Lib.hid (show fr = if 0 ≤ op ∧ op < (k : Int) then k - 1 else k by rw [hfr, some_count])
      clear hop hbo hfr hbk
      by_cases h0 : 0 ≤ op
      · by_cases h1 : op < (k : Int)
        · have hfr : (k : Int) - 1 = (fr : Int) := by rw [HFR.out, if_pos ⟨h0, h1⟩]; omega
          go_wp2_with fail
          refine HO.out.mono ?_
          rintro e w8 ⟨rfl, hb8⟩
          have hv8 := HV.out.below hb8
          have HB8 := Lib.hid (HB.out.trans (hb8.mono HB.out.size))
          have HC8 := Lib.hid (HF.out w8 hv8)
          have HV8 := Lib.hid hv8
          clear hb8 hv8
          go_wp2_with fail
          refine HC8.out.mono ?_
          rintro e w9 ⟨rfl, hb9⟩
          have hv9 := HV8.out.below hb9
          have HB9 := Lib.hid (HB8.out.trans (hb9.mono HB8.out.size))
          have HC9 := Lib.hid (HVi.out w9 hv9)
          have HV9 := Lib.hid hv9
          clear hb9 hv9
          go_wp2_with fail
          refine HC9.out.mono ?_
          rintro e w10 ⟨rfl, hb10⟩
          have hv10 := HV9.out.below hb10
          have HB10 := Lib.hid (HB9.out.trans (hb10.mono HB9.out.size))
          have HC10 := Lib.hid (HHu.out w10 hv10)
          clear hb10 hv10
          go_wp2_with fail
          refine HC10.out.mono ?_
          rintro e w11 ⟨A1, c11, rfl, hb11⟩
          have HB11 := Lib.hid (HB10.out.trans (hb11.mono HB10.out.size))
          clear hb11
          go_wp2_with fail
          go_ret
          exact ⟨rfl, HB11.out⟩
        · have hfr : k = fr := by rw [HFR.out, if_neg (by omega)]
          rw [← hfr] at HF
          clear hfr HFR
          go_wp2_with fail
          refine HO.out.mono ?_
          rintro e w8 ⟨rfl, hb8⟩
          have hv8 := HV.out.below hb8
          have HB8 := Lib.hid (HB.out.trans (hb8.mono HB.out.size))
          have HC8 := Lib.hid (HF.out w8 hv8)
          have HV8 := Lib.hid hv8
          clear hb8 hv8
          go_wp2_with fail
          refine HC8.out.mono ?_
          rintro e w9 ⟨rfl, hb9⟩
          have hv9 := HV8.out.below hb9
          have HB9 := Lib.hid (HB8.out.trans (hb9.mono HB8.out.size))
          have HC9 := Lib.hid (HVi.out w9 hv9)
          have HV9 := Lib.hid hv9
          clear hb9 hv9
          go_wp2_with fail
          refine HC9.out.mono ?_
          rintro e w10 ⟨rfl, hb10⟩
          have hv10 := HV9.out.below hb10
          have HB10 := Lib.hid (HB9.out.trans (hb10.mono HB9.out.size))
          have HC10 := Lib.hid (HHu.out w10 hv10)
          clear hb10 hv10
          go_wp2_with fail
          refine HC10.out.mono ?_
          rintro e w11 ⟨A1, c11, rfl, hb11⟩
          have HB11 := Lib.hid (HB10.out.trans (hb11.mono HB10.out.size))
          clear hb11
          go_wp2_with fail
          go_ret
          exact ⟨rfl, HB11.out⟩
      · have hfr : k = fr := by rw [HFR.out, if_neg (by omega)]
        rw [← hfr] at HF
        clear hfr HFR
        go_wp2_with fail
        refine HO.out.mono ?_
        rintro e w8 ⟨rfl, hb8⟩
        have hv8 := HV.out.below hb8
        have HB8 := Lib.hid (HB.out.trans (hb8.mono HB.out.size))
        have HC8 := Lib.hid (HF.out w8 hv8)
        have HV8 := Lib.hid hv8
        clear hb8 hv8
        go_wp2_with fail
        refine HC8.out.mono ?_
        rintro e w9 ⟨rfl, hb9⟩
        have hv9 := HV8.out.below hb9
        have HB9 := Lib.hid (HB8.out.trans (hb9.mono HB8.out.size))
        have HC9 := Lib.hid (HVi.out w9 hv9)
        have HV9 := Lib.hid hv9
        clear hb9 hv9
        go_wp2_with fail
        refine HC9.out.mono ?_
        rintro e w10 ⟨rfl, hb10⟩
        have hv10 := HV9.out.below hb10
        have HB10 := Lib.hid (HB9.out.trans (hb10.mono HB9.out.size))
        have HC10 := Lib.hid (HHu.out w10 hv10)
        clear hb10 hv10
        go_wp2_with fail
        refine HC10.out.mono ?_
        rintro e w11 ⟨A1, c11, rfl, hb11⟩
        have HB11 := Lib.hid (HB10.out.trans (hb11.mono HB10.out.size))
        clear hb11
        go_wp2_with fail
        go_ret
        exact ⟨rfl, HB11.out⟩
theorem walk (a0 : List Value) (A : Option Addr) (n c : Nat) (z : List Int) (op : Int) (w : World) (w0 : okAll (List.replicate 3 (Kd.int .i64)) a0 = true) (w1 : IsRow .i64 w A n c z) (w2 : (Lit.int .i64 op).wf = true) : Calls Tryz.prog 8 #[.agg a0.toArray, .slice A n c, .int .i64 op] w fun e w' => e = .returned (.bool true) ∧ Below w.heap.size w w' := by
  obtain ⟨x, y, v, rfl⟩ := open_geo w0
  obtain ⟨hr, -, -, hl, -⟩ := w1.rd
  exact walk0 x y v A n c _ op w hr hl
end Go.Proofs.YtpbigfopmompfaaGreat.pickOrder
