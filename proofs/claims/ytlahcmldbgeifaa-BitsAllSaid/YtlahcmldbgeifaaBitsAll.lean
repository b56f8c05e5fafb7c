import Derived.Test.YtlahcmldbgeifaaFields
import Derived.Deep.RegionHeldLaw
import Derived.Deep.RegionHeld
import Derived.Deep.DrawnRows
import Derived.Deep.Heap
/- BitsAll: fields of bits, one behind the other, go to bytes and back; no condition. -/
namespace Go.Proofs.Ytlahcmldbgeifaa.bitsAll
open Go.RowKit
set_option linter.unusedVariables false
attribute [local go_sem ↓] Go.wp_at_zero Go.wp_at_succ
theorem mask63 (V : Nat) (h : V < 64) : bits .and .i64 (V : Int) 63 = (V : Int) := by
  have := i64_mask (V : Int) 6 (by omega)
  rw [show ((2 ^ 6 - 1 : Nat) : Int) = 63 from rfl] at this
  rw [this]; omega
theorem pow_u64 (V : Nat) (h : V < 64) : IntKind.u64.wrap (2 ^ V) = ((2 ^ V : Nat) : Int) := by
  rw [show (2 : Int) ^ V = ((2 ^ V : Nat) : Int) by rw [Int.natCast_pow]; rfl]
  exact u64_wrap_nat _ (Nat.lt_of_lt_of_le (Nat.pow_lt_pow_right (by decide) h) (by decide))
/-- What the loop over the fields keeps. -/
structure St (wr : World) (B g : Nat) (v5 v6 : Value) (fs : List (Nat × Nat)) (k : Nat) (w : World) : Prop where
  ho : ∃ r, IsOut wr B g r (fBits fs)
  h5 : wr.ownsRow B 4 1 v5 (fBits fs).length (bools (fBits fs))
  h6 : wr.ownsRow B 37 2 v6 fs.length (fCells fs)
  hb : Below B w wr
  hl : (fBits fs).length ≤ 64 * k
  hn : fs.length ≤ k
  hok : ∀ f ∈ fs, 1 ≤ f.2 ∧ f.2 ≤ 64 ∧ f.1 < 2 ^ f.2
theorem news_of {wx : World} {N : Nat} {x y : Value} {t : TypeId} (h : wx.heap[N]? = some (.cells #[x, y] t (0, 0))) : ∀ (j : Nat) (u : Value), [x, y][j]? = some u → wx.cell? ((⟨N, 0, none⟩ : Addr).add j) = some u := by
  intro j u hu
  rw [Addr.add_lit, blk_cell h, Nat.zero_add]
  simpa using hu
theorem news_one (u V : Nat) : ∀ x ∈ [Value.int .u64 (u : Int), Value.int .i64 (V : Int)], x.oneCell' = true := by
  intro x hx
  simp at hx
  rcases hx with rfl | rfl <;> rfl
theorem Fin.step {w6 w wr : World} {B g : Nat} {r3 : Option Nat} {fs : List (Nat × Nat)} {u V k : Nat} {v5 v6 u5 u6 : Value}
    (h : IsOut w6 B g r3 (fBits fs ++ bitsL u V) ∧ w6.ownsRow B 4 1 v5 ((fBits fs).length + V) (bools (fBits fs) ++ bools (bitsL u V)) ∧ w6.ownsRow B 37 2 v6 (fs.length + 1) (fCells fs ++ [.int .u64 (u : Int), .int .i64 (V : Int)]) ∧ Below B w w6)
    (hs : St wr B g u5 u6 fs k w) (hu : u < 2 ^ V) (h1 : 1 ≤ V) (h2 : V ≤ 64) : St w6 B g v5 v6 (fs ++ [(u, V)]) (k + 1) w := by
  obtain ⟨q1, q2, q3, q4⟩ := h
  have hl := hs.hl
  have hn := hs.hn
  refine ⟨⟨r3, by rw [fBits_snoc]; exact q1⟩, ?_, ?_, q4, ?_, ?_, ?_⟩
  · rw [fBits_snoc, List.length_append, bitsL_length, show bools (fBits fs ++ bitsL u V) = bools (fBits fs) ++ bools (bitsL u V) by simp [bools]]
    exact q2
  · rw [fCells_snoc, List.length_append]; exact q3
  · rw [fBits_snoc, List.length_append, bitsL_length]; omega
  · rw [List.length_append]; simp; omega
  · intro f hf
    rcases List.mem_append.1 hf with hf | hf
    · exact hs.hok f hf
    · simp at hf
      subst hf
      exact ⟨h1, h2, hu⟩
set_option maxRecDepth 100000 in
set_option maxHeartbeats 8000000 in
theorem walk (A : Option Addr) (n c : Nat) (w : World) (w0 : IsRows [.int .u64, .int .i64] w A n c) :
    Calls Try.prog 5 #[.slice A n c] w fun e w' => e = .returned (.bool true) ∧ Below w.heap.size w w' := by
  obtain ⟨rows, hrows, hok, hnc, hcm⟩ := w0.rds (by simp)
  clear w0
  unfold maxLen at hcm
  go_enter Try.func5, Try.ntmps5
  go_wp2_with fail
  refine (begun_any _).mono ?_
  rintro e w1 ⟨rfl, hb1⟩
  have ho := isOut_new w1 w.heap.size hb1.size
  have hb2 := hb1.alloc hb1.size (.cells #[.slice none 0 0, .int .i64 0] 34)
  have hgw := hb1.size
  go_wp2_with fail
  generalize w1.alloc (.cells #[.slice none 0 0, .int .i64 0] 34) = w2 at *
  generalize w1.heap.size = g at *
  clear hb1
  have hst : St w2 w.heap.size g (.slice none 0 0) (.slice none 0 0) [] 0 w := ⟨⟨none, ho⟩, World.ownsRow_nil _ _ _ _, World.ownsRow_nil _ _ _ _, hb2, by simp [fBits], by simp, by simp⟩
  clear ho hb2
  go_loopw [5, 6, 7, 8, 9] (fun v5 v6 i _ _ wr => ∃ (k : Nat) (fs : List (Nat × Nat)), k ≤ n ∧ k ≤ 40 ∧ i = .int .i64 k ∧ St wr w.heap.size g v5 v6 fs k w) (fun _ _ i _ _ _ => 40 - (intOf i).toNat)
  case atStart => exact ⟨0, [], by omega, by omega, rfl, hst⟩
  case round =>
    obtain ⟨k, fs, hk, hk40, rfl, hs⟩ := hrel
    clear hst
    by_cases hlt : k < n ∧ k < 40
    · obtain ⟨hlt, hlt2⟩ := hlt
      have i1 : (k : Int) < (n : Int) := by omega
      have i2 : (k : Int) < 40 := by omega
      obtain ⟨b, o, u, W, rfl, hbw, hu, hW, -, f0, f1⟩ := field_at hrows hok hlt
      have g0 := (hs.hb.cell (p := ⟨b, o + (k * 2 + 0), none⟩) hbw).trans f0
      have g1 := (hs.hb.cell (p := ⟨b, o + (k * 2 + 1), none⟩) hbw).trans f1
      rw [Nat.add_zero] at g0
      rw [← Nat.add_assoc] at g1
      have hU := Lib.hid hu
      have hW2 := Lib.hid (wf_i64 hW)
      clear f0 f1 hu hW
      obtain ⟨r, ho⟩ := hs.ho
      have hbs := hs.hb.size
      have hbel := hs.hb.alloc hbs (.cells #[.int .u64 (u : Int), .int .i64 W] 37)
      have ho1 := ho.keep (Keep.of_new (S := fun _ => False) ((Below.refl _ wr).alloc (Nat.le_refl _) (.cells #[.int .u64 (u : Int), .int .i64 W] 37))) (fun h => h) (fun _ _ h => h)
      have hfb := heap_alloc_new wr (.cells #[.int .u64 (u : Int), .int .i64 W] 37)
      have o5 := hs.h5.alloc (.cells #[.int .u64 (u : Int), .int .i64 W] 37)
      have o6 := hs.h6.alloc (.cells #[.int .u64 (u : Int), .int .i64 W] 37)
      have hll := hs.hl
      have hFs : wr.heap.size = wr.heap.size := rfl
      have hcase : (W < 1 ∨ 64 < W) ∨ (1 ≤ W ∧ W ≤ 64) := by omega
      rcases hcase with hc | ⟨hc1, hc2⟩
      · have HK := Lib.hid (show okB u W = false by
          rcases hc with hc | hc
          · unfold okB; rw [decide_eq_false (by omega), Bool.false_and]
          · unfold okB; rw [decide_eq_false (show ¬ W ≤ 64 by omega), Bool.false_and, Bool.and_false])
        rcases hc with hc | hc
        all_goals
          go_wp2_with fail
          all_goals
            refine (put_all w.heap.size g r (fBits fs) u W _ ho1 (by omega) hbel.size).mono ?_
            rw [HK.out]
            rintro e w3 ⟨rfl, r3, ho3, hr3, hk3⟩
            simp only [Bool.false_eq_true, if_false] at ho3
            have hst : St w3 w.heap.size g u5 u6 fs (k + 1) w := ⟨⟨r3, ho3⟩, own_keep o5 hk3 (ho1.apart o5 (by decide) (by decide)), own_keep o6 hk3 (ho1.apart o6 (by decide) (by decide)), hbel.trans (hk3.below hbel.size (by rintro i (h | h); (have := ho.base; omega); exact ho.owner i h.symm)), by omega, by have := hs.hn; omega, hs.hok⟩
            clear hs ho ho1 ho3 hk3 o5 o6 hfb hbel
            go_wp2_with fail
            go_roundw
            case rel => exact ⟨k + 1, fs, by omega, by omega, by go_num, hst⟩
            case measure => simp [intOf]; omega
      · obtain ⟨V, rfl⟩ := Int.eq_ofNat_of_zero_le (show 0 ≤ W by omega)
        have hV1 : 1 ≤ V := by omega
        have hV2 : V ≤ 64 := by omega
        by_cases hlt3 : u < 2 ^ V
        · have HK := Lib.hid (show okB u (V : Int) = true by simp only [okB, Int.toNat_natCast, decide_eq_true hc1, decide_eq_true hc2, decide_eq_true hlt3, Bool.and_self])
          have hV2' : V = 64 ∨ (V < 64 ∧ (V : Int) < 64) := by omega
          have HP := Lib.hid hlt3
          clear hlt3
          rcases hV2' with h64 | h64
          all_goals
            first
              | (have e64 : ((V : Int) == 64) = true := (by rw [h64]; rfl); clear h64; go_wp2_with fail)
              | (have e64 : ((V : Int) == 64) = false := (by have := h64.2; rw [beq_eq_false_iff_ne]; omega); have em := mask63 V h64.1; have ep := pow_u64 V h64.1; obtain ⟨P2, hP2⟩ : ∃ P2 : Nat, P2 = 2 ^ V := ⟨_, rfl⟩; rw [← hP2] at ep; have hup : (u : Int) < (P2 : Int) := (by have := HP.out; rw [hP2]; omega); have h64' := h64.2; clear hP2 h64; go_wp2_with fail)
            refine (put_all w.heap.size g r (fBits fs) u (V : Int) _ ho1 (by omega) hbel.size).mono ?_
            rw [HK.out]
            rintro e w3 ⟨rfl, r3, ho3, hr3, hk3⟩
            simp only [if_true, Int.toNat_natCast] at ho3
            have hgF := ho.blk
            have hrF := ho.lt
            have S3 : Sx w3 w.heap.size g wr.heap.size r3 (fBits fs ++ bitsL u V) u5 (fBits fs).length (bools (fBits fs)) u6 fs.length (fCells fs) u V w := by
              refine ⟨blk_keep (S := fun k => k = g ∨ some k = r) hfb hk3 (by rintro (h | h); omega; (have := hrF _ h.symm; omega)), ho3, own_keep o5 hk3 (ho1.apart o5 (by decide) (by decide)), own_keep o6 hk3 (ho1.apart o6 (by decide) (by decide)), hbel.trans (hk3.below hbel.size (by rintro i (h | h); (have := ho.base; omega); exact ho.owner i h.symm)), ?_, Nat.le_trans hbel.size hk3.size⟩
              intro e
              have := hs.h6.lt _ e
              omega
            replace S3 := S3.drew
            have hLb : (fBits fs).length ≤ 2560 := by omega
            have hnb : fs.length ≤ 40 := by have := hs.hn; omega
            have hu2 := hU.out
            have hUU := Lib.hid (And.intro hV2 hu2)
            have Hx := Lib.hid (show (fBits fs).length + V ≤ maxLen by unfold maxLen; omega)
            have Hy := Lib.hid (show ((fBits fs).length + V) * 1 ≤ 140737488355328 by omega)
            have Hz := Lib.hid (show fs.length + 1 ≤ maxLen by unfold maxLen; omega)
            have Hw := Lib.hid (show (fs.length + 1) * 16 ≤ 140737488355328 by omega)
            go_wp2_with fail
            generalize hF : wr.heap.size = F at *
            go_region_held_law (fun w' => w'.cell? ⟨F, 0, none⟩ = some (.int .u64 (u : Int)) ∧ w'.cell? ⟨F, 1, none⟩ = some (.int .i64 (V : Int)))
              (first | exact ⟨(blk_cell hF6 0).trans rfl, (blk_cell hF6 1).trans rfl⟩ | exact ⟨(blk_cell S5.hF 0).trans rfl, (blk_cell S5.hF 1).trans rfl⟩ | exact ⟨(blk_cell (S5.alloc _).hF 0).trans rfl, (blk_cell (S5.alloc _).hF 1).trans rfl⟩ | exact ⟨(blk_cell S4.hF 0).trans rfl, (blk_cell S4.hF 1).trans rfl⟩ | exact ⟨(blk_cell (S4.alloc _).hF 0).trans rfl, (blk_cell (S4.alloc _).hF 1).trans rfl⟩ | exact ⟨(blk_cell S3.hF 0).trans rfl, (blk_cell S3.hF 1).trans rfl⟩ | exact ⟨(blk_cell (S3.alloc _).hF 0).trans rfl, (blk_cell (S3.alloc _).hF 1).trans rfl⟩ | trivial)
              (first
                | (go_simp; go_at_call 27; refine (bits_any (u : Int) (V : Int) _ (by omega) (by have := hUU.out; omega) (by omega) (by have := hUU.out; omega)).mono ?_; rintro e w4 ⟨v4, rfl, hown4, hb4⟩; simp only [Int.toNat_natCast] at hown4; obtain ⟨A4, c4, rfl, -, -⟩ := own_slice hown4; have hrd4 := Rd.of_own hown4; first | (have S4 := S3.below hb4) | (have S4 := (S3.alloc _).below hb4; have hN4 := blk_below (heap_alloc_new w3.drew _) hb4))
                | (refine step_appendN (wr := w4) (base := w.heap.size) (B := w.heap.size) (w0 := w) (C := w4.heap.size) (n := (fBits fs).length) (m := V) (v := u5) (A := A4) (c := c4) (xs := bools (fBits fs)) (news := bools (bitsL u V)) rfl (.tmp 66) (.tmp 71) 35 rfl 4 (.bool false) 1 Try.underlying35 boolInfo rfl S4.h5 S4.hb (by go_simp) (by go_simp) hrd4 (one_bools _) Hx.out Hy.out S4.hB (Nat.le_refl _) ?_; intro v5 w5 hown5 hbel5 hgr5 _; have S5 := Sx.app5 S4 hown5 hgr5; have hN5 := blk_grown hN4 hgr5 (Ne.symm (own_ne S4.h5 hN4 (by decide))))
                | (refine step_appendN (wr := w4.alloc (.cells #[.int .u64 (u : Int), .int .i64 (V : Int)] 37)) (base := w.heap.size) (B := w.heap.size) (w0 := w) (C := w4.heap.size) (n := (fBits fs).length) (m := V) (v := u5) (A := A4) (c := c4) (xs := bools (fBits fs)) (news := bools (bitsL u V)) rfl (.tmp 66) (.tmp 71) 35 rfl 4 (.bool false) 1 Try.underlying35 boolInfo rfl (S4.alloc (.cells #[.int .u64 (u : Int), .int .i64 (V : Int)] 37)).h5 (S4.alloc (.cells #[.int .u64 (u : Int), .int .i64 (V : Int)] 37)).hb (by go_simp) (by go_simp) (hrd4.below ((Below.refl _ w4).alloc (Nat.le_refl _) (.cells #[.int .u64 (u : Int), .int .i64 (V : Int)] 37)) (Nat.le_refl _)) (one_bools _) Hx.out Hy.out (S4.alloc (.cells #[.int .u64 (u : Int), .int .i64 (V : Int)] 37)).hB (Nat.le_refl _) ?_; intro v5 w5 hown5 hbel5 hgr5 _; have S5 := Sx.app5 (S4.alloc (.cells #[.int .u64 (u : Int), .int .i64 (V : Int)] 37)) hown5 hgr5; have hN5 := blk_grown (heap_alloc_new w4 (.cells #[.int .u64 (u : Int), .int .i64 (V : Int)] 37)) hgr5 (Ne.symm (own_ne (S4.alloc (.cells #[.int .u64 (u : Int), .int .i64 (V : Int)] 37)).h5 (heap_alloc_new w4 (.cells #[.int .u64 (u : Int), .int .i64 (V : Int)] 37)) (by decide))))
                | (refine step_appendN (wr := w4) (base := w.heap.size) (B := w.heap.size) (w0 := w) (C := w4.heap.size) (n := (fBits fs).length) (m := V) (v := u5) (A := A4) (c := c4) (xs := bools (fBits fs)) (news := bools (bitsL u V)) rfl (.tmp 66) (.tmp 71) 35 rfl 4 (.bool false) 1 Try.underlying35 boolInfo rfl S4.h5 S4.hb (by go_simp) (by go_simp) hrd4 (one_bools _) Hx.out Hy.out S4.hB (Nat.le_refl _) ?_; intro v5 w5 hown5 hbel5 hgr5 _; have S5 := Sx.app5 S4 hown5 hgr5)
                | (refine step_appendZ (wx := w5) (base := w.heap.size) (n := fs.length) (m := 1) (c := 1) (v := u6) (xs := fCells fs) (news := [.int .u64 (u : Int), .int .i64 (V : Int)]) rfl (.tmp 73) (.tmp 75) 30 rfl 37 _ 2 16 Try.underlying30 fieldInfo rfl (by decide) S5.h6 (by go_simp) (by go_simp) rfl (news_of hN5) (news_one u V) Hz.out Hw.out S5.hB ?_; intro v6 w6 hown6 hgr6 _; have hF6 := blk_grown S5.hF hgr6 (fun e => S5.h6F e.symm); have hfin := Lib.hid (Sx.app6 S5 hown6 hgr6))
                | (refine step_appendZ (wx := w5.alloc (.cells #[.int .u64 (u : Int), .int .i64 (V : Int)] 37)) (base := w.heap.size) (n := fs.length) (m := 1) (c := 1) (v := u6) (xs := fCells fs) (news := [.int .u64 (u : Int), .int .i64 (V : Int)]) rfl (.tmp 73) (.tmp 75) 30 rfl 37 _ 2 16 Try.underlying30 fieldInfo rfl (by decide) (S5.alloc (.cells #[.int .u64 (u : Int), .int .i64 (V : Int)] 37)).h6 (by go_simp) (by go_simp) rfl (news_of (heap_alloc_new w5 (.cells #[.int .u64 (u : Int), .int .i64 (V : Int)] 37))) (news_one u V) Hz.out Hw.out (S5.alloc (.cells #[.int .u64 (u : Int), .int .i64 (V : Int)] 37)).hB ?_; intro v6 w6 hown6 hgr6 _; have hF6 := blk_grown (S5.alloc (.cells #[.int .u64 (u : Int), .int .i64 (V : Int)] 37)).hF hgr6 (fun e => (S5.alloc (.cells #[.int .u64 (u : Int), .int .i64 (V : Int)] 37)).h6F e.symm); have hfin := Lib.hid (Sx.app6 (S5.alloc (.cells #[.int .u64 (u : Int), .int .i64 (V : Int)] 37)) hown6 hgr6)))
            all_goals
              have hst := Fin.step hfin.out hs HP.out hV1 hV2
              clear hfin
              go_wp2_with fail
              go_roundw
              case rel => exact ⟨k + 1, _, by omega, by omega, by go_num, hst⟩
              case measure => simp [intOf]; omega
        · have HK := Lib.hid (show okB u (V : Int) = false by simp only [okB, Int.toNat_natCast, decide_eq_false hlt3, Bool.and_false])
          have hV64 : V < 64 := by
            apply Nat.lt_of_not_le
            intro h
            have hu2 := hU.out
            obtain rfl : V = 64 := by omega
            exact hlt3 hu2
          have hV64' : (V : Int) < 64 := by omega
          have e64 : ((V : Int) == 64) = false := by rw [beq_eq_false_iff_ne]; omega
          have em := mask63 V hV64
          have ep := pow_u64 V hV64
          obtain ⟨P2, hP2⟩ : ∃ P2 : Nat, P2 = 2 ^ V := ⟨_, rfl⟩
          rw [← hP2] at ep hlt3
          have hup : decide (u < P2) = false := decide_eq_false (by omega)
          clear hP2 hV64 hlt3
          go_wp2_with fail
          all_goals
            refine (put_all w.heap.size g r (fBits fs) u (V : Int) _ ho1 (by omega) hbel.size).mono ?_
            rw [HK.out]
            rintro e w3 ⟨rfl, r3, ho3, hr3, hk3⟩
            simp only [Bool.false_eq_true, if_false] at ho3
            have hst : St w3 w.heap.size g u5 u6 fs (k + 1) w := ⟨⟨r3, ho3⟩, own_keep o5 hk3 (ho1.apart o5 (by decide) (by decide)), own_keep o6 hk3 (ho1.apart o6 (by decide) (by decide)), hbel.trans (hk3.below hbel.size (by rintro i (h | h); (have := ho.base; omega); exact ho.owner i h.symm)), by omega, by have := hs.hn; omega, hs.hok⟩
            clear hs ho ho1 ho3 hk3 o5 o6 hfb hbel
            go_wp2_with fail
            go_roundw
            case rel => exact ⟨k + 1, fs, by omega, by omega, by go_num, hst⟩
            case measure => simp [intOf]; omega
    · have hcase : (n : Int) ≤ (k : Int) ∨ ((k : Int) < (n : Int) ∧ (40 : Int) ≤ (k : Int)) := by omega
      have hl2560 : (fBits fs).length ≤ 2560 := by have := hs.hl; omega
      have hn40 : fs.length ≤ 40 := by have := hs.hn; omega
      obtain ⟨⟨r, ho⟩, h5, h6, hbk, -, -, hfok⟩ := hs
      obtain ⟨A5, c5, rfl, hc51, hc52⟩ := own_slice h5
      have hrd5 := Rd.of_own h5
      obtain ⟨A6, c6, rfl, hc61, hc62⟩ := own_slice h6
      clear hlt hrows hok h5
      rcases hcase with h | ⟨h, h'⟩
      all_goals
        go_wp2_with fail
        refine (outbytes_any _ g r _ _ ho (by omega)).mono ?_
        have hbl := bytesN_lt (fBits fs)
        have hbn := bytesN_len (fBits fs)
        have hcut := cut_bytes (fBits fs)
        have HA := Lib.hid (fAt_all fs)
        have HF := Lib.hid (fAt_succ fs)
        have HL := Lib.hid (show (bytesN (fBits fs)).length = ((fBits fs).length + 7) / 8 from hbn)
        generalize hLL : fBits fs = L at *
        rintro e w3 ⟨v3, rfl, hown3, hb3⟩
        have ho3 := ho.keep (Keep.of_new (S := fun _ => False) hb3) (fun h => h) (fun _ _ h => h)
        have hr5 := (hrd5.below hb3 (Nat.le_refl _)).mono hb3.size
        have h63 := own_below h6 hb3
        have hsz3 := hb3.size
        have hbw := Nat.le_trans hbk.size hb3.size
        replace hb3 := hbk.trans (hb3.mono hbk.size)
        obtain ⟨A3, c3, rfl, hc31, hc32⟩ := own_slice hown3
        have hrd3 := Rd.of_own hown3
        have hcv3 := run_str A3 _ c3 _ _ _ hrd3
        obtain ⟨str, hstr⟩ : ∃ s, s = strN (bytesN L) := ⟨_, rfl⟩
        rw [← hstr] at hcv3
        have HSTR := Lib.hid hstr.symm
        clear hstr hown3 hrd5 ho hbk h6
        go_wp2_with fail
        have ho3d : IsOut w3.drew w.heap.size g r L := ho3
        have hr5d : Rd w3.drew w3.heap.size A5 L.length (bools L) := hr5
        have hcvd : (convert 32 9 (.slice A3 ((L.length + 7) / 8) c3)).run Try.prog w3.drew = .ok (.string str) w3.drew := by
          rw [← HSTR.out]; exact run_str A3 _ c3 _ _ _ hrd3.drew
        have hLx := Lib.hid (show L.length ≤ 1000000 by omega)
        go_region_held (fun _ => True) (trivial)
          (first
            | (go_at_call 29; refine (len_any _ g r L _ ho3d).mono ?_; rintro e w' ⟨rfl, rfl⟩)
            | (go_at_call 30; refine (bytes_any A5 L.length c5 _ L _ hr5d (Nat.le_refl _) hLx.out).mono ?_; rintro e w5 ⟨v5, rfl, hown5, hb5⟩; obtain ⟨A7, c7, rfl, -, -⟩ := own_slice hown5; have hcv5 := run_str A7 _ c7 _ _ _ (Rd.of_own hown5); rw [HSTR.out] at hcv5; have hcv6 := run_str A3 _ c3 _ _ w5 (hrd3.drew.below hb5 (Nat.le_refl _)); rw [HSTR.out] at hcv6))
        all_goals
          have hrd8 := hrd3.drew.below hb5 (Nat.le_refl _)
          have h68 := own_below (w := w3.drew) h63 hb5
          have hb8 := (below_drewN hb3 1).trans (hb5.mono hbw)
          have hsz8 := hb5.size
          clear hcv5 hcv6 hcvd ho3d hr5d hown5 hcv3 hb5 hrd3 h63 ho3 hr5
          go_wp2_with fail
          generalize hbb : bytesN L = bb at *
          refine (read_any A3 _ c3 _ bb _ hrd8 hsz8).mono ?_
          rintro e w9 ⟨rfl, hin, hb9⟩
          have h69 := own_below h68 hb9
          have hg6 := fun k hk => (h68.lt k hk).2
          replace hb9 := hb8.trans (hb9.mono (Nat.le_trans hbw hsz8))
          have hgiw : w.heap.size ≤ w5.heap.size := Nat.le_trans hbw hsz8
          clear hb8 h68 hrd8
          generalize w5.heap.size = gi at *
          have HFOK := Lib.hid hfok
          have HBL := Lib.hid hbl
          have HC := Lib.hid hcut
          clear hfok hbl hcut hbb hLL hbn
          go_wp2_with fail
          go_loopw [12, 13, 14] (fun i _ _ wx => ∃ p : Nat, p ≤ fs.length ∧ i = .int .i64 p ∧ IsIn wx w3.drew.heap.size gi bb (fAt fs p) ∧ wx.ownsRow w.heap.size 37 2 (.slice A6 fs.length c6) fs.length (fCells fs) ∧ Below w.heap.size w wx) (fun i _ _ _ => fs.length - (intOf i).toNat)
          case atStart => exact ⟨0, by omega, rfl, by simpa [fAt, fBits] using hin, h69, hb9⟩
          case round =>
            obtain ⟨p, hp, rfl, hin2, h62, hb2⟩ := hrel
            clear hin h69 hb9
            by_cases hpn : p < fs.length
            · have hpn' : (p : Int) < (fs.length : Int) := by omega
              obtain ⟨q1, q2, q3⟩ := HF.out p hpn
              obtain ⟨c61', c62'⟩ := fCells_get fs p hpn
              obtain ⟨f1, f2, f3⟩ := HFOK.out _ (List.getElem_mem hpn)
              obtain ⟨g6, cx, hA6, -, gl6, -, -⟩ := own_form h62 (by omega)
              cases hA6
              have hl6 := fCells_length fs
              have k0 : wr.cell? ⟨g6, p * 2, none⟩ = some (.int .u64 ((fs[p].1 : Nat) : Int)) := by rw [h62.cellAt (p * 2) (by omega), c61']
              have k1 : wr.cell? ⟨g6, p * 2 + 1, none⟩ = some (.int .i64 ((fs[p].2 : Nat) : Int)) := by rw [h62.cellAt (p * 2 + 1) (by omega), c62']
              have hg6' := hg6 g6 rfl
              generalize fs[p].1 = fu at *
              generalize fs[p].2 = fV at *
              have hval := HC.out (fAt fs p) fV q2
              have hlen := HL.out
              have HV := Lib.hid (show numN (cutB (ofN bb) (fAt fs p) fV) = fu by rw [hval, q3, numN_bitsL _ _ f3])
              have HQ := Lib.hid q1
              have hrange : fAt fs p + fV ≤ 8 * bb.length := by omega
              have hb125 : bb.length ≤ 1000000000 := by omega
              clear c61' c62' q1 q3 f3 hval hl6
              go_wp2_with fail
              refine (get_yes _ gi bb (fAt fs p) fV _ hin2 HBL.out hb125 f1 f2 hrange).mono ?_
              rw [HV.out]
              rintro e w10 ⟨rfl, hin3, hk10⟩
              have h63 := own_keep h62 hk10 (fun k hk e => by have := hg6 k hk; omega)
              have hb3 := hb2.trans (hk10.below (by have := hb2.size; omega) (by rintro i rfl; exact hgiw))
              have k2 : w10.cell? ⟨g6, p * 2, none⟩ = some (.int .u64 (fu : Int)) := by rw [World.cell?_of_block (hk10.block g6 (by have := hin2; obtain ⟨_, _, hgg, _, _⟩ := this; have := lt_of_cells hgg; omega) (by omega))]; exact k0
              clear hin2 h62 hb2 k0 k1 hk10
              go_wp2_with fail
              go_roundw
              case rel => exact ⟨p + 1, by omega, by go_num, by rw [HQ.out]; exact hin3, h63, hb3⟩
              case measure => simp [intOf]; omega
            · obtain rfl : p = fs.length := by omega
              have hdd : decide ((fs.length : Int) < (fs.length : Int)) = false := by simp
              rw [HA.out] at hin2
              go_wp2_with fail
              refine (left_any _ gi bb L.length _ hin2 (by have := HL.out; omega) (by have := HL.out; omega)).mono ?_
              rw [HL.out]
              rintro e w10 ⟨rfl, n10, rfl⟩
              go_wp2_with fail
              go_ret
              exact ⟨by first | rfl | simp, below_drewN hb2 _⟩
end Go.Proofs.Ytlahcmldbgeifaa.bitsAll
