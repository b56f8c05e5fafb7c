import Derived.Test.YtakekjbbbjmdpaaTurnLaw
import Derived.Test.YtakekjbbbjmdpaaRefGet
/- What is told of any page is what the document tells of it. -/
namespace Go.Proofs.Ytakekjbbbjmdpaa
open Go.RowKit
set_option linter.unusedVariables false
theorem wf_small {n : Int} (h0 : 0 ≤ n) (h1 : n < 1099511627776) : (Lit.int .i64 n).wf = true := by
  simp [Lit.wf, IntKind.min, IntKind.max, IntKind.bits, IntKind.signed]; omega
theorem getV_sh {P : List Nat} (hP : P.length = 32) (hb : ∀ x ∈ P, x < 256) : ∃ x : Sh, getV P = x.v ∧ x.ok ∧ x.wf := by
  unfold getV
  split
  · obtain ⟨q1, q2, q3⟩ := r_fields hP
    have b1 := fld_lt P 128 8 (by omega)
    have b2 := fld_lt P 136 16 (by omega)
    have b3 := fld_lt P 152 40 (by omega)
    have b4 := rB_bd hP
    have b5 := rO_bd hP
    have b6 := rK_bd hP
    have b7 := rMask_bd hP
    exact ⟨⟨P.take 16, rR P, rL P, rS P, rK P, rB P, rO P, rMask P⟩, rfl, ⟨by show (P.take 16).length = 16; rw [List.length_take]; omega, take_lt hb 16⟩,
      wf_small (by show 0 ≤ rR P; omega) (by show rR P < _; omega), wf_small (by show 0 ≤ rL P; omega) (by show rL P < _; omega), wf_small (by show 0 ≤ rS P; omega) (by show rS P < _; omega),
      wf_small (by show 0 ≤ rK P; omega) (by show rK P < _; omega), wf_small (by show 0 ≤ rB P; omega) (by show rB P < _; omega), wf_small (by show 0 ≤ rO P; omega) (by show rO P < _; omega), wf_small (by show 0 ≤ rMask P; omega) (by show rMask P < _; omega)⟩
  · exact ⟨⟨zero16, 0, 0, 0, 0, 0, 0, 0⟩, rfl, ⟨rfl, by decide⟩, rfl, rfl, rfl, rfl, rfl, rfl, rfl⟩
set_option maxRecDepth 100000 in
set_option maxHeartbeats 4000000 in
theorem tells_any (P : List Nat) (w : World) (hP : P.length = 32) (hb : ∀ x ∈ P, x < 256) :
    Calls Try.prog 41 #[.agg (nats .u8 P).toArray] w fun e w' => e = .returned (.bool true) ∧ Below w.heap.size w w' := by
  obtain ⟨x, ex, hx, hwx⟩ := getV_sh hP hb
  obtain ⟨q', Es1, Es2⟩ := eql_sh_all hx hwx hx hwx
  obtain rfl : q' = true := Es2.2 rfl
  have iX := shInfo x.d hx.1 x.r x.l x.s x.k x.b x.o x.m
  have iXl := Lib.hid (shV_length hx.1 x.r x.l x.s x.k x.b x.o x.m)
  have G1 := fun w => get_sherd P w hP hb
  have G2 := fun w => refget_any P w hP hb
  have iP := pgInfo hP
  have e1 : getE P = if getB P then 0 else 1 := rfl
  simp only [ex] at G1 G2
  have h0 := heap_alloc_new w (.cells (nats .u8 P).toArray 42)
  have hbel := (Below.refl _ w).alloc (Nat.le_refl _) (.cells (nats .u8 P).toArray 42)
  generalize getB P = gb at *
  generalize getE P = ge at *
  have HG1 := Lib.hid G1
  have HG2 := Lib.hid G2
  have HE := Lib.hid e1
  have HQ := Lib.hid Es1
  clear G1 G2 e1 Es1 Es2 hx hwx ex hb hP
  go_enter Try.func41, Try.ntmps41
  go_upto_region 1 with fail
  generalize w.alloc (.cells (nats .u8 P).toArray 42) = w1 at *
  have hb_w1 := hbel
  clear hbel
  go_wp2_with (first | (refine wpList_load_mid rfl 42 (.tmp 1) rfl w.heap.size 0 rfl _ _ (range_blk h0) Try.underlying42 rfl iP ?_))
  refine (HG1.out _).mono ?_
  rintro e w5 ⟨rfl, hb⟩
  have h0_w5 := blk_below h0 hb
  have hb_w5 := hb_w1.trans (hb.mono hb_w1.size)
  clear hb hb_w1 h0
  go_wp2_with (first | (refine wpList_put_row rfl 40 (.tmp 3) (.tmp 10) rfl w5.heap.size x.v rfl rfl 40 _ (heap_new' w5 _ _ rfl) iX (by rw [Sh.v, iXl.out]; rfl) (one_shV _ _ _ _ _ _ _ _) ?_; intro w6 hUw6; have hs_w6 := hUw6.at_; have h0_w6 := hUw6.old (blk_alloc h0_w5 _) (show w.heap.size ≠ w5.heap.size by have := lt_of_cells h0_w5; omega); have hb_w6 := hUw6.below (hb_w5.alloc hb_w5.size _) hb_w5.size; clear hb_w5 h0_w5 hUw6) | (refine wpList_load_mid rfl 42 (.tmp 1) rfl w.heap.size 0 rfl _ _ (range_blk h0_w6) Try.underlying42 rfl iP ?_))
  refine (HG2.out _).mono ?_
  rintro e w7 ⟨rfl, hb⟩
  have h0_w7 := blk_below h0_w6 hb
  have hs_w7 := blk_below hs_w6 hb
  have hb_w7 := hb_w6.trans (hb.mono hb_w6.size)
  clear hb hb_w6 h0_w6 hs_w6
  have qe := HQ.out
  cases gb with
  | false =>
    obtain rfl : ge = 1 := HE.out
    go_wp2_with (first | (refine wpList_put_row rfl 40 (.tmp 5) (.tmp 15) rfl w7.heap.size x.v rfl rfl 40 _ (heap_new' w7 _ _ rfl) iX (by rw [Sh.v, iXl.out]; rfl) (one_shV _ _ _ _ _ _ _ _) ?_; intro w8 hUw8; have ht_w8 := hUw8.at_; have h0_w8 := hUw8.old (blk_alloc h0_w7 _) (show w.heap.size ≠ w7.heap.size by have := lt_of_cells h0_w7; omega); have hs_w8 := hUw8.old (blk_alloc hs_w7 _) (show w5.heap.size ≠ w7.heap.size by have := lt_of_cells hs_w7; omega); have hb_w8 := hUw8.below (hb_w7.alloc hb_w7.size _) hb_w7.size; clear hb_w7 h0_w7 hs_w7 hUw8) | (refine wpList_want_any 40 (.tmp 3) rfl w5.heap.size 0 rfl rfl _ _ (range_blk hs_w8) Try.underlying40 rfl iX ?_) | (refine wpList_want_any 40 (.tmp 5) rfl w7.heap.size 0 rfl rfl _ _ (range_blk ht_w8) Try.underlying40 rfl iX ?_))
    go_ret
    exact ⟨rfl, hb_w8⟩
  | true =>
    obtain rfl : ge = 0 := HE.out
    go_wp2_with (first | (refine wpList_put_row rfl 40 (.tmp 5) (.tmp 15) rfl w7.heap.size x.v rfl rfl 40 _ (heap_new' w7 _ _ rfl) iX (by rw [Sh.v, iXl.out]; rfl) (one_shV _ _ _ _ _ _ _ _) ?_; intro w8 hUw8; have ht_w8 := hUw8.at_; have h0_w8 := hUw8.old (blk_alloc h0_w7 _) (show w.heap.size ≠ w7.heap.size by have := lt_of_cells h0_w7; omega); have hs_w8 := hUw8.old (blk_alloc hs_w7 _) (show w5.heap.size ≠ w7.heap.size by have := lt_of_cells hs_w7; omega); have hb_w8 := hUw8.below (hb_w7.alloc hb_w7.size _) hb_w7.size; clear hb_w7 h0_w7 hs_w7 hUw8) | (refine wpList_want_any 40 (.tmp 3) rfl w5.heap.size 0 rfl rfl _ _ (range_blk hs_w8) Try.underlying40 rfl iX ?_) | (refine wpList_want_any 40 (.tmp 5) rfl w7.heap.size 0 rfl rfl _ _ (range_blk ht_w8) Try.underlying40 rfl iX ?_))
    go_ret
    exact ⟨rfl, hb_w8⟩
end Go.Proofs.Ytakekjbbbjmdpaa
