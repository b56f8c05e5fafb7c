import Derived.Test.YtakekjbbbjmdpaaSpotInt
import Derived.Test.YtakekjbbbjmdpaaBegun5
/- SpotNone: no map; no condition. -/
namespace Go.Proofs.Ytakekjbbbjmdpaa.spotNone
open Go.RowKit
set_option linter.unusedVariables false
def a0 : Ad := ⟨0, 0, 0⟩
theorem built_a0 : Try.prog.built 83 [] = some a0.v.toArray := by kernel_rfl
theorem alloc_below (w : World) (o : Obj) : Below w.heap.size w (w.alloc o) := (Below.refl _ w).alloc (Nat.le_refl _) o
set_option maxRecDepth 100000 in
theorem nset (w : World) : Calls Try.prog 56 #[.pointer none, .agg a0.v.toArray, .int .i64 1] w fun e w' => e = .returned (.tuple #[]) ∧ Below w.heap.size w w' := by
  have hnn := spotInt.nil_neq
  have hb := alloc_below w (.cells a0.v.toArray 83)
  go_enter Try.func56, Try.ntmps56
  go_wp2_with fail
  go_end0
  exact ⟨rfl, hb⟩
set_option maxRecDepth 100000 in
theorem nget (w : World) : Calls Try.prog 58 #[.pointer none, .agg a0.v.toArray] w fun e w' => e = .returned (.tuple #[.int .i64 0, .bool false]) ∧ Below w.heap.size w w' := by
  have hnn := spotInt.nil_eql
  have hb := alloc_below w (.cells a0.v.toArray 83)
  have hz := spotInt.zero_run
  go_enter Try.func58, Try.ntmps58
  go_wp2_with fail
  go_ret2
  exact ⟨rfl, by first | exact hb | exact Below.refl _ _⟩
set_option maxRecDepth 100000 in
theorem ndrop (w : World) : Calls Try.prog 57 #[.pointer none, .agg a0.v.toArray] w fun e w' => e = .returned (.bool false) ∧ Below w.heap.size w w' := by
  have hb := alloc_below w (.cells a0.v.toArray 83)
  have hc := range_blk (heap_alloc_new w (.cells a0.v.toArray 83))
  go_enter Try.func57, Try.ntmps57
  go_upto_region 1 with fail
  generalize w.alloc (.cells a0.v.toArray 83) = w1 at *
  go_wp2_with (first | (refine wpList_load_mid rfl 83 (.tmp 3) rfl w.heap.size 0 rfl a0.v _ hc Try.underlying83 rfl aInfo ?_))
  refine (nget w1).mono ?_
  rintro e w2 ⟨rfl, hb2⟩
  have hb3 := hb.trans (hb2.mono hb.size)
  go_wp2_with fail
  go_ret
  exact ⟨rfl, hb3⟩
set_option maxRecDepth 100000 in
theorem nlen (w : World) : Calls Try.prog 59 #[.pointer none] w fun e w' => e = .returned (.int .i64 0) ∧ w = w' := by
  have hnn := spotInt.nil_eql
  go_enter Try.func59, Try.ntmps59
  go_wp2_with fail
  go_ret
  exact ⟨rfl, rfl⟩
set_option maxRecDepth 100000 in
theorem nall (w : World) : Calls Try.prog 60 #[.pointer none] w fun e w' => e = .returned (.slice none 0 0) ∧ w = w' := by
  have hnn := spotInt.nil_eql
  go_enter Try.func60, Try.ntmps60
  go_wp2_with fail
  go_ret
  exact ⟨rfl, rfl⟩
set_option maxRecDepth 100000 in
theorem nblock (w : World) : Calls Try.prog 66 #[.pointer none, .int .i64 0, .int .i64 0] w fun e w' => ∃ A c, e = .returned (.slice A 0 c) ∧ Below w.heap.size w w' := by
  have hb2 := below2 w (.cells #[.int .i64 0] 3) (.cells #[.int .i64 0] 3)
  have h1 : ((w.alloc (.cells #[.int .i64 0] 3)).alloc (.cells #[.int .i64 0] 3)).cell? ⟨w.heap.size, 0, none⟩ = some (.int .i64 0) := by rw [blk_cell (heap_at1 _ _ _)]; rfl
  have h2 : ((w.alloc (.cells #[.int .i64 0] 3)).alloc (.cells #[.int .i64 0] 3)).cell? ⟨w.heap.size + 1, 0, none⟩ = some (.int .i64 0) := by rw [blk_cell (heap_new' (w.alloc _) _ _ (by simp))]; rfl
  have hsz : ((w.alloc (.cells #[.int .i64 0] 3)).alloc (.cells #[.int .i64 0] 3)).heap.size = w.heap.size + 2 := by simp
  have HSZ := Lib.hid hsz
  clear hsz
  go_enter Try.func66, Try.ntmps66
  go_upto_region 1 with fail
  generalize (w.alloc (.cells #[.int .i64 0] 3)).alloc (.cells #[.int .i64 0] 3) = w1 at *
  go_wp2_with fail
  refine (nall w1).mono ?_
  rintro e w2 ⟨rfl, rfl⟩
  have q1 : w.heap.size < w1.heap.size := by have := HSZ.out; omega
  have q2 : w.heap.size + 1 < w1.heap.size := by have := HSZ.out; omega
  have HCD := Lib.hid (spotInt.del w1.heap.size (.slice none 0 0) [] w.heap.size (w.heap.size + 1) 0 0 w1 OwnRows.nil (Nat.le_refl _) h1 h2 q1 q2 (by simp))
  clear h1 h2
  go_wp2_with fail
  refine HCD.out.mono ?_
  rintro e w3 ⟨A, c, rfl, hrd, hbd⟩
  have hb3 := hb2.trans (hbd.mono hb2.size)
  go_wp2_with fail
  go_ret
  exact ⟨A, c, rfl, hb3⟩
set_option maxRecDepth 100000 in
set_option maxHeartbeats 4000000 in
theorem walk (w : World) : Calls Try.prog 21 #[] w fun e w' => e = .returned (.bool true) ∧ Below w.heap.size w w' := by
  go_enter Try.func21, Try.ntmps21
  go_wp2_with (first | (refine wpList_build_l rfl 83 _ rfl _ rfl _ built_a0 ?_))
  refine (nset _).mono ?_
  rintro e w1 ⟨rfl, hb1⟩
  go_wp2_with (first | (refine wpList_build_l rfl 83 _ rfl _ rfl _ built_a0 ?_))
  refine (nget _).mono ?_
  rintro e w2 ⟨rfl, hb⟩
  have hb2 := hb1.trans (hb.mono hb1.size)
  clear hb hb1
  go_wp2_with fail
  refine (begun5.begun5_any _).mono ?_
  rintro e w3 ⟨rfl, hb⟩
  have hb3 := hb2.trans (hb.mono hb2.size)
  clear hb hb2
  go_wp2_with (first | (refine wpList_build_l rfl 83 _ rfl _ rfl _ built_a0 ?_))
  refine (ndrop _).mono ?_
  rintro e w4 ⟨rfl, hb⟩
  have hb4 := hb3.trans (hb.mono hb3.size)
  clear hb hb3
  go_wp2_with fail
  refine (nlen _).mono ?_
  rintro e w5 ⟨rfl, rfl⟩
  go_wp2_with fail
  refine (nall _).mono ?_
  rintro e w5 ⟨rfl, rfl⟩
  go_wp2_with fail
  refine (nblock _).mono ?_
  rintro e w5 ⟨A5, c5, rfl, hb⟩
  have hb5 := hb4.trans (hb.mono hb4.size)
  clear hb hb4
  go_wp2_with fail
  refine (pg.twins_any none 0 0 w5.heap.size [] w5 Rds.nil (Nat.le_refl _) (by simp) (by simp)).mono ?_
  rintro e w6 ⟨v6, f6, rfl, hown, -, hb⟩
  have hb6 := hb5.trans (hb.mono hb5.size)
  clear hb hb5
  obtain ⟨A6, c6, rfl, -, -⟩ := own_slice hown
  clear hown
  go_wp2_with fail
  go_ret
  exact ⟨by first | rfl | simp [pg.twinsK], hb6⟩
end Go.Proofs.Ytakekjbbbjmdpaa.spotNone
