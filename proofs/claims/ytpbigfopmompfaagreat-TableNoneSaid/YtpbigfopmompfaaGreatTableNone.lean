import Derived.Test.YtpbigfopmompfaaGreatBegun13
/- No table, no tally. The walk: printed by gentnone.py. -/
namespace Go.Proofs.YtpbigfopmompfaaGreat.tableNone
open Go.RowKit
set_option linter.unusedVariables false
set_option maxRecDepth 100000 in
theorem put_nil (l s r b row slot m : Int) (d : List Nat) (w : World) : Calls Tryz.prog 16 #[.pointer none, .agg (enV l s r d).toArray, .agg #[.int .i64 b, .int .i64 row, .int .i64 slot], .int .i64 m] w fun e w' => e = .returned (.bool false) ∧ Below w.heap.size w w' := by
  have hnn := tab.nil_eql
  have hb0 := below2 w (.cells (enV l s r d).toArray 29) (.cells #[.int .i64 b, .int .i64 row, .int .i64 slot] 31)
  have HB0 := Lib.hid hb0
  clear hb0
  go_enter Tryz.func16, Tryz.ntmps16
  go_upto_region 1 with fail
  change Code.wp _ _ _ _ ((w.alloc (.cells (enV l s r d).toArray 29)).alloc (.cells #[.int .i64 b, .int .i64 row, .int .i64 slot] 31))
  generalize (w.alloc (.cells (enV l s r d).toArray 29)).alloc (.cells #[.int .i64 b, .int .i64 row, .int .i64 slot] 31) = w2 at *
  go_quiet (fail)
  go_wp2_with fail
  go_ret
  exact ⟨rfl, below_drewN HB0.out _⟩
theorem built_e : Tryz.prog.built 29 [(2, .int .i64 1)] = some (enV 0 0 1 zero16).toArray := by kernel_rfl
theorem geo_eq (w : World) : (binOp .eql 39 (.agg #[.int .i64 0, .int .i64 0, .int .i64 0]) (.agg #[.int .i64 0, .int .i64 0, .int .i64 0])).run Tryz.prog w = .ok (.bool true) w := by kernel_rfl
set_option maxRecDepth 100000 in
set_option maxHeartbeats 8000000 in
theorem walk (w : World) : Calls Tryz.prog 9 #[] w fun e w' => e = .returned (.bool true) ∧ Below w.heap.size w w' := by
  have hge := geo_eq
  go_enter Tryz.func9, Tryz.ntmps9
  go_wp2_with fail
  refine (tab.get_nil 0 w).mono ?_
  rintro e w1 ⟨rfl, hb⟩
  have hbr := hb.alloc hb.size (.cells tab.At6.zero.v.toArray 33)
  have hs := hb.size
  clear hb
  go_wp2_with (first | (refine wpList_put_row rfl 33 (.tmp 3) (.tmp 8) rfl w1.heap.size tab.At6.zero.v rfl rfl 33 _ (heap_new' w1 _ _ rfl) tab.atInfo rfl (tab.one_at _) ?_; intro w2 hU; have hb2 := hU.below hbr hs; clear hU hbr hs))
  have HB2 := Lib.hid hb2
  clear hb2
  refine (tal.wore_no none 0 1 w2 (tal.at_nil _ _)).mono ?_
  rintro e wz ⟨rfl, rfl⟩
  go_wp2_with fail
  refine (tal.bad_no none 0 0 w2 (tal.at_nil _ _)).mono ?_
  rintro e wz ⟨rfl, rfl⟩
  go_wp2_with fail
  refine (tal.dead_nil 0 w2).mono ?_
  rintro e wz ⟨rfl, rfl⟩
  go_wp2_with fail
  refine (begun13.begun13_any w2).mono ?_
  rintro e w3 ⟨rfl, hb⟩
  have HB3 := Lib.hid (HB2.out.trans (hb.mono HB2.out.size))
  clear hb HB2
  go_wp2_with (first | (refine wpList_build_l rfl 29 _ rfl _ rfl _ built_e ?_))
  refine (put_nil 0 0 1 0 0 0 3 zero16 w3).mono ?_
  rintro e w4 ⟨rfl, hb⟩
  have HB4 := Lib.hid (HB3.out.trans (hb.mono HB3.out.size))
  clear hb HB3
  go_wp2_with fail
  refine (tab.len_nil w4).mono ?_
  rintro e wz ⟨rfl, rfl⟩
  go_wp2_with fail
  refine (tab.count_nil 0 w4).mono ?_
  rintro e wz ⟨rfl, rfl⟩
  go_wp2_with fail
  refine (tab.in_nil 0 w4).mono ?_
  rintro e wz ⟨rfl, rfl⟩
  go_wp2_with fail
  refine (tab.next_nil w4).mono ?_
  rintro e wz ⟨rfl, rfl⟩
  go_wp2_with fail
  refine (tal.wear_no none 0 w4 (tal.at_nil _ _)).mono ?_
  rintro e wz ⟨rfl, rfl⟩
  go_wp2_with fail
  refine (tal.mask_no none 0 w4 (tal.at_nil _ _)).mono ?_
  rintro e wz ⟨rfl, rfl⟩
  go_wp2_with fail
  refine (tal.alive_nil w4).mono ?_
  rintro e wz ⟨rfl, rfl⟩
  go_wp2_with fail
  refine (tal.usable_no none 0 w4 (tal.at_nil _ _)).mono ?_
  rintro e wz ⟨rfl, rfl⟩
  go_wp2_with fail
  refine (tal.blank_no none 0 w4 (tal.at_nil _ _)).mono ?_
  rintro e wz ⟨rfl, rfl⟩
  go_wp2_with fail
  refine (tal.held_no none 0 w4 (tal.at_nil _ _)).mono ?_
  rintro e wz ⟨rfl, rfl⟩
  go_wp2_with fail
  refine (pick.spent_nil 0 w4).mono ?_
  rintro e w5 ⟨rfl, hb⟩
  have HB5 := Lib.hid (HB4.out.trans (hb.mono HB4.out.size))
  clear hb HB4
  go_wp2_with fail
  have hgz := tal.geo_nil w5
  rw [show tal.geoV 0 0 0 = [.int .i64 0, .int .i64 0, .int .i64 0] from rfl] at hgz
  refine hgz.mono ?_
  rintro e w6 ⟨rfl, hb⟩
  have HB6 := Lib.hid (HB5.out.trans (hb.mono HB5.out.size))
  clear hb hgz
  go_wp2_with fail
  go_ret
  exact ⟨rfl, HB6.out⟩
end Go.Proofs.YtpbigfopmompfaaGreat.tableNone
