import Derived.Test.YtakekjbbbjmdpaaGeoBegun
/- GeoRows: of each row the die of the parity, and the others' slots, there and back; no condition. -/
namespace Go.Proofs.Ytakekjbbbjmdpaa.geoRows
open Go.RowKit
set_option linter.unusedVariables false
set_option maxHeartbeats 1000000 in
theorem walk (m b r s d : Int) (w : World) (w0 : (Lit.int .i64 m).wf = true) (w1 : (Lit.int .i64 b).wf = true) (w2 : (Lit.int .i64 r).wf = true) (w3 : (Lit.int .i64 s).wf = true) (w4 : (Lit.int .i64 d).wf = true) :
    Calls Try.prog 3 #[.int .i64 m, .int .i64 b, .int .i64 r, .int .i64 s, .int .i64 d] w fun e w' => e = .returned (.bool true) ∧ Below w.heap.size w w' := by
  have hs := wf_i64 w3
  clear w0 w1 w2 w3 w4
  go_enter Try.func3, Try.ntmps3
  go_wp2_with fail
  refine (begun6_any _).mono ?_
  rintro e w1 ⟨rfl, h1⟩
  go_wp2_with fail
  refine (parity_any _ _ _ _).mono ?_
  rintro e w' ⟨rfl, n2, rfl⟩
  replace h1 := below_drewN h1 n2
  go_wp2_with fail
  refine (refparity_any _ _ _ _).mono ?_
  rintro e w3 ⟨rfl, h3⟩
  replace h3 := h1.trans (h3.mono h1.size)
  clear h1
  go_wp2_with fail
  refine (slots_any _ _).mono ?_
  rintro e w' ⟨rfl, rfl⟩
  go_wp2_with fail
  refine (refslots_any _ _).mono ?_
  rintro e w4 ⟨rfl, h4⟩
  replace h4 := h3.trans (h4.mono h3.size)
  clear h3
  go_wp2_with fail
  refine (die_any _ _ _ _ _ hs.1 hs.2).mono ?_
  rintro e w' ⟨rfl, n5, rfl⟩
  replace h4 := below_drewN h4 n5
  go_wp2_with fail
  refine (refdie_any _ _ _ _ _).mono ?_
  rintro e w6 ⟨rfl, h6⟩
  replace h6 := h4.trans (h6.mono h4.size)
  clear h4
  go_wp2_with fail
  refine (slot_any _ _ _ _ _).mono ?_
  rintro e w' ⟨rfl, n7, rfl⟩
  replace h6 := below_drewN h6 n7
  go_wp2_with fail
  refine (refslot_any _ _ _ _ _).mono ?_
  rintro e w8 ⟨rfl, h8⟩
  replace h8 := h6.trans (h8.mono h6.size)
  clear h6
  go_wp2_with fail
  go_ret
  exact ⟨rfl, h8⟩
end Go.Proofs.Ytakekjbbbjmdpaa.geoRows
