import Derived.Test.YtakekjbbbjmdpaaSpotKeys
/- ostrakonlaw5.less: the order of places. -/
namespace Go.Proofs.Ytakekjbbbjmdpaa
open Go.RowKit
set_option linter.unusedVariables false
set_option maxRecDepth 100000 in
set_option maxHeartbeats 4000000 in
theorem less_any (x y : Ad) (w : World) : Calls Try.prog 55 #[.agg x.v.toArray, .agg y.v.toArray] w fun e w' => e = .returned (.bool (lessA x y)) ∧ Below w.heap.size w w' := by
  have ha := heap_at1 w (.cells x.v.toArray 83) (.cells y.v.toArray 83)
  have hb := heap_new' (w.alloc (.cells x.v.toArray 83)) (.cells y.v.toArray 83) (w.heap.size + 1) (by simp)
  have hbel := below2 w (.cells x.v.toArray 83) (.cells y.v.toArray 83)
  go_enter Try.func55, Try.ntmps55
  go_upto_region 1 with fail
  have hsz : (w.alloc (.cells x.v.toArray 83)).heap.size = w.heap.size + 1 := by simp
  generalize (w.alloc (.cells x.v.toArray 83)).alloc (.cells y.v.toArray 83) = w2 at *
  obtain ⟨a0, a1, a2⟩ := ad_at ha
  obtain ⟨b0, b1, b2⟩ := ad_at hb
  have HB := Lib.hid hbel
  clear ha hb hbel hsz
  have hless : lessA x y = if x.d ≠ y.d then decide (x.d < y.d) else if x.b ≠ y.b then decide (x.b < y.b) else decide (x.p < y.p) := rfl
  by_cases e1 : x.d = y.d
  · by_cases e2 : x.b = y.b
    · have HL := Lib.hid (show lessA x y = decide (x.p < y.p) by rw [hless, if_neg (by simpa using e1), if_neg (by simpa using e2)])
      have f1 : (x.d != y.d) = false := by simp [e1]
      have f2 : (x.b != y.b) = false := by simp [e2]
      clear hless e1 e2
      go_wp2_with fail
      go_ret
      exact ⟨by rw [HL.out]; rfl, HB.out⟩
    · have HL := Lib.hid (show lessA x y = decide (x.b < y.b) by rw [hless, if_neg (by simpa using e1), if_pos e2])
      have f1 : (x.d != y.d) = false := by simp [e1]
      have f2 : (x.b != y.b) = true := by simp [e2]
      clear hless e1 e2
      go_wp2_with fail
      go_ret
      exact ⟨by rw [HL.out]; rfl, HB.out⟩
  · have HL := Lib.hid (show lessA x y = decide (x.d < y.d) by rw [hless, if_pos e1])
    have f1 : (x.d != y.d) = true := by simp [e1]
    clear hless e1
    go_wp2_with fail
    go_ret
    exact ⟨by rw [HL.out]; rfl, HB.out⟩
end Go.Proofs.Ytakekjbbbjmdpaa
