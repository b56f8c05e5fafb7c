import Derived.Test.YtpbigfopmompfaaGreatBegun5
import Derived.Test.YtpbigfopmompfaaGreatBunQ
/- What comes in: places, slices of places; places held against each other. -/
namespace Go.Proofs.YtpbigfopmompfaaGreat
open Go.RowKit
theorem open_ad {cs : List Value} (h : okAll (List.replicate 3 (Kd.int .i64)) cs = true) : ∃ x : Ad, cs = x.v ∧ x.wf := by
  have hl := okAll_length h
  match cs, hl, h with
  | [c0, c1, c2], _, h =>
    simp only [List.replicate_succ, List.replicate_zero, okAll, Bool.and_eq_true, and_true] at h
    obtain ⟨h0, h1, h2⟩ := h
    obtain ⟨r, rfl, a0⟩ := ok_int h0
    obtain ⟨l, rfl, a1⟩ := ok_int h1
    obtain ⟨s, rfl, a2⟩ := ok_int h2
    exact ⟨⟨r, l, s⟩, rfl, a0, a1, a2⟩
theorem open_ads {w : World} {a : Option Addr} {len cap : Nat} (h : IsRows (List.replicate 3 (Kd.int .i64)) w a len cap) : ∃ l : List Ad, Rds w w.heap.size a 3 len (ads l) ∧ (∀ x ∈ l, x.wf) ∧ len ≤ cap ∧ cap ≤ maxLen := by
  obtain ⟨rows, h1, h2, h3, h4⟩ := h.rds (by simp)
  obtain ⟨l, rfl, hl⟩ := open_all (f := Ad.v) (p := Ad.wf) (fun cs hc => open_ad hc) h2
  exact ⟨l, h1, hl, h3, h4⟩
theorem ad_kinds {x : Ad} (h : x.wf) : okAll (List.replicate 3 (Kd.int .i64)) x.v = true := by
  obtain ⟨h1, h2, h3⟩ := h
  simp [Ad.v, okAll, Kd.ok, List.replicate, h1, h2, h3]
theorem ad_eqB {x y : Ad} (hx : x.wf) (hy : y.wf) : lEq x.v y.v = decide (x = y) := by
  rw [Bool.eq_iff_iff, lEq_iff (ad_kinds hx) (ad_kinds hy), decide_eq_true_iff]
  exact ⟨Ad.v_inj, fun e => by rw [e]⟩
end Go.Proofs.YtpbigfopmompfaaGreat
