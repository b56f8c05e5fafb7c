import Derived.Test.YtpbigfopmompfaaGreatBegun
import Derived.Test.YtpbigfopmompfaaGreatFlat
/- Writing any field: taken or not. -/
namespace Go.Proofs.YtpbigfopmompfaaGreat
open Go.RowKit
def okB (u : Nat) (W : Int) : Bool := decide (1 ≤ W) && (decide (W ≤ 64) && decide (u < 2 ^ W.toNat))
theorem put_all (B g : Nat) (r : Option Nat) (l : List Bool) (u : Nat) (W : Int) (w : World) (ho : IsOut w B g r l) (hl : l.length + 64 ≤ 4096) (hB : B ≤ w.heap.size) :
    Calls Tryz.prog 133 #[.pointer (some ⟨g, 0, none⟩), .int .u64 (u : Int), .int .i64 W] w fun e w' => e = .returned (.bool (okB u W)) ∧
      ∃ r', IsOut w' B g r' (if okB u W then l ++ bitsL u W.toNat else l) ∧ (r' = r ∨ ∃ j, r' = some j ∧ w.heap.size ≤ j) ∧ Keep (fun k => k = g ∨ some k = r) w w' := by
  by_cases h1 : 1 ≤ W
  · by_cases h2 : W ≤ 64
    · obtain ⟨V, rfl⟩ := Int.eq_ofNat_of_zero_le (show 0 ≤ W by omega)
      by_cases h3 : u < 2 ^ V
      · have e : okB u (V : Int) = true := by simp only [okB, Int.toNat_natCast, decide_eq_true h1, decide_eq_true h2, decide_eq_true h3, Bool.and_self]
        rw [e]
        exact put_true B g r l u V w ho (by omega) (by omega) h3 (by omega) hB
      · have e : okB u (V : Int) = false := by simp only [okB, Int.toNat_natCast, decide_eq_false h3, Bool.and_false]
        rw [e]
        refine (put_wide _ u V w (by omega) (by omega) (by omega)).mono ?_
        rintro e w' ⟨rfl, rfl⟩
        exact ⟨rfl, r, ho, .inl rfl, Keep.refl _ _⟩
    · have e : okB u W = false := by simp [okB, h2]
      rw [e]
      refine (put_width _ _ W w (by omega)).mono ?_
      rintro e w' ⟨rfl, rfl⟩
      exact ⟨rfl, r, ho, .inl rfl, Keep.refl _ _⟩
  · have e : okB u W = false := by simp [okB, h1]
    rw [e]
    refine (put_width _ _ W w (by omega)).mono ?_
    rintro e w' ⟨rfl, rfl⟩
    exact ⟨rfl, r, ho, .inl rfl, Keep.refl _ _⟩
theorem IsOut.owner {w : World} {B g : Nat} {r : Option Nat} {l : List Bool} (h : IsOut w B g r l) : ∀ k, r = some k → B ≤ k := by
  obtain ⟨hBg, v, hv, hg, hown⟩ := h
  intro k hk
  exact (hown.lt k (by rw [hv]; exact hk)).1
theorem IsOut.base {w : World} {B g : Nat} {r : Option Nat} {l : List Bool} (h : IsOut w B g r l) : B ≤ g := h.1
theorem IsOut.blk {w : World} {B g : Nat} {r : Option Nat} {l : List Bool} (h : IsOut w B g r l) : g < w.heap.size := by
  obtain ⟨hBg, v, hv, hg, hown⟩ := h
  exact lt_of_cells hg
/-- A field of the list that came in. -/
theorem field_at {w : World} {B n : Nat} {A : Option Addr} {rows : List (List Value)} (h : Rds w B A 2 n rows) (hok : ∀ r ∈ rows, okAll [.int .u64, .int .i64] r = true) {k : Nat} (hk : k < n) :
    ∃ (b o u : Nat) (W : Int), A = some ⟨b, o, none⟩ ∧ b < B ∧ u < 18446744073709551616 ∧ (Lit.int .i64 W).wf = true ∧ rows[k]? = some [.int .u64 (u : Int), .int .i64 W] ∧
      w.cell? ⟨b, o + (k * 2 + 0), none⟩ = some (.int .u64 (u : Int)) ∧ w.cell? ⟨b, o + (k * 2 + 1), none⟩ = some (.int .i64 W) := by
  obtain ⟨b, o, e, hb, hc⟩ := h.2.2 (by omega)
  have hr : rows[k]? = some (rows[k]'(by rw [h.1]; exact hk)) := List.getElem?_eq_getElem _
  have hm := hok _ (List.mem_of_getElem? hr)
  obtain ⟨v0, h0, o0⟩ := okAll_get hm 0 _ rfl
  obtain ⟨v1, h1, o1⟩ := okAll_get hm 1 _ rfl
  obtain ⟨u, rfl, hu⟩ := ok_int o0
  obtain ⟨W, rfl, hW⟩ := ok_int o1
  have hu2 := wf_u64 hu
  obtain ⟨U, rfl⟩ := Int.eq_ofNat_of_zero_le hu2.1
  refine ⟨b, o, U, W, e, hb, by omega, hW, ?_, hc k _ 0 _ hr h0, hc k _ 1 _ hr h1⟩
  rw [hr]
  have hl := okAll_length hm
  match hrow : rows[k]'(by rw [h.1]; exact hk), hl, h0, h1 with
  | [x, y], _, h0, h1 =>
    simp at h0 h1
    rw [h0, h1]
end Go.Proofs.YtpbigfopmompfaaGreat
