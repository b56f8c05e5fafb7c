import Derived.Test.YtpbigfopmompfaaGreatBegun
import Derived.Test.YtpbigfopmompfaaGreatFlat
/- What a claim's proof leans on: PutAll, OpenF. -/
namespace Go.Proofs.YtpbigfopmompfaaGreat
open Go.RowKit
theorem IsOut.owner {w : World} {B g : Nat} {r : Option Nat} {l : List Bool} (h : IsOut w B g r l) : ∀ k, r = some k → B ≤ k := by
 obtain ⟨hBg, v, hv, hg, hown⟩ := h
 intro k hk
 exact (hown.lt k (by rw [hv]; exact hk)).1
theorem IsOut.base {w : World} {B g : Nat} {r : Option Nat} {l : List Bool} (h : IsOut w B g r l) : B ≤ g := h.1
theorem IsOut.blk {w : World} {B g : Nat} {r : Option Nat} {l : List Bool} (h : IsOut w B g r l) : g < w.heap.size := by
 obtain ⟨hBg, v, hv, hg, hown⟩ := h
 exact zag hg
end Go.Proofs.YtpbigfopmompfaaGreat
namespace Go.Proofs.YtpbigfopmompfaaGreat
open Go.RowKit
theorem open_bytes : ∀ {n : Nat} {cs : List Value}, okAll (List.replicate n (Kd.int .u8)) cs = true → ∃ d : List Nat, cs = nats .u8 d ∧ d.length = n ∧ ∀ x ∈ d, x < 256
 | 0, [], _ => ⟨[], rfl, rfl, by simp⟩
 | 0, _ :: _, h => by simp [okAll] at h
 | n + 1, [], h => by simp [okAll, List.replicate_succ] at h
 | n + 1, c :: cs, h => by
  rw [List.replicate_succ] at h; simp only [okAll, Bool.and_eq_true] at h; obtain ⟨x, rfl, hx⟩ := zb3 h.1; have hw := wf_u8 hx; obtain ⟨d, rfl, hl, hd⟩ := open_bytes h.2; obtain ⟨X, rfl⟩ := Int.eq_ofNat_of_zero_le hw.1; refine ⟨X :: d, rfl, by simp [hl], fun y hy => ?_⟩; rcases List.mem_cons.1 hy with rfl | hy
  · omega
  · exact hd y hy
theorem open_ints7 {cs : List Value} (h : okAll (List.replicate 7 (Kd.int .i64)) cs = true) : ∃ r l s k b o m : Int, cs = [.int .i64 r, .int .i64 l, .int .i64 s, .int .i64 k, .int .i64 b, .int .i64 o, .int .i64 m] ∧
 (Lit.int .i64 r).wf = true ∧ (Lit.int .i64 l).wf = true ∧ (Lit.int .i64 s).wf = true ∧ (Lit.int .i64 k).wf = true ∧ (Lit.int .i64 b).wf = true ∧ (Lit.int .i64 o).wf = true ∧ (Lit.int .i64 m).wf = true := by
 have hl := zaz h
 match cs, hl, h with
 | [c0, c1, c2, c3, c4, c5, c6], _, h =>
  simp only [List.replicate_succ, List.replicate_zero, okAll, Bool.and_eq_true, and_true] at h; obtain ⟨h0, h1, h2, h3, h4, h5, h6⟩ := h; obtain ⟨r, rfl, a0⟩ := zb3 h0; obtain ⟨l, rfl, a1⟩ := zb3 h1; obtain ⟨s, rfl, a2⟩ := zb3 h2; obtain ⟨k, rfl, a3⟩ := zb3 h3; obtain ⟨b, rfl, a4⟩ := zb3 h4; obtain ⟨o, rfl, a5⟩ := zb3 h5; obtain ⟨m, rfl, a6⟩ := zb3 h6; exact ⟨r, l, s, k, b, o, m, rfl, a0, a1, a2, a3, a4, a5, a6⟩
theorem open_all {α : Type} {f : α → List Value} {p : α → Prop} {ks : List Kd} (ho : ∀ cs, okAll ks cs = true → ∃ x, cs = f x ∧ p x) : ∀ {rows : List (List Value)}, (∀ r ∈ rows, okAll ks r = true) → ∃ l : List α, rows = l.map f ∧ ∀ x ∈ l, p x
 | [], _ => ⟨[], rfl, by simp⟩
 | r :: rows, h => by
  obtain ⟨x, rfl, hx⟩ := ho r (h r (by simp)); obtain ⟨l, rfl, hl⟩ := open_all ho (rows := rows) fun y hy => h y (by simp [hy])
  exact ⟨x :: l, rfl, fun y hy => by
   rcases List.mem_cons.1 hy with rfl | hy
   · exact hx
   · exact hl y hy⟩
end Go.Proofs.YtpbigfopmompfaaGreat
