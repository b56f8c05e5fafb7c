import Derived.Test.YtpbigfopmompfaaGreatBegun9
import Derived.Test.YtpbigfopmompfaaGreatOpenF
import Derived.Test.YtpbigfopmompfaaGreatBunP
import Derived.Test.YtpbigfopmompfaaGreatBunE
/- What a claim's proof leans on: Open9, TurnLaw, TornLaw. -/
namespace Go.Proofs.YtpbigfopmompfaaGreat
open Go.RowKit
def Sh.wf (x : Sh) : Prop := (Lit.int .i64 x.r).wf = true ∧ (Lit.int .i64 x.l).wf = true ∧ (Lit.int .i64 x.s).wf = true ∧ (Lit.int .i64 x.k).wf = true ∧ (Lit.int .i64 x.b).wf = true ∧ (Lit.int .i64 x.o).wf = true ∧ (Lit.int .i64 x.m).wf = true
def En.wf (x : En) : Prop := (Lit.int .i64 x.l).wf = true ∧ (Lit.int .i64 x.s).wf = true ∧ (Lit.int .i64 x.r).wf = true
theorem open_en {cs : List Value} (h : okAll (List.replicate 3 (Kd.int .i64) ++ List.replicate 16 (Kd.int .u8)) cs = true) : ∃ x : En, cs = x.v ∧ x.ok ∧ x.wf := by
  obtain ⟨h1, h2⟩ := okAll_split h
  rw [List.length_replicate] at h1 h2
  obtain ⟨d, e1, hd, hb⟩ := open_bytes h2
  have hl := okAll_length h1
  match h3 : cs.take 3, hl, h1 with
  | [c0, c1, c2], _, h1 =>
    simp only [List.replicate_succ, List.replicate_zero, okAll, Bool.and_eq_true, and_true] at h1
    obtain ⟨k0, k1, k2⟩ := h1
    obtain ⟨l, rfl, a0⟩ := ok_int k0
    obtain ⟨s, rfl, a1⟩ := ok_int k1
    obtain ⟨r, rfl, a2⟩ := ok_int k2
    refine ⟨⟨l, s, r, d⟩, ?_, ⟨hd, hb⟩, a0, a1, a2⟩
    rw [← List.take_append_drop 3 cs, e1, h3]; rfl
end Go.Proofs.YtpbigfopmompfaaGreat
namespace Go.Proofs.YtpbigfopmompfaaGreat
open Go.RowKit
end Go.Proofs.YtpbigfopmompfaaGreat
namespace Go.Proofs.YtpbigfopmompfaaGreat
open Go.RowKit
set_option linter.unusedVariables false
def tornTo (P : List Nat) (K j : Nat) : List Nat := P.take K ++ (List.replicate (j - K) 255 ++ P.drop j)
theorem tornTo_start (P : List Nat) (K : Nat) : tornTo P K K = P := by simp [tornTo]
theorem tornTo_length {P : List Nat} (h : P.length = 32) {K j : Nat} (h1 : K ≤ j) (h2 : j ≤ 32) : (tornTo P K j).length = 32 := by simp [tornTo]; omega
theorem tornTo_lt {P : List Nat} (hb : ∀ x ∈ P, x < 256) (K j : Nat) : ∀ x ∈ tornTo P K j, x < 256 := by
  intro x hx
  unfold tornTo at hx
  simp only [List.mem_append, List.mem_replicate] at hx
  rcases hx with h | ⟨-, h⟩ | h
  · exact hb x (List.mem_of_mem_take h)
  · omega
  · exact hb x (List.mem_of_mem_drop h)
theorem tornTo_step {P : List Nat} (h : P.length = 32) {K j : Nat} (h1 : K ≤ j) (h2 : j < 32) : (tornTo P K j).set j 255 = tornTo P K (j + 1) := by
  unfold tornTo
  have e1 : (P.take K).length = K := by rw [List.length_take]; omega
  have e2 : P.drop j = P[j] :: P.drop (j + 1) := List.drop_eq_getElem_cons (by omega)
  rw [List.set_append_right _ _ (by omega), List.set_append_right _ _ (by simp; omega), e1, e2]
  have e3 : j - K - (List.replicate (j - K) 255).length = 0 := by simp
  rw [e3, List.set_cons_zero, show j + 1 - K = (j - K) + 1 by omega, List.replicate_succ']
  simp
end Go.Proofs.YtpbigfopmompfaaGreat
