import Derived.Test.YtpbigfopmompfaaGreatBegun9
import Derived.Test.YtpbigfopmompfaaGreatBunX
import Derived.Test.YtpbigfopmompfaaGreatPageLaw
import Derived.Test.YtpbigfopmompfaaGreatBunP
import Derived.Test.YtpbigfopmompfaaGreatBunE
/- What a claim's proof leans on: Open9, TurnLaw, TornLaw. -/
namespace Go.Proofs.YtpbigfopmompfaaGreat
open Go.RowKit
def Sh.wf (x : Sh) : Prop := (Lit.int .i64 x.r).wf = true ∧ (Lit.int .i64 x.l).wf = true ∧ (Lit.int .i64 x.s).wf = true ∧ (Lit.int .i64 x.k).wf = true ∧ (Lit.int .i64 x.b).wf = true ∧ (Lit.int .i64 x.o).wf = true ∧ (Lit.int .i64 x.m).wf = true
def En.wf (x : En) : Prop := (Lit.int .i64 x.l).wf = true ∧ (Lit.int .i64 x.s).wf = true ∧ (Lit.int .i64 x.r).wf = true
end Go.Proofs.YtpbigfopmompfaaGreat
namespace Go.Proofs.YtpbigfopmompfaaGreat
open Go.RowKit
end Go.Proofs.YtpbigfopmompfaaGreat
namespace Go.Proofs.YtpbigfopmompfaaGreat
open Go.RowKit
set_option linter.unusedVariables false
def tornTo (P : List Nat) (K j : Nat) : List Nat := P.take K ++ (List.replicate (j - K) 255 ++ P.drop j)
theorem tornTo_start (P : List Nat) (K : Nat) : tornTo P K K = P := by simp [tornTo]
theorem tornTo_length {P : List Nat} (h : P.length = 32) {K j : Nat} (h1 : K ≤ j) (h2 : j ≤ 32) : (tornTo P K j).length = 32 := by simp [tornTo]; omega
theorem tornTo_lt {P : List Nat} (hb : ∀ x ∈ P, x < 256) (K j : Nat) : ∀ x ∈ tornTo P K j, x < 256 := by
 intro x hx
 unfold tornTo at hx
 simp only [List.mem_append, List.mem_replicate] at hx
 rcases hx with h | ⟨-, h⟩ | h
 · exact hb x (List.mem_of_mem_take h)
 · omega
 · exact hb x (List.mem_of_mem_drop h)
theorem tornTo_step {P : List Nat} (h : P.length = 32) {K j : Nat} (h1 : K ≤ j) (h2 : j < 32) : (tornTo P K j).set j 255 = tornTo P K (j + 1) := by
 unfold tornTo
 have e1 : (P.take K).length = K := by rw [List.length_take]; omega
 have e2 : P.drop j = P[j] :: P.drop (j + 1) := List.drop_eq_getElem_cons (by omega)
 rw [List.set_append_right _ _ (by omega), List.set_append_right _ _ (by simp; omega), e1, e2]
 have e3 : j - K - (List.replicate (j - K) 255).length = 0 := by simp
 rw [e3, List.set_cons_zero, show j + 1 - K = (j - K) + 1 by omega, List.replicate_succ']
 simp
end Go.Proofs.YtpbigfopmompfaaGreat
