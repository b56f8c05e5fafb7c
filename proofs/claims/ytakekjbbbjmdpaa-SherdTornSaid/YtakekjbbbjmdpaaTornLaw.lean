import Derived.Test.YtakekjbbbjmdpaaTurnLaw
import Derived.Test.YtakekjbbbjmdpaaBunP
import Derived.Test.YtakekjbbbjmdpaaBunE
/- Plain law: a page of which the end was not programmed, or a byte was turned. -/
namespace Go.Proofs.Ytakekjbbbjmdpaa
open Go.RowKit
set_option linter.unusedVariables false
theorem blank_all {P : List Nat} (h : blankB P = true) : P = List.replicate P.length 255 := by
  unfold blankB at h
  rw [List.all_eq_true] at h
  exact List.eq_replicate_iff.2 ⟨rfl, fun x hx => by simpa using h x hx⟩
theorem blank_put {x : Sh} (hx : x.ok) (mx : x.may = true) : blankB (putP x.d x.r x.l x.s x.k x.b x.o x.m) = false := by
  rw [Bool.eq_false_iff]
  intro e
  have l := (putP_ok hx).1
  have h := blank_all e
  rw [l] at h
  have hm : maySh x.d x.r x.l x.s x.k x.b x.o x.m = true := mx
  unfold putP at h
  rw [hm] at h
  simp only [if_true] at h
  obtain ⟨r0, r1, l0, l1, s0, s1, k0, k1, b0, b1, o0, o1, m0, m1⟩ := may_bd hm
  obtain ⟨e1, e2, e3, e4, e5, e6, e7, e8⟩ := read_page hx.1 hx.2 r0 r1 l0 l1 s0 s1 (show 0 ≤ x.k by omega) (show x.k < 256 by omega) b0 (show x.b < 256 by omega) o0 (show x.o < 256 by omega) m0 m1
  rw [h] at e5
  have : rK (List.replicate 32 255) = 255 := by decide +kernel
  omega
def tornTo (P : List Nat) (K j : Nat) : List Nat := P.take K ++ (List.replicate (j - K) 255 ++ P.drop j)
theorem tornTo_start (P : List Nat) (K : Nat) : tornTo P K K = P := by simp [tornTo]
theorem tornTo_length {P : List Nat} (h : P.length = 32) {K j : Nat} (h1 : K ≤ j) (h2 : j ≤ 32) : (tornTo P K j).length = 32 := by simp [tornTo]; omega
theorem tornTo_lt {P : List Nat} (hb : ∀ x ∈ P, x < 256) (K j : Nat) : ∀ x ∈ tornTo P K j, x < 256 := by
  intro x hx
  unfold tornTo at hx
  simp only [List.mem_append, List.mem_replicate] at hx
  rcases hx with h | ⟨-, h⟩ | h
  · exact hb x (List.mem_of_mem_take h)
  · omega
  · exact hb x (List.mem_of_mem_drop h)
theorem tornTo_step {P : List Nat} (h : P.length = 32) {K j : Nat} (h1 : K ≤ j) (h2 : j < 32) : (tornTo P K j).set j 255 = tornTo P K (j + 1) := by
  unfold tornTo
  have e1 : (P.take K).length = K := by rw [List.length_take]; omega
  have e2 : P.drop j = P[j] :: P.drop (j + 1) := List.drop_eq_getElem_cons (by omega)
  rw [List.set_append_right _ _ (by omega), List.set_append_right _ _ (by simp; omega), e1, e2]
  have e3 : j - K - (List.replicate (j - K) 255).length = 0 := by simp
  rw [e3, List.set_cons_zero, show j + 1 - K = (j - K) + 1 by omega, List.replicate_succ']
  simp
theorem getB_turned {x : Sh} (hx : x.ok) (mx : x.may = true) (j v : Nat) (hj : j < 32) (hv : v < 256) :
    getB ((putP x.d x.r x.l x.s x.k x.b x.o x.m).set j ((putP x.d x.r x.l x.s x.k x.b x.o x.m).getD j 0 ^^^ v)) = (v == 0) := by
  have hm : maySh x.d x.r x.l x.s x.k x.b x.o x.m = true := mx
  obtain ⟨l, b⟩ := putP_ok hx
  have e : putP x.d x.r x.l x.s x.k x.b x.o x.m = pageN x.d x.r x.l x.s x.k x.b x.o x.m := by unfold putP; rw [hm]; rfl
  obtain ⟨g1, g2⟩ := get_page hx.1 hx.2 hm
  rw [← e] at g1
  generalize putP x.d x.r x.l x.s x.k x.b x.o x.m = P at *
  by_cases h0 : v = 0
  · subst h0
    have : P.set j (P.getD j 0 ^^^ 0) = P := by
      rw [Nat.xor_zero]
      apply List.ext_getElem?
      intro i
      rw [List.getElem?_set]
      split
      · rename_i h; subst h
        rw [if_pos (by omega), List.getD_eq_getElem?_getD, List.getElem?_eq_getElem (by omega)]; rfl
      · rfl
    rw [this, g1]; rfl
  · have hs : fld P 224 32 = kof (P.take 28) := by
      unfold getB at g1
      simpa using (Bool.and_eq_true_iff.1 g1).2
    have := torn_byte l b hs j v hj hv h0
    unfold getB
    rw [show (v == 0) = false from beq_eq_false_iff_ne.2 h0, show (fld (P.set j (P.getD j 0 ^^^ v)) 224 32 == kof ((P.set j (P.getD j 0 ^^^ v)).take 28)) = false from beq_eq_false_iff_ne.2 this, Bool.and_false]
end Go.Proofs.Ytakekjbbbjmdpaa
