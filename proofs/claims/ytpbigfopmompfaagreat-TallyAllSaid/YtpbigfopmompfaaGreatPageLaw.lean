import Derived.Test.YtpbigfopmompfaaGreatBunE
import Derived.Test.YtpbigfopmompfaaGreatBunF
/- What a sherd's page says, read again. -/
namespace Go.Proofs.YtpbigfopmompfaaGreat
open Go.RowKit
set_option linter.unusedVariables false
theorem get_page {d : List Nat} (hd : d.length = 16) (hb : ∀ x ∈ d, x < 256) {r l s k b o m : Int} (h : maySh d r l s k b o m = true) : getB (pageN d r l s k b o m) = true ∧ readV (pageN d r l s k b o m) 4 = shV d r l s k b o m := by
 obtain ⟨r0, r1, l0, l1, s0, s1, k0, k1, b0, b1, o0, o1, m0, m1⟩ := may_bd h
 obtain ⟨e1, e2, e3, e4, e5, e6, e7, e8⟩ := read_page hd hb r0 r1 l0 l1 s0 s1 (show 0 ≤ k by omega) (show k < 256 by omega) b0 (show b < 256 by omega) o0 (show o < 256 by omega) m0 m1
 have hp := page_iff (pageN_length hd r l s k b o m) (pageN_lt hb r l s k b o m)
 rw [e1, e2, e3, e4, e5, e6, e7, e8] at hp
 constructor
 · unfold getB
   rw [e1, e2, e3, e4, e5, e6, e7, e8, h, Bool.true_and, beq_iff_eq]; exact hp.1 rfl
 · unfold readV
   rw [e1, e2, e3, e4, e5, e6, e7, e8]; simp
end Go.Proofs.YtpbigfopmompfaaGreat
