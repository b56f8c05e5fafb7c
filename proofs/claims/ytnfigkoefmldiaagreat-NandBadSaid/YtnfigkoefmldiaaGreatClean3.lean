import Derived.Test.YtnfigkoefmldiaaGreatClean2
/- A flash whose erase is to fail, and has failed. -/
namespace Go.Proofs.YtnfigkoefmldiaaGreat.nand
open Go.RowKit
set_option linter.unusedVariables false
section
variable {N : Nd} {D B P d b p : Nat}
theorem Fine.fErase (h : Fine N D B P) (hd : d < D) (hb : b < B) (hP : 0 < P) : N.faultB ⟨0, 2, d, b, 0, 0, 0⟩ = true ∧ Nxt N (N.faultN ⟨0, 2, d, b, 0, 0, 0⟩) D B P d b { N.blk d b with fails := true } 0 0 := by
  have hin : N.inG (Flt.mk 0 2 d b 0 0 0).a = true := by
    obtain ⟨g1, g2, g3⟩ := h.geo
    simp [Nd.inG, Flt.a, g1, g2, g3]; omega
  obtain ⟨e, n⟩ := (fault_plain (f := ⟨0, 2, d, b, 0, 0, 0⟩) (d := d) (b := b) (q := 0) hin (by simp) (by simp) rfl).k2 rfl
  refine ⟨e, ?_⟩
  rw [n]
  exact ⟨⟨h.geo, h.off, h.cuts, h.dead, h.plan⟩, rfl, rfl, rfl⟩
theorem Fine.eraseFail (h : Fine N D B P) (hd : d < D) (hb : b < B) (hP : 0 < P) (hf : (N.blk d b).fails = true) : N.eraseE d b = 7 ∧ Nxt N (N.eraseN d b) D B P d b { N.blk d b with met := true } 1 0 := by
  have hr : N.refuses (key d b) = 0 := h.ref (p := 0) hd hb hP
  obtain ⟨c1, c2⟩ := h.cutN
  obtain ⟨pe, pn⟩ := (erase_plain hr).l2 c1 hf
  refine ⟨pe, ?_⟩
  rw [pn, c2]
  exact ⟨⟨h.geo, h.off, h.cuts, h.dead, h.plan⟩, rfl, rfl, rfl⟩
theorem Fine.progMet (h : Fine N D B P) (hd : d < D) (hb : b < B) (hp : p < P) (hm : (N.blk d b).met = true) (hl : (N.blk d b).cells.length = p) (pg : List Nat) :
    N.programE ⟨d, b, p⟩ pg = 7 ∧ Nxt N (N.programN ⟨d, b, p⟩ pg) D B P d b (moreC (N.blk d b) ⟨pg, true, false⟩) 1 0 := by
  have hr := h.ref hd hb hp
  obtain ⟨c1, c2⟩ := h.cutN
  have hat : N.at ⟨d, b, p⟩ = N.blk d b := by simp [Nd.at]
  have hf : N.failsB ⟨d, b, p⟩ = true := by simp [Nd.failsB, hasF, h.plan, hat, hm]
  have hE : N.programE ⟨d, b, p⟩ pg = 7 := by simp [Nd.programE, hr, hat, hl, c1, hf]
  have hN : N.programN ⟨d, b, p⟩ pg = { ({ N with ops := N.ops + 1 } : Nd).upd d b (moreC (N.blk d b) ⟨pg, true, false⟩) with plan := delF N.plan ⟨d, b, p⟩ } := by
    simp only [Nd.programN, hr, hat, hl, c1, c2, hf, Nd.put]
    simp [moreC]
  refine ⟨hE, ?_⟩
  rw [hN]
  exact ⟨⟨h.geo, h.off, h.cuts, h.dead, by simp [delF, h.plan]⟩, rfl, rfl, rfl⟩
end
end Go.Proofs.YtnfigkoefmldiaaGreat.nand
