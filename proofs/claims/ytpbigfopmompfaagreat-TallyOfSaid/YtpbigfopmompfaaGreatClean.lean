import Derived.Test.YtpbigfopmompfaaGreatBunR
/- A flash to which nothing bad has happened, as plain data. -/
namespace Go.Proofs.YtpbigfopmompfaaGreat.nand
open Go.RowKit
set_option linter.unusedVariables false
structure Fine (N : Nd) (D B P : Nat) : Prop where
 geo : N.D = D ∧ N.B = B ∧ N.P = P
 off : N.off = false
 cuts : N.cuts = false
 dead : N.dead = List.replicate D false
 plan : N.plan = []
structure Nxt (N N' : Nd) (D B P d b : Nat) (x : Blk) (o k : Nat) : Prop where
 clean : Fine N' D B P
 blk : N'.blk = (N.upd d b x).blk
 ops : N'.ops = N.ops + o
 broken : N'.broken = N.broken + k
section
variable {N N' : Nd} {D B P d b p o k : Nat} {x : Blk}
theorem Nxt.at_ (h : Nxt N N' D B P d b x o k) : N'.blk d b = x := by rw [h.blk]; simp [Nd.upd]
theorem Nxt.other (h : Nxt N N' D B P d b x o k) {i j : Nat} (hne : ¬ (i = d ∧ j = b)) : N'.blk i j = N.blk i j := by rw [h.blk]; simp [Nd.upd, hne]
theorem Fine.new (D B P : Nat) : Fine (Nd.new D B P) D B P := ⟨⟨rfl, rfl, rfl⟩, rfl, rfl, rfl, rfl⟩
theorem Fine.ref (h : Fine N D B P) (hd : d < D) (hb : b < B) (hp : p < P) : N.refuses ⟨d, b, p⟩ = 0 := by
 obtain ⟨⟨g1, g2, g3⟩, h2, h3, h4, h5⟩ := h
 have hin : N.inG ⟨d, b, p⟩ = true := by simp [Nd.inG, g1, g2, g3]; omega
 have hdd : N.dead.getD (d : Int).toNat false = false := by rw [h4]; simp [List.getD_eq_getElem?_getD, List.getElem?_replicate]; split <;> rfl
 unfold Nd.refuses
 rw [h2, hin]
 simp only [Bool.false_eq_true, if_false, if_true]
 rw [hdd]; rfl
theorem Fine.out (h : Fine N D B P) (hp : P ≤ p) : N.refuses ⟨d, b, p⟩ = 3 := by
 obtain ⟨⟨g1, g2, g3⟩, h2, h3, h4, h5⟩ := h
 have hin : N.inG ⟨d, b, p⟩ = false := by simp [Nd.inG, g1, g2, g3]; omega
 unfold Nd.refuses
 rw [h2, hin]; rfl
theorem Fine.cutN (h : Fine N D B P) : N.cutB = false ∧ N.cutN = { N with ops := N.ops + 1 } := by simp [Nd.cutB, Nd.cutN, h.cuts]
theorem Fine.prog (h : Fine N D B P) (hd : d < D) (hb : b < B) (hp : p < P) (hm : (N.blk d b).met = false) (hl : (N.blk d b).cells.length = p) (pg : List Nat) :
 N.programE ⟨d, b, p⟩ pg = 0 ∧ Nxt N (N.programN ⟨d, b, p⟩ pg) D B P d b (moreC (N.blk d b) ⟨pg, false, false⟩) 1 0 := by
 have hr := h.ref hd hb hp
 obtain ⟨c1, c2⟩ := h.cutN
 have hat : N.at ⟨d, b, p⟩ = N.blk d b := by simp [Nd.at]
 have hf : N.failsB ⟨d, b, p⟩ = false := by simp [Nd.failsB, hasF, h.plan, hat, hm]
 have hE : N.programE ⟨d, b, p⟩ pg = 0 := by simp [Nd.programE, hr, hat, hl, c1, hf]
 have hN : N.programN ⟨d, b, p⟩ pg = { ({ N with ops := N.ops + 1 } : Nd).upd d b (moreC (N.blk d b) ⟨pg, false, false⟩) with plan := delF N.plan ⟨d, b, p⟩ } := by
  simp only [Nd.programN, hr, hat, hl, c1, c2, hf, Nd.put]
  simp [moreC]
 refine ⟨hE, ?_⟩
 rw [hN]
 exact ⟨⟨h.geo, h.off, h.cuts, h.dead, by simp [delF, h.plan]⟩, rfl, rfl, rfl⟩
theorem Fine.order (h : Fine N D B P) (hd : d < D) (hb : b < B) (hp : p < P) (hl : (N.blk d b).cells.length ≠ p) (pg : List Nat) :
 N.programE ⟨d, b, p⟩ pg = 4 ∧ Nxt N (N.programN ⟨d, b, p⟩ pg) D B P d b (N.blk d b) 0 1 := by
 have hr := h.ref hd hb hp
 have hat : N.at ⟨d, b, p⟩ = N.blk d b := by simp [Nd.at]
 have hne : (p : Int) ≠ ((N.blk d b).cells.length : Int) := by omega
 have hE : N.programE ⟨d, b, p⟩ pg = 4 := by simp [Nd.programE, hr, hat, hne]
 have hN : N.programN ⟨d, b, p⟩ pg = { N with broken := N.broken + 1 } := by simp [Nd.programN, hr, hat, hne]
 refine ⟨hE, ?_⟩
 rw [hN, show ({ N with broken := N.broken + 1 } : Nd) = { N with broken := N.broken + 1 } from rfl]
 exact ⟨⟨h.geo, h.off, h.cuts, h.dead, h.plan⟩, by rw [upd_self], rfl, rfl⟩
theorem Fine.range (h : Fine N D B P) (hp : P ≤ p) (pg : List Nat) : N.programE ⟨d, b, p⟩ pg = 3 ∧ N.programN ⟨d, b, p⟩ pg = N := by
 have hr := h.out (d := d) (b := b) hp
 exact ⟨by simp [Nd.programE, hr], by simp [Nd.programN, hr]⟩
theorem Fine.erase (h : Fine N D B P) (hd : d < D) (hb : b < B) (hP : 0 < P) (hf : (N.blk d b).fails = false) :
 N.eraseE d b = 0 ∧ Nxt N (N.eraseN d b) D B P d b { N.blk d b with cells := [], worn := (N.blk d b).worn + 1 } 1 0 := by
 have hr : N.refuses (key d b) = 0 := h.ref (p := 0) hd hb hP
 obtain ⟨c1, c2⟩ := h.cutN
 obtain ⟨pe, pn⟩ := (erase_plain hr).l3 c1 hf
 refine ⟨pe, ?_⟩
 rw [pn, c2]
 exact ⟨⟨h.geo, h.off, h.cuts, h.dead, by simp [h.plan]⟩, rfl, rfl, rfl⟩
theorem Fine.readE (h : Fine N D B P) (hd : d < D) (hb : b < B) (hp : p < P) {c : Cel} (hc : (N.blk d b).cells[p]? = some c) (hl : c.lost = false) : N.readE ⟨d, b, p⟩ = 0 ∧ N.readP ⟨d, b, p⟩ = c.p := by
 have hr := h.ref hd hb hp
 have hat : N.at ⟨d, b, p⟩ = N.blk d b := by simp [Nd.at]
 constructor
 · simp [Nd.readE, hr, hat, hc, hl]
 · simp [Nd.readP, hr, hat, hc, hl]
end
end Go.Proofs.YtpbigfopmompfaaGreat.nand
