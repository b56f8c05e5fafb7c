import Derived.Test.YtnfigkoefmldiaaGreatClean
/- A flash in whose erase power goes; what is read. -/
namespace Go.Proofs.YtnfigkoefmldiaaGreat.nand
open Go.RowKit
set_option linter.unusedVariables false
theorem ref0 {N : Nd} {D B P d b p : Nat} (hg : N.D = D ∧ N.B = B ∧ N.P = P) (ho : N.off = false) (hdd0 : N.dead = List.replicate D false) (hd : d < D) (hb : b < B) (hp : p < P) : N.refuses ⟨d, b, p⟩ = 0 := by
  obtain ⟨g1, g2, g3⟩ := hg
  have hin : N.inG ⟨d, b, p⟩ = true := by simp [Nd.inG, g1, g2, g3]; omega
  have hdd : N.dead.getD (d : Int).toNat false = false := by rw [hdd0]; simp [List.getD_eq_getElem?_getD, List.getElem?_replicate]; split <;> rfl
  unfold Nd.refuses
  rw [ho, hin]
  simp only [Bool.false_eq_true, if_false, if_true]
  rw [hdd]; rfl
theorem readP_length {N : Nd} (h : N.ok) (x : Ad) : (N.readP x).length = 32 := by
  unfold Nd.readP
  split
  · simp
  · split
    · simp
    · rename_i c hc
      split
      · simp
      · exact (h.page _ _ c (List.mem_of_getElem? hc)).1
theorem Fine.cutErase {N : Nd} {D B P d b : Nat} (h : Fine N D B P) (hd : d < D) (hb : b < B) (hP : 0 < P) (keep : Int) :
    (N.cutAt 0 keep).eraseE d b = 9 ∧ ((N.cutAt 0 keep).eraseN d b).off = true ∧ Nxt N (((N.cutAt 0 keep).eraseN d b).on) D B P d b ((N.blk d b).cut P) 1 0 ∧ (N.cutAt 0 keep).ops = N.ops ∧ (N.cutAt 0 keep).blk = N.blk := by
  obtain ⟨K, hK⟩ : ∃ K, N.cutAt 0 keep = { N with cuts := true, left := 0, keep := K, off := false } := ⟨(min (max keep 0) 32).toNat, by simp [Nd.cutAt, h.off]⟩
  rw [hK]
  obtain ⟨N1, hN1⟩ : ∃ N1 : Nd, N1 = { N with cuts := true, left := 0, keep := K, off := false } := ⟨_, rfl⟩
  rw [← hN1]
  have hr : N1.refuses (key d b) = 0 := ref0 (p := 0) (by rw [hN1]; exact h.geo) (by rw [hN1]) (by rw [hN1]; exact h.dead) hd hb hP
  have hc : N1.cutB = true := by rw [hN1]; simp [Nd.cutB]
  obtain ⟨pe, pn⟩ := (erase_plain hr).l1 hc
  have hcN : N1.cutN = { N with ops := N.ops + 1, cuts := false, left := -1, keep := K, off := true } := by rw [hN1]; simp [Nd.cutN]
  have hb1 : N1.blk = N.blk := by rw [hN1]
  have hP1 : N1.P = P := by rw [hN1]; exact h.geo.2.2
  refine ⟨pe, ?_, ?_, by rw [hN1], hb1⟩
  · rw [pn, hcN]; rfl
  · rw [pn, hcN, hb1, hP1]
    exact ⟨⟨h.geo, rfl, rfl, h.dead, h.plan⟩, rfl, rfl, rfl⟩
theorem cut_cells {x : Blk} {P : Nat} (h : x.cells.length ≤ P) : (x.cut P).cells.length = P ∧ ∀ c ∈ (x.cut P).cells, c.lost = true := by
  refine ⟨by simp [Blk.cut]; omega, fun c hc => ?_⟩
  simp only [Blk.cut, List.mem_map] at hc
  obtain ⟨y, -, rfl⟩ := hc
  rfl
theorem Fine.readLost {N : Nd} {D B P d b p : Nat} (h : Fine N D B P) (hd : d < D) (hb : b < B) (hp : p < P) {c : Cel} (hc : (N.blk d b).cells[p]? = some c) (hl : c.lost = true) : N.readE ⟨d, b, p⟩ = 6 := by
  have hr := h.ref hd hb hp
  have hat : N.at ⟨d, b, p⟩ = N.blk d b := by simp [Nd.at]
  simp [Nd.readE, hr, hat, hc, hl]
end Go.Proofs.YtnfigkoefmldiaaGreat.nand
