import Derived.Test.YtnfigkoefmldiaaGreatClean2
/- A flash of which power is to go, as plain data: programs by turns into two dies, until power goes. -/
namespace Go.Proofs.YtnfigkoefmldiaaGreat.nandCut
open Go.RowKit
open Go.Proofs.YtnfigkoefmldiaaGreat.nand
set_option linter.unusedVariables false
def lenC (i d : Nat) : Nat := (i + 1 - d) / 2
structure Ct (N : Nd) (K i kk : Nat) : Prop where
  geo : N.D = 3 ∧ N.B = 8 ∧ N.P = 8
  off : N.off = false
  cuts : N.cuts = true
  left : N.left = (K : Int) - i
  keep : N.keep = kk
  dead : N.dead = List.replicate 3 false
  plan : N.plan = []
  len : ∀ d, d < 2 → (N.blk d 1).cells.length = lenC i d
  met : ∀ d, d < 2 → (N.blk d 1).met = false
  ops : N.ops = i
  broken : N.broken = 0
def keepN (keep : Int) : Nat := (min (max keep 0) 32).toNat
theorem keepN_le (k : Int) : keepN k ≤ 32 := by unfold keepN; omega
theorem Ct.start (K : Nat) (keep : Int) : Ct ((Nd.new 3 8 8).cutAt K keep) K 0 (keepN keep) := by
  have e : (Nd.new 3 8 8).cutAt K keep = { Nd.new 3 8 8 with cuts := true, left := (K : Int), keep := keepN keep, off := false } := by
    simp [Nd.cutAt, Nd.new, keepN] <;> omega
  rw [e]
  refine ⟨⟨rfl, rfl, rfl⟩, rfl, rfl, by simp, rfl, rfl, rfl, fun d hd => ?_, fun d hd => rfl, rfl, rfl⟩
  have : d = 0 ∨ d = 1 := by omega
  rcases this with rfl | rfl <;> rfl
theorem Ct.prog {N : Nd} {K i kk : Nat} (h : Ct N K i kk) (hi : i < K) (hK : K ≤ 12) (hk : kk ≤ 32) {pg : List Nat} (hpg : pg.length = 32) :
    N.programE ⟨(i % 2 : Nat), 1, (i / 2 : Nat)⟩ pg = 0 ∧ Ct (N.programN ⟨(i % 2 : Nat), 1, (i / 2 : Nat)⟩ pg) K (i + 1) kk := by
  have hr : N.refuses ⟨((i % 2 : Nat) : Int), ((1 : Nat) : Int), ((i / 2 : Nat) : Int)⟩ = 0 := ref0 h.geo h.off h.dead (by omega) (by omega) (by omega)
  have hc : N.cutB = false := by simp [Nd.cutB, h.cuts, h.left]; omega
  have hcN : N.cutN = { N with ops := N.ops + 1, left := N.left - 1 } := by
    unfold Nd.cutN
    rw [if_pos h.cuts, if_neg (by rw [h.left]; omega)]
  have hlen : i / 2 = (N.blk (i % 2) 1).cells.length := by rw [h.len _ (by omega)]; unfold lenC; omega
  obtain ⟨pe, pn⟩ := (prog_plain (d := i % 2) (b := 1) (q := i / 2) (p := pg) hr (Int.toNat_natCast _) (by rfl) rfl (by rw [h.keep]; exact hk) hpg).l3 hlen hc
  have hm := h.met (i % 2) (by omega)
  have hh : hasF N.plan ⟨((i % 2 : Nat) : Int), ((1 : Nat) : Int), ((i / 2 : Nat) : Int)⟩ = false := by rw [h.plan]; rfl
  rw [hh, hm, Bool.or_false] at pe pn
  refine ⟨pe, ?_⟩
  have pn' : N.programN ⟨((i % 2 : Nat) : Int), 1, ((i / 2 : Nat) : Int)⟩ pg = _ := pn
  rw [pn', hcN]
  refine ⟨h.geo, h.off, h.cuts, ?_, h.keep, h.dead, by simp [Nd.upd, delF, h.plan], fun d hd => ?_, fun d hd => ?_, by simp [Nd.upd, h.ops], h.broken⟩
  · simp only [Nd.upd, h.left]; omega
  · simp only [Nd.upd]
    split
    · rename_i e
      simp only [moreC, List.length_append, List.length_singleton, h.len (i % 2) (by omega), lenC]
      have := e.1
      omega
    · rename_i e
      rw [h.len d hd]
      have : d ≠ i % 2 := fun e2 => e (by simp [e2])
      unfold lenC; omega
  · simp only [Nd.upd]
    split
    · exact hm
    · exact h.met d hd
/-- Power has gone. -/
structure Cx (N : Nd) (K kk : Nat) (pg : List Nat) : Prop where
  off : N.off = true
  fine : Fine N.on 3 8 8
  cell : ((N.on).blk (K % 2) 1).cells[K / 2]? = some ⟨tornTo pg kk 32, false, true⟩
  len : ((N.on).blk ((K + 1) % 2) 1).cells.length = (K + 1) / 2
  ops : N.ops = K + 1
  broken : N.broken = 0
theorem Ct.cut {N : Nd} {K kk : Nat} (h : Ct N K K kk) (hK : K ≤ 12) (hk : kk ≤ 32) {pg : List Nat} (hpg : pg.length = 32) :
    N.programE ⟨(K % 2 : Nat), 1, (K / 2 : Nat)⟩ pg = 9 ∧ Cx (N.programN ⟨(K % 2 : Nat), 1, (K / 2 : Nat)⟩ pg) K kk pg := by
  have hr : N.refuses ⟨((K % 2 : Nat) : Int), ((1 : Nat) : Int), ((K / 2 : Nat) : Int)⟩ = 0 := ref0 h.geo h.off h.dead (by omega) (by omega) (by omega)
  have hc : N.cutB = true := by simp [Nd.cutB, h.cuts, h.left]
  have hcN : N.cutN = { N with ops := N.ops + 1, left := N.left - 1, cuts := false, off := true } := by
    unfold Nd.cutN
    rw [if_pos h.cuts, if_pos (by rw [h.left]; omega)]
  have hlen : K / 2 = (N.blk (K % 2) 1).cells.length := by rw [h.len _ (by omega)]; unfold lenC; omega
  obtain ⟨pe, pn⟩ := (prog_plain (d := K % 2) (b := 1) (q := K / 2) (p := pg) hr (Int.toNat_natCast _) (by rfl) rfl (by rw [h.keep]; exact hk) hpg).l2 hlen hc
  refine ⟨pe, ?_⟩
  have pn' : N.programN ⟨((K % 2 : Nat) : Int), 1, ((K / 2 : Nat) : Int)⟩ pg = _ := pn
  rw [pn', hcN]
  refine ⟨rfl, ⟨h.geo, rfl, rfl, h.dead, h.plan⟩, ?_, ?_, by simp [Nd.upd, h.ops], h.broken⟩
  · simp only [Nd.upd, Nd.on]
    simp [moreC, hlen, h.keep]
  · simp only [Nd.upd, Nd.on]
    rw [if_neg (by omega), h.len _ (by omega)]
    unfold lenC; omega
theorem off_prog {N : Nd} (h : N.off = true) (x : Ad) (p : List Nat) : N.programE x p = 9 ∧ N.programN x p = N := by
  have hr : N.refuses x = 9 := by simp [Nd.refuses, h]
  exact ⟨by simp [Nd.programE, hr], by simp [Nd.programN, hr]⟩
theorem Cx.read {N : Nd} {K kk : Nat} {pg : List Nat} (h : Cx N K kk pg) (hK : K ≤ 12) : (N.on).readP ⟨(K % 2 : Nat), 1, (K / 2 : Nat)⟩ = tornTo pg kk 32 ∧ (N.on).readE ⟨(K % 2 : Nat), 1, (K / 2 : Nat)⟩ = 0 := by
  have := h.fine.readE (d := K % 2) (b := 1) (p := K / 2) (c := ⟨tornTo pg kk 32, false, true⟩) (by omega) (by omega) (by omega) h.cell rfl
  exact ⟨this.2, this.1⟩
end Go.Proofs.YtnfigkoefmldiaaGreat.nandCut
