import Derived.Test.YtpbigfopmompfaaGreatKoop
import Derived.RegionTactic
import Derived.ChangeAlike
import Derived.BigRegion
import Derived.Deep.RegionLaw
import Derived.WalkSpells
/- What a claim's proof leans on: RefTurn, Out, In. -/
namespace Go.Proofs.YtpbigfopmompfaaGreat
open Go.RowKit

end Go.Proofs.YtpbigfopmompfaaGreat
namespace Go.Proofs.YtpbigfopmompfaaGreat
open Go.RowKit
theorem may_any (k : Int) (w : World) : Calls Tryz.prog 164 #[.int .i64 k] w fun e w' => e = .returned (.bool (decide (1 ≤ k) && decide (k ≤ 64))) ∧ w = w' := by
 by_cases h : 1 ≤ k
 · by_cases h2 : k ≤ 64
   · go_enter Tryz.func164, Tryz.ntmps164
     go_wp2
     go_ret
     exact ⟨by simp [h, h2], rfl⟩
   · go_enter Tryz.func164, Tryz.ntmps164
     go_wp2
     go_ret
     exact ⟨by simp [h2], rfl⟩
 · go_enter Tryz.func164, Tryz.ntmps164
   go_wp2
   go_ret
   exact ⟨by simp; omega, rfl⟩
def IsOut (w : World) (B g : Nat) (r : Option Nat) (l : List Bool) : Prop :=
 B ≤ g ∧ ∃ v, v.ownBlock = r ∧ w.heap[g]? = some (.cells #[v, .int .i64 (l.length : Int)] 185 (0, 0)) ∧ w.ownsRow B 5 1 v ((l.length + 7) / 8) (nats .u8 (bytesN l))
theorem put_step {B g gr cr N : Nat} {W : World} {L : List Bool} {x : Bool} {X : Int} (hBg : B ≤ g) (hgr : gr ≠ g)
 (ownW : W.ownsRow B 5 1 (.slice (some ⟨gr, 0, none⟩) (N / 8 + 1) cr) (N / 8 + 1) (nats .u8 (roomN L))) (hW1 : W.heap[g]? = some (.cells #[.slice (some ⟨gr, 0, none⟩) (N / 8 + 1) cr, .int .i64 (N : Int)] 185 (0, 0)))
 (hN : L.length = N) (hX : X = ((octN L (8 * (N / 8)) ||| (x.toNat * 2 ^ (7 - N % 8)) : Nat) : Int)) :
 IsOut ((W.setCell ⟨gr, N / 8, none⟩ (.int .u8 X)).setCell ⟨g, 1, none⟩ (.int .i64 ((N : Int) + 1))).drew B g (some gr) (L ++ [x]) := by
 have hl : (L ++ [x]).length = N + 1 := by rw [List.length_append, List.length_singleton, hN]
 refine ⟨hBg, .slice (some ⟨gr, 0, none⟩) (N / 8 + 1) cr, rfl, ?_, ?_⟩
 · have h1 := heap_set2 (i := 1) (blk_set (p := ⟨gr, N / 8, none⟩) hW1 (Ne.symm hgr) (.int .u8 X)) (.int .i64 ((N : Int) + 1))
   rw [hl]; exact h1
 · have h1 := (ownW.stored (N / 8) (.int .u8 X)).1
   have h2 := own_far h1 (p := ⟨g, 1, none⟩) (by simpa [Value.ownBlock] using hgr) (.int .i64 ((N : Int) + 1))
   have e : (nats .u8 (roomN L)).set (N / 8) (.int .u8 X) = nats .u8 (bytesN (L ++ [x])) := by
    have hp := putBit L x; rw [hN] at hp; rw [← hp, hX]; simp only [nats, List.map_set]
   rw [e] at h2; have e2 : ((L ++ [x]).length + 7) / 8 = N / 8 + 1 := by rw [hl]; omega
   rw [e2]; exact h2
theorem put_true (B g : Nat) (r : Option Nat) (l : List Bool) (u V : Nat) (w : World) (ho : IsOut w B g r l) (h1 : 1 ≤ V) (h2 : V ≤ 64) (hu : u < 2 ^ V) (hn : l.length + V ≤ 4096) (hB : B ≤ w.heap.size) :
 Calls Tryz.prog 133 #[.pointer (some ⟨g, 0, none⟩), .int .u64 (u : Int), .int .i64 (V : Int)] w fun e w' => e = .returned (.bool true) ∧
  ∃ r', IsOut w' B g r' (l ++ bitsL u V) ∧ (r' = r ∨ ∃ j, r' = some j ∧ w.heap.size ≤ j) ∧ Keep (fun k => k = g ∨ some k = r) w w' := by
 obtain ⟨hBg, v, hv, hg, hown⟩ := ho
 have c1 : w.cell? ⟨g, 1, none⟩ = some (.int .i64 (l.length : Int)) := by rw [cell_of_row w g 1 _ _ _ hg]; rfl
 have hz : (u : Int) / 2 ^ (V - 1) / 2 = 0 := by
  have : u / 2 ^ (V - 1) / 2 = 0 := by
   rw [Nat.div_div_eq_div_mul, ← Nat.pow_succ, show (V - 1).succ = V by omega, Nat.div_eq_of_lt hu]
  have h := congrArg (Nat.cast (R := Int)) this; rw [Int.natCast_ediv, Int.natCast_ediv, Int.natCast_pow] at h; exact h
 have HU := Lib.hid (show u < 18446744073709551616 from Nat.lt_of_lt_of_le hu (Nat.le_trans (Nat.pow_le_pow_right (by omega) h2) (by decide)))
 have d1 : decide (1 ≤ (V : Int)) = true := by simp; omega
 have d2 : decide ((V : Int) ≤ 64) = true := by simp; omega
 have hlt := zag hg
 have d3 : decide (4096 < (l.length : Int) + (V : Int)) = false := by simp; omega
 have b1 : 1 ≤ (V : Int) := by omega
 have b2 : (V : Int) ≤ 64 := by omega
 have b3 : (l.length : Int) + (V : Int) ≤ 4096 := by omega
 go_enter Tryz.func133, Tryz.ntmps133
 go_wp2_with (go_at_call 164; go_must (refine (may_any _ _).mono ?_; rw [d1, d2]; rintro e w' ⟨rfl, rfl⟩))
 go_loopw [7] (fun i wr => ∃ (k : Nat) (r' : Option Nat), k ≤ V ∧ i = .int .i64 ((V : Int) - 1 - k) ∧ IsOut wr B g r' (l ++ bitsTo u V k) ∧ (r' = r ∨ ∃ j, r' = some j ∧ w.heap.size ≤ j) ∧ Keep (fun k => k = g ∨ some k = r) w wr) (fun i _ => (intOf i + 1).toNat)
 case atStart => exact ⟨0, r, by omega, by simp, by simpa [bitsTo] using ⟨hBg, v, hv, hg, hown⟩, .inl rfl, Keep.refl _ _⟩
 case round =>
  clear c1 hown hg hz; obtain ⟨k, r1, hk, rfl, ho, hr1, hkeep⟩ := hrel; by_cases hlt2 : k < V
  · have hlen : (l ++ bitsTo u V k).length = l.length + k := by rw [List.length_append, bitsTo_length]
    obtain ⟨-, v1, hv1, hg, hown⟩ := ho; generalize hL : l ++ bitsTo u V k = L at *; generalize hN : L.length = N at *; have hN1 : N ≤ 4095 := by omega
    have hN2 : (N : Int) ≤ 4095 := by omega
    have HL := Lib.hid hL; have HN := Lib.hid hN; have Hlen := Lib.hid hlen; clear hL hN hlen; have c0 : wr.cell? ⟨g, 0, none⟩ = some v1 := by rw [zaf hg]; rfl
    have c1 : wr.cell? ⟨g, 1, none⟩ = some (.int .i64 (N : Int)) := by rw [zaf hg]; rfl
    have hne := own_ne hown hg (by decide); by_cases h8 : N % 8 = 0
    · have ht : ((N : Int) % 8 == 0) = true := by simp; omega
      have hsz : B ≤ wr.heap.size := Nat.le_trans hB hkeep.size; have H8 := Lib.hid h8; clear h8; go_wp2_with (at_builtin; go_must (refine zbm rfl (.tmp 48) (.tmp 49) 183 rfl 5 _ _ Tryz.underlying183 u8Info rfl hown (Below.refl B wr) rfl rfl rfl (by unfold maxLen; omega) (by omega) hsz (Nat.le_refl _) ?_; intro v2 w2 hown2 hbel2 hgr2 hat2; obtain ⟨gr, cr, rfl, q1, q2, q3, q4⟩ := za7 hown2 (by omega); have hg2 := zbw (zam hg _) hgr2 (Ne.symm hne); have c20 := zaf hg2 0; have f20 := zar hg2 0; clear c0 c1))
      have hgr : gr ≠ g := fun e => own_ne hown2 hg2 (by decide) (by rw [e]; rfl)
      have hW0 := heap_set2 (i := 0) hg2 (.slice (some ⟨gr, 0, none⟩) ((N + 7) / 8 + 1) cr); have ownW := own_far hown2 (p := ⟨g, 0, none⟩) (by simpa [Value.ownBlock] using hgr) (.slice (some ⟨gr, 0, none⟩) ((N + 7) / 8 + 1) cr); have em : (N + 7) / 8 + 1 = N / 8 + 1 := by have := H8.out; omega
      have er : nats .u8 (bytesN L) ++ [.int .u8 0] = nats .u8 (roomN L) := by rw [roomN_more L (by rw [HN.out]; exact H8.out)]; simp [nats]
      rw [em] at ownW hW0 ⊢; rw [er] at ownW; generalize hW : w2.setCell ⟨g, 0, none⟩ (.slice (some ⟨gr, 0, none⟩) (N / 8 + 1) cr) = W at *; have hW1 : W.heap[g]? = some (.cells #[.slice (some ⟨gr, 0, none⟩) (N / 8 + 1) cr, .int .i64 (N : Int)] 185 (0, 0)) := by rw [hW0]; rfl
      have ho := octN_lt L (8 * (N / 8)); obtain ⟨o, ho'⟩ : ∃ o, o = octN L (8 * (N / 8)) := ⟨_, rfl⟩; have HO := Lib.hid (ho'.symm)
      have cWr : W.cell? ⟨gr, N / 8, none⟩ = some (.int .u8 (o : Int)) := by
       rw [ho']; have e := roomN_get L; rw [HN.out] at e; rw [ownW.cellAt (N / 8) (by omega), nats, List.getElem?_map, e]; rfl
      have fWr := ownW.frozenAt (N / 8); have cW0 : W.cell? ⟨g, 0, none⟩ = some (.slice (some ⟨gr, 0, none⟩) (N / 8 + 1) cr) := by rw [zaf hW1]; rfl
      have cW1 : W.cell? ⟨g, 1, none⟩ = some (.int .i64 (N : Int)) := by rw [zaf hW1]; rfl
      rw [← ho'] at ho
      have hk2 : Keep (fun k => k = g ∨ some k = r) w w2 := hkeep.trans (Keep.trans (U := fun i => some i = r1) (Keep.of_new (S := fun _ => False) ((Below.refl _ _).alloc (Nat.le_refl _) _)) (Keep.of_grown hgr2) (fun _ h => h.elim) (fun _ _ h => by rw [hv1] at h; exact h)) (fun _ h => h) (fun i hi h => by
       rcases hr1 with e | ⟨j, e, hj⟩
       · exact .inr (by rw [h, e])
       · rw [e] at h; injection h with h; omega)
      have HR := Lib.hid (show some gr = r ∨ ∃ j, some gr = some j ∧ w.heap.size ≤ j by
       rcases hat2 with e | ⟨j, e, hj⟩
       · have e' : some gr = r1 := by rw [hv1] at e; exact e
         rw [e']; exact hr1
       · exact .inr ⟨j, e, by have := hkeep.size; omega⟩)
      have HG := Lib.hid (show (gr = g ∨ some gr = r) ∨ w.heap.size ≤ gr by
       rcases HR.out with e | ⟨j, e, hj⟩
       · exact .inl (.inr e)
       · injection e with e; exact .inr (by omega))
      have hkW : Keep (fun k => k = g ∨ some k = r) w W := by rw [← hW]; exact hk2.setCell (p := ⟨g, 0, none⟩) (.inl (.inl rfl)) _
      clear hg2 c20 f20 hW hW0 em er hat2 hk2 ho'; have hi : ((N : Int) / 8) < ((N / 8 + 1 : Nat) : Int) := by omega
      have hi0 : 0 ≤ (N : Int) / 8 := by omega
      have fW1 := zar hW1 1; go_region
      go_wp2
      go_roundw
      case rel =>
       refine ⟨k + 1, some gr, by omega, by go_num, ?_, ?_, ?_⟩
       · rw [show l ++ bitsTo u V (k + 1) = L ++ [u.testBit (V - 1 - k)] by rw [← HL.out, bitsTo_succ, List.append_assoc]]
         exact put_step hBg hgr ownW hW1 HN.out (by rw [HO.out]; exact put_val o u (V - 1 - k) (7 - N % 8) ho HU.out (by omega))
       · exact HR.out
       · exact ((hkW.setCell (p := ⟨gr, N / 8, none⟩) HG.out _).setCell (p := ⟨g, 1, none⟩) (.inl (.inl rfl)) _).drew
      case measure => simp [intOf]; omega
    · have ht : ((N : Int) % 8 == 0) = false := by simp; omega
      have em : (N + 7) / 8 = N / 8 + 1 := by omega
      have er : roomN L = bytesN L := roomN_same L (by rw [HN.out]; exact h8); rw [em] at hown; obtain ⟨gr, cr, rfl, q1, q2, q3, q4⟩ := za7 hown (by omega); obtain ⟨W, hW⟩ : ∃ W, W = wr := ⟨_, rfl⟩; subst hW; have hgr : gr ≠ g := fun e => hne (by rw [e]; rfl)
      have ownW := hown; rw [← er] at ownW; have hW1 := hg; have ho := octN_lt L (8 * (N / 8)); obtain ⟨o, ho'⟩ : ∃ o, o = octN L (8 * (N / 8)) := ⟨_, rfl⟩; have HO := Lib.hid (ho'.symm)
      have cWr : W.cell? ⟨gr, N / 8, none⟩ = some (.int .u8 (o : Int)) := by
       rw [ho']; have e := roomN_get L; rw [HN.out] at e; rw [ownW.cellAt (N / 8) (by omega), nats, List.getElem?_map, e]; rfl
      have fWr := ownW.frozenAt (N / 8); rw [← ho'] at ho
      have HR := Lib.hid (show some gr = r ∨ ∃ j, some gr = some j ∧ w.heap.size ≤ j by
       have e' : some gr = r1 := hv1; rw [e']; exact hr1)
      have HG := Lib.hid (show (gr = g ∨ some gr = r) ∨ w.heap.size ≤ gr by
       rcases HR.out with e | ⟨j, e, hj⟩
       · exact .inl (.inr e)
       · injection e with e; exact .inr (by omega))
      have hkW := hkeep; clear em er ho' h8 hg hown; go_wp2_with fail
      have hi : ((N : Int) / 8) < ((N / 8 + 1 : Nat) : Int) := by omega
      have hi0 : 0 ≤ (N : Int) / 8 := by omega
      have fW1 := zar hW1 1; go_region
      go_wp2
      go_roundw
      case rel =>
       refine ⟨k + 1, some gr, by omega, by go_num, ?_, ?_, ?_⟩
       · rw [show l ++ bitsTo u V (k + 1) = L ++ [u.testBit (V - 1 - k)] by rw [← HL.out, bitsTo_succ, List.append_assoc]]
         exact put_step hBg hgr ownW hW1 HN.out (by rw [HO.out]; exact put_val o u (V - 1 - k) (7 - N % 8) ho HU.out (by omega))
       · exact HR.out
       · exact ((hkW.setCell (p := ⟨gr, N / 8, none⟩) HG.out _).setCell (p := ⟨g, 1, none⟩) (.inl (.inl rfl)) _).drew
      case measure => simp [intOf]; omega
  · obtain rfl : k = V := by omega
    go_wp2
    go_ret
    exact ⟨rfl, r1, ho, hr1, hkeep⟩
theorem put_wide (a : Addr) (u V : Nat) (w : World) (h1 : 1 ≤ V) (h2 : V ≤ 64) (hu : 2 ^ V ≤ u) : Calls Tryz.prog 133 #[.pointer (some a), .int .u64 (u : Int), .int .i64 (V : Int)] w fun e w' => e = .returned (.bool false) ∧ w = w' := by
 have d1 : (decide (1 ≤ (V : Int)) && decide ((V : Int) ≤ 64)) = true := by simp; omega
 have b1 : 1 ≤ (V : Int) := by omega
 have b2 : (V : Int) ≤ 64 := by omega
 have hz : ¬ (u : Int) / 2 ^ (V - 1) / 2 = 0 := by
  have : 1 ≤ u / 2 ^ (V - 1) / 2 := by
   rw [Nat.div_div_eq_div_mul, ← Nat.pow_succ, show (V - 1).succ = V by omega]; exact (Nat.le_div_iff_mul_le (Nat.two_pow_pos _)).2 (by omega)
  have h : (u : Int) / 2 ^ (V - 1) / 2 = ((u / 2 ^ (V - 1) / 2 : Nat) : Int) := by rw [Int.natCast_ediv, Int.natCast_ediv, Int.natCast_pow]; rfl
  omega
 clear hu
 go_enter Tryz.func133, Tryz.ntmps133
 go_wp2_with (go_at_call 164; go_must (refine (may_any _ _).mono ?_; rw [d1]; rintro e w' ⟨rfl, rfl⟩))
 go_ret
 exact ⟨rfl, rfl⟩
theorem len_any (B g : Nat) (r : Option Nat) (l : List Bool) (w : World) (ho : IsOut w B g r l) :
 Calls Tryz.prog 197 #[.pointer (some ⟨g, 0, none⟩)] w fun e w' => e = .returned (.int .i64 (l.length : Int)) ∧ w = w' := by
 obtain ⟨hBg, v, hv, hg, hown⟩ := ho
 have c1 : w.cell? ⟨g, 1, none⟩ = some (.int .i64 (l.length : Int)) := by rw [cell_of_row w g 1 _ _ _ hg]; rfl
 clear hg hown
 go_enter Tryz.func197, Tryz.ntmps197
 go_wp2
 go_ret
 exact ⟨rfl, rfl⟩
theorem outbytes_any (B g : Nat) (r : Option Nat) (l : List Bool) (w : World) (ho : IsOut w B g r l) (hl : l.length ≤ 4096) :
 Calls Tryz.prog 134 #[.pointer (some ⟨g, 0, none⟩)] w fun e w' => ∃ v, e = .returned v ∧ w'.ownsRow w.heap.size 5 1 v ((l.length + 7) / 8) (nats .u8 (bytesN l)) ∧ Below w.heap.size w w' := by
 obtain ⟨hBg, v, hv, hg, hown⟩ := ho
 have c1 : w.cell? ⟨g, 0, none⟩ = some v := by rw [cell_of_row w g 0 _ _ _ hg]; rfl
 rcases hown.2 with ⟨rfl, h0⟩ | ⟨g', cap, cur, rfl, -⟩
 · have e0 : bytesN l = [] := List.eq_nil_of_length_eq_zero (by rw [bytesN, zbz]; exact h0)
   rw [e0, h0]; clear hg hown; go_enter Tryz.func134, Tryz.ntmps134
   go_wp2_with (go_at_call 165; go_must (refine (clone_nil _ _ _).mono ?_; rintro e w' ⟨rfl, rfl⟩))
   go_ret
   exact ⟨_, rfl, World.ownsRow_nil _ _ _ _, Below.refl _ _⟩
 · have hrd := Rd.of_own hown
   clear hg hown; generalize hm : (l.length + 7) / 8 = m at *; have hm2 : m ≤ 1000000 := by omega
   clear hm; go_enter Tryz.func134, Tryz.ntmps134
   go_wp2_with (go_at_call 165; go_must (refine (clone_any _ _ _ _ _ _ _ hrd (Nat.le_refl _) hm2).mono ?_; rintro e w1 ⟨v1, rfl, hown1, hb1⟩))
   go_ret
   exact ⟨_, rfl, hown1, hb1⟩
end Go.Proofs.YtpbigfopmompfaaGreat
namespace Go.Proofs.YtpbigfopmompfaaGreat
open Go.RowKit
def IsIn (w : World) (C g : Nat) (l : List Nat) (at_ : Nat) : Prop :=
 ∃ A c, w.heap[g]? = some (.cells #[.slice A l.length c, .int .i64 (at_ : Int)] 221 (0, 0)) ∧ Rd w C A l.length (nats .u8 l) ∧ C ≤ g
theorem read_any (A : Option Addr) (n c B : Nat) (l : List Nat) (w : World) (hr : Rd w B A n (nats .u8 l)) (hB : B ≤ w.heap.size) : Calls Tryz.prog 136 #[.slice A n c] w fun e w' =>
 e = .returned (.pointer (some ⟨w.heap.size, 0, none⟩)) ∧ IsIn w' B w.heap.size l 0 ∧ Below w.heap.size w w' := by
 have hl : n = l.length := by have := hr.1; rw [zaj] at this; exact this.symm
 subst hl
 go_enter Tryz.func136, Tryz.ntmps136
 go_wp2
 go_ret
 refine ⟨rfl, ⟨A, c, heap_alloc_new w _, ?_, hB⟩, (Below.refl _ _).alloc (Nat.le_refl _) _⟩
 exact hr.below ((Below.refl _ _).alloc (Nat.le_refl _) _) hB
theorem left_none (w : World) : Calls Tryz.prog 167 #[.pointer none] w fun e w' => e = .returned (.int .i64 0) ∧ w = w' := by
 go_enter Tryz.func167, Tryz.ntmps167
 go_wp2
 go_ret
 exact ⟨rfl, rfl⟩
theorem left_any (C g : Nat) (l : List Nat) (at_ : Nat) (w : World) (hi : IsIn w C g l at_) (hl : l.length ≤ 1000000000) (ha : at_ ≤ 8 * l.length) : Calls Tryz.prog 167 #[.pointer (some ⟨g, 0, none⟩)] w fun e w' =>
 e = .returned (.int .i64 (8 * (l.length : Int) - at_)) ∧ ∃ k, w' = w.drewN k := by
 obtain ⟨A, c, hg, -⟩ := hi
 have c0 : w.cell? ⟨g, 0, none⟩ = some (.slice A l.length c) := by rw [zaf hg]; rfl
 have c1 : w.cell? ⟨g, 1, none⟩ = some (.int .i64 (at_ : Int)) := by rw [zaf hg]; rfl
 clear hg
 have b1 : (l.length : Int) ≤ 1000000000 := by omega
 have b2 : (at_ : Int) ≤ 8 * (l.length : Int) := by omega
 go_enter Tryz.func167, Tryz.ntmps167
 go_wp2
 go_quiet (fail)
 go_wp2
 go_ret
 exact ⟨rfl, _, rfl⟩
theorem get_none (W : Int) (w : World) : Calls Tryz.prog 137 #[.pointer none, .int .i64 W] w fun e w' => e = .returned (.tuple #[.int .u64 0, .bool false]) ∧ w = w' := by
 cases hm : (decide (1 ≤ W) && decide (W ≤ 64)) with
 | false =>
  go_enter Tryz.func137, Tryz.ntmps137
  go_wp2_with (go_at_call 164; go_must (refine (may_any _ _).mono ?_; rw [hm]; rintro e w' ⟨rfl, rfl⟩))
  go_ret2
  exact ⟨rfl, rfl⟩
 | true =>
  simp only [Bool.and_eq_true, decide_eq_true_eq] at hm; obtain ⟨m1, m2⟩ := hm; have hm : (decide (1 ≤ W) && decide (W ≤ 64)) = true := by simp; omega
  have hlt : 0 < W := by omega
  go_enter Tryz.func137, Tryz.ntmps137
  go_wp2_with (first | (go_at_call 164; go_must (refine (may_any _ _).mono ?_; rw [hm]; rintro e w' ⟨rfl, rfl⟩)) | (go_at_call 167; go_must (refine (left_none _).mono ?_; rintro e w' ⟨rfl, rfl⟩)))
  go_ret2
  exact ⟨rfl, rfl⟩
theorem get_no (C g : Nat) (l : List Nat) (at_ : Nat) (W : Int) (w : World) (hi : IsIn w C g l at_) (hl : l.length ≤ 1000000000) (ha : at_ ≤ 8 * l.length) (hno : W < 1 ∨ 64 < W ∨ 8 * (l.length : Int) - at_ < W) :
 Calls Tryz.prog 137 #[.pointer (some ⟨g, 0, none⟩), .int .i64 W] w fun e w' => e = .returned (.tuple #[.int .u64 0, .bool false]) ∧ ∃ k, w' = w.drewN k := by
 cases hm : (decide (1 ≤ W) && decide (W ≤ 64)) with
 | false =>
  go_enter Tryz.func137, Tryz.ntmps137
  go_wp2_with (go_at_call 164; go_must (refine (may_any _ _).mono ?_; rw [hm]; rintro e w' ⟨rfl, rfl⟩))
  go_ret2
  exact ⟨rfl, 0, rfl⟩
 | true =>
  simp only [Bool.and_eq_true, decide_eq_true_eq] at hm; obtain ⟨m1, m2⟩ := hm; have hm : (decide (1 ≤ W) && decide (W ≤ 64)) = true := by simp; omega
  have hlt : 8 * (l.length : Int) - at_ < W := by omega
  go_enter Tryz.func137, Tryz.ntmps137
  go_wp2_with (first | (go_at_call 164; go_must (refine (may_any _ _).mono ?_; rw [hm]; rintro e w' ⟨rfl, rfl⟩)) | (go_at_call 167; go_must (refine (left_any _ _ _ _ _ hi hl ha).mono ?_; rintro e w' ⟨rfl, nd, rfl⟩)))
  go_ret2
  exact ⟨rfl, _, rfl⟩
theorem get_yes (C g : Nat) (l : List Nat) (at_ V : Nat) (w : World) (hi : IsIn w C g l at_) (hb : ∀ x ∈ l, x < 256) (hl : l.length ≤ 1000000000) (h1 : 1 ≤ V) (h2 : V ≤ 64) (ha : at_ + V ≤ 8 * l.length) :
 Calls Tryz.prog 137 #[.pointer (some ⟨g, 0, none⟩), .int .i64 (V : Int)] w fun e w' => e = .returned (.tuple #[.int .u64 (numN (cutB (ofN l) at_ V) : Int), .bool true]) ∧ IsIn w' C g l (at_ + V) ∧ Keep (fun k => k = g) w w' := by
 have hm : (decide (1 ≤ (V : Int)) && decide ((V : Int) ≤ 64)) = true := by simp; omega
 have b1 : (V : Int) ≤ 8 * (l.length : Int) - at_ := by omega
 have b2 : (V : Int) ≤ 64 := by omega
 have b3 : (at_ : Int) + V ≤ 8000000000 := by omega
 have d5 : decide (8 * (l.length : Int) - at_ < V) = false := by simp; omega
 have hi0 := hi
 obtain ⟨A, c, hg, hrd, hC⟩ := hi
 have c0 : w.cell? ⟨g, 0, none⟩ = some (.slice A l.length c) := by rw [zaf hg]; rfl
 have c1 : w.cell? ⟨g, 1, none⟩ = some (.int .i64 (at_ : Int)) := by rw [zaf hg]; rfl
 go_enter Tryz.func137, Tryz.ntmps137
 go_wp2_with (first | (go_at_call 164; go_must (refine (may_any _ _).mono ?_; rw [hm]; rintro e w' ⟨rfl, rfl⟩)) | (go_at_call 167; go_must (refine (left_any _ _ _ _ _ hi0 hl (by omega)).mono ?_; rintro e w' ⟨rfl, nd, rfl⟩)))
 clear hi0 c0 c1 hm
 have hlen := ofN_length l
 go_loopw [6] (fun u wr => ∃ k : Nat, k ≤ V ∧ u = .int .u64 (numN (cutB (ofN l) at_ k) : Int) ∧ wr.heap[g]? = some (.cells #[.slice A l.length c, .int .i64 ((at_ + k : Nat) : Int)] 221 (0, 0)) ∧ Rd wr C A l.length (nats .u8 l) ∧ Keep (fun k => k = g) w wr) (fun _ wr => at_ + V - (intOf ((wr.cell? ⟨g, 1, none⟩).getD undef)).toNat)
 case atStart => exact ⟨0, by omega, by simp [cutB, numN], hg, hrd, (Keep.refl _ _).drewN _⟩
 case round =>
  clear hg hrd; obtain ⟨k, hk, rfl, hg, hrd, hkeep⟩ := hrel; have c0 : wr.cell? ⟨g, 0, none⟩ = some (.slice A l.length c) := by rw [zaf hg]; rfl
  have c1 : wr.cell? ⟨g, 1, none⟩ = some (.int .i64 ((at_ + k : Nat) : Int)) := by rw [zaf hg]; rfl
  by_cases hlt : k < V
  · obtain ⟨x, hx1, hx2⟩ := ofN_get l (at_ + k) (by omega)
    have hp8 : (at_ + k) / 8 < l.length := by omega
    obtain ⟨bb, o, rfl, hbb, hcell⟩ := hrd.at_ hp8
    have hcx : wr.cell? ⟨bb, o + (at_ + k) / 8, none⟩ = some (.int .u8 (x : Int)) := by
     rw [hcell, nats, List.getElem?_map, hx1]; rfl
    have hxb := hb x (List.mem_of_getElem? hx1); have HS := Lib.hid (cutB_succ (ofN l) at_ k _ hx2)
    have hU : numN (cutB (ofN l) at_ k) < 9223372036854775808 := by
     have h := numN_lt (cutB (ofN l) at_ k); rw [cutB_length _ _ _ (by omega)] at h; exact Nat.lt_of_lt_of_le h (Nat.le_trans (Nat.pow_le_pow_right (by omega) (show k ≤ 63 by omega)) (by decide))
    have HV := Lib.hid (get_val (numN (cutB (ofN l) at_ k)) x (7 - (at_ + k) % 8) hU hxb); have f1 := zar hg 1; obtain ⟨p, hp⟩ : ∃ p, p = at_ + k := ⟨_, rfl⟩; rw [← hp] at c1 hcx HV hg hp8 HS; have HP := Lib.hid hp; have hpl : p < at_ + V := by omega
    clear hcell hx1 hx2 hp; have hi8 : (p : Int) / 8 < (l.length : Int) := by omega
    have hplt : (p : Int) < (at_ : Int) + (V : Int) := by omega
    have hp0 : (p : Int) ≤ 8000000000 := by omega
    have HN := Lib.hid (show numN (cutB (ofN l) at_ (k + 1)) = 2 * numN (cutB (ofN l) at_ k) + (x.testBit (7 - p % 8)).toNat by rw [HS.out, numN_snoc]); generalize numN (cutB (ofN l) at_ k) = U at *; go_wp2
    go_region
    go_wp2
    go_roundw
    case rel =>
     refine ⟨k + 1, by omega, ?_, ?_, ?_, ?_⟩
     · rw [HN.out, HV.out]
     · have h2 := heap_set2 (i := 1) hg (.int .i64 ((p : Int) + 1))
       rw [show ((at_ + (k + 1) : Nat) : Int) = (p : Int) + 1 by have := HP.out; omega]; exact h2
     · exact (hrd.below (C := C) ((Below.refl _ _).setCell (p := ⟨g, 1, none⟩) hC _) (Nat.le_refl _)).drew
     · exact (hkeep.setCell (p := ⟨g, 1, none⟩) (.inl rfl) _).drew
    case measure =>
     have h2 := heap_set2 (i := 1) hg (.int .i64 ((p : Int) + 1))
     have h3 : (wr.setCell ⟨g, 1, none⟩ (.int .i64 ((p : Int) + 1))).drew.cell? ⟨g, 1, none⟩ = some (.int .i64 ((p : Int) + 1)) := by
      show (wr.setCell ⟨g, 1, none⟩ (.int .i64 ((p : Int) + 1))).cell? ⟨g, 1, none⟩ = _
      rw [zaf h2]; rfl
     rw [h3, c1]; simp only [Option.getD_some, intOf]; omega
  · obtain rfl : k = V := by omega
    have hd : decide (((at_ + k : Nat) : Int) < (at_ : Int) + (k : Int)) = false := by simp
    go_wp2
    go_ret2
    exact ⟨rfl, ⟨A, c, hg, hrd, hC⟩, hkeep⟩
end Go.Proofs.YtpbigfopmompfaaGreat
