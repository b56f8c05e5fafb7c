import Derived.Test.YtlahcmldbgeifaaRefTurn
import Derived.WalkSpells
/- The contracts of the layer bits. -/
namespace Go.Proofs.Ytlahcmldbgeifaa
open Go.RowKit
theorem may_any (k : Int) (w : World) : Calls Try.prog 61 #[.int .i64 k] w fun e w' => e = .returned (.bool (decide (1 ≤ k) && decide (k ≤ 64))) ∧ w = w' := by
  by_cases h : 1 ≤ k
  · by_cases h2 : k ≤ 64
    · go_enter Try.func61, Try.ntmps61
      go_wp2
      go_ret
      exact ⟨by simp [h, h2], rfl⟩
    · go_enter Try.func61, Try.ntmps61
      go_wp2
      go_ret
      exact ⟨by simp [h2], rfl⟩
  · go_enter Try.func61, Try.ntmps61
    go_wp2
    go_ret
    exact ⟨by simp; omega, rfl⟩
/-- Block g is an Out of so many bits; r: the block of its bytes. -/
def IsOut (w : World) (B g : Nat) (r : Option Nat) (l : List Bool) : Prop :=
  B ≤ g ∧ ∃ v, v.ownBlock = r ∧ w.heap[g]? = some (.cells #[v, .int .i64 (l.length : Int)] 34 (0, 0)) ∧ w.ownsRow B 5 1 v ((l.length + 7) / 8) (nats .u8 (bytesN l))
theorem put_step {B g gr cr N : Nat} {W : World} {L : List Bool} {x : Bool} {X : Int} (hBg : B ≤ g) (hgr : gr ≠ g)
    (ownW : W.ownsRow B 5 1 (.slice (some ⟨gr, 0, none⟩) (N / 8 + 1) cr) (N / 8 + 1) (nats .u8 (roomN L))) (hW1 : W.heap[g]? = some (.cells #[.slice (some ⟨gr, 0, none⟩) (N / 8 + 1) cr, .int .i64 (N : Int)] 34 (0, 0)))
    (hN : L.length = N) (hX : X = ((octN L (8 * (N / 8)) ||| (x.toNat * 2 ^ (7 - N % 8)) : Nat) : Int)) :
    IsOut ((W.setCell ⟨gr, N / 8, none⟩ (.int .u8 X)).setCell ⟨g, 1, none⟩ (.int .i64 ((N : Int) + 1))).drew B g (some gr) (L ++ [x]) := by
  have hl : (L ++ [x]).length = N + 1 := by rw [List.length_append, List.length_singleton, hN]
  refine ⟨hBg, .slice (some ⟨gr, 0, none⟩) (N / 8 + 1) cr, rfl, ?_, ?_⟩
  · have h1 := heap_set2 (i := 1) (blk_set (p := ⟨gr, N / 8, none⟩) hW1 (Ne.symm hgr) (.int .u8 X)) (.int .i64 ((N : Int) + 1))
    rw [hl]
    exact h1
  · have h1 := (ownW.stored (N / 8) (.int .u8 X)).1
    have h2 := own_far h1 (p := ⟨g, 1, none⟩) (by simpa [Value.ownBlock] using hgr) (.int .i64 ((N : Int) + 1))
    have e : (nats .u8 (roomN L)).set (N / 8) (.int .u8 X) = nats .u8 (bytesN (L ++ [x])) := by
      have hp := putBit L x
      rw [hN] at hp
      rw [← hp, hX]; simp only [nats, List.map_set]
    rw [e] at h2
    have e2 : ((L ++ [x]).length + 7) / 8 = N / 8 + 1 := by rw [hl]; omega
    rw [e2]
    exact h2
theorem put_true (B g : Nat) (r : Option Nat) (l : List Bool) (u V : Nat) (w : World) (ho : IsOut w B g r l) (h1 : 1 ≤ V) (h2 : V ≤ 64) (hu : u < 2 ^ V) (hn : l.length + V ≤ 4096) (hB : B ≤ w.heap.size) :
   Calls Try.prog 26 #[.pointer (some ⟨g, 0, none⟩), .int .u64 (u : Int), .int .i64 (V : Int)] w fun e w' => e = .returned (.bool true) ∧
    ∃ r', IsOut w' B g r' (l ++ bitsL u V) ∧ (r' = r ∨ ∃ j, r' = some j ∧ w.heap.size ≤ j) ∧ Keep (fun k => k = g ∨ some k = r) w w' := by
  obtain ⟨hBg, v, hv, hg, hown⟩ := ho
  have c1 : w.cell? ⟨g, 1, none⟩ = some (.int .i64 (l.length : Int)) := by rw [cell_of_row w g 1 _ _ _ hg]; rfl
  have hz : (u : Int) / 2 ^ (V - 1) / 2 = 0 := by
    have : u / 2 ^ (V - 1) / 2 = 0 := by
      rw [Nat.div_div_eq_div_mul, ← Nat.pow_succ, show (V - 1).succ = V by omega, Nat.div_eq_of_lt hu]
    have h := congrArg (Nat.cast (R := Int)) this
    rw [Int.natCast_ediv, Int.natCast_ediv, Int.natCast_pow] at h
    exact h
  have HU := Lib.hid (show u < 18446744073709551616 from Nat.lt_of_lt_of_le hu (Nat.le_trans (Nat.pow_le_pow_right (by omega) h2) (by decide)))
  have d1 : decide (1 ≤ (V : Int)) = true := by simp; omega
  have d2 : decide ((V : Int) ≤ 64) = true := by simp; omega
  have hlt := lt_of_cells hg
  have d3 : decide (4096 < (l.length : Int) + (V : Int)) = false := by simp; omega
  have b1 : 1 ≤ (V : Int) := by omega
  have b2 : (V : Int) ≤ 64 := by omega
  have b3 : (l.length : Int) + (V : Int) ≤ 4096 := by omega
  go_enter Try.func26, Try.ntmps26
  go_wp2_with (go_at_call 61; go_must (refine (may_any _ _).mono ?_; rw [d1, d2]; rintro e w' ⟨rfl, rfl⟩))
  go_loopw [7] (fun i wr => ∃ (k : Nat) (r' : Option Nat), k ≤ V ∧ i = .int .i64 ((V : Int) - 1 - k) ∧ IsOut wr B g r' (l ++ bitsTo u V k) ∧ (r' = r ∨ ∃ j, r' = some j ∧ w.heap.size ≤ j) ∧ Keep (fun k => k = g ∨ some k = r) w wr) (fun i _ => (intOf i + 1).toNat)
  case atStart => exact ⟨0, r, by omega, by simp, by simpa [bitsTo] using ⟨hBg, v, hv, hg, hown⟩, .inl rfl, Keep.refl _ _⟩
  case round =>
    clear c1 hown hg hz
    obtain ⟨k, r1, hk, rfl, ho, hr1, hkeep⟩ := hrel
    by_cases hlt2 : k < V
    · have hlen : (l ++ bitsTo u V k).length = l.length + k := by rw [List.length_append, bitsTo_length]
      obtain ⟨-, v1, hv1, hg, hown⟩ := ho
      generalize hL : l ++ bitsTo u V k = L at *
      generalize hN : L.length = N at *
      have hN1 : N ≤ 4095 := by omega
      have hN2 : (N : Int) ≤ 4095 := by omega
      have HL := Lib.hid hL
      have HN := Lib.hid hN
      have Hlen := Lib.hid hlen
      clear hL hN hlen
      have c0 : wr.cell? ⟨g, 0, none⟩ = some v1 := by rw [blk_cell hg]; rfl
      have c1 : wr.cell? ⟨g, 1, none⟩ = some (.int .i64 (N : Int)) := by rw [blk_cell hg]; rfl
      have hne := own_ne hown hg (by decide)
      by_cases h8 : N % 8 = 0
      · have ht : ((N : Int) % 8 == 0) = true := by simp; omega
        have hsz : B ≤ wr.heap.size := Nat.le_trans hB hkeep.size
        have H8 := Lib.hid h8
        clear h8
        go_wp2_with (at_builtin; go_must (refine wpList_append1 rfl (.tmp 48) (.tmp 49) 32 rfl 5 _ _ Try.underlying32 u8Info rfl hown (Below.refl B wr) rfl rfl rfl (by unfold maxLen; omega) (by omega) hsz (Nat.le_refl _) ?_; intro v2 w2 hown2 hbel2 hgr2 hat2; obtain ⟨gr, cr, rfl, q1, q2, q3, q4⟩ := own_form hown2 (by omega); have hg2 := blk_grown (blk_alloc hg _) hgr2 (Ne.symm hne); have c20 := blk_cell hg2 0; have f20 := blk_frozen hg2 0; clear c0 c1))
        have hgr : gr ≠ g := fun e => own_ne hown2 hg2 (by decide) (by rw [e]; rfl)
        have hW0 := heap_set2 (i := 0) hg2 (.slice (some ⟨gr, 0, none⟩) ((N + 7) / 8 + 1) cr)
        have ownW := own_far hown2 (p := ⟨g, 0, none⟩) (by simpa [Value.ownBlock] using hgr) (.slice (some ⟨gr, 0, none⟩) ((N + 7) / 8 + 1) cr)
        have em : (N + 7) / 8 + 1 = N / 8 + 1 := by have := H8.out; omega
        have er : nats .u8 (bytesN L) ++ [.int .u8 0] = nats .u8 (roomN L) := by rw [roomN_more L (by rw [HN.out]; exact H8.out)]; simp [nats]
        rw [em] at ownW hW0 ⊢
        rw [er] at ownW
        generalize hW : w2.setCell ⟨g, 0, none⟩ (.slice (some ⟨gr, 0, none⟩) (N / 8 + 1) cr) = W at *
        have hW1 : W.heap[g]? = some (.cells #[.slice (some ⟨gr, 0, none⟩) (N / 8 + 1) cr, .int .i64 (N : Int)] 34 (0, 0)) := by rw [hW0]; rfl
        have ho := octN_lt L (8 * (N / 8))
        obtain ⟨o, ho'⟩ : ∃ o, o = octN L (8 * (N / 8)) := ⟨_, rfl⟩
        have HO := Lib.hid (ho'.symm)
        have cWr : W.cell? ⟨gr, N / 8, none⟩ = some (.int .u8 (o : Int)) := by
          rw [ho']
          have e := roomN_get L
          rw [HN.out] at e
          rw [ownW.cellAt (N / 8) (by omega), nats, List.getElem?_map, e]; rfl
        have fWr := ownW.frozenAt (N / 8)
        have cW0 : W.cell? ⟨g, 0, none⟩ = some (.slice (some ⟨gr, 0, none⟩) (N / 8 + 1) cr) := by rw [blk_cell hW1]; rfl
        have cW1 : W.cell? ⟨g, 1, none⟩ = some (.int .i64 (N : Int)) := by rw [blk_cell hW1]; rfl
        rw [← ho'] at ho
        have hk2 : Keep (fun k => k = g ∨ some k = r) w w2 := hkeep.trans (Keep.trans (U := fun i => some i = r1) (Keep.of_new (S := fun _ => False) ((Below.refl _ _).alloc (Nat.le_refl _) _)) (Keep.of_grown hgr2) (fun _ h => h.elim) (fun _ _ h => by rw [hv1] at h; exact h)) (fun _ h => h) (fun i hi h => by
          rcases hr1 with e | ⟨j, e, hj⟩
          · exact .inr (by rw [h, e])
          · rw [e] at h; injection h with h; omega)
        have HR := Lib.hid (show some gr = r ∨ ∃ j, some gr = some j ∧ w.heap.size ≤ j by
          rcases hat2 with e | ⟨j, e, hj⟩
          · have e' : some gr = r1 := by rw [hv1] at e; exact e
            rw [e']; exact hr1
          · exact .inr ⟨j, e, by have := hkeep.size; omega⟩)
        have HG := Lib.hid (show (gr = g ∨ some gr = r) ∨ w.heap.size ≤ gr by
          rcases HR.out with e | ⟨j, e, hj⟩
          · exact .inl (.inr e)
          · injection e with e; exact .inr (by omega))
        have hkW : Keep (fun k => k = g ∨ some k = r) w W := by rw [← hW]; exact hk2.setCell (p := ⟨g, 0, none⟩) (.inl (.inl rfl)) _
        clear hg2 c20 f20 hW hW0 em er hat2 hk2 ho'
        have hi : ((N : Int) / 8) < ((N / 8 + 1 : Nat) : Int) := by omega
        have hi0 : 0 ≤ (N : Int) / 8 := by omega
        have fW1 := blk_frozen hW1 1
        go_region
        go_wp2
        go_roundw
        case rel =>
          refine ⟨k + 1, some gr, by omega, by go_num, ?_, ?_, ?_⟩
          · rw [show l ++ bitsTo u V (k + 1) = L ++ [u.testBit (V - 1 - k)] by rw [← HL.out, bitsTo_succ, List.append_assoc]]
            exact put_step hBg hgr ownW hW1 HN.out (by rw [HO.out]; exact put_val o u (V - 1 - k) (7 - N % 8) ho HU.out (by omega))
          · exact HR.out
          · exact ((hkW.setCell (p := ⟨gr, N / 8, none⟩) HG.out _).setCell (p := ⟨g, 1, none⟩) (.inl (.inl rfl)) _).drew
        case measure => simp [intOf]; omega
      · have ht : ((N : Int) % 8 == 0) = false := by simp; omega
        have em : (N + 7) / 8 = N / 8 + 1 := by omega
        have er : roomN L = bytesN L := roomN_same L (by rw [HN.out]; exact h8)
        rw [em] at hown
        obtain ⟨gr, cr, rfl, q1, q2, q3, q4⟩ := own_form hown (by omega)
        obtain ⟨W, hW⟩ : ∃ W, W = wr := ⟨_, rfl⟩
        subst hW
        have hgr : gr ≠ g := fun e => hne (by rw [e]; rfl)
        have ownW := hown
        rw [← er] at ownW
        have hW1 := hg
        have ho := octN_lt L (8 * (N / 8))
        obtain ⟨o, ho'⟩ : ∃ o, o = octN L (8 * (N / 8)) := ⟨_, rfl⟩
        have HO := Lib.hid (ho'.symm)
        have cWr : W.cell? ⟨gr, N / 8, none⟩ = some (.int .u8 (o : Int)) := by
          rw [ho']
          have e := roomN_get L
          rw [HN.out] at e
          rw [ownW.cellAt (N / 8) (by omega), nats, List.getElem?_map, e]; rfl
        have fWr := ownW.frozenAt (N / 8)
        rw [← ho'] at ho
        have HR := Lib.hid (show some gr = r ∨ ∃ j, some gr = some j ∧ w.heap.size ≤ j by
          have e' : some gr = r1 := hv1
          rw [e']; exact hr1)
        have HG := Lib.hid (show (gr = g ∨ some gr = r) ∨ w.heap.size ≤ gr by
          rcases HR.out with e | ⟨j, e, hj⟩
          · exact .inl (.inr e)
          · injection e with e; exact .inr (by omega))
        have hkW := hkeep
        clear em er ho' h8 hg hown
        go_wp2_with fail
        have hi : ((N : Int) / 8) < ((N / 8 + 1 : Nat) : Int) := by omega
        have hi0 : 0 ≤ (N : Int) / 8 := by omega
        have fW1 := blk_frozen hW1 1
        go_region
        go_wp2
        go_roundw
        case rel =>
          refine ⟨k + 1, some gr, by omega, by go_num, ?_, ?_, ?_⟩
          · rw [show l ++ bitsTo u V (k + 1) = L ++ [u.testBit (V - 1 - k)] by rw [← HL.out, bitsTo_succ, List.append_assoc]]
            exact put_step hBg hgr ownW hW1 HN.out (by rw [HO.out]; exact put_val o u (V - 1 - k) (7 - N % 8) ho HU.out (by omega))
          · exact HR.out
          · exact ((hkW.setCell (p := ⟨gr, N / 8, none⟩) HG.out _).setCell (p := ⟨g, 1, none⟩) (.inl (.inl rfl)) _).drew
        case measure => simp [intOf]; omega
    · obtain rfl : k = V := by omega
      go_wp2
      go_ret
      exact ⟨rfl, r1, ho, hr1, hkeep⟩
theorem put_none (u W : Int) (w : World) : Calls Try.prog 26 #[.pointer none, .int .u64 u, .int .i64 W] w fun e w' => e = .returned (.bool false) ∧ w = w' := by
  go_enter Try.func26, Try.ntmps26
  go_wp2
  go_ret
  exact ⟨rfl, rfl⟩
theorem put_width (a : Addr) (u W : Int) (w : World) (h : W < 1 ∨ 64 < W) : Calls Try.prog 26 #[.pointer (some a), .int .u64 u, .int .i64 W] w fun e w' => e = .returned (.bool false) ∧ w = w' := by
  have d1 : (decide (1 ≤ W) && decide (W ≤ 64)) = false := by simp; omega
  go_enter Try.func26, Try.ntmps26
  go_wp2_with (go_at_call 61; go_must (refine (may_any _ _).mono ?_; rw [d1]; rintro e w' ⟨rfl, rfl⟩))
  go_ret
  exact ⟨rfl, rfl⟩
theorem put_wide (a : Addr) (u V : Nat) (w : World) (h1 : 1 ≤ V) (h2 : V ≤ 64) (hu : 2 ^ V ≤ u) : Calls Try.prog 26 #[.pointer (some a), .int .u64 (u : Int), .int .i64 (V : Int)] w fun e w' => e = .returned (.bool false) ∧ w = w' := by
  have d1 : (decide (1 ≤ (V : Int)) && decide ((V : Int) ≤ 64)) = true := by simp; omega
  have b1 : 1 ≤ (V : Int) := by omega
  have b2 : (V : Int) ≤ 64 := by omega
  have hz : ¬ (u : Int) / 2 ^ (V - 1) / 2 = 0 := by
    have : 1 ≤ u / 2 ^ (V - 1) / 2 := by
      rw [Nat.div_div_eq_div_mul, ← Nat.pow_succ, show (V - 1).succ = V by omega]
      exact (Nat.le_div_iff_mul_le (Nat.two_pow_pos _)).2 (by omega)
    have h : (u : Int) / 2 ^ (V - 1) / 2 = ((u / 2 ^ (V - 1) / 2 : Nat) : Int) := by rw [Int.natCast_ediv, Int.natCast_ediv, Int.natCast_pow]; rfl
    omega
  clear hu
  go_enter Try.func26, Try.ntmps26
  go_wp2_with (go_at_call 61; go_must (refine (may_any _ _).mono ?_; rw [d1]; rintro e w' ⟨rfl, rfl⟩))
  go_ret
  exact ⟨rfl, rfl⟩
theorem put_full (B g : Nat) (r : Option Nat) (l : List Bool) (u V : Nat) (w : World) (ho : IsOut w B g r l) (h1 : 1 ≤ V) (h2 : V ≤ 64) (hl : l.length ≤ 4096) (hn : 4096 < l.length + V) :
    Calls Try.prog 26 #[.pointer (some ⟨g, 0, none⟩), .int .u64 (u : Int), .int .i64 (V : Int)] w fun e w' => e = .returned (.bool false) ∧ w = w' := by
  by_cases hu : 2 ^ V ≤ u
  · exact put_wide _ u V w h1 h2 hu
  · obtain ⟨hBg, v, hv, hg, hown⟩ := ho
    have c1 : w.cell? ⟨g, 1, none⟩ = some (.int .i64 (l.length : Int)) := by rw [cell_of_row w g 1 _ _ _ hg]; rfl
    have d1 : (decide (1 ≤ (V : Int)) && decide ((V : Int) ≤ 64)) = true := by simp; omega
    have b1 : 1 ≤ (V : Int) := by omega
    have b2 : (V : Int) ≤ 64 := by omega
    have b3 : 4096 < (l.length : Int) + (V : Int) := by omega
    have b4 : (l.length : Int) ≤ 4096 := by omega
    have hz : (u : Int) / 2 ^ (V - 1) / 2 = 0 := by
      have : u / 2 ^ (V - 1) / 2 = 0 := by
        rw [Nat.div_div_eq_div_mul, ← Nat.pow_succ, show (V - 1).succ = V by omega, Nat.div_eq_of_lt (by omega)]
      have h := congrArg (Nat.cast (R := Int)) this
      rw [Int.natCast_ediv, Int.natCast_ediv, Int.natCast_pow] at h
      exact h
    clear hu hg hown
    go_enter Try.func26, Try.ntmps26
    go_wp2_with (go_at_call 61; go_must (refine (may_any _ _).mono ?_; rw [d1]; rintro e w' ⟨rfl, rfl⟩))
    go_ret
    exact ⟨rfl, rfl⟩
theorem len_any (B g : Nat) (r : Option Nat) (l : List Bool) (w : World) (ho : IsOut w B g r l) :
    Calls Try.prog 29 #[.pointer (some ⟨g, 0, none⟩)] w fun e w' => e = .returned (.int .i64 (l.length : Int)) ∧ w = w' := by
  obtain ⟨hBg, v, hv, hg, hown⟩ := ho
  have c1 : w.cell? ⟨g, 1, none⟩ = some (.int .i64 (l.length : Int)) := by rw [cell_of_row w g 1 _ _ _ hg]; rfl
  clear hg hown
  go_enter Try.func29, Try.ntmps29
  go_wp2
  go_ret
  exact ⟨rfl, rfl⟩
theorem len_none (w : World) : Calls Try.prog 29 #[.pointer none] w fun e w' => e = .returned (.int .i64 0) ∧ w = w' := by
  go_enter Try.func29, Try.ntmps29
  go_wp2
  go_ret
  exact ⟨rfl, rfl⟩
theorem outbytes_none (w : World) : Calls Try.prog 28 #[.pointer none] w fun e w' => e = .returned (.slice none 0 0) ∧ w = w' := by
  go_enter Try.func28, Try.ntmps28
  go_wp2
  go_ret
  exact ⟨rfl, rfl⟩
theorem outbytes_any (B g : Nat) (r : Option Nat) (l : List Bool) (w : World) (ho : IsOut w B g r l) (hl : l.length ≤ 4096) :
    Calls Try.prog 28 #[.pointer (some ⟨g, 0, none⟩)] w fun e w' => ∃ v, e = .returned v ∧ w'.ownsRow w.heap.size 5 1 v ((l.length + 7) / 8) (nats .u8 (bytesN l)) ∧ Below w.heap.size w w' := by
  obtain ⟨hBg, v, hv, hg, hown⟩ := ho
  have c1 : w.cell? ⟨g, 0, none⟩ = some v := by rw [cell_of_row w g 0 _ _ _ hg]; rfl
  rcases hown.2 with ⟨rfl, h0⟩ | ⟨g', cap, cur, rfl, -⟩
  · have e0 : bytesN l = [] := List.eq_nil_of_length_eq_zero (by rw [bytesN, bytesTo_length]; exact h0)
    rw [e0, h0]
    clear hg hown
    go_enter Try.func28, Try.ntmps28
    go_wp2_with (go_at_call 63; go_must (refine (clone_nil _ _ _).mono ?_; rintro e w' ⟨rfl, rfl⟩))
    go_ret
    exact ⟨_, rfl, World.ownsRow_nil _ _ _ _, Below.refl _ _⟩
  · have hrd := Rd.of_own hown
    clear hg hown
    generalize hm : (l.length + 7) / 8 = m at *
    have hm2 : m ≤ 1000000 := by omega
    clear hm
    go_enter Try.func28, Try.ntmps28
    go_wp2_with (go_at_call 63; go_must (refine (clone_any _ _ _ _ _ _ _ hrd (Nat.le_refl _) hm2).mono ?_; rintro e w1 ⟨v1, rfl, hown1, hb1⟩))
    go_ret
    exact ⟨_, rfl, hown1, hb1⟩
end Go.Proofs.Ytlahcmldbgeifaa
