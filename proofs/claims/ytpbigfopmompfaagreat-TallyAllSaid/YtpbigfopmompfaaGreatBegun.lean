import Derived.Test.YtpbigfopmompfaaGreatBunB
import Derived.OpenShut
/- The contract of 'begun' of the stage's statements: it answers true. -/
namespace Go.Proofs.YtpbigfopmompfaaGreat
open Go.RowKit

theorem wf_u8 {n : Int} (h : (Lit.int .u8 n).wf = true) : 0 ≤ n ∧ n < 256 := by
 have := bounds_u8 h
 omega
def IsRow (k : IntKind) (w : World) (a : Option Addr) (len cap : Nat) (zs : List Int) : Prop :=
 (a = none ∧ len = 0 ∧ cap = 0 ∧ zs = []) ∨
 ∃ x, a = some x ∧ len ≤ cap ∧ cap ≤ maxLen ∧ zs.length = cap ∧ (∀ i, i < zs.length → w.cell? (x.add i) = some (.int k (zs.getD i 0))) ∧ ∀ n ∈ zs, (Lit.int k n).wf = true
theorem add_none {x : Addr} {w : World} {v : Value} (h : w.cell? (x.add 0) = some v) : x = ⟨x.block, x.off, none⟩ := by
 have e : x.add 0 = x := rfl
 rw [e] at h
 obtain ⟨b, o, s⟩ := x
 have := World.cell?_spot h
 simp at this
 rw [this]
theorem IsRow.rd {k : IntKind} {w : World} {a : Option Addr} {len cap : Nat} {zs : List Int} (h : IsRow k w a len cap zs) : Rd w w.heap.size a len (ints k (zs.take len)) ∧ len ≤ cap ∧ cap ≤ maxLen ∧ (zs.take len).length = len ∧ ∀ n ∈ zs.take len, (Lit.int k n).wf = true := by
 rcases h with ⟨rfl, rfl, rfl, rfl⟩ | ⟨x, rfl, h1, h2, h3, h4, h5⟩
 · exact ⟨Rd.nil, by omega, by unfold maxLen; omega, rfl, by simp⟩
 · refine ⟨⟨by rw [ints_length, List.length_take]; omega, fun hn => ?_⟩, h1, h2, by rw [List.length_take]; omega, fun n hn => h5 n (List.mem_of_mem_take hn)⟩
   have e := add_none (h4 0 (by omega)); refine ⟨x.block, x.off, by rw [← e], ?_, fun i u hu => ?_⟩
   · have hc := h4 0 (by omega)
     rw [show x.add 0 = x from rfl] at hc; exact World.block_lt_of_cell? w _ hc
   · have hi : i < len := by
      have := (List.getElem?_eq_some_iff.1 hu).1; rw [ints_length, List.length_take] at this; omega
     have hc := h4 i (by omega)
     have e2 : x.add i = ⟨x.block, x.off + i, none⟩ := by
      rw [e, Addr.add_lit]
     rw [e2] at hc; rw [hc, ← hu, ints, List.getElem?_map, List.getElem?_take, if_pos hi, List.getD_eq_getElem?_getD, List.getElem?_eq_getElem (by omega)]; rfl
theorem IsOut.keep {S : Nat → Prop} {w w' : World} {B g : Nat} {r : Option Nat} {l : List Bool} (h : IsOut w B g r l) (hk : Keep S w w') (hg : ¬ S g) (hr : ∀ k, r = some k → ¬ S k) : IsOut w' B g r l := by
 obtain ⟨h1, v, hv, h2, h3⟩ := h
 exact ⟨h1, v, hv, zay h2 hk hg, own_keep h3 hk (by rw [hv]; exact hr)⟩
theorem IsOut.drewN {w : World} {B g : Nat} {r : Option Nat} {l : List Bool} (h : IsOut w B g r l) (k : Nat) : IsOut (w.drewN k) B g r l := h
theorem IsIn.drewN {w : World} {C g : Nat} {l : List Nat} {a : Nat} (h : IsIn w C g l a) (k : Nat) : IsIn (w.drewN k) C g l a := h
theorem IsOut.lt {w : World} {B g : Nat} {r : Option Nat} {l : List Bool} (h : IsOut w B g r l) : ∀ k, r = some k → k < w.heap.size := by
 obtain ⟨h1, v, hv, h2, h3⟩ := h
 intro k hk
 exact (h3.lt k (by rw [hv]; exact hk)).2
theorem IsIn.keep {S : Nat → Prop} {w w' : World} {C g : Nat} {l : List Nat} {a : Nat} (h : IsIn w C g l a) (hk : Keep S w w') (hC : C ≤ w.heap.size) (hg : ¬ S g) (hr : ∀ k, k < C → ¬ S k) : IsIn w' C g l a := by
 obtain ⟨A, c, h1, h2, h3⟩ := h
 exact ⟨A, c, zay h1 hk hg, h2.keep hk hC hr, h3⟩
theorem isOut_new (w : World) (B : Nat) (hB : B ≤ w.heap.size) : IsOut (w.alloc (.cells #[.slice none 0 0, .int .i64 0] 185)) B w.heap.size none [] :=
 ⟨hB, .slice none 0 0, rfl, heap_alloc_new w _, World.ownsRow_nil _ _ _ _⟩

set_option maxHeartbeats 1000000 in
theorem begun_any (w : World) : Calls Tryz.prog 183 #[] w fun e w' => e = .returned (.bool true) ∧ Below w.heap.size w w' := by
 have hout := isOut_new w w.heap.size (Nat.le_refl _)
 go_enter Tryz.func183, Tryz.ntmps183
 go_wp2_with fail
 refine (put_true w.heap.size w.heap.size none [] 5 3 _ hout (by omega) (by omega) (by decide) (by simp) (by simp)).mono ?_
 rintro e w1 ⟨rfl, r1, ho1, -, hk1⟩
 go_wp2_with fail
 refine (put_wide _ 2 1 _ (by omega) (by omega) (by decide)).mono ?_
 rintro e w' ⟨rfl, rfl⟩
 go_wp2_with fail
 have hrd : Rd (w1.alloc (.cells #[.int .u8 165] 5)) (w1.heap.size + 1) (some ⟨w1.heap.size, 0, none⟩) 1 (nats .u8 [165]) := by
  refine ⟨rfl, fun _ => ⟨w1.heap.size, 0, rfl, by omega, fun i u hu => ?_⟩⟩; rw [zaf (heap_alloc_new w1 _)]; match i, hu with
  | 0, hu => simpa [nats] using hu
 refine (read_any _ _ _ _ _ _ hrd (by simp)).mono ?_
 rintro e w3 ⟨rfl, hi3, hb3⟩
 have ho3 := (ho1.keep (Keep.of_new ((Below.refl _ _).alloc (Nat.le_refl _) (.cells #[.int .u8 165] 5))) (S := fun _ => False) id (fun _ _ => id)).keep (Keep.of_new hb3) (S := fun _ => False) id (fun _ _ => id)
 have hk3 : Keep (fun k => w.heap.size ≤ k) w w3 := ((((Keep.refl _ w).trans (Keep.of_new (S := fun _ => False) ((Below.refl _ _).alloc (Nat.le_refl _) (.cells #[.slice none 0 0, .int .i64 0] 185))) (fun _ h => h) (fun _ _ h => h.elim)).trans hk1 (fun _ h => h) (fun i hi h => by rcases h with h | h; omega; cases h)).trans (Keep.of_new (S := fun _ => False) ((Below.refl _ _).alloc (Nat.le_refl _) (.cells #[.int .u8 165] 5))) (fun _ h => h) (fun _ _ h => h.elim)).trans (Keep.of_new (S := fun _ => False) hb3) (fun _ h => h) (fun _ _ h => h.elim)
 have hs3 := hb3.size
 have hs1 := hk1.size
 simp only [World.size_alloc] at hi3 hs3 hs1
 have hrl := ho1.lt
 clear hb3 hrd ho1 hk1 hout
 go_wp2_with fail
 refine (get_yes _ _ _ 0 4 _ hi3 (by simp) (by simp) (by omega) (by omega) (by simp)).mono ?_
 rw [show numN (cutB (ofN [165]) 0 4) = 10 from by decide]
 rintro e w4 ⟨rfl, hi4, hk4⟩
 have hk40 := hk3.trans hk4 (fun _ h => h) (fun i hi h => by omega)
 have ho4 := ho3.keep hk4 (by omega) (fun k hk h => by have := hrl k hk; omega)
 go_wp2_with fail
 refine (get_no _ _ _ _ 9 _ hi4 (by simp) (by simp) (by simp)).mono ?_
 rintro e w5 ⟨rfl, nd, rfl⟩
 go_wp2_with fail
 refine (outbytes_any _ _ _ _ _ (ho4.drewN nd) (by simp [zaw])).mono ?_
 rintro e w6 ⟨v6, rfl, hown0, hb6⟩
 have hown6 : w6.ownsRow (w4.drewN nd).heap.size 5 1 v6 1 (nats .u8 [160]) := by
  have e : bytesN ([] ++ bitsL 5 3) = [160] := by decide
  rw [e] at hown0; exact hown0
 obtain ⟨g6, c6, rfl, g6a, g6b, g6c, g6d⟩ := za7 hown6 (by omega)
 have hi6 := (hi4.drewN nd).keep (Keep.of_new hb6) (S := fun _ => False) (by have := hk4.size; simp at *; omega) id (fun _ _ => id)
 have ho6 := (ho4.drewN nd).keep (Keep.of_new hb6) (S := fun _ => False) id (fun _ _ => id)
 have ho7 : IsOut w6 w.heap.size w.heap.size r1 [true, false, true] := (show ([] ++ bitsL 5 3 : List Bool) = [true, false, true] by decide) ▸ ho6
 have hbel : Below w.heap.size w w6 := ((hk40.drewN nd).trans (Keep.of_new (S := fun _ => False) hb6) (fun _ h => h) (fun _ _ h => h.elim)).below (Nat.le_refl _) (fun _ h => h)
 have c60 : w6.cell? ⟨g6, 0, none⟩ = some (.int .u8 160) := by rw [hown6.cellAt 0 (by omega)]; rfl
 clear hown0 hown6 ho4 hi4 hk40 hb6 hk4 hi3 ho3 hk3
 have z1 : zigI (-1) = 1 := by decide
 have z2 : zagI 1 = -1 := by decide
 have z3 : narrowI 255 8 = -1 := by decide
 have z4 : narrowI 1 0 = 0 := by decide
 have z5 : turnI 1 33 = 2 := by decide
 have z6 : kof [] = 4294967295 := by decide
 have z7 : ((kstep (Int.toNat 0) (Int.toNat 128) : Nat) : Int) = 1394846057 := by decide +kernel
 have z8 : allI 3 = 7 := by decide
 have z9 : atI 6 0 = 1 := by decide
 have z10 : spotI 6 2 = 1 := by decide
 have z11 : countI 6 = 2 := by decide
 have HZ := Lib.hid (And.intro z1 (And.intro z2 (And.intro z3 (And.intro z4 (And.intro z5 (And.intro z6 (And.intro z7 (And.intro z8 (And.intro z9 (And.intro z10 z11))))))))))
 clear z1 z2 z3 z4 z5 z6 z7 z8 z9 z10 z11
 go_wp2_with fail
 refine (zig_any _ _ (by omega) (by omega)).mono ?_
 rw [HZ.out.1]; rintro e w' ⟨rfl, rfl⟩
 go_wp2_with fail
 refine (zag_any _ _ (by omega) (by omega)).mono ?_
 rw [HZ.out.2.1]; rintro e w' ⟨rfl, rfl⟩
 go_wp2_with fail
 refine (narrow_any _ _ _).mono ?_
 rw [HZ.out.2.2.1]; rintro e w' ⟨rfl, rfl⟩
 go_wp2_with fail
 refine (narrow_any _ _ _).mono ?_
 rw [HZ.out.2.2.2.1]; rintro e w' ⟨rfl, rfl⟩
 go_wp2_with fail
 refine (turn_any _ _ _ (by omega) (by omega)).mono ?_
 rw [HZ.out.2.2.2.2.1]; rintro e w' ⟨rfl, n7, rfl⟩
 go_wp2_with fail
 refine (len_any _ _ _ _ _ (ho7.drewN n7)).mono ?_
 rintro e w' ⟨rfl, rfl⟩
 rw [show (([true, false, true] : List Bool).length : Int) = 3 from rfl]
 go_wp2_with fail
 refine (left_any _ _ _ _ _ (hi6.drewN n7) (by simp) (by simp)).mono ?_
 rintro e w' ⟨rfl, n8, rfl⟩
 rw [show (8 * (([165] : List Nat).length : Int) - ((0 + 4 : Nat) : Int)) = 4 from by decide]
 go_wp2_with fail
 refine (kof_any _ _ _ 0 [] _ Rd.nil (by simp) (by unfold maxLen; omega)).mono ?_
 rw [HZ.out.2.2.2.2.2.1]; rintro e w' ⟨rfl, rfl⟩
 go_wp2_with fail
 refine (kstep_any _ _ _ (by omega) (by omega) (by omega) (by omega)).mono ?_
 rw [HZ.out.2.2.2.2.2.2.1]; rintro e w' ⟨rfl, rfl⟩
 go_wp2_with fail
 refine (all_any _ _).mono ?_
 rw [HZ.out.2.2.2.2.2.2.2.1]; rintro e w' ⟨rfl, rfl⟩
 go_wp2_with fail
 refine (at_any _ _ _ (by omega) (by omega)).mono ?_
 rw [HZ.out.2.2.2.2.2.2.2.2.1]; rintro e w' ⟨rfl, rfl⟩
 go_wp2_with fail
 refine (spot_any _ _ _).mono ?_
 rw [HZ.out.2.2.2.2.2.2.2.2.2.1]; rintro e w' ⟨rfl, rfl⟩
 go_wp2_with fail
 refine (zb8 _ _).mono ?_
 rw [HZ.out.2.2.2.2.2.2.2.2.2.2]; rintro e w' ⟨rfl, rfl⟩
 go_wp2_with fail
 go_ret
 exact ⟨rfl, zau hbel _⟩
end Go.Proofs.YtpbigfopmompfaaGreat
