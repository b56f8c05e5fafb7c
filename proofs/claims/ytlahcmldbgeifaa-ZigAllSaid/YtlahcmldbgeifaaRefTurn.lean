import Derived.Test.YtlahcmldbgeifaaRefMore
import Derived.Deep.RegionLaw
/- The contract of the reference's turning of bits. -/
namespace Go.Proofs.Ytlahcmldbgeifaa
open Go.RowKit

theorem refturn_nat (u k : Nat) (b : Int) (w : World) (hu : u < 4294967296) (hk : b % 32 = (k : Int)) (hk2 : k < 32) : Calls Try.prog 60 #[.int .u32 (u : Int), .int .i64 b] w fun e w' => e = .returned (.int .u32 (turnI u b)) ∧ Below w.heap.size w w' := by
  have e1 : (b.tmod 32 + 32) % 32 = (k : Int) := by rw [tmod_mod, hk]
  have HF := Lib.hid (turn_num u b k hu hk hk2)
  obtain ⟨b1, b2⟩ := tmod_bd b
  have hn := numN_lt ((bitsL u 32).drop k ++ (bitsL u 32).take k)
  have h32 : numN ((bitsL u 32).drop k ++ (bitsL u 32).take k) < 4294967296 := by
    have h3 : ((bitsL u 32).drop k ++ (bitsL u 32).take k).length = 32 := by simp [bitsL_length]; omega
    rwa [h3] at hn
  obtain ⟨M, hM⟩ : ∃ M, M = numN ((bitsL u 32).drop k ++ (bitsL u 32).take k) := ⟨_, rfl⟩
  have HN := Lib.hid (show numN ((bitsL u 32).drop k ++ (bitsL u 32).take k) = M from hM.symm)
  rw [← hM] at HF h32
  clear hn hk hM
  go_enter Try.func60, Try.ntmps60
  go_wp2_with (go_at_call 27; go_must (refine (bits_any _ _ _ (by omega) (by omega) (by omega) (by omega)).mono ?_; rintro e w1 ⟨v1, rfl, hown0, hb1⟩; have hown1 : w1.ownsRow w.heap.size 4 1 v1 32 (bools (bitsL u 32)) := hown0; clear hown0; obtain ⟨g1, c1, rfl, g1a, g1b, g1c, g1d⟩ := own_form hown1 (by omega); have hJc : k < c1 := (by omega); have hJc2 : ¬ c1 = k := (by omega); unfold maxLen at g1d))
  have hkc : (k : Int) ≤ (c1 : Int) := by omega
  have hk32 : (k : Int) ≤ 32 := by omega
  have hnil : w1.ownsRow w1.heap.size 4 1 (.slice none 0 0) 0 [] := World.ownsRow_nil _ _ _ _
  have hr := Rd.of_own hown1
  have hrd : Rd w1 w1.heap.size (some ⟨g1, k, none⟩) (32 - k) (bools ((bitsL u 32).drop k)) := by
    have := hr.cut (k := k) (cap := c1) (by omega) (by omega)
    rw [if_neg (by omega)] at this
    have e : Option.map (fun x : Addr => x.add k) (some ⟨g1, 0, none⟩) = some ⟨g1, k, none⟩ := by
      simp only [Option.map_some, Addr.add]
      by_cases h0 : k = 0
      · simp [h0]
      · simp [h0]
    rw [e] at this
    simpa [bools] using this
  have hrt : Rd w1 w1.heap.size (some ⟨g1, 0, none⟩) k (bools ((bitsL u 32).take k)) := by
    have := hr.take (k := k) (by omega)
    simpa [bools] using this
  have hsz := hb1.size
  rw [e1]
  clear e1 b1 b2
  have Hz := Lib.hid (show 32 - k + k ≤ maxLen by unfold maxLen; omega)
  have Hq := Lib.hid (show (32 - k + k) * 1 ≤ 140737488355328 by omega)
  have HE : Hid (∀ (W : World) (A : Option Addr) (c : Nat), W.ownsRow w1.heap.size 4 1 (.slice A (32 - k + k) c) (32 - k + k) (bools ((bitsL u 32).drop k) ++ bools ((bitsL u 32).take k)) → Rd W W.heap.size A (32 - k + k) (bools ((bitsL u 32).drop k ++ (bitsL u 32).take k))) := by
    intro W A c h
    have := Rd.of_own h
    simpa [bools] using this
  have Hx := Lib.hid (show 0 + (32 - k) ≤ maxLen by unfold maxLen; omega)
  have Hy := Lib.hid (show (0 + (32 - k)) * 1 ≤ 140737488355328 by omega)
  have tok1 : True := trivial
  have tok2 : True := trivial
  go_region_law (first
    | (have _t := tok1; refine step_appendN (wr := w1.drew) (base := w1.heap.size) (B := w.heap.size) (w0 := w) (C := w1.heap.size) (n := 0) (m := 32 - k) (v := .slice none 0 0) (A := some ⟨g1, k, none⟩) (c := c1 - k) (xs := []) (news := bools ((bitsL u 32).drop k)) rfl (.const (.slice none 0 0)) (.tmp 16) 35 rfl 4 (.bool false) 1 Try.underlying35 boolInfo rfl hnil.drew hb1.drew rfl (by go_simp) hrd.drew (one_bools _) Hx.out Hy.out (Nat.le_refl _) hsz ?_; intro v5 w5 hown5 hbel5 hgr5 _; simp only [Nat.zero_add, List.nil_append] at hown5; clear tok1 _t)
    | (have _t := tok2; refine step_appendN (wr := w5) (base := w1.heap.size) (B := w.heap.size) (w0 := w) (C := w1.heap.size) (n := 32 - k) (m := k) (v := v5) (A := some ⟨g1, 0, none⟩) (c := c1) (xs := bools ((bitsL u 32).drop k)) (news := bools ((bitsL u 32).take k)) rfl (.tmp 17) (.tmp 20) 35 rfl 4 (.bool false) 1 Try.underlying35 boolInfo rfl hown5 hbel5 (by go_simp) (by go_simp) (hrt.drew.grown hgr5 (Nat.le_refl _) (by simp [Value.ownBlock])) (one_bools _) Hz.out Hq.out hgr5.size hsz ?_; intro v6 w6 hown6 hbel6 hgr6 _; obtain ⟨A6, c6, rfl, -, -⟩ := own_slice hown6; clear tok2 _t)
    | (go_simp; go_at_call 36; refine (num_any _ _ _ _ ((bitsL u 32).drop k ++ (bitsL u 32).take k) _ (HE.out _ _ _ hown6) (by omega)).mono ?_; rw [HN.out]; rintro e w' ⟨rfl, rfl⟩))
  go_wp2
  go_ret
  have hwr : IntKind.u32.wrap (M : Int) = (M : Int) := by rw [IntKind.wrap_u32']; omega
  refine ⟨?_, hbel6⟩
  rw [← HF.out]
  simp [go_sem, hwr]
theorem refturn_any (u b : Int) (w : World) (h0 : 0 ≤ u) (h1 : u < 4294967296) : Calls Try.prog 60 #[.int .u32 u, .int .i64 b] w fun e w' => e = .returned (.int .u32 (turnI u b)) ∧ Below w.heap.size w w' := by
  obtain ⟨U, rfl⟩ := Int.eq_ofNat_of_zero_le h0
  obtain ⟨k, hk⟩ := Int.eq_ofNat_of_zero_le (show 0 ≤ b % 32 by omega)
  exact refturn_nat U k b w (by omega) hk (by omega)
end Go.Proofs.Ytlahcmldbgeifaa
