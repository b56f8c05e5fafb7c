import Derived.Test.YtakekjbbbjmdpaaRefMeta
/- SherdMeta: role, page, sequence in sixty-four bits, each its lowest ones; no condition. -/
namespace Go.Proofs.Ytakekjbbbjmdpaa.sherdMeta
open Go.RowKit
set_option linter.unusedVariables false
set_option maxRecDepth 100000 in
set_option maxHeartbeats 4000000 in
theorem walk (r l s u : Int) (w : World) (w0 : (Lit.int .i64 r).wf = true) (w1 : (Lit.int .i64 l).wf = true) (w2 : (Lit.int .i64 s).wf = true) (w3 : (Lit.int .u64 u).wf = true) :
    Calls Try.prog 11 #[.int .i64 r, .int .i64 l, .int .i64 s, .int .u64 u] w fun e w' => e = .returned (.bool true) ∧ Below w.heap.size w w' := by
  obtain ⟨u0, u1⟩ := wf_u64 w3
  clear w0 w1 w2 w3
  have e1 : bits .and .i64 r 255 = r % 256 := i64_maskN r 8 (by decide)
  have e2 : bits .and .i64 l 65535 = l % 65536 := i64_maskN l 16 (by decide)
  have e3 : bits .and .i64 s 1099511627775 = s % 1099511627776 := i64_maskN s 40 (by decide)
  have HN := Lib.hid (numN_bitsL (metaN r l s) 64 (metaN_lt r l s))
  have hM := metaN_lt r l s
  have HO := Lib.hid (of_meta r l s)
  have HU := Lib.hid (meta_of u u0 u1)
  have HR := fun w => refmeta_any r l s w
  have HME := fun w => meta_any r l s w
  have HR2 := Lib.hid HR
  have HM2 := Lib.hid HME
  clear HR HME
  generalize metaN r l s = M at *
  generalize r % 256 = R at *
  generalize l % 65536 = L at *
  generalize s % 1099511627776 = S at *
  go_enter Try.func11, Try.ntmps11
  go_wp2_with fail
  refine (begun9_any _).mono ?_
  rintro e w1 ⟨rfl, hb1⟩
  go_wp2_with fail
  refine (HM2.out _).mono ?_
  rintro e w' ⟨rfl, rfl⟩
  go_wp2_with fail
  refine (of_sherd (M : Int) _ (by omega) (by omega)).mono ?_
  rw [HO.out.1, HO.out.2.1, HO.out.2.2]
  rintro e w' ⟨rfl, rfl⟩
  go_wp2_with fail
  refine (of_sherd u _ u0 u1).mono ?_
  rintro e w' ⟨rfl, rfl⟩
  go_wp2_with fail
  refine (HR2.out _).mono ?_
  rintro e w2 ⟨v, rfl, ho, hb2⟩
  obtain ⟨A, c, rfl, -, -⟩ := own_slice ho
  have hrd := Rd.of_own ho
  have hbel := hb1.trans (hb2.mono hb1.size)
  clear hb1 hb2 ho
  go_wp2_with fail
  refine (num_any _ _ _ _ _ _ hrd (by decide)).mono ?_
  rw [HN.out]
  rintro e w' ⟨rfl, rfl⟩
  go_wp2_with fail
  refine (meta_any (roleI u) (lpnI u) (seqI u) _).mono ?_
  rw [HU.out]
  rintro e w' ⟨rfl, rfl⟩
  go_wp2_with fail
  go_ret
  exact ⟨by simp, hbel⟩
end Go.Proofs.Ytakekjbbbjmdpaa.sherdMeta
