import Derived.Test.YtpbigfopmompfaaGreatChecked
import Derived.Test.YtpbigfopmompfaaGreatFlat
import Derived.Test.YtpbigfopmompfaaGreatMem
import Derived.Maps.RangeWalk
import Derived.DeepKeys4
/- Places (three ints) as keys of maps. -/
namespace Go.Proofs.YtpbigfopmompfaaGreat
open Go.RowKit
open Go.Maps (Keyed)
set_option linter.unusedVariables false
structure Ad where
 d : Int
 b : Int
 p : Int
deriving DecidableEq
def Ad.v (a : Ad) : List Value := [.int .i64 a.d, .int .i64 a.b, .int .i64 a.p]
def Ad.wf (a : Ad) : Prop := (Lit.int .i64 a.d).wf = true ∧ (Lit.int .i64 a.b).wf = true ∧ (Lit.int .i64 a.p).wf = true
theorem Ad.v_inj {a a' : Ad} (h : a.v = a'.v) : a = a' := by
 obtain ⟨d, b, p⟩ := a
 obtain ⟨d', b', p'⟩ := a'
 simp [Ad.v] at h
 obtain ⟨h1, h2, h3⟩ := h
 subst h1 h2 h3
 rfl
theorem ad_laidOut : laidOutB Tryz.prog = true := by kernel_rfl
theorem ad_row : (85 : TypeId) < Tryz.prog.types.size := of_decide_eq_true (by kernel_rfl)
theorem ad_wide : (match Tryz.prog.underlying 85 with | some (.array _ _) | some (.struct _) => true | _ => false) = true := by rw [Tryz.underlying85]
theorem ad_kt : Tryz.prog.keyTypeAt 2 85 = true := by kernel_rfl
set_option maxRecDepth 100000 in
theorem adKeyed : Keyed Tryz.prog 85 := Keyed.of_law (deep_law_laid ad_laidOut (m := 2) (by omega) ad_row ad_kt ad_wide)
theorem ad_deep : Tryz.prog.keyType 85 = true := by kernel_rfl
theorem ad_cells : Tryz.prog.cellsOf 85 = 3 := by kernel_rfl
theorem int_cells : Tryz.prog.cellsOf 3 = 1 := by kernel_rfl
theorem types_some : ∃ d, Tryz.prog.types.size = d + 1 := ⟨Tryz.prog.types.size - 1, by have : 0 < Tryz.prog.types.size := Nat.lt_of_le_of_lt (Nat.zero_le _) ad_row; omega⟩
def klA (a : Ad) : Lit := .string (keyBytes [.int .i64 a.d, .int .i64 a.b, .int .i64 a.p])
theorem keyLits_int (d : Nat) (c : Value) (l : List Lit) : Tryz.prog.keyLits (d + 1) 3 [c] = some l ↔ ∃ n, c = .int .i64 n ∧ (Lit.int .i64 n).wf = true ∧ l = [.int .i64 n] := by
 unfold Program.keyLits
 rw [Tryz.underlying3]
 cases c <;> simp
 rename_i q n
 constructor
 · rintro ⟨⟨rfl, h⟩, rfl⟩; exact ⟨n, ⟨rfl, rfl⟩, h, rfl⟩
 · rintro ⟨m, ⟨rfl, rfl⟩, h, rfl⟩; exact ⟨⟨rfl, h⟩, rfl⟩
theorem three_of : ∀ {cs : List Value}, cs.length = 3 → ∃ c0 c1 c2, cs = [c0, c1, c2]
 | [c0, c1, c2], _ => ⟨c0, c1, c2, rfl⟩
theorem keyLits_ad (d : Nat) (cs : List Value) (l : List Lit) : Tryz.prog.keyLits (d + 1 + 1) 85 cs = some l ↔ ∃ a : Ad, cs = a.v ∧ a.wf ∧ l = [.int .i64 a.d, .int .i64 a.b, .int .i64 a.p] := by
 unfold Program.keyLits
 rw [Tryz.underlying85]
 simp only []
 rw [ad_cells]
 constructor
 · intro h
   split at h
   · rename_i hc
     obtain ⟨hl, -⟩ := hc; obtain ⟨c0, c1, c2, rfl⟩ := three_of hl; simp [List.mapM_cons, int_cells, Option.bind_eq_some_iff, keyLits_int] at h; obtain ⟨ls0, ⟨n0, e0, h0, rfl⟩, lsr, ⟨ls1, ⟨n1, e1, h1, rfl⟩, ls2, ⟨ls3, ⟨n2, e2, h2, rfl⟩, rfl⟩, rfl⟩, rfl⟩ := h; exact ⟨⟨n0, n1, n2⟩, by rw [e0, e1, e2]; rfl, ⟨h0, h1, h2⟩, rfl⟩
   · cases h
 · rintro ⟨a, rfl, ⟨h0, h1, h2⟩, rfl⟩
   rw [if_pos ⟨rfl, by simp⟩]; have k0 := (keyLits_int d (.int .i64 a.d) _).2 ⟨_, rfl, h0, rfl⟩; have k1 := (keyLits_int d (.int .i64 a.b) _).2 ⟨_, rfl, h1, rfl⟩; have k2 := (keyLits_int d (.int .i64 a.p) _).2 ⟨_, rfl, h2, rfl⟩; simp [List.mapM_cons, int_cells, Ad.v, k0, k1, k2]
theorem zb7 {a : Ad} (h : a.wf) : keyOf Tryz.prog 85 (.agg a.v.toArray) = some (klA a) := by
 obtain ⟨d, hd⟩ := types_some
 unfold keyOf
 rw [Tryz.underlying85]
 have hf : (Value.agg a.v.toArray).formed Tryz.prog 85 = true := by
  unfold Value.formed; rw [Tryz.underlying85, ad_cells]; rfl
 have hk := (keyLits_ad d a.v [.int .i64 a.d, .int .i64 a.b, .int .i64 a.p]).2 ⟨a, rfl, h, rfl⟩
 simp only [ad_deep, hf, Bool.and_self, if_true, hd]
 rw [show (Value.agg a.v.toArray).cells.toList = a.v from rfl, hk]
 rfl
set_option maxRecDepth 100000 in
theorem key_ad {key : Value} {kl : Lit} (h : keyOf Tryz.prog 85 key = some kl) : ∃ a : Ad, key = .agg a.v.toArray ∧ a.wf ∧ kl = klA a := by
 obtain ⟨d, hd⟩ := types_some
 unfold keyOf at h
 rw [Tryz.underlying85] at h
 simp only [ad_deep, Bool.true_and, hd] at h
 split at h
 · rename_i hf
   rw [Option.map_eq_some_iff] at h; obtain ⟨ls, h1, rfl⟩ := h; obtain ⟨a, ha, hw, rfl⟩ := (keyLits_ad d _ ls).1 h1; refine ⟨a, ?_, hw, rfl⟩; cases key <;> simp [Value.cells, Ad.v] at ha
   rename_i cs
   rw [show cs = cs.toList.toArray by simp, ha]; rfl
 · cases h
theorem klA_inj {a a' : Ad} (h : a.wf) (h' : a'.wf) (e : klA a = klA a') : a = a' := by
 have := adKeyed.inj (zb7 h) (by rw [e]; exact zb7 h')
 simp at this
 exact Ad.v_inj this
end Go.Proofs.YtpbigfopmompfaaGreat
