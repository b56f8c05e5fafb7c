import Derived.Test.YtpbigfopmompfaaGreatOwnRows
import Derived.Test.YtpbigfopmompfaaGreatBunN
import Derived.Laws.Slices
/- Slices parted and joined anew: append(append(nil, s[:k]...), ..), s[k:]...); no program in sight. -/
namespace Go.Proofs.YtpbigfopmompfaaGreat
open Go.RowKit
set_option linter.unusedVariables false
section
variable {P : Program} {o : Oper} {a : Act} {w : World} {K : Act → World → Prop} {Q : Exit → Act → World → Prop}
end
theorem Rds.drop {w : World} {B C n : Nat} {A : Option Addr} {rows : List (List Value)} (h : Rds w B A C n rows) {k : Nat} (hk : k ≤ n) {A2 : Option Addr} (hA : k < n → A2 = A.map (·.add (k * C))) : Rds w B A2 C (n - k) (rows.drop k) := by
 refine ⟨by rw [List.length_drop, h.1], fun r hr => h.2.1 r (List.mem_of_mem_drop hr), fun hn => ?_⟩
 obtain ⟨b, o, e, hb, hc⟩ := h.2.2 (by omega)
 refine ⟨b, o + k * C, by rw [hA (by omega), e, Option.map_some, Addr.add_mid], hb, fun i r j u h1 h2 => ?_⟩
 rw [List.getElem?_drop] at h1
 have := hc (k + i) r j u h1 h2
 rw [Nat.add_mul] at this
 rw [show o + k * C + (i * C + j) = o + (k * C + i * C + j) by omega]
 exact this
theorem elem_of {P : Program} {t e : TypeId} (hu : P.underlying t = some (.slice e)) : P.elem t = e := by simp [Program.elem, hu]
theorem size_run {P : Program} {e : TypeId} {C : Nat} (hi : (P.info? e).map (·.size) = some C) (w : World) : (sizeOf e).run P w = .ok C w := by
 cases h : P.info? e with
 | none => rw [h] at hi; cases hi
 | some i =>
  rw [h] at hi; simp at hi; simp [sizeOf, typeInfo, h, hi]
theorem cut_low {P : Program} {t e : TypeId} (hu : P.underlying t = some (.slice e)) {w : World} {B C n c k : Nat} {A : Option Addr} {rows : List (List Value)} (hi : (P.info? e).map (·.size) = some C) (h : Rds w B A C n rows) (hk : k ≤ n) (hnc : n ≤ c) :
 ∃ A1, (∀ w, (Instr.sliceAt t (.slice A n c) none (some (.int .i64 (k : Int))) none).run P w = .ok (.slice A1 k c) w) ∧ Rds w B A1 C k (rows.take k) := by
 have hu' : P.underlying t = some (.slice (P.elem t)) := by rw [elem_of hu]; exact hu
 refine ⟨if c = 0 then A else A.map (·.add (0 * C)), fun w => ?_, ?_⟩
 · rw [run_sliceAt_slice _ _ _ _ _ _ hu', run_slice_h _ _ _ _ _ hu' _ _ (by omega) (by omega), elem_of hu, size_run hi]
   simp [sliced]
 · have := h.take hk
   refine ⟨this.1, this.2.1, fun hn => ?_⟩; obtain ⟨b, o, e, hb, hc⟩ := this.2.2 hn; refine ⟨b, o, ?_, hb, hc⟩; rw [if_neg (by omega), e, Option.map_some, Addr.add_mid, Nat.zero_mul, Nat.add_zero]
theorem grown_none_block {w w' : World} (hg : w.grownBy w' none) {g : Nat} {o : Obj} (h : w.heap[g]? = some o) (hl : g < w.heap.size) : w'.heap[g]? = some o := (hg.block g hl (by simp)).trans h
theorem OwnRows.kept0 {w w' : World} {base : Nat} {e : TypeId} {C n : Nat} {v : Value} {rows : List (List Value)} (h : OwnRows w base e C v n rows) (hg : w.grownBy w' none) : OwnRows w' base e C v n rows := by
 refine ⟨h.1.kept hg ?_, h.2⟩
 cases hv : v.ownBlock with
 | none => exact .inl rfl
 | some j => exact .inr (by simp)
structure InsJ (w : World) (B : Nat) (e : TypeId) (C k m : Nat) (pre post : List (List Value)) (row : List Value) (x : Value × Nat × Value × Value) (p3 p6 p7 p11 : Bool) : Prop where
 ord : p11 = true → p7 = true
 a : p7 = false → p3 = true → OwnRows w B e C x.1 k pre
 b : p7 = false → p6 = true → w.heap[x.2.1]? = some (.cells row.toArray e (0, 0)) ∧ x.2.1 < w.heap.size ∧ (p3 = true → x.1.ownBlock ≠ some x.2.1)
 c : p7 = true → p11 = false → OwnRows w B e C x.2.2.1 (k + 1) (pre ++ [row])
 d : p11 = true → OwnRows w B e C x.2.2.2 (k + 1 + m) (pre ++ [row] ++ post)
section
variable {w w' : World} {B : Nat} {e : TypeId} {C k m : Nat} {pre post : List (List Value)} {row : List Value} {x : Value × Nat × Value × Value} {p3 p6 p7 p11 : Bool}
theorem InsJ.start : InsJ w B e C k m pre post row x false false false false := ⟨by simp, by simp, by simp, by simp, by simp⟩
theorem own_lt {n : Nat} {v : Value} {rows : List (List Value)} (h : OwnRows w B e C v n rows) : ∀ g, v.ownBlock = some g → B ≤ g ∧ g < w.heap.size := by
 intro g hg
 rcases h.1.2 with ⟨rfl, -⟩ | ⟨g', cap, cur, rfl, hb, hh, -⟩
 · simp [Value.ownBlock] at hg
 · simp [Value.ownBlock] at hg
   subst hg; exact ⟨hb, zag hh⟩
theorem InsJ.s3 (h : InsJ w B e C k m pre post row x p3 p6 p7 p11) (hg : w.grownBy w' none) {v : Value} (hv : OwnRows w' B e C v k pre) (hn : v.ownBlock = none ∨ ∃ j, v.ownBlock = some j ∧ w.heap.size ≤ j) : InsJ w' B e C k m pre post row (v, x.2) true p6 p7 p11 :=
 ⟨h.ord, fun _ _ => hv, fun h1 h2 => by
  obtain ⟨q1, q2, q3⟩ := h.b h1 h2; refine ⟨grown_none_block hg q1 q2, Nat.lt_of_lt_of_le q2 hg.size, fun _ e => ?_⟩; simp only at e; rcases hn with hn | ⟨j, hj, hle⟩
  · rw [hn] at e; cases e
  · rw [hj] at e
    have := Option.some.inj e; omega, fun h1 h2 => (h.c h1 h2).kept0 hg, fun h1 => (h.d h1).kept0 hg⟩
end
structure DelJ (w : World) (B : Nat) (e : TypeId) (C k m : Nat) (pre post : List (List Value)) (x : Value × Value) (p3 p8 : Bool) : Prop where
 a : p8 = false → p3 = true → OwnRows w B e C x.1 k pre
 d : p8 = true → OwnRows w B e C x.2 (k + m) (pre ++ post)
section
variable {w w' : World} {B : Nat} {e : TypeId} {C k m : Nat} {pre post : List (List Value)} {x : Value × Value} {p3 p8 : Bool}
theorem DelJ.start : DelJ w B e C k m pre post x false false := ⟨by simp, by simp⟩
theorem DelJ.s3 (h : DelJ w B e C k m pre post x p3 p8) (hg : w.grownBy w' none) {v : Value} (hv : OwnRows w' B e C v k pre) : DelJ w' B e C k m pre post (v, x.2) true p8 :=
 ⟨fun _ _ => hv, fun h1 => (h.d h1).kept0 hg⟩
theorem DelJ.s8 {v : Value} (hv : OwnRows w' B e C v (k + m) (pre ++ post)) : DelJ w' B e C k m pre post (x.1, v) p3 true := ⟨by simp, fun _ => hv⟩
end
end Go.Proofs.YtpbigfopmompfaaGreat
