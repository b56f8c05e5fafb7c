import Derived.Test.YtpbigfopmompfaaGreatOwnRows
import Derived.Test.YtpbigfopmompfaaGreatBunN
import Derived.Laws.Slices
/- Slices parted and joined anew: append(append(nil, s[:k]...), ..), s[k:]...); no program in sight. -/
namespace Go.Proofs.YtpbigfopmompfaaGreat
open Go.RowKit
set_option linter.unusedVariables false
section
variable {P : Program} {o : Oper} {a : Act} {w : World} {K : Act → World → Prop} {Q : Exit → Act → World → Prop}
theorem wp_slice_h (t : TypeId) (x y : Operand) (ho : o.op = .slice t x none (some y) none) {v u r : Value} (hx : a.eval x = v) (hy : a.eval y = u) (hrun : ∀ w, (Instr.sliceAt t v none (some u) none).run P w = .ok r w) (h : K (a.put o.dst r) w) : o.wp P a w K Q := by
  unfold Oper.wp execOp
  simp only [ho, hx, hy, Option.map_some, Option.map_none, Sem.run_bind, hrun, Result.andThen_ok]
  exact h
theorem wp_slice_l (t : TypeId) (x y : Operand) (ho : o.op = .slice t x (some y) none none) {v u r : Value} (hx : a.eval x = v) (hy : a.eval y = u) (hrun : ∀ w, (Instr.sliceAt t v (some u) none none).run P w = .ok r w) (h : K (a.put o.dst r) w) : o.wp P a w K Q := by
  unfold Oper.wp execOp
  simp only [ho, hx, hy, Option.map_some, Option.map_none, Sem.run_bind, hrun, Result.andThen_ok]
  exact h
end
theorem Rds.drop {w : World} {B C n : Nat} {A : Option Addr} {rows : List (List Value)} (h : Rds w B A C n rows) {k : Nat} (hk : k ≤ n) {A2 : Option Addr} (hA : k < n → A2 = A.map (·.add (k * C))) : Rds w B A2 C (n - k) (rows.drop k) := by
  refine ⟨by rw [List.length_drop, h.1], fun r hr => h.2.1 r (List.mem_of_mem_drop hr), fun hn => ?_⟩
  obtain ⟨b, o, e, hb, hc⟩ := h.2.2 (by omega)
  refine ⟨b, o + k * C, by rw [hA (by omega), e, Option.map_some, Addr.add_mid], hb, fun i r j u h1 h2 => ?_⟩
  rw [List.getElem?_drop] at h1
  have := hc (k + i) r j u h1 h2
  rw [Nat.add_mul] at this
  rw [show o + k * C + (i * C + j) = o + (k * C + i * C + j) by omega]
  exact this
theorem elem_of {P : Program} {t e : TypeId} (hu : P.underlying t = some (.slice e)) : P.elem t = e := by simp [Program.elem, hu]
theorem size_run {P : Program} {e : TypeId} {C : Nat} (hi : (P.info? e).map (·.size) = some C) (w : World) : (sizeOf e).run P w = .ok C w := by
  cases h : P.info? e with
  | none => rw [h] at hi; cases hi
  | some i =>
    rw [h] at hi
    simp at hi
    simp [sizeOf, typeInfo, h, hi]
theorem cut_low {P : Program} {t e : TypeId} (hu : P.underlying t = some (.slice e)) {w : World} {B C n c k : Nat} {A : Option Addr} {rows : List (List Value)} (hi : (P.info? e).map (·.size) = some C) (h : Rds w B A C n rows) (hk : k ≤ n) (hnc : n ≤ c) :
    ∃ A1, (∀ w, (Instr.sliceAt t (.slice A n c) none (some (.int .i64 (k : Int))) none).run P w = .ok (.slice A1 k c) w) ∧ Rds w B A1 C k (rows.take k) := by
  have hu' : P.underlying t = some (.slice (P.elem t)) := by rw [elem_of hu]; exact hu
  refine ⟨if c = 0 then A else A.map (·.add (0 * C)), fun w => ?_, ?_⟩
  · rw [run_sliceAt_slice _ _ _ _ _ _ hu', run_slice_h _ _ _ _ _ hu' _ _ (by omega) (by omega), elem_of hu, size_run hi]
    simp [sliced]
  · have := h.take hk
    refine ⟨this.1, this.2.1, fun hn => ?_⟩
    obtain ⟨b, o, e, hb, hc⟩ := this.2.2 hn
    refine ⟨b, o, ?_, hb, hc⟩
    rw [if_neg (by omega), e, Option.map_some, Addr.add_mid, Nat.zero_mul, Nat.add_zero]
theorem cut_high {P : Program} {t e : TypeId} (hu : P.underlying t = some (.slice e)) {w : World} {B C n c k : Nat} {A : Option Addr} {rows : List (List Value)} (hi : (P.info? e).map (·.size) = some C) (h : Rds w B A C n rows) (hk : k ≤ n) (hnc : n ≤ c) :
    ∃ A2, (∀ w, (Instr.sliceAt t (.slice A n c) (some (.int .i64 (k : Int))) none none).run P w = .ok (.slice A2 (n - k) (c - k)) w) ∧ Rds w B A2 C (n - k) (rows.drop k) := by
  have hu' : P.underlying t = some (.slice (P.elem t)) := by rw [elem_of hu]; exact hu
  refine ⟨if c = k then A else A.map (·.add (k * C)), fun w => ?_, h.drop hk fun hl => by rw [if_neg (by omega)]⟩
  rw [run_sliceAt_slice _ _ _ _ _ _ hu', run_slice_l _ _ _ _ _ hu' _ _ (by omega) (by omega), elem_of hu, size_run hi]
  simp [sliced]
theorem grown_none_block {w w' : World} (hg : w.grownBy w' none) {g : Nat} {o : Obj} (h : w.heap[g]? = some o) (hl : g < w.heap.size) : w'.heap[g]? = some o := (hg.block g hl (by simp)).trans h
theorem OwnRows.kept0 {w w' : World} {base : Nat} {e : TypeId} {C n : Nat} {v : Value} {rows : List (List Value)} (h : OwnRows w base e C v n rows) (hg : w.grownBy w' none) : OwnRows w' base e C v n rows := by
  refine ⟨h.1.kept hg ?_, h.2⟩
  cases hv : v.ownBlock with
  | none => exact .inl rfl
  | some j => exact .inr (by simp)
/-- A slot that an operation of the region writes, ahead of that operation. -/
theorem eval_puts_off {L : Nat → Bool} {t : Tmp} {v : Value} : ∀ {k i : Nat} {vs : List (Option Tmp × Value)} {a : Act}, vs[i]? = some (some t, v) → L (k + i) = false → distinctB (vs.map (·.1)) = true → (puts L k vs a).eval (.tmp t) = a.eval (.tmp t)
  | _, i, [], _, h, _, _ => by simp at h
  | k, 0, p :: r, a, h, hL, hdis => by
    simp at h
    subst h
    simp only [List.map_cons, distinctB, Bool.and_eq_true] at hdis
    unfold puts
    rw [Nat.add_zero] at hL
    rw [hL, eval_puts_out (by simpa using hdis.1)]
    simp
  | k, i + 1, p :: r, a, h, hL, hdis => by
    simp only [List.map_cons, distinctB, Bool.and_eq_true] at hdis
    unfold puts
    rw [eval_puts_off (i := i) (by simpa using h) (by rw [← hL]; congr 1; omega) hdis.2]
    split
    · refine Act.eval_put fun d hd e => ?_
      injection e with e
      subst e
      have hm : some t ∈ r.map (·.1) := List.mem_map.2 ⟨(some t, v), List.mem_of_getElem? (by simpa using h), rfl⟩
      have := hdis.1
      rw [hd] at this
      simp at this
      simp at hm
      obtain ⟨q, hq⟩ := hm
      exact this _ hq
    · rfl
/-- A drawn region that puts one row in: which of its operations were done, what stands then. -/
structure InsJ (w : World) (B : Nat) (e : TypeId) (C k m : Nat) (pre post : List (List Value)) (row : List Value) (x : Value × Nat × Value × Value) (p3 p6 p7 p11 : Bool) : Prop where
  ord : p11 = true → p7 = true
  a : p7 = false → p3 = true → OwnRows w B e C x.1 k pre
  b : p7 = false → p6 = true → w.heap[x.2.1]? = some (.cells row.toArray e (0, 0)) ∧ x.2.1 < w.heap.size ∧ (p3 = true → x.1.ownBlock ≠ some x.2.1)
  c : p7 = true → p11 = false → OwnRows w B e C x.2.2.1 (k + 1) (pre ++ [row])
  d : p11 = true → OwnRows w B e C x.2.2.2 (k + 1 + m) (pre ++ [row] ++ post)
section
variable {w w' : World} {B : Nat} {e : TypeId} {C k m : Nat} {pre post : List (List Value)} {row : List Value} {x : Value × Nat × Value × Value} {p3 p6 p7 p11 : Bool}
theorem InsJ.start : InsJ w B e C k m pre post row x false false false false := ⟨by simp, by simp, by simp, by simp, by simp⟩
theorem own_lt {n : Nat} {v : Value} {rows : List (List Value)} (h : OwnRows w B e C v n rows) : ∀ g, v.ownBlock = some g → B ≤ g ∧ g < w.heap.size := by
  intro g hg
  rcases h.1.2 with ⟨rfl, -⟩ | ⟨g', cap, cur, rfl, hb, hh, -⟩
  · simp [Value.ownBlock] at hg
  · simp [Value.ownBlock] at hg
    subst hg
    exact ⟨hb, lt_of_cells hh⟩
theorem InsJ.s3 (h : InsJ w B e C k m pre post row x p3 p6 p7 p11) (hg : w.grownBy w' none) {v : Value} (hv : OwnRows w' B e C v k pre) (hn : v.ownBlock = none ∨ ∃ j, v.ownBlock = some j ∧ w.heap.size ≤ j) : InsJ w' B e C k m pre post row (v, x.2) true p6 p7 p11 :=
  ⟨h.ord, fun _ _ => hv, fun h1 h2 => by
    obtain ⟨q1, q2, q3⟩ := h.b h1 h2
    refine ⟨grown_none_block hg q1 q2, Nat.lt_of_lt_of_le q2 hg.size, fun _ e => ?_⟩
    simp only at e
    rcases hn with hn | ⟨j, hj, hle⟩
    · rw [hn] at e; cases e
    · rw [hj] at e
      have := Option.some.inj e
      omega, fun h1 h2 => (h.c h1 h2).kept0 hg, fun h1 => (h.d h1).kept0 hg⟩
theorem InsJ.s6 (h : InsJ w B e C k m pre post row x p3 p6 p7 p11) : InsJ (w.alloc (.cells row.toArray e)) B e C k m pre post row (x.1, w.heap.size, x.2.2) p3 true p7 p11 :=
  have hg := World.grownBy_alloc w (.cells row.toArray e) none
  ⟨h.ord, fun h1 h2 => (h.a h1 h2).kept0 hg, fun h1 _ => ⟨heap_alloc_new w _, by simp, fun h3 e => by
    have := (own_lt (h.a h1 h3) _ e).2
    simp at this⟩, fun h1 h2 => (h.c h1 h2).kept0 hg, fun h1 => (h.d h1).kept0 hg⟩
theorem InsJ.s7 (h : InsJ w B e C k m pre post row x p3 p6 p7 p11) (h7 : p7 = false) {v : Value} (hv : OwnRows w' B e C v (k + 1) (pre ++ [row])) : InsJ w' B e C k m pre post row (x.1, x.2.1, v, x.2.2.2) p3 p6 true p11 := by
  have h11 : p11 = false := by
    cases hp : p11 with
    | false => rfl
    | true => have := h.ord hp; rw [h7] at this; cases this
  subst h11
  exact ⟨by simp, by simp, by simp, fun _ _ => hv, by simp⟩
theorem InsJ.s11 (h : InsJ w B e C k m pre post row x p3 p6 p7 p11) (h7 : p7 = true) {v : Value} (hv : OwnRows w' B e C v (k + 1 + m) (pre ++ [row] ++ post)) : InsJ w' B e C k m pre post row (x.1, x.2.1, x.2.2.1, v) p3 p6 p7 true :=
  ⟨fun _ => h7, fun h1 => absurd (h7.symm.trans h1) (by simp), fun h1 => absurd (h7.symm.trans h1) (by simp), fun _ h1 => absurd h1 (by simp), fun _ => hv⟩
end
/-- A drawn region that takes one row out. -/
structure DelJ (w : World) (B : Nat) (e : TypeId) (C k m : Nat) (pre post : List (List Value)) (x : Value × Value) (p3 p8 : Bool) : Prop where
  a : p8 = false → p3 = true → OwnRows w B e C x.1 k pre
  d : p8 = true → OwnRows w B e C x.2 (k + m) (pre ++ post)
section
variable {w w' : World} {B : Nat} {e : TypeId} {C k m : Nat} {pre post : List (List Value)} {x : Value × Value} {p3 p8 : Bool}
theorem DelJ.start : DelJ w B e C k m pre post x false false := ⟨by simp, by simp⟩
theorem DelJ.s3 (h : DelJ w B e C k m pre post x p3 p8) (hg : w.grownBy w' none) {v : Value} (hv : OwnRows w' B e C v k pre) : DelJ w' B e C k m pre post (v, x.2) true p8 :=
  ⟨fun _ _ => hv, fun h1 => (h.d h1).kept0 hg⟩
theorem DelJ.s8 {v : Value} (hv : OwnRows w' B e C v (k + m) (pre ++ post)) : DelJ w' B e C k m pre post (x.1, v) p3 true := ⟨by simp, fun _ => hv⟩
end
end Go.Proofs.YtpbigfopmompfaaGreat
