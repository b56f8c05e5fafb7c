import Derived.Test.YtpbigfopmompfaaGreatBegun9
import Derived.Test.YtpbigfopmompfaaGreatOpenF
import Derived.Test.YtpbigfopmompfaaGreatBunP
import Derived.Test.YtpbigfopmompfaaGreatBunE
/- What a claim's proof leans on: Open9, TurnLaw, TornLaw. -/
/- What comes in: data, sherds, entries, pages; slices of sherds and of entries. -/
namespace Go.Proofs.YtpbigfopmompfaaGreat
open Go.RowKit
def Sh.wf (x : Sh) : Prop := (Lit.int .i64 x.r).wf = true ∧ (Lit.int .i64 x.l).wf = true ∧ (Lit.int .i64 x.s).wf = true ∧ (Lit.int .i64 x.k).wf = true ∧ (Lit.int .i64 x.b).wf = true ∧ (Lit.int .i64 x.o).wf = true ∧ (Lit.int .i64 x.m).wf = true
theorem open_sh {cs : List Value} (h : okAll (List.replicate 16 (Kd.int .u8) ++ List.replicate 7 (Kd.int .i64)) cs = true) : ∃ x : Sh, cs = x.v ∧ x.ok ∧ x.wf := by
  obtain ⟨h1, h2⟩ := okAll_split h
  rw [List.length_replicate] at h1 h2
  obtain ⟨d, e1, hd, hb⟩ := open_bytes h1
  obtain ⟨r, l, s, k, b, o, m, e2, hw⟩ := open_ints7 h2
  refine ⟨⟨d, r, l, s, k, b, o, m⟩, ?_, ⟨hd, hb⟩, hw⟩
  rw [← List.take_append_drop 16 cs, e1, e2]; rfl
def En.wf (x : En) : Prop := (Lit.int .i64 x.l).wf = true ∧ (Lit.int .i64 x.s).wf = true ∧ (Lit.int .i64 x.r).wf = true
theorem open_en {cs : List Value} (h : okAll (List.replicate 3 (Kd.int .i64) ++ List.replicate 16 (Kd.int .u8)) cs = true) : ∃ x : En, cs = x.v ∧ x.ok ∧ x.wf := by
  obtain ⟨h1, h2⟩ := okAll_split h
  rw [List.length_replicate] at h1 h2
  obtain ⟨d, e1, hd, hb⟩ := open_bytes h2
  have hl := okAll_length h1
  match h3 : cs.take 3, hl, h1 with
  | [c0, c1, c2], _, h1 =>
    simp only [List.replicate_succ, List.replicate_zero, okAll, Bool.and_eq_true, and_true] at h1
    obtain ⟨k0, k1, k2⟩ := h1
    obtain ⟨l, rfl, a0⟩ := ok_int k0
    obtain ⟨s, rfl, a1⟩ := ok_int k1
    obtain ⟨r, rfl, a2⟩ := ok_int k2
    refine ⟨⟨l, s, r, d⟩, ?_, ⟨hd, hb⟩, a0, a1, a2⟩
    rw [← List.take_append_drop 3 cs, e1, h3]; rfl
theorem open_shs {w : World} {a : Option Addr} {len cap : Nat} (h : IsRows (List.replicate 16 (Kd.int .u8) ++ List.replicate 7 (Kd.int .i64)) w a len cap) : ∃ l : List Sh, Rds w w.heap.size a 23 len (shs l) ∧ (∀ x ∈ l, x.ok ∧ x.wf) ∧ len ≤ cap ∧ cap ≤ maxLen := by
  obtain ⟨rows, h1, h2, h3, h4⟩ := h.rds (by simp)
  obtain ⟨l, rfl, hl⟩ := open_all (f := Sh.v) (p := fun x => x.ok ∧ x.wf) (fun cs hc => by obtain ⟨x, h1, h2, h3⟩ := open_sh hc; exact ⟨x, h1, h2, h3⟩) h2
  exact ⟨l, h1, hl, h3, h4⟩
theorem open_ens {w : World} {a : Option Addr} {len cap : Nat} (h : IsRows (List.replicate 3 (Kd.int .i64) ++ List.replicate 16 (Kd.int .u8)) w a len cap) : ∃ l : List En, Rds w w.heap.size a 19 len (ens l) ∧ (∀ x ∈ l, x.ok ∧ x.wf) ∧ len ≤ cap ∧ cap ≤ maxLen := by
  obtain ⟨rows, h1, h2, h3, h4⟩ := h.rds (by simp)
  obtain ⟨l, rfl, hl⟩ := open_all (f := En.v) (p := fun x => x.ok ∧ x.wf) (fun cs hc => by obtain ⟨x, h1, h2, h3⟩ := open_en hc; exact ⟨x, h1, h2, h3⟩) h2
  exact ⟨l, h1, hl, h3, h4⟩
end Go.Proofs.YtpbigfopmompfaaGreat
/- SherdTurn's plain law: sherds that both may be have one page just if they are one. -/
namespace Go.Proofs.YtpbigfopmompfaaGreat
open Go.RowKit
theorem page_inj {x y : Sh} (hx : x.ok) (hy : y.ok) (mx : x.may = true) (my : y.may = true) (h : pageN x.d x.r x.l x.s x.k x.b x.o x.m = pageN y.d y.r y.l y.s y.k y.b y.o y.m) : x = y := by
  have e1 := (get_page hx.1 hx.2 mx).2
  have e2 := (get_page hy.1 hy.2 my).2
  rw [h, e2] at e1
  obtain ⟨d, r, l, s, k, b, o, m⟩ := x
  obtain ⟨d', r', l', s', k', b', o', m'⟩ := y
  simp only [shV] at e1
  obtain ⟨a1, a2⟩ := List.append_inj e1 (by simp [nats]; rw [hx.1, hy.1])
  have hd : d' = d := nats_inj.1 a1
  simp at a2
  obtain ⟨b1, b2, b3, b4, b5, b6, b7⟩ := a2
  subst hd b1 b2 b3 b4 b5 b6 b7
  rfl
theorem sh_inj {x y : Sh} (hx : x.ok) (hy : y.ok) (h : x.v = y.v) : x = y := by
  obtain ⟨d, r, l, s, k, b, o, m⟩ := x
  obtain ⟨d', r', l', s', k', b', o', m'⟩ := y
  simp only [Sh.v, shV] at h
  obtain ⟨a1, a2⟩ := List.append_inj h (by simp [nats]; rw [hx.1, hy.1])
  have hd : d = d' := nats_inj.1 a1
  simp at a2
  obtain ⟨b1, b2, b3, b4, b5, b6, b7⟩ := a2
  subst hd b1 b2 b3 b4 b5 b6 b7
  rfl
theorem putP_ok {x : Sh} (h : x.ok) : (putP x.d x.r x.l x.s x.k x.b x.o x.m).length = 32 ∧ ∀ z ∈ putP x.d x.r x.l x.s x.k x.b x.o x.m, z < 256 := by
  unfold putP
  split
  · exact ⟨pageN_length h.1 _ _ _ _ _ _ _, pageN_lt h.2 _ _ _ _ _ _ _⟩
  · exact ⟨rfl, by decide⟩
theorem put_eq {x y : Sh} (hx : x.ok) (hy : y.ok) {q : Bool} (hq : q = true ↔ x.v = y.v) (mx : x.may = true) (my : y.may = true) : (putP x.d x.r x.l x.s x.k x.b x.o x.m == putP y.d y.r y.l y.s y.k y.b y.o y.m) = q := by
  unfold putP
  rw [show maySh x.d x.r x.l x.s x.k x.b x.o x.m = true from mx, show maySh y.d y.r y.l y.s y.k y.b y.o y.m = true from my]
  simp only [if_true]
  cases q with
  | true =>
    obtain rfl := sh_inj hx hy (hq.1 rfl)
    exact beq_self_eq_true _
  | false =>
    rw [beq_eq_false_iff_ne]
    intro e
    have := page_inj hx hy mx my e
    subst this
    cases hq.2 rfl
theorem sh_kinds {x : Sh} (h : x.ok) (hw : x.wf) : okAll (List.replicate 16 (Kd.int .u8) ++ [.int .i64, .int .i64, .int .i64, .int .i64, .int .i64, .int .i64, .int .i64]) x.v = true := by
  have h1 := ok_bytes x.d h.2
  rw [h.1] at h1
  refine okAll_append h1 ?_
  obtain ⟨a1, a2, a3, a4, a5, a6, a7⟩ := hw
  simp [okAll, Kd.ok, a1, a2, a3, a4, a5, a6, a7]
theorem eql_sh {x y : Sh} (hx : x.ok) (wx : x.wf) (hy : y.ok) (wy : y.wf) (w : World) :
    ∃ q : Bool, (binOp .eql 153 (.agg x.v.toArray) (.agg y.v.toArray)).run Tryz.prog w = .ok (.bool q) w ∧ (q = true ↔ x.v = y.v) :=
  ⟨lEq x.v y.v, by rw [run_eql_flat w flatSh eqSh (by kernel_rfl) (by decide) (sh_kinds hx wx) (sh_kinds hy wy)], lEq_iff (sh_kinds hx wx) (sh_kinds hy wy)⟩
theorem eql_sh_all {x y : Sh} (hx : x.ok) (wx : x.wf) (hy : y.ok) (wy : y.wf) :
    ∃ q : Bool, (∀ w : World, (binOp .eql 153 (.agg x.v.toArray) (.agg y.v.toArray)).run Tryz.prog w = .ok (.bool q) w) ∧ (q = true ↔ x.v = y.v) :=
  ⟨lEq x.v y.v, fun w => by rw [run_eql_flat w flatSh eqSh (by kernel_rfl) (by decide) (sh_kinds hx wx) (sh_kinds hy wy)], lEq_iff (sh_kinds hx wx) (sh_kinds hy wy)⟩
/-- One of a sherd's fields, turned. -/
def chg (x : Sh) (v : Int) : Nat → Sh
  | 0 => { x with r := v }
  | 1 => { x with l := v }
  | 2 => { x with s := v }
  | 3 => { x with k := v }
  | 4 => { x with b := v }
  | 5 => { x with o := v }
  | 6 => { x with m := v }
  | _ => { x with d := x.d.set 0 (x.d.getD 0 0 ^^^ (v % 256).toNat) }
theorem sh_first {x : Sh} (h : x.d.length = 16) : x.v[0]? = some (.int .u8 ((x.d.getD 0 0 : Nat) : Int)) := by
  obtain ⟨d, r, l, s, k, b, o, m⟩ := x
  obtain ⟨d0, d1, d2, d3, d4, d5, d6, d7, d8, d9, d10, d11, d12, d13, d14, d15, rfl⟩ := split16 (show d.length = 16 from h)
  rfl
theorem set_first {x : Sh} (h : x.d.length = 16) (v : Int) : x.v.set 0 (.int .u8 ((x.d.getD 0 0 ^^^ (v % 256).toNat : Nat) : Int)) = (chg x v 7).v := by
  obtain ⟨d, r, l, s, k, b, o, m⟩ := x
  obtain ⟨d0, d1, d2, d3, d4, d5, d6, d7, d8, d9, d10, d11, d12, d13, d14, d15, rfl⟩ := split16 (show d.length = 16 from h)
  rfl
theorem chg_ok {x : Sh} (h : x.ok) (v : Int) : ∀ K, (chg x v K).ok
  | 0 | 1 | 2 | 3 | 4 | 5 | 6 => h
  | _ + 7 => by
    refine ⟨by simp [chg, h.1], fun y hy => ?_⟩
    rcases List.mem_or_eq_of_mem_set hy with hy | rfl
    · exact h.2 y hy
    · refine Nat.xor_lt_two_pow (n := 8) ?_ (by omega)
      have h0 : 0 < x.d.length := by rw [h.1]; omega
      rw [List.getD_eq_getElem?_getD, List.getElem?_eq_getElem h0]
      exact h.2 _ (List.getElem_mem h0)
theorem chg_wf {x : Sh} (h : x.wf) {v : Int} (hv : (Lit.int .i64 v).wf = true) : ∀ K, (chg x v K).wf
  | 0 => ⟨hv, h.2⟩
  | 1 => ⟨h.1, hv, h.2.2⟩
  | 2 => ⟨h.1, h.2.1, hv, h.2.2.2⟩
  | 3 => ⟨h.1, h.2.1, h.2.2.1, hv, h.2.2.2.2⟩
  | 4 => ⟨h.1, h.2.1, h.2.2.1, h.2.2.2.1, hv, h.2.2.2.2.2⟩
  | 5 => ⟨h.1, h.2.1, h.2.2.1, h.2.2.2.1, h.2.2.2.2.1, hv, h.2.2.2.2.2.2⟩
  | 6 => ⟨h.1, h.2.1, h.2.2.1, h.2.2.2.1, h.2.2.2.2.1, h.2.2.2.2.2.1, hv⟩
  | _ + 7 => h
end Go.Proofs.YtpbigfopmompfaaGreat
/- Plain law: a page of which the end was not programmed, or a byte was turned. -/
namespace Go.Proofs.YtpbigfopmompfaaGreat
open Go.RowKit
set_option linter.unusedVariables false
theorem blank_all {P : List Nat} (h : blankB P = true) : P = List.replicate P.length 255 := by
  unfold blankB at h
  rw [List.all_eq_true] at h
  exact List.eq_replicate_iff.2 ⟨rfl, fun x hx => by simpa using h x hx⟩
theorem blank_put {x : Sh} (hx : x.ok) (mx : x.may = true) : blankB (putP x.d x.r x.l x.s x.k x.b x.o x.m) = false := by
  rw [Bool.eq_false_iff]
  intro e
  have l := (putP_ok hx).1
  have h := blank_all e
  rw [l] at h
  have hm : maySh x.d x.r x.l x.s x.k x.b x.o x.m = true := mx
  unfold putP at h
  rw [hm] at h
  simp only [if_true] at h
  obtain ⟨r0, r1, l0, l1, s0, s1, k0, k1, b0, b1, o0, o1, m0, m1⟩ := may_bd hm
  obtain ⟨e1, e2, e3, e4, e5, e6, e7, e8⟩ := read_page hx.1 hx.2 r0 r1 l0 l1 s0 s1 (show 0 ≤ x.k by omega) (show x.k < 256 by omega) b0 (show x.b < 256 by omega) o0 (show x.o < 256 by omega) m0 m1
  rw [h] at e5
  have : rK (List.replicate 32 255) = 255 := by decide +kernel
  omega
def tornTo (P : List Nat) (K j : Nat) : List Nat := P.take K ++ (List.replicate (j - K) 255 ++ P.drop j)
theorem tornTo_start (P : List Nat) (K : Nat) : tornTo P K K = P := by simp [tornTo]
theorem tornTo_length {P : List Nat} (h : P.length = 32) {K j : Nat} (h1 : K ≤ j) (h2 : j ≤ 32) : (tornTo P K j).length = 32 := by simp [tornTo]; omega
theorem tornTo_lt {P : List Nat} (hb : ∀ x ∈ P, x < 256) (K j : Nat) : ∀ x ∈ tornTo P K j, x < 256 := by
  intro x hx
  unfold tornTo at hx
  simp only [List.mem_append, List.mem_replicate] at hx
  rcases hx with h | ⟨-, h⟩ | h
  · exact hb x (List.mem_of_mem_take h)
  · omega
  · exact hb x (List.mem_of_mem_drop h)
theorem tornTo_step {P : List Nat} (h : P.length = 32) {K j : Nat} (h1 : K ≤ j) (h2 : j < 32) : (tornTo P K j).set j 255 = tornTo P K (j + 1) := by
  unfold tornTo
  have e1 : (P.take K).length = K := by rw [List.length_take]; omega
  have e2 : P.drop j = P[j] :: P.drop (j + 1) := List.drop_eq_getElem_cons (by omega)
  rw [List.set_append_right _ _ (by omega), List.set_append_right _ _ (by simp; omega), e1, e2]
  have e3 : j - K - (List.replicate (j - K) 255).length = 0 := by simp
  rw [e3, List.set_cons_zero, show j + 1 - K = (j - K) + 1 by omega, List.replicate_succ']
  simp
theorem getB_turned {x : Sh} (hx : x.ok) (mx : x.may = true) (j v : Nat) (hj : j < 32) (hv : v < 256) :
    getB ((putP x.d x.r x.l x.s x.k x.b x.o x.m).set j ((putP x.d x.r x.l x.s x.k x.b x.o x.m).getD j 0 ^^^ v)) = (v == 0) := by
  have hm : maySh x.d x.r x.l x.s x.k x.b x.o x.m = true := mx
  obtain ⟨l, b⟩ := putP_ok hx
  have e : putP x.d x.r x.l x.s x.k x.b x.o x.m = pageN x.d x.r x.l x.s x.k x.b x.o x.m := by unfold putP; rw [hm]; rfl
  obtain ⟨g1, g2⟩ := get_page hx.1 hx.2 hm
  rw [← e] at g1
  generalize putP x.d x.r x.l x.s x.k x.b x.o x.m = P at *
  by_cases h0 : v = 0
  · subst h0
    have : P.set j (P.getD j 0 ^^^ 0) = P := by
      rw [Nat.xor_zero]
      apply List.ext_getElem?
      intro i
      rw [List.getElem?_set]
      split
      · rename_i h; subst h
        rw [if_pos (by omega), List.getD_eq_getElem?_getD, List.getElem?_eq_getElem (by omega)]; rfl
      · rfl
    rw [this, g1]; rfl
  · have hs : fld P 224 32 = kof (P.take 28) := by
      unfold getB at g1
      simpa using (Bool.and_eq_true_iff.1 g1).2
    have := torn_byte l b hs j v hj hv h0
    unfold getB
    rw [show (v == 0) = false from beq_eq_false_iff_ne.2 h0, show (fld (P.set j (P.getD j 0 ^^^ v)) 224 32 == kof ((P.set j (P.getD j 0 ^^^ v)).take 28)) = false from beq_eq_false_iff_ne.2 this, Bool.and_false]
end Go.Proofs.YtpbigfopmompfaaGreat
