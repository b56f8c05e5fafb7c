import Derived.Test.YtakekjbbbjmdpaaOpen9
/- SherdTurn's plain law: sherds that both may be have one page just if they are one. -/
namespace Go.Proofs.Ytakekjbbbjmdpaa
open Go.RowKit
theorem page_inj {x y : Sh} (hx : x.ok) (hy : y.ok) (mx : x.may = true) (my : y.may = true) (h : pageN x.d x.r x.l x.s x.k x.b x.o x.m = pageN y.d y.r y.l y.s y.k y.b y.o y.m) : x = y := by
  have e1 := (get_page hx.1 hx.2 mx).2
  have e2 := (get_page hy.1 hy.2 my).2
  rw [h, e2] at e1
  obtain ⟨d, r, l, s, k, b, o, m⟩ := x
  obtain ⟨d', r', l', s', k', b', o', m'⟩ := y
  simp only [shV] at e1
  obtain ⟨a1, a2⟩ := List.append_inj e1 (by simp [nats]; rw [hx.1, hy.1])
  have hd : d' = d := nats_inj.1 a1
  simp at a2
  obtain ⟨b1, b2, b3, b4, b5, b6, b7⟩ := a2
  subst hd b1 b2 b3 b4 b5 b6 b7
  rfl
theorem sh_inj {x y : Sh} (hx : x.ok) (hy : y.ok) (h : x.v = y.v) : x = y := by
  obtain ⟨d, r, l, s, k, b, o, m⟩ := x
  obtain ⟨d', r', l', s', k', b', o', m'⟩ := y
  simp only [Sh.v, shV] at h
  obtain ⟨a1, a2⟩ := List.append_inj h (by simp [nats]; rw [hx.1, hy.1])
  have hd : d = d' := nats_inj.1 a1
  simp at a2
  obtain ⟨b1, b2, b3, b4, b5, b6, b7⟩ := a2
  subst hd b1 b2 b3 b4 b5 b6 b7
  rfl
theorem putP_ok {x : Sh} (h : x.ok) : (putP x.d x.r x.l x.s x.k x.b x.o x.m).length = 32 ∧ ∀ z ∈ putP x.d x.r x.l x.s x.k x.b x.o x.m, z < 256 := by
  unfold putP
  split
  · exact ⟨pageN_length h.1 _ _ _ _ _ _ _, pageN_lt h.2 _ _ _ _ _ _ _⟩
  · exact ⟨rfl, by decide⟩
theorem put_eq {x y : Sh} (hx : x.ok) (hy : y.ok) {q : Bool} (hq : q = true ↔ x.v = y.v) (mx : x.may = true) (my : y.may = true) : (putP x.d x.r x.l x.s x.k x.b x.o x.m == putP y.d y.r y.l y.s y.k y.b y.o y.m) = q := by
  unfold putP
  rw [show maySh x.d x.r x.l x.s x.k x.b x.o x.m = true from mx, show maySh y.d y.r y.l y.s y.k y.b y.o y.m = true from my]
  simp only [if_true]
  cases q with
  | true =>
    obtain rfl := sh_inj hx hy (hq.1 rfl)
    exact beq_self_eq_true _
  | false =>
    rw [beq_eq_false_iff_ne]
    intro e
    have := page_inj hx hy mx my e
    subst this
    cases hq.2 rfl
theorem sh_kinds {x : Sh} (h : x.ok) (hw : x.wf) : okAll (List.replicate 16 (Kd.int .u8) ++ [.int .i64, .int .i64, .int .i64, .int .i64, .int .i64, .int .i64, .int .i64]) x.v = true := by
  have h1 := ok_bytes x.d h.2
  rw [h.1] at h1
  refine okAll_append h1 ?_
  obtain ⟨a1, a2, a3, a4, a5, a6, a7⟩ := hw
  simp [okAll, Kd.ok, a1, a2, a3, a4, a5, a6, a7]
theorem eql_sh {x y : Sh} (hx : x.ok) (wx : x.wf) (hy : y.ok) (wy : y.wf) (w : World) :
    ∃ q : Bool, (binOp .eql 40 (.agg x.v.toArray) (.agg y.v.toArray)).run Try.prog w = .ok (.bool q) w ∧ (q = true ↔ x.v = y.v) :=
  ⟨lEq x.v y.v, by rw [run_eql_flat w flatSh eqSh (by kernel_rfl) (by decide) (sh_kinds hx wx) (sh_kinds hy wy)], lEq_iff (sh_kinds hx wx) (sh_kinds hy wy)⟩
theorem eql_sh_all {x y : Sh} (hx : x.ok) (wx : x.wf) (hy : y.ok) (wy : y.wf) :
    ∃ q : Bool, (∀ w : World, (binOp .eql 40 (.agg x.v.toArray) (.agg y.v.toArray)).run Try.prog w = .ok (.bool q) w) ∧ (q = true ↔ x.v = y.v) :=
  ⟨lEq x.v y.v, fun w => by rw [run_eql_flat w flatSh eqSh (by kernel_rfl) (by decide) (sh_kinds hx wx) (sh_kinds hy wy)], lEq_iff (sh_kinds hx wx) (sh_kinds hy wy)⟩
/-- One of a sherd's fields, turned. -/
def chg (x : Sh) (v : Int) : Nat → Sh
  | 0 => { x with r := v }
  | 1 => { x with l := v }
  | 2 => { x with s := v }
  | 3 => { x with k := v }
  | 4 => { x with b := v }
  | 5 => { x with o := v }
  | 6 => { x with m := v }
  | _ => { x with d := x.d.set 0 (x.d.getD 0 0 ^^^ (v % 256).toNat) }
theorem sh_first {x : Sh} (h : x.d.length = 16) : x.v[0]? = some (.int .u8 ((x.d.getD 0 0 : Nat) : Int)) := by
  obtain ⟨d, r, l, s, k, b, o, m⟩ := x
  obtain ⟨d0, d1, d2, d3, d4, d5, d6, d7, d8, d9, d10, d11, d12, d13, d14, d15, rfl⟩ := split16 (show d.length = 16 from h)
  rfl
theorem set_first {x : Sh} (h : x.d.length = 16) (v : Int) : x.v.set 0 (.int .u8 ((x.d.getD 0 0 ^^^ (v % 256).toNat : Nat) : Int)) = (chg x v 7).v := by
  obtain ⟨d, r, l, s, k, b, o, m⟩ := x
  obtain ⟨d0, d1, d2, d3, d4, d5, d6, d7, d8, d9, d10, d11, d12, d13, d14, d15, rfl⟩ := split16 (show d.length = 16 from h)
  rfl
theorem chg_ok {x : Sh} (h : x.ok) (v : Int) : ∀ K, (chg x v K).ok
  | 0 | 1 | 2 | 3 | 4 | 5 | 6 => h
  | _ + 7 => by
    refine ⟨by simp [chg, h.1], fun y hy => ?_⟩
    rcases List.mem_or_eq_of_mem_set hy with hy | rfl
    · exact h.2 y hy
    · refine Nat.xor_lt_two_pow (n := 8) ?_ (by omega)
      have h0 : 0 < x.d.length := by rw [h.1]; omega
      rw [List.getD_eq_getElem?_getD, List.getElem?_eq_getElem h0]
      exact h.2 _ (List.getElem_mem h0)
theorem chg_wf {x : Sh} (h : x.wf) {v : Int} (hv : (Lit.int .i64 v).wf = true) : ∀ K, (chg x v K).wf
  | 0 => ⟨hv, h.2⟩
  | 1 => ⟨h.1, hv, h.2.2⟩
  | 2 => ⟨h.1, h.2.1, hv, h.2.2.2⟩
  | 3 => ⟨h.1, h.2.1, h.2.2.1, hv, h.2.2.2.2⟩
  | 4 => ⟨h.1, h.2.1, h.2.2.1, h.2.2.2.1, hv, h.2.2.2.2.2⟩
  | 5 => ⟨h.1, h.2.1, h.2.2.1, h.2.2.2.1, h.2.2.2.2.1, hv, h.2.2.2.2.2.2⟩
  | 6 => ⟨h.1, h.2.1, h.2.2.1, h.2.2.2.1, h.2.2.2.2.1, h.2.2.2.2.2.1, hv⟩
  | _ + 7 => h
end Go.Proofs.Ytakekjbbbjmdpaa
