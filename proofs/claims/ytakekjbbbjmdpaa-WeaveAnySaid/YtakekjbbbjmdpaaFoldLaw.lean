import Derived.Test.YtakekjbbbjmdpaaBunG
/- Plain law: sherds of a row, laid over the parity one by one. -/
namespace Go.Proofs.Ytakekjbbbjmdpaa
open Go.RowKit
set_option linter.unusedVariables false
def inR (x : Sh) : Prop := 0 ≤ x.r ∧ x.r < 256 ∧ 0 ≤ x.l ∧ x.l < 65536 ∧ 0 ≤ x.s ∧ x.s < 1099511627776
def foldR (p : Sh) (l : List Sh) : Nat := xorN ((p :: l).map fun x => x.r.toNat)
def foldL (p : Sh) (l : List Sh) : Nat := xorN ((p :: l).map fun x => x.l.toNat)
def foldQ (p : Sh) (l : List Sh) : Nat := xorN ((p :: l).map fun x => x.s.toNat)
def foldV (p : Sh) (l : List Sh) : List Value := shV (overD (p :: l)) (foldR p l) (foldL p l) (foldQ p l) p.k p.b p.o p.m
theorem may_inR {x : Sh} (h : x.may = true) : inR x := by
  obtain ⟨r0, r1, l0, l1, s0, s1, -⟩ := may_bd (show maySh x.d x.r x.l x.s x.k x.b x.o x.m = true from h)
  exact ⟨r0, r1, l0, l1, s0, s1⟩
theorem xorN_one (a : Nat) : xorN [a] = a := by simp [xorN]
theorem foldV_nil {p : Sh} (hp : p.ok) (h : inR p) : foldV p [] = p.v := by
  have hd : overD [p] = p.d := by
    apply List.ext_getElem?
    intro i
    by_cases hi : i < 16
    · rw [overD_get (by simpa using hp.1) i hi, List.map_cons, List.map_nil, xorN_one, List.getD_eq_getElem?_getD, List.getElem?_eq_getElem (by rw [hp.1]; exact hi)]; rfl
    · rw [List.getElem?_eq_none (by rw [overD_length (by simpa using hp.1)]; omega), List.getElem?_eq_none (by rw [hp.1]; omega)]
  obtain ⟨r0, r1, l0, l1, s0, s1⟩ := h
  unfold foldV foldR foldL foldQ
  simp only [List.map_cons, List.map_nil, xorN_one]
  rw [hd, Int.toNat_of_nonneg r0, Int.toNat_of_nonneg l0, Int.toNat_of_nonneg s0]
  rfl
theorem foldV_snoc (p x : Sh) (l : List Sh) : foldV p (l ++ [x]) = shV (over (overD (p :: l)) x.d) ((foldR p l ^^^ x.r.toNat : Nat) : Int) ((foldL p l ^^^ x.l.toNat : Nat) : Int) ((foldQ p l ^^^ x.s.toNat : Nat) : Int) p.k p.b p.o p.m := by
  unfold foldV foldR foldL foldQ
  rw [← List.cons_append, overD_snoc]
  simp only [List.map_append, List.map_cons, List.map_nil, xorN_append, xorN_one]
theorem fold_bd {p : Sh} {l : List Sh} (h : ∀ x ∈ p :: l, inR x) : foldR p l < 256 ∧ foldL p l < 65536 ∧ foldQ p l < 1099511627776 := by
  refine ⟨xorN_lt (n := 8) fun y hy => ?_, xorN_lt (n := 16) fun y hy => ?_, xorN_lt (n := 40) fun y hy => ?_⟩ <;>
    (obtain ⟨x, hx, rfl⟩ := List.mem_map.1 hy
     obtain ⟨r0, r1, l0, l1, s0, s1⟩ := h x hx
     omega)
theorem xor_hom {f : Nat → Nat} (h : ∀ a b, f (a ^^^ b) = f a ^^^ f b) (h0 : f 0 = 0) {g k : Sh → Nat} : ∀ L : List Sh, (∀ x ∈ L, f (g x) = k x) → f (xorN (L.map g)) = xorN (L.map k)
  | [], _ => h0
  | a :: L, hg => by rw [List.map_cons, List.map_cons, xorN_cons, xorN_cons, h, hg a (by simp), xor_hom h h0 L fun x hx => hg x (by simp [hx])]
theorem fold_num {p : Sh} {l : List Sh} (hok : ∀ x ∈ p :: l, x.d.length = 16) (h : ∀ x ∈ p :: l, inR x) :
    overD (l ++ [p]) = overD (p :: l) ∧ roleI (overM (l ++ [p]) : Int) = foldR p l ∧ lpnI (overM (l ++ [p]) : Int) = foldL p l ∧ seqI (overM (l ++ [p]) : Int) = foldQ p l := by
  obtain ⟨h1, h2⟩ := over_turned hok 1
  have e : (p :: l).drop 1 ++ (p :: l).take 1 = l ++ [p] := rfl
  rw [e] at h1 h2
  have key : ∀ x ∈ p :: l, metaN x.r x.l x.s / 72057594037927936 = x.r.toNat ∧ metaN x.r x.l x.s / 1099511627776 % 65536 = x.l.toNat ∧ metaN x.r x.l x.s % 1099511627776 = x.s.toNat := by
    intro x hx
    obtain ⟨r0, r1, l0, l1, s0, s1⟩ := h x hx
    unfold metaN
    omega
  have a1 : xorN ((p :: l).map fun x => metaN x.r x.l x.s) / 72057594037927936 = foldR p l := xor_hom (f := fun n => n / 72057594037927936) (fun a b => (meta_xor a b).1) (Nat.zero_div _) (p :: l) fun x hx => (key x hx).1
  have a2 : xorN ((p :: l).map fun x => metaN x.r x.l x.s) / 1099511627776 % 65536 = foldL p l := xor_hom (f := fun n => n / 1099511627776 % 65536) (fun a b => (meta_xor a b).2.1) (by rw [Nat.zero_div, Nat.zero_mod]) (p :: l) fun x hx => (key x hx).2.1
  have a3 : xorN ((p :: l).map fun x => metaN x.r x.l x.s) % 1099511627776 = foldQ p l := xor_hom (f := fun n => n % 1099511627776) (fun a b => (meta_xor a b).2.2) (Nat.zero_mod _) (p :: l) fun x hx => (key x hx).2.2
  have e0 : overM (p :: l) = xorN ((p :: l).map fun x => metaN x.r x.l x.s) := rfl
  rw [← e0] at a1 a2 a3
  refine ⟨h1, ?_, ?_, ?_⟩
  · rw [h2]; unfold roleI; rw [← a1]; generalize overM (p :: l) = M; omega
  · rw [h2]; unfold lpnI; rw [← a2]; generalize overM (p :: l) = M; omega
  · rw [h2]; unfold seqI; rw [← a3]; generalize overM (p :: l) = M; omega
/-- What the sum of all tells, by the fold. -/
theorem fold_back {p : Sh} {l : List Sh} (hc : backC p l = true) (hok : ∀ x ∈ p :: l, x.ok) :
    backB p l = maySh (overD (p :: l)) (foldR p l) (foldL p l) (foldQ p l) 1 p.b p.o p.m ∧ backV p l = if maySh (overD (p :: l)) (foldR p l) (foldL p l) (foldQ p l) 1 p.b p.o p.m then enV (foldL p l) (foldQ p l) (foldR p l) (overD (p :: l)) else zeroE := by
  have hin : ∀ x ∈ p :: l, inR x := by
    unfold backC at hc
    simp only [Bool.and_eq_true, Bool.not_eq_true'] at hc
    obtain ⟨-, hm, ha, -⟩ := hc
    intro x hx
    rcases List.mem_cons.1 hx with rfl | hx
    · exact may_inR hm
    · unfold anyAlien at ha
      rw [List.any_eq_false] at ha
      have := ha x hx
      unfold alienB at this
      cases hxm : x.may with
      | true => exact may_inR hxm
      | false => rw [hxm] at this; simp at this
  obtain ⟨e1, e2, e3, e4⟩ := fold_num (fun x hx => (hok x hx).1) hin
  have := back_eq p l hc _ rfl
  rw [e1, e2, e3, e4] at this
  exact this
end Go.Proofs.Ytakekjbbbjmdpaa
