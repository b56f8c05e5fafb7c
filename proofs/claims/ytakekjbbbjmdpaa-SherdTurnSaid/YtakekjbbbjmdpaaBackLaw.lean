import Derived.Test.YtakekjbbbjmdpaaOpen9
/- Whichever entry of a row is missing, the others tell it: the plain law. -/
namespace Go.Proofs.Ytakekjbbbjmdpaa
open Go.RowKit
theorem xorN_drop (f : Sh → Nat) (l : List Sh) (k : Nat) (x : Sh) (h : l[k]? = some x) : xorN ((l.take k ++ l.drop (k + 1)).map f) ^^^ xorN (l.map f) = f x := by
  obtain ⟨hk, hx⟩ := List.getElem?_eq_some_iff.1 h
  have e : l.map f = (l.take k).map f ++ (f x :: (l.drop (k + 1)).map f) := by
    rw [← List.map_cons, ← List.map_append]
    congr 1
    rw [← hx, ← List.drop_eq_getElem_cons hk, List.take_append_drop]
  rw [e, List.map_append, xorN_append, xorN_append, xorN_cons]
  generalize xorN ((l.take k).map f) = a
  generalize xorN ((l.drop (k + 1)).map f) = b
  rw [Nat.xor_comm (f x) b, ← Nat.xor_assoc a b (f x), ← Nat.xor_assoc (a ^^^ b), Nat.xor_self, Nat.zero_xor]
theorem eqD {a b : List Nat} (ha : a.length = 16) (hb : b.length = 16) (h : ∀ i, i < 16 → a[i]? = b[i]?) : a = b := by
  apply List.ext_getElem?
  intro i
  by_cases hi : i < 16
  · exact h i hi
  · rw [List.getElem?_eq_none (by omega), List.getElem?_eq_none (by omega)]
theorem back_law (l : List En) (b o m : Int) (hok : ∀ x ∈ l, x.ok) (hP : parB l b o m = true) (k : Nat) (x : En) (hk : l[k]? = some x) :
    backB (parSh l b o m) ((owns l b o m).take k ++ (owns l b o m).drop (k + 1)) = true ∧ backV (parSh l b o m) ((owns l b o m).take k ++ (owns l b o m).drop (k + 1)) = x.v := by
  unfold parB at hP
  simp only [Bool.and_eq_true, beq_iff_eq, bne_iff_ne, List.all_eq_true] at hP
  obtain ⟨hs, h0, hall⟩ := hP
  have hoks := owns_ok hok b o m
  have hko : (owns l b o m)[k]? = some (x.sh b o m) := by rw [owns, List.getElem?_map, hk]; rfl
  have hkl : k < (owns l b o m).length := (List.getElem?_eq_some_iff.1 hko).1
  have hxm : maySh x.d x.r x.l x.s 1 b o m = true := hall x (List.mem_of_getElem? hk)
  have hxo := hok x (List.mem_of_getElem? hk)
  obtain ⟨r0, r1, l0, l1, s0, s1, -, -, b0, b1, o0, o1, m0, m1⟩ := may_bd hxm
  have hmay : ∀ y ∈ owns l b o m, y.k = 1 ∧ y.may = true ∧ y.b = b ∧ y.o = o ∧ y.m = m := by
    intro y hy
    obtain ⟨z, hz, rfl⟩ := List.mem_map.1 hy
    exact ⟨rfl, hall z hz, rfl, rfl, rfl⟩
  have hlen : (owns l b o m).length = l.length := by simp [owns]
  have hM := overM_lt (owns l b o m)
  have hD := overD_length fun y hy => (hoks y hy).1
  -- the numbers of the parity are the row's
  have hpm : metaN (parSh l b o m).r (parSh l b o m).l (parSh l b o m).s = overM (owns l b o m) := by
    have := meta_of (overM (owns l b o m) : Int) (by omega) (by omega)
    show metaN (roleI _) (lpnI _) (seqI _) = _
    omega
  generalize hO : (owns l b o m).take k ++ (owns l b o m).drop (k + 1) = others
  have hin : ∀ y ∈ others, y ∈ owns l b o m := by
    intro y hy
    rw [← hO] at hy
    rcases List.mem_append.1 hy with h | h
    · exact List.mem_of_mem_take h
    · exact List.mem_of_mem_drop h
  have hoksO : ∀ y ∈ others ++ [parSh l b o m], y.d.length = 16 := by
    intro y hy
    rcases List.mem_append.1 hy with h | h
    · exact (hoks y (hin y h)).1
    · rw [List.mem_singleton] at h; rw [h]; exact hD
  have hlO : (others.length : Int) = slotsI m - 1 := by
    rw [← hs, ← hO, List.length_append, List.length_take, List.length_drop]
    omega
  have eM : overM (others ++ [parSh l b o m]) = metaN x.r x.l x.s := by
    rw [overM_snoc, hpm]
    have := xorN_drop (fun y => metaN y.r y.l y.s) (owns l b o m) k (x.sh b o m) hko
    rw [hO] at this
    exact this
  have eD : overD (others ++ [parSh l b o m]) = x.d := by
    refine eqD (overD_length hoksO) hxo.1 fun i hi => ?_
    rw [overD_get hoksO i hi, List.map_append, xorN_append]
    have e1 := xorN_drop (fun y => y.d.getD i 0) (owns l b o m) k (x.sh b o m) hko
    rw [hO] at e1
    have e2 : (parSh l b o m).d.getD i 0 = xorN ((owns l b o m).map fun y => y.d.getD i 0) := by
      show (overD (owns l b o m)).getD i 0 = _
      rw [List.getD_eq_getElem?_getD, overD_get (fun y hy => (hoks y hy).1) i hi]; rfl
    have e3 : xorN ([parSh l b o m].map fun y => y.d.getD i 0) = (parSh l b o m).d.getD i 0 := by simp [xorN]
    have e4 : (x.sh b o m).d.getD i 0 = x.d.getD i 0 := rfl
    have hx16 := hxo.1
    rw [e3, e2, e1, e4, List.getD_eq_getElem?_getD, List.getElem?_eq_getElem (by omega)]; rfl
  have hmeta := of_meta x.r x.l x.s
  have hR : roleI (metaN x.r x.l x.s : Int) = x.r := by rw [hmeta.1]; omega
  have hL : lpnI (metaN x.r x.l x.s : Int) = x.l := by rw [hmeta.2.1]; omega
  have hS : seqI (metaN x.r x.l x.s : Int) = x.s := by rw [hmeta.2.2]; omega
  have hE : backE (parSh l b o m) others = x := by
    unfold backE backM
    rw [eM, eD, hR, hL, hS]
  have hal : anyAlien (parSh l b o m) others = false := by
    unfold anyAlien
    rw [Bool.eq_false_iff]
    intro h
    obtain ⟨y, hy, ha⟩ := List.any_eq_true.1 h
    obtain ⟨a1, a2, a3, a4, a5⟩ := hmay y (hin y hy)
    unfold alienB at ha
    rw [a1, a2, a3, a4, a5] at ha
    simp [parSh] at ha
  have hpmay : (parSh l b o m).may = true := by
    have hb := of_form (overM (owns l b o m)) (by omega) (by omega)
    show maySh _ (roleI _) (lpnI _) (seqI _) 2 b o m = true
    unfold maySh at hxm ⊢
    rw [Bool.and_eq_true, Bool.and_eq_true] at hxm
    rw [hxm.1.1]
    unfold numbersB inB roleI lpnI seqI
    simp
    omega
  have hC : backC (parSh l b o m) others = true := by
    unfold backC
    rw [hpmay, hal, show (parSh l b o m).k = 2 from rfl, show (parSh l b o m).m = m from rfl, hlO]
    simp
  have hB : backB (parSh l b o m) others = true := by
    unfold backB
    rw [hC, hE]
    exact hxm
  exact ⟨hB, by unfold backV; rw [hB, hE]; rfl⟩
end Go.Proofs.Ytakekjbbbjmdpaa
