import Derived.Test.YtakekjbbbjmdpaaPlainBits
/- Plain law, no program in sight: rows of a set of dies, who has the parity, who has which slot. -/
namespace Go.Proofs.Ytakekjbbbjmdpaa
open Go.RowKit

def parityI (m b r : Int) : Int := if countI m < 2 ∨ b < 0 ∨ r < 0 then -1 else atI m ((b % countI m + r % countI m) % countI m)
def slotsI (m : Int) : Int := if countI m < 2 then 0 else countI m - 1
def dieI (m b r s : Int) : Int := if parityI m b r < 0 then -1 else atI (withoutI m (parityI m b r)) s
def slotI (m b r d : Int) : Int := if parityI m b r < 0 then -1 else spotI (withoutI m (parityI m b r)) d
/-- The dies of a row but the parity's. -/
def othersL (m p : Int) : List Nat := if p < 0 then [] else diesL (withoutI m p)

theorem countI_le (m : Int) : 0 ≤ countI m ∧ countI m ≤ 8 := by
  unfold countI
  split
  · have := cnt_le m.toNat 8; omega
  · omega
theorem set_of_count {m : Int} (h : countI m ≠ 0) : 0 ≤ m ∧ m < 256 := by
  unfold countI setB at h
  split at h
  · rename_i h2
    simpa using h2
  · exact absurd rfl h
theorem countI_nat {M : Nat} (hM : M < 256) : countI (M : Int) = (cnt M 8 : Int) := by
  rw [countI, setB_of (by omega) (by omega)]; rfl
theorem length_diesL (m : Int) : ((diesL m).length : Int) = countI m := by
  unfold diesL countI
  split
  · rw [dies_length]
  · rfl
theorem atI_nat {M : Nat} (hM : M < 256) (i : Nat) (hi : i < cnt M 8) : atI (M : Int) (i : Int) = ((diesN M).getD i 0 : Nat) := by
  unfold atI
  rw [if_neg (by omega), diesL_nat hM, List.getD_eq_getElem?_getD, show ((i : Int)).toNat = i by omega, List.getElem?_eq_getElem (by rw [dies_length]; exact hi)]
  rfl
theorem without_nat : ∀ M : Fin 256, ∀ P : Fin 8, withoutI (M.val : Int) (P.val : Int) = ((M.val &&& (255 - 2 ^ P.val) : Nat) : Int) := by decide +kernel
/-- The die of a row, by the place from which one counts. -/
def rowDie (M c : Nat) : Nat := (diesN M).getD (c % cnt M 8) 0
theorem rowDie_ok : ∀ M : Fin 256, ∀ c : Fin 8, c.val < cnt M.val 8 → (decide ((diesN M.val).getD c.val 0 < 8) && M.val.testBit ((diesN M.val).getD c.val 0)) = true := by decide +kernel
theorem rowDie_in {M : Nat} (hM : M < 256) (h : 0 < cnt M 8) (c : Nat) : rowDie M c < 8 ∧ M.testBit (rowDie M c) = true := by
  have hl := Nat.mod_lt c h
  have h8 := cnt_le M 8
  have := rowDie_ok ⟨M, hM⟩ ⟨c % cnt M 8, by omega⟩ hl
  rw [Bool.and_eq_true, decide_eq_true_eq] at this
  exact this
theorem rowDie_mod (M c i : Nat) : rowDie M (c + i) = rowDie M (c % cnt M 8 + i) := by
  unfold rowDie
  rw [Nat.mod_add_mod]
theorem parity_nat {M : Nat} (hM : M < 256) (h2 : 2 ≤ cnt M 8) (b r : Nat) : parityI (M : Int) (b : Int) (r : Int) = (rowDie M (b + r) : Int) := by
  unfold parityI
  rw [countI_nat hM, if_neg (by omega)]
  have e : ((b : Int) % (cnt M 8 : Int) + (r : Int) % (cnt M 8 : Int)) % (cnt M 8 : Int) = (((b + r) % cnt M 8 : Nat) : Int) := by
    rw [← Int.natCast_emod, ← Int.natCast_emod, ← Int.natCast_add, ← Int.natCast_emod, ← Nat.add_mod]
  rw [e, atI_nat hM _ (Nat.mod_lt _ (by omega))]; rfl
theorem parity_lt (m b r : Int) : parityI m b r = -1 ∨ ∃ M P : Nat, m = M ∧ M < 256 ∧ 2 ≤ cnt M 8 ∧ P < 8 ∧ M.testBit P = true ∧ parityI m b r = P := by
  by_cases h : countI m < 2 ∨ b < 0 ∨ r < 0
  · exact .inl (by unfold parityI; rw [if_pos h])
  · obtain ⟨h0, h1⟩ := set_of_count (show countI m ≠ 0 by omega)
    obtain ⟨M, rfl⟩ := Int.eq_ofNat_of_zero_le h0
    obtain ⟨b, rfl⟩ := Int.eq_ofNat_of_zero_le (show 0 ≤ b by omega)
    obtain ⟨r, rfl⟩ := Int.eq_ofNat_of_zero_le (show 0 ≤ r by omega)
    rw [countI_nat (by omega)] at h
    obtain ⟨hP, hT⟩ := rowDie_in (M := M) (by omega) (by omega) (b + r)
    exact .inr ⟨M, rowDie M (b + r), rfl, by omega, by omega, hP, hT, parity_nat (by omega) (by omega) b r⟩
/-- The others are those that are not the parity. -/
theorem others_fin : ∀ M : Fin 256, ∀ P : Fin 8, diesN (M.val &&& (255 - 2 ^ P.val)) = (diesN M.val).filter (fun d => !(d == P.val)) := by decide +kernel
theorem others_eq (m b r : Int) : othersL m (parityI m b r) = if parityI m b r < 0 then [] else (diesL m).filter (fun d : Nat => !((d : Int) == parityI m b r)) := by
  rcases parity_lt m b r with h | ⟨M, P, rfl, hM, -, hP, hT, h⟩
  · rw [h]; rfl
  · have e1 := without_nat ⟨M, hM⟩ ⟨P, hP⟩
    have e2 := others_fin ⟨M, hM⟩ ⟨P, hP⟩
    simp only at e1 e2
    have hw : (M &&& (255 - 2 ^ P)) < 256 := Nat.lt_of_le_of_lt Nat.and_le_left hM
    rw [h, othersL, if_neg (by omega), if_neg (by omega), e1, diesL_nat hM, diesL_nat hw, e2]
    apply List.filter_congr
    intro d _
    have e3 : ((d : Int) == (P : Int)) = (d == P) := by rw [Bool.eq_iff_iff, beq_iff_eq, beq_iff_eq]; omega
    rw [e3]
theorem othersL_le (m p : Int) : (othersL m p).length ≤ 8 := by
  unfold othersL diesL
  split
  · simp
  · split
    · rw [dies_length]; exact cnt_le _ _
    · simp
theorem dieI_others (m b r s : Int) (h : 0 ≤ s) : dieI m b r s = match (othersL m (parityI m b r))[s.toNat]? with | some d => (d : Int) | none => -1 := by
  unfold dieI othersL
  split
  · rfl
  · unfold atI
    rw [if_neg (by omega)]
    generalize (diesL (withoutI m (parityI m b r)))[s.toNat]? = o
    cases o <;> rfl
theorem dieI_some {m b r : Int} {s D : Nat} (h : (othersL m (parityI m b r))[s]? = some D) : dieI m b r (s : Int) = D := by
  rw [dieI_others _ _ _ _ (by omega), show ((s : Int)).toNat = s by omega, h]
theorem dieI_none {m b r : Int} {s : Int} (h0 : 0 ≤ s) (h : ((othersL m (parityI m b r)).length : Int) ≤ s) : dieI m b r s = -1 := by
  rw [dieI_others _ _ _ _ h0, List.getElem?_eq_none (by omega)]
theorem atI_some {m : Int} {i D : Nat} (h : (diesL m)[i]? = some D) : atI m (i : Int) = D := by
  unfold atI
  rw [if_neg (by omega), show ((i : Int)).toNat = i by omega, h]
theorem dieI_neg (m b r s : Int) (h : s < 0) : dieI m b r s = -1 := by
  unfold dieI
  split
  · rfl
  · unfold atI; rw [if_pos h]
theorem spot_list {m d : Int} : (∀ (j D : Nat), (diesL m)[j]? = some D → (D : Int) = d → spotI m d = j) ∧ ((∀ (j D : Nat), (diesL m)[j]? = some D → (D : Int) ≠ d) → spotI m d = -1) := by
  constructor
  · rintro j D h rfl
    by_cases h0 : m < 0
    · simp [diesL, setB_neg h0] at h
    · by_cases h1 : 255 < m
      · simp [diesL, setB_big (show 256 ≤ m by omega)] at h
      · obtain ⟨M, rfl⟩ := Int.eq_ofNat_of_zero_le (show 0 ≤ m by omega)
        rw [diesL_nat (by omega)] at h
        exact spot_found (by omega) (by simpa using h) (by omega)
  · intro h
    by_cases h0 : m < 0
    · simp [spotI, hasB, setB_neg h0]
    · by_cases h1 : 255 < m
      · simp [spotI, hasB, setB_big (show 256 ≤ m by omega)]
      · obtain ⟨M, rfl⟩ := Int.eq_ofNat_of_zero_le (show 0 ≤ m by omega)
        rw [diesL_nat (by omega)] at h
        exact spot_none (by omega) h
theorem slotI_list (m b r d : Int) : (∀ (j D : Nat), (othersL m (parityI m b r))[j]? = some D → (D : Int) = d → slotI m b r d = j) ∧ ((∀ (j D : Nat), (othersL m (parityI m b r))[j]? = some D → (D : Int) ≠ d) → slotI m b r d = -1) := by
  unfold othersL slotI
  split
  · exact ⟨(fun j D h => by cases h), fun _ => rfl⟩
  · exact spot_list

/-- Who was seen, row by row. -/
def seenTo (M c : Nat) : Nat → Nat
  | 0 => 0
  | i + 1 => seenTo M c i ||| 2 ^ rowDie M (c + i)
theorem seenTo_mod (M c i : Nat) : seenTo M c i = seenTo M (c % cnt M 8) i := by
  induction i with
  | zero => rfl
  | succ i ih => rw [seenTo, seenTo, ih, rowDie_mod]
theorem seen_fin : ∀ M : Fin 256, ∀ c : Fin 8, ∀ i : Fin 8, c.val < cnt M.val 8 → i.val < cnt M.val 8 → (!(seenTo M.val c.val i.val).testBit (rowDie M.val (c.val + i.val)) && decide (seenTo M.val c.val i.val < 256)) = true := by decide +kernel
theorem seen_all_fin : ∀ M : Fin 256, ∀ c : Fin 8, c.val < cnt M.val 8 → seenTo M.val c.val (cnt M.val 8) = M.val := by decide +kernel
theorem seen_step {M : Nat} (hM : M < 256) (c i : Nat) (hi : i < cnt M 8) : (seenTo M c i).testBit (rowDie M (c + i)) = false ∧ seenTo M c i < 256 := by
  have hl := Nat.mod_lt c (show 0 < cnt M 8 by omega)
  have h8 := cnt_le M 8
  have h := seen_fin ⟨M, hM⟩ ⟨c % cnt M 8, by omega⟩ ⟨i, by omega⟩ hl hi
  rw [seenTo_mod, rowDie_mod]
  simpa using h
theorem seen_all {M : Nat} (hM : M < 256) (c : Nat) (h : 0 < cnt M 8) : seenTo M c (cnt M 8) = M := by
  have hl := Nat.mod_lt c h
  have h8 := cnt_le M 8
  rw [seenTo_mod]
  exact seen_all_fin ⟨M, hM⟩ ⟨c % cnt M 8, by omega⟩ hl
/-- Whose slot was seen in a row. -/
def othersN (M P : Nat) : List Nat := diesN (M &&& (255 - 2 ^ P))
def ownTo (M P : Nat) : Nat → Nat
  | 0 => 2 ^ P
  | s + 1 => ownTo M P s ||| 2 ^ ((othersN M P).getD s 0)
theorem own_fin : ∀ M : Fin 256, ∀ P : Fin 8, M.val.testBit P.val = true → ∀ s : Fin 8, s.val < cnt M.val 8 - 1 →
    (decide ((othersN M.val P.val).getD s.val 0 < 8) && !(ownTo M.val P.val s.val).testBit ((othersN M.val P.val).getD s.val 0) && decide (ownTo M.val P.val s.val < 256) && decide (s.val < (othersN M.val P.val).length)) = true := by decide +kernel
theorem own_all_fin : ∀ M : Fin 256, ∀ P : Fin 8, M.val.testBit P.val = true → ownTo M.val P.val (cnt M.val 8 - 1) = M.val := by decide +kernel
theorem own_step {M P s : Nat} (hM : M < 256) (hP : P < 8) (hT : M.testBit P = true) (hs : s < cnt M 8 - 1) :
    (othersN M P).getD s 0 < 8 ∧ (ownTo M P s).testBit ((othersN M P).getD s 0) = false ∧ ownTo M P s < 256 ∧ s < (othersN M P).length := by
  have h8 := cnt_le M 8
  have h := own_fin ⟨M, hM⟩ ⟨P, hP⟩ hT ⟨s, by omega⟩ hs
  simp only [Bool.and_eq_true, decide_eq_true_eq, Bool.not_eq_true'] at h
  exact ⟨h.1.1.1, h.1.1.2, h.1.2, h.2⟩
theorem die_nat {M P b r s : Nat} (hM : M < 256) (hP : P < 8) (hp : parityI (M : Int) b r = (P : Int)) (hs : s < (othersN M P).length) :
    dieI (M : Int) b r s = ((othersN M P).getD s 0 : Nat) ∧ slotI (M : Int) b r ((othersN M P).getD s 0 : Nat) = (s : Int) := by
  have e : othersL (M : Int) (parityI (M : Int) b r) = othersN M P := by
    rw [hp, othersL, if_neg (by omega), without_nat ⟨M, hM⟩ ⟨P, hP⟩, diesL_nat (Nat.lt_of_le_of_lt Nat.and_le_left hM)]; rfl
  constructor
  · rw [dieI_others _ _ _ _ (by omega), e, show ((s : Int)).toNat = s by omega, List.getElem?_eq_getElem hs, List.getD_eq_getElem?_getD, List.getElem?_eq_getElem hs]; rfl
  · exact (slotI_list (M : Int) b r _).1 s _ (by rw [e, List.getElem?_eq_getElem hs]) (by rw [List.getD_eq_getElem?_getD, List.getElem?_eq_getElem hs]; rfl)
end Go.Proofs.Ytakekjbbbjmdpaa
