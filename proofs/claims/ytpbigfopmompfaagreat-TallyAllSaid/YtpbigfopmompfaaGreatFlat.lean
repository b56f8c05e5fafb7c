import Derived.OpenShut
import Derived.Deep.Slices
import Derived.ChangeSame
import Derived.RowKit
import Derived.Laws.Rows
import Derived.OwnWalk
/- Words for data, no program in sight: a type of numbers and truths alone, cell by cell. -/
namespace Go.Proofs.YtpbigfopmompfaaGreat
open Go.RowKit Go.ChangeShapes Go.WideShapes Go.Deep

inductive Kd
 | int (k : IntKind)
 | bool
def Kd.ok : Kd → Value → Bool
 | .int k, .int k' n => k' == k && (Lit.int k n).wf
 | .bool, .bool _ => true
 | _, _ => false
def okAll : List Kd → List Value → Bool
 | [], [] => true
 | k :: ks, v :: vs => k.ok v && okAll ks vs
 | _, _ => false
theorem zaz : ∀ {ks : List Kd} {vs : List Value}, okAll ks vs = true → vs.length = ks.length
 | [], [], _ => rfl
 | _ :: ks, _ :: vs, h => by
  simp only [okAll, Bool.and_eq_true] at h; rw [List.length_cons, List.length_cons, zaz h.2]
 | [], _ :: _, h => by simp [okAll] at h
 | _ :: _, [], h => by simp [okAll] at h
theorem okAll_append : ∀ {ks ks' : List Kd} {vs vs' : List Value}, okAll ks vs = true → okAll ks' vs' = true → okAll (ks ++ ks') (vs ++ vs') = true
 | [], _, [], _, _, h => h
 | _ :: ks, _, _ :: vs, _, h, h' => by
  simp only [okAll, Bool.and_eq_true] at h; simp only [List.cons_append, okAll, Bool.and_eq_true]; exact ⟨h.1, okAll_append h.2 h'⟩
 | [], _, _ :: _, _, h, _ => by simp [okAll] at h
 | _ :: _, _, [], _, h, _ => by simp [okAll] at h
theorem zb3 {k : IntKind} {v : Value} (h : (Kd.int k).ok v = true) : ∃ n, v = .int k n ∧ (Lit.int k n).wf = true := by
 cases v <;> simp [Kd.ok] at h
 obtain ⟨rfl, h⟩ := h
 exact ⟨_, rfl, h⟩
theorem ok_bool {v : Value} (h : Kd.bool.ok v = true) : ∃ b, v = .bool b := by
 cases v <;> simp [Kd.ok] at h
 exact ⟨_, rfl⟩
def flatF (go : TypeId → Option (List Kd)) (P : Program) : List Field → List Kd → Option (List Kd)
 | [], acc => some acc
 | f :: fs, acc => (go f.type).bind fun ks => if f.offset = acc.length ∧ P.cellsOf f.type = ks.length then flatF go P fs (acc ++ ks) else none
def flat (P : Program) : Nat → TypeId → Option (List Kd)
 | 0, _ => none
 | d + 1, t =>
  match P.underlying t with
  | some (.int k) => some [.int k]
  | some .bool => some [.bool]
  | some (.array n e) => (flat P d e).bind fun ks => if P.cellsOf t = n * ks.length ∧ P.cellsOf e = ks.length then some (List.replicate n ks).flatten else none
  | some (.struct fs) => (flatF (flat P d) P fs.toList []).bind fun ks => if P.cellsOf t = ks.length then some ks else none
  | _ => none
theorem okAll_rep {ks : List Kd} : ∀ (n : Nat) (cs : List Value), cs.length = n * ks.length → (∀ i, i < n → okAll ks ((cs.drop (i * ks.length)).take ks.length) = true) → okAll (List.replicate n ks).flatten cs = true
 | 0, cs, hl, _ => by
  have : cs = [] := List.eq_nil_of_length_eq_zero (by simpa using hl); subst this; rfl
 | n + 1, cs, hl, h => by
  have h0 := h 0 (by omega)
  have h1 := okAll_rep (ks := ks) n (cs.drop ks.length) (by rw [List.length_drop, hl, Nat.succ_mul]; omega) fun i hi => by
   have := h (i + 1) (by omega); rw [List.drop_drop, show ks.length + i * ks.length = (i + 1) * ks.length by rw [Nat.succ_mul]; omega]; exact this
  rw [Nat.zero_mul, List.drop_zero] at h0; have := okAll_append h0 h1; rw [List.take_append_drop] at this; rw [List.replicate_succ, List.flatten_cons]; exact this
theorem okAll_fields {P : Program} {go : TypeId → Option (List Kd)} {cs : List Value} : ∀ (fs : List Field) (acc ks : List Kd), flatF go P fs acc = some ks →
 (∀ f ∈ fs, ∀ l, go f.type = some l → P.cellsOf f.type = l.length → okAll l ((cs.drop f.offset).take l.length) = true) → okAll acc (cs.take acc.length) = true → okAll ks (cs.take ks.length) = true
 | [], acc, ks, h, _, ha => by
  simp [flatF] at h; subst h; exact ha
 | f :: fs, acc, ks, h, hf, ha => by
  simp only [flatF, Option.bind_eq_some_iff] at h; obtain ⟨l, hl, h⟩ := h; by_cases hc : f.offset = acc.length ∧ P.cellsOf f.type = l.length
  · rw [if_pos hc] at h
    have h1 := hf f (by simp) l hl hc.2; rw [hc.1] at h1; refine okAll_fields fs (acc ++ l) ks h (fun g hg => hf g (by simp [hg])) ?_; have := okAll_append ha h1; rw [List.length_append, List.take_add]; exact this
  · rw [if_neg hc] at h; cases h
section
variable {H : Type} {enc : TypeId × Value → H} {P : Program} {w : World} {base : Nat} {spare : Nat → Bool} {held : Bool}
theorem flat_trod : ∀ (d : Nat) {t : TypeId} {ks : List Kd} {fuel : Nat} {cs : List Value} {x : DataW H × List MemPlace}, flat P d t = some ks → DataW.trod enc P w base spare held fuel t cs = some x → okAll ks cs = true
 | 0, t, ks, fuel, cs, x, h, _ => by simp [flat] at h
 | d + 1, t, ks, fuel, cs, x, h, hx => by
  unfold flat at h; split at h
  · rename_i k hu
    obtain ⟨n, rfl, -, hw⟩ := DataW.trod_int hu hx; cases h
    simp [okAll, Kd.ok, hw]
  · rename_i hu
    cases h
    cases fuel with
    | zero => simp [DataW.trod] at hx
    | succ n =>
     unfold DataW.trod at hx; rw [hu] at hx; split at hx <;> simp_all [okAll, Kd.ok]
  · rename_i n e hu
    rw [Option.bind_eq_some_iff] at h; obtain ⟨l, hl, h⟩ := h; by_cases hc : P.cellsOf t = n * l.length ∧ P.cellsOf e = l.length
    · rw [if_pos hc] at h
      cases h
      obtain ⟨xs, m, -, -, hlen, hxl, hi⟩ := DataW.trod_array hu hx; refine okAll_rep n cs (by rw [hlen, hc.1]) fun i hin => ?_; have := hi i hin; rw [hc.2, List.getElem?_eq_getElem (by omega)] at this; exact flat_trod d hl this
    · rw [if_neg hc] at h; cases h
  · rename_i fs hu
    rw [Option.bind_eq_some_iff] at h; obtain ⟨l, hl, h⟩ := h; by_cases hc : P.cellsOf t = l.length
    · rw [if_pos hc] at h
      cases h
      obtain ⟨xs, m, -, -, hlen, hxl, hi⟩ := DataW.trod_struct hu hx
      have := okAll_fields (cs := cs) fs.toList [] ks hl (fun f hf l' hl' hcl => by
       obtain ⟨j, hj, rfl⟩ := List.getElem_of_mem hf; simp only [Array.length_toList] at hj; have h1 := hi j fs[j] (Array.getElem?_eq_getElem hj); rw [List.getElem?_eq_getElem (by omega)] at h1; simp only [Array.getElem_toList] at hl' hcl ⊢; rw [hcl] at h1; exact flat_trod d hl' h1) rfl
      rw [List.take_of_length_le (by omega)] at this; exact this
    · rw [if_neg hc] at h; cases h
  · cases h
theorem open_flat {d : Nat} {t : TypeId} {ks : List Kd} {r : Reach} {b0 : Nat} {v : Value} {D : DataW H} {ps : List MemPlace} (hf : flat P d t = some ks) (hagg : (match P.underlying t with | some (.struct _) | some (.array _ _) => true | _ => false) = true)
 (hv : Value.okWide P w r b0 t v) (h : DataW.Trod enc P w base spare held t v D ps) : ∃ cs : List Value, v = .agg cs.toArray ∧ okAll ks cs = true := by
 obtain ⟨fuel, hx⟩ := h
 have := flat_trod d hf hx
 unfold Value.okWide at hv
 split at hv
 · obtain ⟨cs, rfl, -, -⟩ := hv
   exact ⟨cs.toList, by simp, by simpa [Value.cells] using this⟩
 · obtain ⟨cs, rfl, -, -⟩ := hv
   exact ⟨cs.toList, by simp, by simpa [Value.cells] using this⟩
 · rename_i h1 h2
   split at hagg
   · rename_i fs hu; exact absurd hu (h1 fs)
   · rename_i n e hu; exact absurd hu (h2 n e)
   · cases hagg
theorem open_flats {d : Nat} {t e : TypeId} {ks : List Kd} {fuel : Nat} {cs : List Value} {x : DataW H × List MemPlace} (ht : P.underlying t = some (.slice e)) (hf : flat P d e = some ks) (hC : P.cellsOf e = ks.length)
 (h : DataW.trod enc P w base spare held fuel t cs = some x) :
 cs = [.slice none 0 0] ∨ ∃ (a : Addr) (len cap : Nat), cs = [.slice (some a) len cap] ∧ len ≤ cap ∧ cap ≤ maxLen ∧
  ∀ i, i < len → ∃ vs, okAll ks vs = true ∧ ∀ j, j < ks.length → w.cell? (a.add (i * ks.length + j)) = vs[j]? := by
 rcases open_slice ht h with ⟨h0, -⟩ | ⟨a, len, cap, m, n, D, Pl, hcs, hb, hl, hm, hmm, hx, hi⟩
 · exact .inl h0
 · refine .inr ⟨a, len, cap, hcs, hl, hm, fun i him => ?_⟩
   obtain ⟨cs', hc, ht'⟩ := hi i (by rw [hmm]; split <;> omega); have hok := flat_trod d hf ht'; refine ⟨cs', hok, fun j hj => ?_⟩; rw [hC] at hc; obtain ⟨_, hcl, hat⟩ := World.cells?_some hc; have := hat j hj; rw [← Go.Deep.add_add]; exact this
end
def IsRows (ks : List Kd) (w : World) (a : Option Addr) (len cap : Nat) : Prop :=
 (a = none ∧ len = 0 ∧ cap = 0) ∨
 ∃ x, a = some x ∧ len ≤ cap ∧ cap ≤ maxLen ∧ ∀ i, i < len → ∃ vs, okAll ks vs = true ∧ ∀ j, j < ks.length → w.cell? (x.add (i * ks.length + j)) = vs[j]?
def Rds (w : World) (B : Nat) (A : Option Addr) (C n : Nat) (rows : List (List Value)) : Prop :=
 rows.length = n ∧ (∀ r ∈ rows, r.length = C) ∧ (0 < n → ∃ b o, A = some ⟨b, o, none⟩ ∧ b < B ∧ ∀ i r j u, rows[i]? = some r → r[j]? = some u → w.cell? ⟨b, o + (i * C + j), none⟩ = some u)
theorem Rds.same {w w' : World} {B C n : Nat} {A : Option Addr} {rows : List (List Value)} (h : Rds w B A C n rows) (hk : ∀ p : Addr, p.block < B → w'.cell? p = w.cell? p) : Rds w' B A C n rows := by
 refine ⟨h.1, h.2.1, fun hn => ?_⟩
 obtain ⟨b, o, e, hb, hc⟩ := h.2.2 hn
 exact ⟨b, o, e, hb, fun i r j u h1 h2 => (hk _ hb).trans (hc i r j u h1 h2)⟩
theorem IsRows.rds {ks : List Kd} {w : World} {a : Option Addr} {len cap : Nat} (h : IsRows ks w a len cap) (hks : 0 < ks.length) :
 ∃ rows, Rds w w.heap.size a ks.length len rows ∧ (∀ r ∈ rows, okAll ks r = true) ∧ len ≤ cap ∧ cap ≤ maxLen := by
 rcases h with ⟨rfl, rfl, rfl⟩ | ⟨x, rfl, h1, h2, h3⟩
 · exact ⟨[], ⟨rfl, by simp, fun h => absurd h (by omega)⟩, by simp, by omega, by unfold maxLen; omega⟩
 · obtain ⟨V, hV⟩ := choose_lt (α := List Value) (p := fun i vs => okAll ks vs = true ∧ ∀ j, j < ks.length → w.cell? (x.add (i * ks.length + j)) = vs[j]?) h3
   refine ⟨(List.range len).map V, ⟨by simp, ?_, fun hn => ?_⟩, ?_, h1, h2⟩
   · intro r hr
     obtain ⟨i, hi, rfl⟩ := List.mem_map.1 hr; exact zaz (hV i (List.mem_range.1 hi)).1
   · have h0 := hV 0 hn
     have hl0 := zaz h0.1; have hc0 := h0.2 0 hks; rw [Nat.zero_mul, Nat.add_zero, List.getElem?_eq_getElem (by omega)] at hc0; have e0 : x.add 0 = x := rfl; rw [e0] at hc0; obtain ⟨b, o, s⟩ := x; have hs := World.cell?_spot hc0; simp at hs; subst hs; refine ⟨b, o, rfl, World.block_lt_of_cell? w _ hc0, fun i r j u h4 h5 => ?_⟩; rw [List.getElem?_map] at h4; cases hi : (List.range len)[i]? with
     | none => rw [hi] at h4; cases h4
     | some i' =>
      rw [hi] at h4; have hlt : i < len := by have := (List.getElem?_eq_some_iff.1 hi).1; simpa using this
      have : i' = i := by simpa [hlt] using hi.symm
      subst this; cases h4
      obtain ⟨h6, h7⟩ := hV i' hlt; have hj : j < ks.length := by have := (List.getElem?_eq_some_iff.1 h5).1; rw [zaz h6] at this; exact this
      have := h7 j hj; rw [h5, Addr.add_lit] at this; exact this
   · intro r hr
     obtain ⟨i, hi, rfl⟩ := List.mem_map.1 hr; exact (hV i (List.mem_range.1 hi)).1
end Go.Proofs.YtpbigfopmompfaaGreat
