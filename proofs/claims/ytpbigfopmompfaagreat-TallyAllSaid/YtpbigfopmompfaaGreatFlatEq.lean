import Derived.Test.YtpbigfopmompfaaGreatFlat
import Derived.Laws.StructEq
import Derived.ChangeKeysEq
/- Two values of a type of numbers and truths alone, held against each other: cell by cell. -/
namespace Go.Proofs.YtpbigfopmompfaaGreat
open Go.RowKit
def vEq : Value → Value → Bool
 | .int _ a, .int _ b => a == b
 | .bool a, .bool b => a == b
 | _, _ => false
def lEq : List Value → List Value → Bool
 | [], [] => true
 | x :: xs, y :: ys => vEq x y && lEq xs ys
 | _, _ => false
theorem lEq_append : ∀ {xs ys xs' ys' : List Value}, xs.length = ys.length → lEq (xs ++ xs') (ys ++ ys') = (lEq xs ys && lEq xs' ys')
 | [], [], _, _, _ => by simp [lEq]
 | x :: xs, y :: ys, _, _, h => by
  simp only [List.cons_append, lEq, lEq_append (show xs.length = ys.length by simpa using h), Bool.and_assoc]
 | [], _ :: _, _, _, h => by simp at h
 | _ :: _, [], _, _, h => by simp at h
theorem lEq_iff : ∀ {ks : List Kd} {xs ys : List Value}, okAll ks xs = true → okAll ks ys = true → (lEq xs ys = true ↔ xs = ys)
 | [], [], [], _, _ => by simp [lEq]
 | k :: ks, x :: xs, y :: ys, hx, hy => by
  simp only [okAll, Bool.and_eq_true] at hx hy; have ih := lEq_iff (xs := xs) (ys := ys) hx.2 hy.2; cases k with
  | int k =>
   obtain ⟨a, rfl, -⟩ := zb3 hx.1; obtain ⟨b, rfl, -⟩ := zb3 hy.1; simp [lEq, vEq, ih]
  | bool =>
   obtain ⟨a, rfl⟩ := ok_bool hx.1; obtain ⟨b, rfl⟩ := ok_bool hy.1; simp [lEq, vEq, ih]
 | [], _ :: _, _, hx, _ => by simp [okAll] at hx
 | [], [], _ :: _, _, hy => by simp [okAll] at hy
 | _ :: _, [], _, hx, _ => by simp [okAll] at hx
 | _ :: _, _ :: _, [], _, hy => by simp [okAll] at hy
theorem lEq_self {ks : List Kd} {xs : List Value} (h : okAll ks xs = true) : lEq xs xs = true := (lEq_iff h h).2 rfl
theorem zbt : ∀ {a b : List Kd} {xs : List Value}, okAll (a ++ b) xs = true → okAll a (xs.take a.length) = true ∧ okAll b (xs.drop a.length) = true
 | [], _, _, h => by simpa [okAll] using h
 | k :: a, b, x :: xs, h => by
  simp only [List.cons_append, okAll, Bool.and_eq_true] at h; obtain ⟨h1, h2⟩ := zbt h.2; simp only [List.length_cons, List.take_succ_cons, List.drop_succ_cons, okAll, Bool.and_eq_true]; exact ⟨⟨h.1, h1⟩, h2⟩
 | k :: a, b, [], h => by simp [okAll] at h
theorem okAll_chunk {ks : List Kd} : ∀ (n : Nat) {xs : List Value}, okAll (List.replicate n ks).flatten xs = true → ∀ i, i < n → okAll ks ((xs.drop (i * ks.length)).take ks.length) = true
 | 0, _, _, i, hi => absurd hi (by omega)
 | n + 1, xs, h, i, hi => by
  rw [List.replicate_succ, List.flatten_cons] at h; obtain ⟨h1, h2⟩ := zbt h; cases i with
  | zero => simpa using h1
  | succ i =>
   have := okAll_chunk n h2 i (by omega); rw [List.drop_drop, show ks.length + i * ks.length = (i + 1) * ks.length by rw [Nat.succ_mul]; omega] at this; exact this
theorem flatF_prefix {go : TypeId → Option (List Kd)} {P : Program} : ∀ (fs : List Field) (acc ks : List Kd), flatF go P fs acc = some ks → ∃ r, ks = acc ++ r
 | [], acc, ks, h => ⟨[], by simp [flatF] at h; simp [h]⟩
 | f :: fs, acc, ks, h => by
  simp only [flatF, Option.bind_eq_some_iff] at h; obtain ⟨l, hl, h⟩ := h; by_cases hc : f.offset = acc.length ∧ P.cellsOf f.type = l.length
  · rw [if_pos hc] at h
    obtain ⟨r, hr⟩ := flatF_prefix fs _ _ h; exact ⟨l ++ r, by rw [hr, List.append_assoc]⟩
  · rw [if_neg hc] at h; cases h
def aggB (P : Program) (t : TypeId) : Bool := match P.underlying t with | some (.struct _) => true | some (.array _ _) => true | _ => false
def wrapV (P : Program) (t : TypeId) (xs : List Value) : Value := if aggB P t then .agg xs.toArray else xs.headD undef
def eqOk (P : Program) : Nat → TypeId → Bool
 | 0, _ => false
 | d + 1, t => (P.info? t).isSome && match P.underlying t with
  | some (.struct fs) => !P.stoodInHeld t && fs.toList.all fun f => f.name != "_" && eqOk P d f.type
  | some (.array _ e) => eqOk P d e
  | _ => true
theorem eqOk_info {P : Program} {d : Nat} {t : TypeId} (h : eqOk P d t = true) : ∃ i, P.info? t = some i := by
 cases d with
 | zero => cases h
 | succ d =>
  simp only [eqOk, Bool.and_eq_true] at h; exact Option.isSome_iff_exists.1 h.1
section
variable {P : Program} (w : World)
theorem flat_kind {d : Nat} {t : TypeId} {ks : List Kd} (h : flat P d t = some ks) : (∃ k, P.underlying t = some (.int k)) ∨ P.underlying t = some .bool ∨ (∃ fs, P.underlying t = some (.struct fs)) ∨ ∃ n e, P.underlying t = some (.array n e) := by
 cases d with
 | zero => cases h
 | succ d =>
  unfold flat at h; split at h
  · exact .inl ⟨_, ‹_›⟩
  · exact .inr (.inl ‹_›)
  · exact .inr (.inr (.inr ⟨_, _, ‹_›⟩))
  · exact .inr (.inr (.inl ⟨_, ‹_›⟩))
  · cases h
theorem run_part {d : Nat} {t : TypeId} {ks : List Kd} {i : TypeInfo} (hf : flat P d t = some ks) (hi : P.info? t = some i) (hc : P.cellsOf t = ks.length) (zs : List Value) (off : Nat) (hl : off + ks.length ≤ zs.length) :
 (part t zs.toArray off).run P w = .ok (wrapV P t ((zs.drop off).take ks.length)) w := by
 have hs := run_sizeOf (P := P) (w := w) hi
 rw [hc] at hs
 have e : zs.toArray.extract off (off + ks.length) = ((zs.drop off).take ks.length).toArray := by
  rw [List.extract_toArray]; simp
 have one : ks.length = 1 → ∃ v, zs[off]? = some v ∧ ((zs.drop off).take ks.length).headD undef = v := by
  intro h1; rw [h1]; refine ⟨_, List.getElem?_eq_getElem (by omega), ?_⟩; rw [List.drop_eq_getElem_cons (by omega)]; rfl
 rcases flat_kind hf with ⟨k, hd⟩ | hd | ⟨fs, hd⟩ | ⟨n, e', hd⟩
 · obtain ⟨v, h1, h2⟩ := one (by cases d with | zero => cases hf | succ d => (unfold flat at hf; rw [hd] at hf; cases hf; rfl))
   unfold wrapV aggB; rw [hd, h2]; simp [part, isAgg, run_underlying hd, h1]
 · obtain ⟨v, h1, h2⟩ := one (by cases d with | zero => cases hf | succ d => (unfold flat at hf; rw [hd] at hf; cases hf; rfl))
   unfold wrapV aggB; rw [hd, h2]; simp [part, isAgg, run_underlying hd, h1]
 · unfold wrapV aggB
   rw [hd, ← e]; simp [part, isAgg, run_underlying hd, hs]
 · unfold wrapV aggB
   rw [hd, ← e]; simp [part, isAgg, run_underlying hd, hs]
theorem chunks_all (n m : Nat) : ∀ (xs ys : List Value), xs.length = n * m → ys.length = n * m → ((List.range n).all fun i => lEq ((xs.drop (i * m)).take m) ((ys.drop (i * m)).take m)) = lEq xs ys := by
 induction n with
 | zero =>
  intro xs ys hx hy; have h1 : xs = [] := List.eq_nil_of_length_eq_zero (by simpa using hx); have h2 : ys = [] := List.eq_nil_of_length_eq_zero (by simpa using hy); subst h1 h2; rfl
 | succ n ih =>
  intro xs ys hx hy; rw [Nat.succ_mul] at hx hy; have h1 := ih (xs.drop m) (ys.drop m) (by rw [List.length_drop]; omega) (by rw [List.length_drop]; omega); rw [List.range_succ_eq_map, List.all_cons, List.all_map]
  have e : lEq xs ys = (lEq (xs.take m) (ys.take m) && lEq (xs.drop m) (ys.drop m)) := by
   rw [← lEq_append (by rw [List.length_take, List.length_take]; omega), List.take_append_drop, List.take_append_drop]
  rw [e, ← h1]; simp only [Nat.zero_mul, List.drop_zero, Function.comp_def, List.drop_drop]; congr 2
  funext i
  rw [show m + i * m = (i + 1) * m by rw [Nat.succ_mul]; omega]
theorem run_eq_flat : ∀ (d : Nat) {t : TypeId} {ks : List Kd}, flat P d t = some ks → eqOk P d t = true → ∀ {xs ys : List Value}, okAll ks xs = true → okAll ks ys = true → ∀ D, d ≤ D →
 (Op.equalIn D t (wrapV P t xs) (wrapV P t ys)).run P w = .ok (lEq xs ys) w
 | 0, t, ks, h, _, _, _, _, _, _, _ => by simp [flat] at h
 | d + 1, t, ks, h, ho, xs, ys, hx, hy, D, hD => by
  obtain ⟨D, rfl⟩ : ∃ D', D = D' + 1 := ⟨D - 1, by omega⟩; have h0 := h; unfold flat at h; split at h
  · rename_i k hu
    cases h
    obtain ⟨x, rfl⟩ := List.length_eq_one_iff.1 (zaz hx); obtain ⟨y, rfl⟩ := List.length_eq_one_iff.1 (zaz hy)
    · simp only [okAll, Bool.and_true] at hx hy
      obtain ⟨a, rfl, -⟩ := zb3 hx; obtain ⟨b, rfl, -⟩ := zb3 hy; have ha : aggB P t = false := by unfold aggB; rw [hu]
      simp only [wrapV, ha, List.headD_cons, Bool.false_eq_true, if_false, lEq, vEq, Bool.and_true]; exact run_equalIn_int w D t k k a b hu
  · rename_i hu
    cases h
    obtain ⟨x, rfl⟩ := List.length_eq_one_iff.1 (zaz hx); obtain ⟨y, rfl⟩ := List.length_eq_one_iff.1 (zaz hy)
    · simp only [okAll, Bool.and_true] at hx hy
      obtain ⟨a, rfl⟩ := ok_bool hx; obtain ⟨b, rfl⟩ := ok_bool hy; have ha : aggB P t = false := by unfold aggB; rw [hu]
      simp only [wrapV, ha, List.headD_cons, Bool.false_eq_true, if_false, lEq, vEq, Bool.and_true]; exact run_equalIn_bool' w D t a b hu
  · rename_i n e hu
    rw [Option.bind_eq_some_iff] at h; obtain ⟨l, hl, h⟩ := h; by_cases hc : P.cellsOf t = n * l.length ∧ P.cellsOf e = l.length
    · rw [if_pos hc] at h
      cases h
      have ha : aggB P t = true := by unfold aggB; rw [hu]
      simp only [wrapV, ha, if_true]
      have hoe : eqOk P d e = true := by
       simp only [eqOk, hu, Bool.and_eq_true] at ho; exact ho.2
      obtain ⟨ie, hie⟩ := eqOk_info hoe; have hs := run_sizeOf (P := P) (w := w) hie; rw [hc.2] at hs; have lx := zaz hx; have ly := zaz hy; have hfl : ((List.replicate n l).flatten).length = n * l.length := by simp
      rw [hfl] at lx ly; rw [← chunks_all n l.length xs ys lx ly, List.range_eq_range', Op.equalIn]; simp only [Sem.run_bind, run_underlying hu, Result.andThen_ok, hs, Std.Legacy.Range.forIn_eq_forIn_range', Std.Legacy.Range.size, Nat.sub_zero, Nat.add_sub_cancel, Nat.div_one]; have hr : ∀ i ∈ List.range' 0 n 1, i < n := fun i hi => by simpa using (List.mem_range'_1.1 hi).2
      generalize List.range' 0 n 1 = r at hr ⊢; induction r with
      | nil => simp
      | cons i r ih =>
       have hi : i < n := hr i (by simp)
       have him : i * l.length + l.length ≤ n * l.length := by
        have := Nat.mul_le_mul_right l.length (show i + 1 ≤ n by omega); rw [Nat.succ_mul] at this; exact this
       have px := run_part w hl hie hc.2 xs (i * l.length) (by omega); have py := run_part w hl hie hc.2 ys (i * l.length) (by omega); have pe := run_eq_flat d hl hoe (okAll_chunk n hx i hi) (okAll_chunk n hy i hi) D (by omega); simp only [List.forIn_cons, Sem.run_bind, px, py, pe, Result.andThen_ok, List.all_cons]; cases hb : lEq ((xs.drop (i * l.length)).take l.length) ((ys.drop (i * l.length)).take l.length)
       · simp
       · simp only [Bool.not_true, Bool.false_eq_true, if_false, Sem.run_pure, Result.andThen_ok, Bool.true_and]
         exact ih fun j hj => hr j (by simp [hj])
    · rw [if_neg hc] at h; cases h
  · rename_i fs hu
    rw [Option.bind_eq_some_iff] at h; obtain ⟨l, hl, h⟩ := h; by_cases hc : P.cellsOf t = l.length
    · rw [if_pos hc] at h
      cases h
      have ha : aggB P t = true := by unfold aggB; rw [hu]
      simp only [wrapV, ha, if_true]; simp only [eqOk, hu, Bool.and_eq_true, Bool.not_eq_true'] at ho; obtain ⟨-, hp, hfs⟩ := ho; have hfo : P.fieldsOf t = fs := by unfold Program.fieldsOf; rw [hu]
      rw [run_equalIn_struct w D t _ _ (by rw [hfo]; exact hu) hp, hfo]
      have key : ∀ (gs : List Field) (acc : List Kd), flatF (flat P d) P gs acc = some ks → (gs.all fun f => f.name != "_" && eqOk P d f.type) = true →
       (Op.eqFields D xs.toArray ys.toArray gs).run P w = .ok (lEq (xs.drop acc.length) (ys.drop acc.length)) w := by
       intro gs; induction gs with
       | nil =>
        intro acc hac _; simp [flatF] at hac; subst hac; rw [List.drop_eq_nil_of_le (by rw [zaz hx]; omega), List.drop_eq_nil_of_le (by rw [zaz hy]; omega)]; simp [Op.eqFields, lEq]
       | cons f gs ih =>
        intro acc hac hall; simp only [List.all_cons, Bool.and_eq_true] at hall; obtain ⟨⟨hname, hof⟩, hall⟩ := hall; simp only [flatF, Option.bind_eq_some_iff] at hac; obtain ⟨m, hm, hac⟩ := hac; by_cases hcf : f.offset = acc.length ∧ P.cellsOf f.type = m.length
        · rw [if_pos hcf] at hac
          obtain ⟨r, hr⟩ := flatF_prefix gs _ _ hac; have hx2 := hx; have hy2 := hy; rw [hr, List.append_assoc] at hx2 hy2; obtain ⟨-, x1⟩ := zbt hx2; obtain ⟨-, y1⟩ := zbt hy2; obtain ⟨x3, -⟩ := zbt x1; obtain ⟨y3, -⟩ := zbt y1; have lx := zaz hx; have ly := zaz hy; have lk : ks.length = acc.length + m.length + r.length := by rw [hr]; simp [Nat.add_assoc]
          obtain ⟨inf, hinf⟩ := eqOk_info hof; have px := run_part w hm hinf hcf.2 xs acc.length (by omega); have py := run_part w hm hinf hcf.2 ys acc.length (by omega); have pe := run_eq_flat d hm hof x3 y3 D (by omega); have hn : f.name ≠ "_" := by simpa using hname
          have hrest := ih _ hac hall; simp only [Op.eqFields, if_pos hn, Sem.run_bind, hcf.1, px, py, pe, Result.andThen_ok]
          have e : lEq (xs.drop acc.length) (ys.drop acc.length) = (lEq ((xs.drop acc.length).take m.length) ((ys.drop acc.length).take m.length) && lEq (xs.drop (acc ++ m).length) (ys.drop (acc ++ m).length)) := by
           rw [List.length_append, ← List.drop_drop, ← List.drop_drop, ← lEq_append (by rw [List.length_take, List.length_take, List.length_drop, List.length_drop]; omega), List.take_append_drop, List.take_append_drop]
          rw [e]; cases lEq ((xs.drop acc.length).take m.length) ((ys.drop acc.length).take m.length)
          · simp
          · simpa using hrest
        · rw [if_neg hcf] at hac; cases hac
      have := key fs.toList [] hl hfs; simpa using this
    · rw [if_neg hc] at h; cases h
  · cases h
theorem run_eql_flat {d : Nat} {t : TypeId} {ks : List Kd} (hf : flat P d t = some ks) (ho : eqOk P d t = true) (ha : aggB P t = true) (hd : d ≤ 10000) {xs ys : List Value} (hx : okAll ks xs = true) (hy : okAll ks ys = true) :
 (binOp .eql t (.agg xs.toArray) (.agg ys.toArray)).run P w = .ok (.bool (lEq xs ys)) w := by
 have h := run_eq_flat w d hf ho hx hy 10000 hd
 simp only [wrapV, ha, if_true] at h
 rw [run_eql_struct, h]
 rfl
theorem run_neq_flat {d : Nat} {t : TypeId} {ks : List Kd} (hf : flat P d t = some ks) (ho : eqOk P d t = true) (ha : aggB P t = true) (hd : d ≤ 10000) {xs ys : List Value} (hx : okAll ks xs = true) (hy : okAll ks ys = true) :
 (binOp .neq t (.agg xs.toArray) (.agg ys.toArray)).run P w = .ok (.bool (!lEq xs ys)) w := by
 have h := run_eq_flat w d hf ho hx hy 10000 hd
 simp only [wrapV, ha, if_true] at h
 rw [run_neq_struct, h]
 rfl
end
end Go.Proofs.YtpbigfopmompfaaGreat
