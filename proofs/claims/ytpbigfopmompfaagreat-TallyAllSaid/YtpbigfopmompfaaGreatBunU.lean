import Derived.Test.YtpbigfopmompfaaGreatBunN
import Derived.Test.YtpbigfopmompfaaGreatOwnRows
import Derived.Test.YtpbigfopmompfaaGreatBunS
import Derived.Deep.DeepCutAuto
import Derived.Deep.QuietTactic
import Derived.BigQuiet
import Derived.Test.YtpbigfopmompfaaGreatBegun5
import Derived.Test.YtpbigfopmompfaaGreatBunQ
import Derived.Test.YtpbigfopmompfaaGreatBegun13
import Derived.StillTailTactics
import Derived.Test.YtpbigfopmompfaaGreatRegion
import Derived.Test.YtpbigfopmompfaaGreatRefSet
/- What a claim's proof leans on: PutMid, Ref13, Ops13, Tallies, Still, HeldLaw, RefMask. -/
namespace Go.Proofs.YtpbigfopmompfaaGreat
open Go.RowKit
set_option linter.unusedVariables false
theorem wp_put_mid' {P : Program} {o : Oper} {a : Act} {w : World} {K : Act → World → Prop} {Q : Exit → Act → World → Prop} (ty : TypeId) (x y : Operand) (ho : o.op = .store ty x y) (g i : Nat) (new : List Value) (hx : a.eval x = .pointer (some ⟨g, i, none⟩)) (hy : a.eval y = .agg new.toArray)
 (t : TypeId) (old : List Value) (hg : w.heap[g]? = some (.cells old.toArray t (0, 0))) (hi : (P.info? ty).map (·.size) = some new.length) (hold : i + new.length ≤ old.length) (h1 : ∀ v ∈ new, v.oneCell' = true)
 (h : ∀ w', Upd g (.cells (splice old i new).toArray t (0, 0)) w w' → K (a.put o.dst undef) w') : o.wp P a w K Q := by
 have hU := upd_setCells (i := i) hg hold
 refine wp_store_mid ty x y ho g i new.toArray hx hy (fun j hj => ?_) (by simpa using hi) (all_oneCell_toArray h1) (by simpa using h _ hU)
 have hj' : i + j < old.length := by simp at hj; omega
 refine ⟨?_, zar hg _⟩
 rw [zaf hg, List.getElem?_toArray, List.getElem?_eq_getElem hj']; rfl
theorem wp_build' {P : Program} {o : Oper} {a : Act} {w : World} {K : Act → World → Prop} {Q : Exit → Act → World → Prop} (t : TypeId) (parts : Array (Nat × Operand)) (ho : o.op = .build t parts) (ps : List (Nat × Value)) (hps : parts.toList.map (fun p => (p.1, a.eval p.2)) = ps)
 (cells : Array Value) (hb : P.built t ps = some cells) (h : K (a.put o.dst (.agg cells)) w) : o.wp P a w K Q := by
 have e : (parts.map fun (i, x) => (i, a.eval x)).toList = ps := by rw [← hps, Array.toList_map]
 exact wp_build t parts ho (by rw [e, hb]; rfl) (by rw [e, hb]; exact h)
theorem wp_box' {P : Program} {o : Oper} {a : Act} {w : World} {K : Act → World → Prop} {Q : Exit → Act → World → Prop} (t : TypeId) (x : Operand) (ho : o.op = .box t x) (cells : Array Value) (hx : a.eval x = .agg cells)
 (h : K (a.put o.dst (.pointer (some ⟨w.heap.size, 0, none⟩))) (w.alloc (.cells cells t))) : o.wp P a w K Q := by
 unfold Oper.wp execOp
 simp [ho, hx, Instr.box]
 exact h
theorem splice_rows {C : Nat} {r' : List Value} (hr' : r'.length = C) : ∀ {rows : List (List Value)} {i : Nat}, (∀ r ∈ rows, r.length = C) → i < rows.length → splice rows.flatten (i * C) r' = (rows.set i r').flatten
 | [], _, _, h => by simp at h
 | r :: rs, 0, hC, _ => by
  have hr := hC r (by simp); simp [splice, hr', ← hr]
 | r :: rs, i + 1, hC, hi => by
  have hr := hC r (by simp); have ih := splice_rows hr' (rows := rs) (i := i) (fun r h => hC r (by simp [h])) (by simpa using hi); unfold splice at ih ⊢; rw [List.set_cons_succ, List.flatten_cons, List.flatten_cons, ← ih, show (i + 1) * C = r.length + i * C by rw [Nat.succ_mul, hr]; omega, List.take_length_add_append, show r.length + i * C + r'.length = r.length + (i * C + r'.length) by omega, List.drop_length_add_append, List.append_assoc]
end Go.Proofs.YtpbigfopmompfaaGreat
namespace Go.Proofs.YtpbigfopmompfaaGreat.rtab
open Go.RowKit
open Go.Proofs.YtpbigfopmompfaaGreat.nand (zax)
set_option linter.unusedVariables false
structure St where
 (is : Bool) (b r s m q o : Int)
def St.v (x : St) : List Value := [.bool x.is, .int .i64 x.b, .int .i64 x.r, .int .i64 x.s, .int .i64 x.m, .int .i64 x.q, .int .i64 x.o]
def St.none : St := ⟨false, 0, 0, 0, 0, 0, 0⟩
def rowsR (l : List St) : List (List Value) := l.map St.v
theorem rowsR_len (l : List St) : ∀ r ∈ rowsR l, r.length = 7 := by
 intro r hr
 obtain ⟨x, -, rfl⟩ := List.mem_map.1 hr
 rfl
structure RefAt (w : World) (tb rb N : Nat) (l : List St) (nx : Int) : Prop where
 len : l.length = N
 big : N ≤ 65536
 head : w.heap[tb]? = some (.cells #[.slice (some ⟨rb, 0, none⟩) N N, .int .i64 nx] 135 (0, 0))
 rows : w.heap[rb]? = some (.cells (rowsR l).flatten.toArray 137 (0, 0))
def RefF (tb rb k : Nat) : Prop := k = tb ∨ k = rb
section
variable {w w' : World} {tb rb N : Nat} {l : List St} {nx : Int}
theorem RefAt.below (h : RefAt w tb rb N l nx) (hb : Below w.heap.size w w') : RefAt w' tb rb N l nx := ⟨h.len, h.big, zad h.head hb, zad h.rows hb⟩
theorem RefAt.keep {S : Nat → Prop} (h : RefAt w tb rb N l nx) (hk : Keep S w w') (hn : ∀ k, RefF tb rb k → ¬ S k) : RefAt w' tb rb N l nx := ⟨h.len, h.big, zay h.head hk (hn _ (.inl rfl)), zay h.rows hk (hn _ (.inr rfl))⟩
theorem RefAt.ne (h : RefAt w tb rb N l nx) : tb ≠ rb := nand.za3 h.head h.rows (by simp [nand.kindO] <;> decide)
theorem RefAt.lt (h : RefAt w tb rb N l nx) : tb < w.heap.size ∧ rb < w.heap.size := ⟨zag h.head, zag h.rows⟩
theorem RefAt.cell (h : RefAt w tb rb N l nx) {i : Nat} {x : St} (hx : l[i]? = some x) {j : Nat} {u : Value} (hu : x.v[j]? = some u) : w.cell? ⟨rb, i * 7 + j, none⟩ = some u := by
 have hj : j < 7 := (List.getElem?_eq_some_iff.1 hu).1
 rw [zaf h.rows, List.getElem?_toArray, zbd (rowsR_len l) (i := i) (r := x.v) (by simp [rowsR, hx]) hj]
 exact hu
end
theorem one_st (x : St) : ∀ u ∈ x.v, u.oneCell' = true := by
 intro u hu
 simp [St.v] at hu
 rcases hu with rfl | rfl | rfl | rfl | rfl | rfl | rfl <;> rfl
theorem RefAt.stored {w w' : World} {tb rb N : Nat} {l : List St} {nx : Int} (h : RefAt w tb rb N l nx) {i : Nat} {x : St} (hU : Upd rb (.cells (splice (rowsR l).flatten (i * 7) x.v).toArray 137 (0, 0)) w w') (hi : i < l.length) : RefAt w' tb rb N (l.set i x) nx := by
 refine ⟨by rw [List.length_set]; exact h.len, h.big, hU.old h.head h.ne, ?_⟩
 have := hU.at_
 rw [splice_rows (C := 7) (show x.v.length = 7 from rfl) (rowsR_len l) (by simpa [rowsR] using hi)] at this
 rw [show rowsR (l.set i x) = (rowsR l).set i x.v by simp [rowsR, List.map_set]]
 exact this
theorem RefAt.setNext {w : World} {tb rb N : Nat} {l : List St} {nx : Int} (h : RefAt w tb rb N l nx) (k : Nat) (v : Int) : RefAt ((w.drewN k).setCell ⟨tb, 1, none⟩ (.int .i64 v)) tb rb N l v := by
 have h' := h.below (zau (Below.refl _ w) k)
 refine ⟨h.len, h.big, ?_, blk_set (p := ⟨tb, 1, none⟩) h'.rows (fun e => h.ne e.symm) _⟩
 have := heap_set2 (i := 1) h'.head (.int .i64 v)
 exact this
theorem keep_setNext {w0 w : World} {tb rb : Nat} (h : Keep (RefF tb rb) w0 w) (k : Nat) (v : Value) : Keep (RefF tb rb) w0 ((w.drewN k).setCell ⟨tb, 1, none⟩ v) := (h.drewN k).setCell (p := ⟨tb, 1, none⟩) (.inl (.inl rfl)) v
theorem built_st (b row slot m sq r : Int) : Tryz.prog.built 137 [(0, .bool true), (1, .agg #[.int .i64 b, .int .i64 row, .int .i64 slot]), (2, .int .i64 m), (3, .int .i64 sq), (4, .int .i64 r)] = some (St.v ⟨true, b, row, slot, m, sq, r⟩).toArray := by kernel_rfl
theorem stInfo : (Tryz.prog.info? 137).map (·.size) = some 7 := by kernel_rfl
theorem stInfo3 : (Tryz.prog.info? 137).map (fun i => (i.zero, i.size, i.bytes)) = some (some (.agg St.none.v.toArray), 7, 56) := by kernel_rfl
theorem made_st (w : World) : (Instr.makeSlice 133 (.int .i64 40) (.int .i64 40)).run Tryz.prog w = .ok (.slice (some ⟨w.heap.size, 0, none⟩) 40 40) (w.alloc (.cells (rowsR (List.replicate 40 St.none)).flatten.toArray 137)) := by
 rw [show rowsR (List.replicate 40 St.none) = List.replicate 40 St.none.v by simp [rowsR]]
 exact run_make_rows 133 137 _ St.none.v 7 56 Tryz.underlying133 stInfo3 rfl rfl (by omega) 40 (by omega) (by omega) w
theorem built_rt (lb : Nat) : Tryz.prog.built 135 [(0, .slice (some ⟨lb, 0, none⟩) 40 40), (1, .int .i64 1)] = some #[.slice (some ⟨lb, 0, none⟩) 40 40, .int .i64 1] := by kernel_rfl
set_option maxRecDepth 100000 in
set_option maxHeartbeats 4000000 in
theorem new40 (w : World) : Calls Tryz.prog 70 #[.int .i64 40] w fun e w' => ∃ tb rb, e = .returned (.pointer (some ⟨tb, 0, none⟩)) ∧ RefAt w' tb rb 40 (List.replicate 40 St.none) 1 ∧ w.heap.size ≤ tb ∧ w.heap.size ≤ rb ∧ Below w.heap.size w w' := by
 have hmk := made_st
 have hbt := built_rt
 have hm1 : min (40 : Int) 65536 = 40 := rfl
 have hm2 : max (0 : Int) 40 = 40 := rfl
 go_enter Tryz.func70, Tryz.ntmps70
 go_wp2_with fail
 go_ret
 refine ⟨w.heap.size + 1, w.heap.size, rfl, ⟨by simp, by decide, ?_, ?_⟩, by omega, by omega, ?_⟩
 · exact zak (w.alloc (.cells (rowsR (List.replicate 40 St.none)).flatten.toArray 137)) (.cells #[.slice (some ⟨w.heap.size, 0, none⟩) 40 40, .int .i64 1] 135) _ (by simp)
 · exact zbi w (.cells (rowsR (List.replicate 40 St.none)).flatten.toArray 137) (.cells #[.slice (some ⟨w.heap.size, 0, none⟩) 40 40, .int .i64 1] 135)
 · exact below2 w (.cells (rowsR (List.replicate 40 St.none)).flatten.toArray 137) (.cells #[.slice (some ⟨w.heap.size, 0, none⟩) 40 40, .int .i64 1] 135)
def PutPost (tb rb N : Nat) (w : World) (e : Ending) (w' : World) : Prop := ∃ v l' nx', e = .returned (.bool v) ∧ RefAt w' tb rb N l' nx' ∧ Keep (RefF tb rb) w w'
set_option maxRecDepth 100000 in
set_option maxHeartbeats 8000000 in
theorem put_any {w : World} {tb rb N : Nat} {l : List St} {nx : Int} (h : RefAt w tb rb N l nx) (lp sq r b row slot m : Int) (d : List Nat) (hd : d.length = 16) :
 Calls Tryz.prog 71 #[.pointer (some ⟨tb, 0, none⟩), .agg (enV lp sq r d).toArray, .agg #[.int .i64 b, .int .i64 row, .int .i64 slot], .int .i64 m] w (PutPost tb rb N w) := by
 have hb0 := below2 w (.cells (enV lp sq r d).toArray 29) (.cells #[.int .i64 b, .int .i64 row, .int .i64 slot] 31)
 have he := zbi w (.cells (enV lp sq r d).toArray 29) (.cells #[.int .i64 b, .int .i64 row, .int .i64 slot] 31)
 have hp := zak (w.alloc (.cells (enV lp sq r d).toArray 29)) (.cells #[.int .i64 b, .int .i64 row, .int .i64 slot] 31) (w.heap.size + 1) (by simp)
 have h2 := h.below hb0
 have HT := Lib.hid h2
 have HK0 := Lib.hid (Keep.of_new (S := RefF tb rb) hb0)
 have HS := Lib.hid (show tb < w.heap.size ∧ rb < w.heap.size from h.lt)
 go_enter Tryz.func71, Tryz.ntmps71
 go_upto_region 1 with fail
 change Code.wp _ _ _ _ ((w.alloc (.cells (enV lp sq r d).toArray 29)).alloc (.cells #[.int .i64 b, .int .i64 row, .int .i64 slot] 31))
 generalize (w.alloc (.cells (enV lp sq r d).toArray 29)).alloc (.cells #[.int .i64 b, .int .i64 row, .int .i64 slot] 31) = w2 at *
 have e0 : w2.cell? ⟨w.heap.size, 0, none⟩ = some (.int .i64 lp) := by rw [zaf he]; rfl
 have e1 : w2.cell? ⟨w.heap.size, 1, none⟩ = some (.int .i64 sq) := by rw [zaf he]; rfl
 have e2 : w2.cell? ⟨w.heap.size, 2, none⟩ = some (.int .i64 r) := by rw [zaf he]; rfl
 have c0 : w2.cell? ⟨tb, 0, none⟩ = some (.slice (some ⟨rb, 0, none⟩) N N) := by rw [zaf h2.head]; rfl
 have c1 : w2.cell? ⟨tb, 1, none⟩ = some (.int .i64 nx) := by rw [zaf h2.head]; rfl
 have f1 : w2.frozen? ⟨tb, 1, none⟩ = false := zar h2.head 1
 have HE := Lib.hid he
 have HP := Lib.hid hp
 have hN := h.big
 have NO := Lib.hid (show ∀ k, PutPost tb rb N w (.returned (.bool false)) (w2.drewN k) from fun k => ⟨_, _, _, rfl, HT.out.below (zau (Below.refl _ w2) k), HK0.out.drewN k⟩)
 clear he hp h2 h hb0 f1
 by_cases a1 : lp < 0
 · go_quiet (fail)
   go_wp2_with fail
   go_ret
   exact NO.out _
 · by_cases a2 : (N : Int) ≤ lp
   · go_quiet (fail)
     go_wp2_with fail
     go_ret
     exact NO.out _
   · obtain ⟨i, rfl⟩ := Int.eq_ofNat_of_zero_le (show 0 ≤ lp by omega)
     have hiN : i < N := by omega
     have a2' : decide (N ≤ i) = false := by simp; omega
     cases hr : tab.roleB r with
     | false =>
      unfold tab.roleB at hr; simp only [Bool.or_eq_false_iff] at hr; obtain ⟨⟨r1, r2⟩, r3⟩ := hr; have q1 : (r != (1 : Int)) = true := by simpa using r1
      have q2 : (r != (2 : Int)) = true := by simpa using r2
      have q3 : (r != (4 : Int)) = true := by simpa using r3
      clear r1 r2 r3; go_quiet (fail)
      go_wp2_with fail
      go_ret
      exact NO.out _
     | true =>
      obtain ⟨x, hx⟩ : ∃ x, l[i]? = some x := ⟨_, List.getElem?_eq_getElem (show i < l.length by rw [HT.out.len]; exact hiN)⟩; obtain ⟨is, xq, hxi, hxq⟩ : ∃ is xq, is = x.is ∧ xq = x.q := ⟨_, _, rfl, rfl⟩; have d0 : w2.cell? ⟨rb, i * 7, none⟩ = some (.bool is) := by rw [hxi]; exact HT.out.cell hx (j := 0) rfl
      have d5 : w2.cell? ⟨rb, i * 7 + 5, none⟩ = some (.int .i64 xq) := by rw [hxq]; exact HT.out.cell hx (j := 5) rfl
      have HX := Lib.hid hx; clear hx hxi hxq; obtain ⟨bad, hbad⟩ : ∃ bad, bad = (is && decide (sq < xq)) := ⟨_, rfl⟩; have HBAD := Lib.hid hbad; clear hbad; go_cut [61] (fun v wx => v = .bool bad ∧ ∃ k, wx = w2.drewN k)
      case first =>
       have fin : ∀ k, Value.bool bad = .bool bad ∧ ∃ k', w2.drewN k = w2.drewN k' := fun k => ⟨rfl, k, rfl⟩
       have HFIN := Lib.hid fin; unfold tab.roleB at hr
       have HRR : Hid ((r != (1 : Int)) = false ∨ ((r != (1 : Int)) = true ∧ (r != (2 : Int)) = false) ∨ ((r != (1 : Int)) = true ∧ (r != (2 : Int)) = true ∧ (r != (4 : Int)) = false)) := Lib.hid (by
        by_cases r1 : r = 1
        · exact .inl (by simp [r1])
        · by_cases r2 : r = 2
          · exact .inr (.inl ⟨by simpa using r1, by simp [r2]⟩)
          · exact .inr (.inr ⟨by simpa using r1, by simpa using r2, by simp [r1, r2] at hr; simp [hr]⟩))
       have HBB : Hid ((is = false ∧ bad = false) ∨ (is = true ∧ sq < xq ∧ bad = true) ∨ (is = true ∧ ¬ sq < xq ∧ bad = false)) := Lib.hid (by
        rw [HBAD.out]; cases is with
        | false => exact .inl ⟨rfl, rfl⟩
        | true =>
         by_cases h : sq < xq
         · exact .inr (.inl ⟨rfl, h, by simp [h]⟩)
         · exact .inr (.inr ⟨rfl, h, by simp [h]⟩))
       clear hr fin HBAD; rcases HBB.out with ⟨rfl, rfl⟩ | ⟨rfl, hs, rfl⟩ | ⟨rfl, hs, rfl⟩
       all_goals clear HBB
       all_goals rcases HRR.out with q1 | ⟨q1, q2⟩ | ⟨q1, q2, q3⟩
       all_goals clear HRR
       all_goals
        go_quiet (fail)
        go_wp2_with fail
        go_meet
        exact ⟨rfl, _, rfl⟩
      case rest =>
       obtain ⟨rfl, k0, rfl⟩ := hcut; cases bad with
       | true =>
        go_wp2_with fail
        go_ret
        exact NO.out _
       | false =>
        have hTk := HT.out.below (zau (Below.refl _ w2) k0); have hEk : (w2.drewN k0).heap[w.heap.size]? = some (.cells (enV i sq r d).toArray 29 (0, 0)) := HE.out; have hPk : (w2.drewN k0).heap[w.heap.size + 1]? = some (.cells ([.int .i64 b, .int .i64 row, .int .i64 slot] : List Value).toArray 31 (0, 0)) := HP.out; have hKk := HK0.out.drewN k0; clear HT HE HP HK0 NO e0 e1 e2 c0 c1 d0 d5 HBAD HX; generalize w2.drewN k0 = wa at *; have HT := Lib.hid hTk; have HE := Lib.hid hEk; have HP := Lib.hid hPk; have HKA := Lib.hid hKk; obtain ⟨EB, hEB⟩ : ∃ EB, EB = w.heap.size := ⟨_, rfl⟩; rw [← hEB] at hEk HE; rw [← hEB] at hPk HP; have HNE := Lib.hid (show EB ≠ rb ∧ EB + 1 ≠ rb ∧ EB ≠ tb by have := HS.out; omega); simp only [← hEB]; obtain ⟨xn, hxn⟩ : ∃ xn : St, xn = ⟨true, b, row, slot, m, sq, r⟩ := ⟨_, rfl⟩; have HBS := Lib.hid (show Tryz.prog.built 137 [(0, .bool true), (1, .agg #[.int .i64 b, .int .i64 row, .int .i64 slot]), (2, .int .i64 m), (3, .int .i64 sq), (4, .int .i64 r)] = some xn.v.toArray by rw [hxn]; exact built_st b row slot m sq r); have HIN := Lib.hid (show i < l.length by rw [HT.out.len]; exact hiN)
        have HSZ := Lib.hid (show i * 7 + xn.v.length ≤ (rowsR l).flatten.length by
         rw [zbp (rowsR_len l)]; simp [rowsR, St.v]; have := HIN.out; omega)
        clear hTk hEk hPk hKk hxn hEB; go_upto_region 3 with fail
        refine zan (by kernel_rfl) (by kernel_rfl) (X := Unit) (fun _ => [(some 62, .pointer (some ⟨tb, 0, none⟩)), (some 63, .pointer (some ⟨tb, 0, none⟩)), (some 64, .pointer (some ⟨tb, 0, none⟩)), (some 65, .slice (some ⟨rb, 0, none⟩) N N), (some 66, .pointer (some ⟨EB, 0, none⟩)), (some 67, .int .i64 (i : Int)), (some 68, .agg ([.int .i64 b, .int .i64 row, .int .i64 slot]).toArray), (some 69, .int .i64 m), (some 70, .pointer (some ⟨EB, 1, none⟩)), (some 71, .int .i64 sq), (some 72, .pointer (some ⟨EB, 2, none⟩)), (some 73, .int .i64 r), (some 74, .agg xn.v.toArray), (some 75, .pointer (some ⟨rb, i * 7, none⟩)), (none, undef)])
         (fun _ L w' => w'.heap[EB]? = some (.cells (enV i sq r d).toArray 29 (0, 0)) ∧ w'.heap[EB + 1]? = some (.cells ([.int .i64 b, .int .i64 row, .int .i64 slot] : List Value).toArray 31 (0, 0)) ∧ (L 14 = false → RefAt w' tb rb N l nx) ∧ (L 14 = true → RefAt w' tb rb N (l.set i xn) nx) ∧ Keep (RefF tb rb) wa w' ∧ Below 0 wa w') (fun _ => rfl) (by kernel_rfl) ⟨(), fun L hL => ⟨HE.out, HP.out, (fun _ => HT.out.below (Below.refl _ wa).drew), (by rw [hL 14]; intro h; cases h), (Keep.refl _ wa).drew, (Below.refl 0 wa).drew⟩⟩ ?_ ?_
        · refine ⟨?_, ?_, ?_, ?_, ?_, ?_, ?_, ?_, ?_, ?_, ?_, ?_, ?_, ?_, ?_, trivial⟩
          · intro _ L w' hL hpre hJ a ha
            obtain ⟨je, jp, j0, j1, jk, jb⟩ := hJ; simp [Region.binds] at hpre; refine .inl ⟨zaa rfl, ?_⟩; exact zah (.tmp 0) (.inl rfl) (.pointer (some ⟨tb, 0, none⟩)) (by rw [ha, zac rfl]; rfl) ⟨(), _, rfl, rfl, je, jp, j0, j1, jk, jb⟩
          · intro _ L w' hL hpre hJ a ha
            obtain ⟨je, jp, j0, j1, jk, jb⟩ := hJ; simp [Region.binds] at hpre; refine .inl ⟨zaa rfl, ?_⟩; have e62 : a.eval (.tmp 62) = .pointer (some ⟨tb, 0, none⟩) := evP ha 0 rfl (by simp [hpre]) (by simp) rfl; clear ha; have je' := Lib.hid je; have jp' := Lib.hid jp; have j0' := Lib.hid j0; have j1' := Lib.hid j1; have jk' := Lib.hid jk; have jb' := Lib.hid jb; clear je jp j0 j1 jk jb; refine zab fun K HK => ?_; unfold Oper.wp; simp only [execOp, e62]; go_simp; exact HK.out _ _ ⟨(), _, rfl, rfl, je'.out, jp'.out, j0'.out, j1'.out, jk'.out, jb'.out⟩
          · intro _ L w' hL hpre hJ a ha
            obtain ⟨je, jp, j0, j1, jk, jb⟩ := hJ; simp [Region.binds] at hpre; refine .inl ⟨zaa rfl, ?_⟩; have e63 : a.eval (.tmp 63) = .pointer (some ⟨tb, 0, none⟩) := evP ha 1 rfl (by simp [hpre]) (by simp) rfl; clear ha; have je' := Lib.hid je; have jp' := Lib.hid jp; have j0' := Lib.hid j0; have j1' := Lib.hid j1; have jk' := Lib.hid jk; have jb' := Lib.hid jb; clear je jp j0 j1 jk jb; refine zab fun K HK => ?_; unfold Oper.wp; simp only [execOp, e63]; go_simp; exact HK.out _ _ ⟨(), _, rfl, rfl, je'.out, jp'.out, j0'.out, j1'.out, jk'.out, jb'.out⟩
          · intro _ L w' hL hpre hJ a ha
            obtain ⟨je, jp, j0, j1, jk, jb⟩ := hJ; simp [Region.binds] at hpre; refine .inl ⟨zaa rfl, ?_⟩; have e64 : a.eval (.tmp 64) = .pointer (some ⟨tb, 0, none⟩) := evP ha 2 rfl (by simp [hpre]) (by simp) rfl
            have cz : w'.cell? ⟨tb, 0, none⟩ = some (.slice (some ⟨rb, 0, none⟩) N N) := by
             cases h : L 14 with
             | false => rw [zaf (j0 h).head]; rfl
             | true => rw [zaf (j1 h).head]; rfl
            have HJ := Lib.hid (And.intro je (And.intro jp (And.intro j0 (And.intro j1 (And.intro jk jb))))); clear ha je jp j0 j1 jk jb; refine zab fun K HK => ?_; unfold Oper.wp; simp only [execOp, e64]; go_simp; exact HK.out _ _ ⟨(), _, rfl, rfl, HJ.out⟩
          · intro _ L w' hL hpre hJ a ha
            obtain ⟨je, jp, j0, j1, jk, jb⟩ := hJ; simp [Region.binds] at hpre; refine .inl ⟨zaa rfl, ?_⟩; have e5 : a.eval (.tmp 5) = .pointer (some ⟨EB, 0, none⟩) := by rw [ha, zac rfl]; rfl
            clear ha; have je' := Lib.hid je; have jp' := Lib.hid jp; have j0' := Lib.hid j0; have j1' := Lib.hid j1; have jk' := Lib.hid jk; have jb' := Lib.hid jb; clear je jp j0 j1 jk jb; refine zab fun K HK => ?_; unfold Oper.wp; simp only [execOp, e5]; go_simp; exact HK.out _ _ ⟨(), _, rfl, rfl, je'.out, jp'.out, j0'.out, j1'.out, jk'.out, jb'.out⟩
          · intro _ L w' hL hpre hJ a ha
            obtain ⟨je, jp, j0, j1, jk, jb⟩ := hJ; simp [Region.binds] at hpre; refine .inl ⟨zaa rfl, ?_⟩; have e66 : a.eval (.tmp 66) = .pointer (some ⟨EB, 0, none⟩) := evP ha 4 rfl (by simp [hpre]) (by simp) rfl; have cz : w'.cell? ⟨EB, 0, none⟩ = some (.int .i64 (i : Int)) := by rw [zaf je]; rfl
            have HJ := Lib.hid (And.intro je (And.intro jp (And.intro j0 (And.intro j1 (And.intro jk jb))))); clear ha je jp j0 j1 jk jb; refine zab fun K HK => ?_; unfold Oper.wp; simp only [execOp, e66]; go_simp; exact HK.out _ _ ⟨(), _, rfl, rfl, HJ.out⟩
          · intro _ L w' hL hpre hJ a ha
            obtain ⟨je, jp, j0, j1, jk, jb⟩ := hJ; simp [Region.binds] at hpre; refine .inl ⟨zaa rfl, ?_⟩; exact wp_load_mid 31 (.tmp 6) rfl (EB + 1) 0 (by rw [ha, zac rfl]; rfl) ([.int .i64 b, .int .i64 row, .int .i64 slot]) _ (zal jp) Tryz.underlying31 rfl (by kernel_rfl) ⟨(), _, rfl, rfl, je, jp, j0, j1, jk, jb⟩
          · intro _ L w' hL hpre hJ a ha
            obtain ⟨je, jp, j0, j1, jk, jb⟩ := hJ; simp [Region.binds] at hpre; refine .inl ⟨zaa rfl, ?_⟩; exact zah (.tmp 3) (.inl rfl) (.int .i64 m) (by rw [ha, zac rfl]; rfl) ⟨(), _, rfl, rfl, je, jp, j0, j1, jk, jb⟩
          · intro _ L w' hL hpre hJ a ha
            obtain ⟨je, jp, j0, j1, jk, jb⟩ := hJ; simp [Region.binds] at hpre; refine .inl ⟨zaa rfl, ?_⟩; have e5 : a.eval (.tmp 5) = .pointer (some ⟨EB, 0, none⟩) := by rw [ha, zac rfl]; rfl
            clear ha; have je' := Lib.hid je; have jp' := Lib.hid jp; have j0' := Lib.hid j0; have j1' := Lib.hid j1; have jk' := Lib.hid jk; have jb' := Lib.hid jb; clear je jp j0 j1 jk jb; refine zab fun K HK => ?_; unfold Oper.wp; simp only [execOp, e5]; go_simp; exact HK.out _ _ ⟨(), _, rfl, rfl, je'.out, jp'.out, j0'.out, j1'.out, jk'.out, jb'.out⟩
          · intro _ L w' hL hpre hJ a ha
            obtain ⟨je, jp, j0, j1, jk, jb⟩ := hJ; simp [Region.binds] at hpre; refine .inl ⟨zaa rfl, ?_⟩; have e70 : a.eval (.tmp 70) = .pointer (some ⟨EB, 1, none⟩) := evP ha 8 rfl (by simp [hpre]) (by simp) rfl; have cz : w'.cell? ⟨EB, 1, none⟩ = some (.int .i64 sq) := by rw [zaf je]; rfl
            have HJ := Lib.hid (And.intro je (And.intro jp (And.intro j0 (And.intro j1 (And.intro jk jb))))); clear ha je jp j0 j1 jk jb; refine zab fun K HK => ?_; unfold Oper.wp; simp only [execOp, e70]; go_simp; exact HK.out _ _ ⟨(), _, rfl, rfl, HJ.out⟩
          · intro _ L w' hL hpre hJ a ha
            obtain ⟨je, jp, j0, j1, jk, jb⟩ := hJ; simp [Region.binds] at hpre; refine .inl ⟨zaa rfl, ?_⟩; have e5 : a.eval (.tmp 5) = .pointer (some ⟨EB, 0, none⟩) := by rw [ha, zac rfl]; rfl
            clear ha; have je' := Lib.hid je; have jp' := Lib.hid jp; have j0' := Lib.hid j0; have j1' := Lib.hid j1; have jk' := Lib.hid jk; have jb' := Lib.hid jb; clear je jp j0 j1 jk jb; refine zab fun K HK => ?_; unfold Oper.wp; simp only [execOp, e5]; go_simp; exact HK.out _ _ ⟨(), _, rfl, rfl, je'.out, jp'.out, j0'.out, j1'.out, jk'.out, jb'.out⟩
          · intro _ L w' hL hpre hJ a ha
            obtain ⟨je, jp, j0, j1, jk, jb⟩ := hJ; simp [Region.binds] at hpre; refine .inl ⟨zaa rfl, ?_⟩; have e72 : a.eval (.tmp 72) = .pointer (some ⟨EB, 2, none⟩) := evP ha 10 rfl (by simp [hpre]) (by simp) rfl; have cz : w'.cell? ⟨EB, 2, none⟩ = some (.int .i64 r) := by rw [zaf je]; rfl
            have HJ := Lib.hid (And.intro je (And.intro jp (And.intro j0 (And.intro j1 (And.intro jk jb))))); clear ha je jp j0 j1 jk jb; refine zab fun K HK => ?_; unfold Oper.wp; simp only [execOp, e72]; go_simp; exact HK.out _ _ ⟨(), _, rfl, rfl, HJ.out⟩
          · intro _ L w' hL hpre hJ a ha
            obtain ⟨je, jp, j0, j1, jk, jb⟩ := hJ; simp [Region.binds] at hpre; refine .inl ⟨zaa rfl, ?_⟩; have e68 : a.eval (.tmp 68) = .agg ([.int .i64 b, .int .i64 row, .int .i64 slot]).toArray := evP ha 6 rfl (by simp [hpre]) (by simp) rfl; have e69 : a.eval (.tmp 69) = .int .i64 m := evP ha 7 rfl (by simp [hpre]) (by simp) rfl; have e71 : a.eval (.tmp 71) = .int .i64 sq := evP ha 9 rfl (by simp [hpre]) (by simp) rfl; have e73 : a.eval (.tmp 73) = .int .i64 r := evP ha 11 rfl (by simp [hpre]) (by simp) rfl; exact wp_build' 137 _ rfl [(0, .bool true), (1, .agg #[.int .i64 b, .int .i64 row, .int .i64 slot]), (2, .int .i64 m), (3, .int .i64 sq), (4, .int .i64 r)] (by simp only [List.map_cons, List.map_nil, e68, e69, e71, e73]; rfl) _ HBS.out ⟨(), _, rfl, rfl, je, jp, j0, j1, jk, jb⟩
          · intro _ L w' hL hpre hJ a ha
            obtain ⟨je, jp, j0, j1, jk, jb⟩ := hJ; simp [Region.binds] at hpre; refine .inl ⟨zaa rfl, ?_⟩; have e65 : a.eval (.tmp 65) = .slice (some ⟨rb, 0, none⟩) N N := evP ha 3 rfl (by simp [hpre]) (by simp) rfl; have e67 : a.eval (.tmp 67) = .int .i64 (i : Int) := evP ha 5 rfl (by simp [hpre]) (by simp) rfl; clear ha; have je' := Lib.hid je; have jp' := Lib.hid jp; have j0' := Lib.hid j0; have j1' := Lib.hid j1; have jk' := Lib.hid jk; have jb' := Lib.hid jb; clear je jp j0 j1 jk jb; refine zab fun K HK => ?_; unfold Oper.wp; simp only [execOp, e65, e67]; go_simp; exact HK.out _ _ ⟨(), _, rfl, rfl, je'.out, jp'.out, j0'.out, j1'.out, jk'.out, jb'.out⟩
          · intro _ L w' hL hpre hJ a ha
            obtain ⟨je, jp, j0, j1, jk, jb⟩ := hJ; simp [Region.binds] at hpre; refine .inl ⟨zaa rfl, ?_⟩; have e75 : a.eval (.tmp 75) = .pointer (some ⟨rb, i * 7, none⟩) := evP ha 13 rfl (by simp [hpre]) (by simp) rfl; have e74 : a.eval (.tmp 74) = .agg xn.v.toArray := evP ha 12 rfl (by simp [hpre]) (by simp) rfl; exact wp_put_mid' 137 (.tmp 75) (.tmp 74) rfl rb (i * 7) xn.v e75 e74 137 (rowsR l).flatten (j0 hL).rows stInfo HSZ.out (one_st xn) (fun w'' hU => ⟨(), _, rfl, rfl, hU.old je HNE.out.1, hU.old jp HNE.out.2.1, (fun h => by cases h), (fun _ => (j0 hL).stored hU HIN.out), jk.trans (hU.keep (S := RefF tb rb) (.inr rfl)) (fun _ h => h) (fun _ _ h => h), hU.below jb (Nat.zero_le _)⟩)
        · intro _ L w' hL hJ
          obtain ⟨je, jp, j0, j1, jk, jb⟩ := hJ; simp only [List.foldl_cons, List.foldl_nil]; have HT3 := Lib.hid (j1 (hL 14 (by decide))); have HE3 := Lib.hid je; have HK3 := Lib.hid jk; clear je jp j0 j1 jk jb hL; go_simp; go_upto_region 4 with fail
          have c0 : w'.cell? ⟨EB, 1, none⟩ = some (.int .i64 sq) := by rw [zaf HE3.out]; rfl
          have c1 : w'.cell? ⟨tb, 1, none⟩ = some (.int .i64 nx) := by rw [zaf HT3.out.head]; rfl
          have f1 : w'.frozen? ⟨tb, 1, none⟩ = false := zar HT3.out.head 1; have HFK := Lib.hid (HKA.out.trans HK3.out (fun _ h => h) (fun _ _ h => h)); have HTn := Lib.hid (fun (k : Nat) (v : Int) => HT3.out.setNext k v); by_cases hge : nx ≤ sq
          · go_quiet (fail)
            go_wp2_with fail
            go_ret
            exact ⟨_, _, _, rfl, HTn.out _ _, keep_setNext HFK.out _ _⟩
          · go_quiet (fail)
            go_wp2_with fail
            go_ret
            exact ⟨_, _, _, rfl, HT3.out.below (zau (Below.refl _ _) _), HFK.out.drewN _⟩
end Go.Proofs.YtpbigfopmompfaaGreat.rtab
namespace Go.Proofs.YtpbigfopmompfaaGreat
open Go.RowKit
set_option linter.unusedVariables false
structure Op7 where
 (k : Int) (e : En) (p : Ad) (m di bl n : Int)
def Op7.v (x : Op7) : List Value := [.int .i64 x.k] ++ (x.e.v ++ (x.p.v ++ [.int .i64 x.m, .int .i64 x.di, .int .i64 x.bl, .int .i64 x.n]))
structure Op7.good (x : Op7) : Prop where
 e : x.e.ok
 ew : x.e.wf
 p : x.p.wf
 k : wfI x.k
 m : wfI x.m
 di : wfI x.di
 bl : wfI x.bl
 n : wfI x.n
theorem open_op {cs : List Value} (h : okAll (List.replicate 4 (Kd.int .i64) ++ List.replicate 16 (Kd.int .u8) ++ List.replicate 7 (Kd.int .i64)) cs = true) : ∃ x : Op7, cs = x.v ∧ x.good := by
 obtain ⟨h1, h2⟩ := zbt h
 rw [List.length_append, List.length_replicate, List.length_replicate] at h1 h2
 obtain ⟨h3, h4⟩ := zbt h1
 rw [List.length_replicate] at h3 h4
 obtain ⟨d, e1, hd, hb⟩ := open_bytes h4
 obtain ⟨r, l, s, k, b, o, m, e2, hw⟩ := open_ints7 h2
 have hl := zaz h3
 match h5 : (cs.take 20).take 4, hl, h3 with
 | [c0, c1, c2, c3], _, h3 =>
  simp only [List.replicate_succ, List.replicate_zero, okAll, Bool.and_eq_true, and_true] at h3; obtain ⟨k0, k1, k2, k3⟩ := h3; obtain ⟨v0, rfl, a0⟩ := zb3 k0; obtain ⟨v1, rfl, a1⟩ := zb3 k1; obtain ⟨v2, rfl, a2⟩ := zb3 k2; obtain ⟨v3, rfl, a3⟩ := zb3 k3; refine ⟨⟨v0, ⟨v1, v2, v3, d⟩, ⟨r, l, s⟩, k, b, o, m⟩, ?_, ?_⟩
  · rw [← List.take_append_drop 20 cs, e2, ← List.take_append_drop 4 (cs.take 20), h5, e1]; rfl
  · exact ⟨⟨hd, hb⟩, ⟨a1, a2, a3⟩, ⟨hw.1, hw.2.1, hw.2.2.1⟩, a0, hw.2.2.2.1, hw.2.2.2.2.1, hw.2.2.2.2.2.1, hw.2.2.2.2.2.2⟩
theorem open_op7s {w : World} {a : Option Addr} {len cap : Nat} (h : IsRows (List.replicate 4 (Kd.int .i64) ++ List.replicate 16 (Kd.int .u8) ++ List.replicate 7 (Kd.int .i64)) w a len cap) : ∃ l : List Op7, Rds w w.heap.size a 27 len (l.map Op7.v) ∧ (∀ x ∈ l, x.good) ∧ len ≤ cap ∧ cap ≤ maxLen := by
 obtain ⟨rows, h1, h2, h3, h4⟩ := h.rds (by simp)
 obtain ⟨l, rfl, hl⟩ := open_all (f := Op7.v) (p := Op7.good) (fun cs hc => open_op hc) h2
 exact ⟨l, h1, hl, h3, h4⟩
theorem Op7.good.len {x : Op7} (h : x.good) : x.v.length = 27 := by simp [Op7.v, En.v, enV, zaj, h.e.1, Ad.v]
theorem opInfo {x : Op7} (h : x.good) : (Tryz.prog.info? 52).map (·.size) = some x.v.length := by rw [h.len]; kernel_rfl
theorem one_op (x : Op7) : ∀ u ∈ x.v, u.oneCell' = true := by
 intro u hu
 unfold Op7.v at hu
 simp only [List.mem_append] at hu
 rcases hu with hu | hu | hu | hu
 · simp at hu; subst hu; rfl
 · exact one_enV _ _ _ _ u hu
 · simp [Ad.v] at hu; rcases hu with rfl | rfl | rfl <;> rfl
 · simp at hu; rcases hu with rfl | rfl | rfl | rfl <;> rfl
theorem set_mid {α : Type} (A : List α) (u v : α) (C : List α) : (A ++ (u :: C)).set A.length v = A ++ (v :: C) := by
 rw [List.set_append_right _ _ (Nat.le_refl _), Nat.sub_self]; rfl
theorem Op7.setB {x : Op7} (h : x.good) (b : Int) : x.v.set 20 (.int .i64 b) = Op7.v { x with p := ⟨b, x.p.b, x.p.p⟩ } := by
 have := set_mid ([.int .i64 x.k] ++ x.e.v) (.int .i64 x.p.d) (.int .i64 b) ([.int .i64 x.p.b, .int .i64 x.p.p] ++ [.int .i64 x.m, .int .i64 x.di, .int .i64 x.bl, .int .i64 x.n])
 rw [show ([Value.int .i64 x.k] ++ x.e.v).length = 20 by simp [En.v, enV, zaj, h.e.1]] at this
 unfold Op7.v
 rw [show [Value.int .i64 x.k] ++ (x.e.v ++ (x.p.v ++ [.int .i64 x.m, .int .i64 x.di, .int .i64 x.bl, .int .i64 x.n])) = [Value.int .i64 x.k] ++ x.e.v ++ (Value.int .i64 x.p.d :: ([Value.int .i64 x.p.b, .int .i64 x.p.p] ++ [.int .i64 x.m, .int .i64 x.di, .int .i64 x.bl, .int .i64 x.n])) by simp [Ad.v], this]
 simp [Ad.v]
section
variable {w : World} {g : Nat} {x : Op7} {t : TypeId} {fr : Nat × Nat}
theorem op_e (h : w.heap[g]? = some (.cells x.v.toArray t fr)) : w.rangeAt g 1 x.e.v := zbo h [.int .i64 x.k] x.e.v _ rfl 1 rfl
theorem op_p (hx : x.good) (h : w.heap[g]? = some (.cells x.v.toArray t fr)) : w.rangeAt g 20 x.p.v := zbo h ([.int .i64 x.k] ++ x.e.v) x.p.v [.int .i64 x.m, .int .i64 x.di, .int .i64 x.bl, .int .i64 x.n] (by simp [Op7.v]) 20 (by simp [En.v, enV, zaj, hx.e.1])
theorem op_r (hx : x.good) (h : w.heap[g]? = some (.cells x.v.toArray t fr)) : w.rangeAt g 23 [.int .i64 x.m, .int .i64 x.di, .int .i64 x.bl, .int .i64 x.n] := zbo h ([.int .i64 x.k] ++ (x.e.v ++ x.p.v)) [.int .i64 x.m, .int .i64 x.di, .int .i64 x.bl, .int .i64 x.n] [] (by simp [Op7.v]) 23 (by simp [En.v, enV, zaj, hx.e.1, Ad.v])
theorem op_k (h : w.heap[g]? = some (.cells x.v.toArray t fr)) : w.cell? ⟨g, 0, none⟩ = some (.int .i64 x.k) := by rw [zaf h]; rfl
theorem op_m (hx : x.good) (h : w.heap[g]? = some (.cells x.v.toArray t fr)) : w.cell? ⟨g, 23, none⟩ = some (.int .i64 x.m) ∧ w.cell? ⟨g, 24, none⟩ = some (.int .i64 x.di) ∧ w.cell? ⟨g, 25, none⟩ = some (.int .i64 x.bl) ∧ w.cell? ⟨g, 26, none⟩ = some (.int .i64 x.n) :=
 ⟨op_r hx h 0 _ rfl, op_r hx h 1 _ rfl, op_r hx h 2 _ rfl, op_r hx h 3 _ rfl⟩
end
end Go.Proofs.YtpbigfopmompfaaGreat
namespace Go.Proofs.YtpbigfopmompfaaGreat.tls
open Go.RowKit
open Go.Proofs.YtpbigfopmompfaaGreat.tal
open Go.Proofs.YtpbigfopmompfaaGreat.nand (zax za3 kindO)
set_option linter.unusedVariables false
def at16 {α : Type} (f : Sb → α) (Y : Ty) (b : Nat) : α := f (Y.sb.getD b Sb.none)
def refV (Y : Ty) : List Value :=
 [.int .i64 (Y.D : Int), .int .i64 (Y.B : Int), .int .i64 (Y.P : Int)] ++ ((List.range 16).map (fun b => .int .i64 (at16 Sb.wear Y b)) ++ ((List.range 16).map (fun b => .int .i64 ((at16 Sb.bad Y b : Nat) : Int)) ++ ([.int .i64 (Y.dead : Int)] ++ ((List.range 16).map (fun b => .bool (at16 Sb.used Y b)) ++ (List.range 16).map (fun b => .bool (at16 Sb.held Y b))))))
theorem range_set {α : Type} (f : Nat → α) (n β : Nat) (v : α) : ((List.range n).map f).set β v = (List.range n).map (fun b => if b = β then v else f b) := by
 apply List.ext_getElem?
 intro i
 rw [List.getElem?_set]
 by_cases e : β = i
 · subst e
   by_cases h : β < n
   · simp [h]
   · simp [h]
 · by_cases h : i < n
   · have e' : ¬ i = β := fun h => e h.symm
     simp [e, e', h]
   · simp [e, h]
theorem set_at {α : Type} (A : List α) (M : List α) (C : List α) (β : Nat) (h : β < M.length) (v : α) : (A ++ (M ++ C)).set (A.length + β) v = A ++ (M.set β v ++ C) := by
 rw [List.set_append_right _ _ (by omega), show A.length + β - A.length = β by omega, List.set_append_left _ _ h]
theorem set_last {α : Type} (A : List α) (M : List α) (β : Nat) (v : α) : (A ++ M).set (A.length + β) v = A ++ M.set β v := by
 rw [List.set_append_right _ _ (by omega), show A.length + β - A.length = β by omega]
section
variable {Y : Ty} {β : Nat} {s : Sb}
theorem at_set {α : Type} (f : Sb → α) (hs : Y.sb[β]? = some s) (s' : Sb) (b : Nat) : at16 f { Y with sb := Y.sb.set β s' } b = if b = β then f s' else at16 f Y b := by
 unfold at16
 have hlt : β < Y.sb.length := (List.getElem?_eq_some_iff.1 hs).1
 rw [List.getD_eq_getElem?_getD, List.getD_eq_getElem?_getD, List.getElem?_set]
 by_cases e : b = β
 · subst e; simp [hlt]
 · rw [if_neg (fun h => e h.symm), if_neg e]
theorem at_get {α : Type} (f : Sb → α) (hs : Y.sb[β]? = some s) : at16 f Y β = f s := by
 unfold at16
 rw [List.getD_eq_getElem?_getD, hs]; rfl
theorem zbc {g : Sb → Value} {s' : Sb} (hs : Y.sb[β]? = some s) (h : g s' = g s) : (List.range 16).map (fun b => g ((({ Y with sb := Y.sb.set β s' } : Ty).sb).getD b Sb.none)) = (List.range 16).map (fun b => g (Y.sb.getD b Sb.none)) := by
 refine List.map_congr_left fun b _ => ?_
 have h1 := at_set g hs s' b
 unfold at16 at h1
 rw [h1]
 by_cases e : b = β
 · subst e
   have := at_get g hs; unfold at16 at this; rw [if_pos rfl, this, h]
 · rw [if_neg e]
theorem map_set {g : Sb → Value} {s' : Sb} (hs : Y.sb[β]? = some s) : ((List.range 16).map (fun b => g (Y.sb.getD b Sb.none))).set β (g s') = (List.range 16).map (fun b => g ((({ Y with sb := Y.sb.set β s' } : Ty).sb).getD b Sb.none)) := by
 rw [range_set]
 refine List.map_congr_left fun b _ => ?_
 have h1 := at_set g hs s' b
 unfold at16 at h1
 rw [h1]
def wearV (s : Sb) : Value := .int .i64 s.wear
def badV (s : Sb) : Value := .int .i64 ((s.bad : Nat) : Int)
def usedV (s : Sb) : Value := .bool s.used
def heldV (s : Sb) : Value := .bool s.held
def G3 (Y : Ty) : List Value := [.int .i64 (Y.D : Int), .int .i64 (Y.B : Int), .int .i64 (Y.P : Int)]
def M16 (g : Sb → Value) (Y : Ty) : List Value := (List.range 16).map (fun b => g (Y.sb.getD b Sb.none))
theorem zbk (g : Sb → Value) (Y : Ty) : (M16 g Y).length = 16 := by simp [M16]
theorem zby (Y : Ty) : refV Y = G3 Y ++ (M16 wearV Y ++ (M16 badV Y ++ ([.int .i64 (Y.dead : Int)] ++ (M16 usedV Y ++ M16 heldV Y)))) := rfl
theorem set_wear {s' : Sb} (hs : Y.sb[β]? = some s) (hβ : β < 16) (h1 : s'.bad = s.bad) (h2 : s'.used = s.used) (h3 : s'.held = s.held) : (refV Y).set (3 + β) (wearV s') = refV { Y with sb := Y.sb.set β s' } := by
 have hm := map_set (g := wearV) (s' := s') hs
 have e1 : M16 badV { Y with sb := Y.sb.set β s' } = M16 badV Y := zbc hs (by simp [badV, h1])
 have e2 : M16 usedV { Y with sb := Y.sb.set β s' } = M16 usedV Y := zbc hs (by simp [usedV, h2])
 have e3 : M16 heldV { Y with sb := Y.sb.set β s' } = M16 heldV Y := zbc hs (by simp [heldV, h3])
 rw [zby, zby, e1, e2, e3, show (3 : Nat) = (G3 Y).length from rfl, set_at _ _ _ _ (by rw [zbk]; exact hβ)]
 unfold M16 at *
 rw [hm]; rfl
theorem set_bad {s' : Sb} (hs : Y.sb[β]? = some s) (hβ : β < 16) (h1 : s'.wear = s.wear) (h2 : s'.used = s.used) (h3 : s'.held = s.held) : (refV Y).set (19 + β) (badV s') = refV { Y with sb := Y.sb.set β s' } := by
 have hm := map_set (g := badV) (s' := s') hs
 have e1 : M16 wearV { Y with sb := Y.sb.set β s' } = M16 wearV Y := zbc hs (by simp [wearV, h1])
 have e2 : M16 usedV { Y with sb := Y.sb.set β s' } = M16 usedV Y := zbc hs (by simp [usedV, h2])
 have e3 : M16 heldV { Y with sb := Y.sb.set β s' } = M16 heldV Y := zbc hs (by simp [heldV, h3])
 rw [zby, zby, e1, e2, e3, show 19 + β = (G3 Y ++ M16 wearV Y).length + β by rw [List.length_append, zbk]; rfl, ← List.append_assoc, set_at _ _ _ _ (by rw [zbk]; exact hβ)]
 unfold M16 at *
 rw [hm, List.append_assoc]; rfl
theorem set_dead (Y : Ty) (d : Nat) : (refV Y).set 35 (.int .i64 (d : Int)) = refV { Y with dead := d } := by
 rw [zby, zby, ← List.append_assoc, ← List.append_assoc, show (35 : Nat) = (G3 Y ++ M16 wearV Y ++ M16 badV Y).length + 0 by rw [List.length_append, List.length_append, zbk, zbk]; rfl, set_at _ [Value.int .i64 (Y.dead : Int)] _ 0 (by simp)]
 simp [List.append_assoc]; rfl
theorem set_used {s' : Sb} (hs : Y.sb[β]? = some s) (hβ : β < 16) (h1 : s'.wear = s.wear) (h2 : s'.bad = s.bad) (h3 : s'.held = s.held) : (refV Y).set (36 + β) (usedV s') = refV { Y with sb := Y.sb.set β s' } := by
 have hm := map_set (g := usedV) (s' := s') hs
 have e1 : M16 wearV { Y with sb := Y.sb.set β s' } = M16 wearV Y := zbc hs (by simp [wearV, h1])
 have e2 : M16 badV { Y with sb := Y.sb.set β s' } = M16 badV Y := zbc hs (by simp [badV, h2])
 have e3 : M16 heldV { Y with sb := Y.sb.set β s' } = M16 heldV Y := zbc hs (by simp [heldV, h3])
 rw [zby, zby, e1, e2, e3, ← List.append_assoc, ← List.append_assoc, ← List.append_assoc, show 36 + β = (G3 Y ++ M16 wearV Y ++ M16 badV Y ++ [Value.int .i64 (Y.dead : Int)]).length + β by simp [zbk, G3], set_at _ _ _ _ (by rw [zbk]; exact hβ)]
 unfold M16 at *
 rw [hm]; simp [List.append_assoc]; rfl
theorem set_held {s' : Sb} (hs : Y.sb[β]? = some s) (hβ : β < 16) (h1 : s'.wear = s.wear) (h2 : s'.bad = s.bad) (h3 : s'.used = s.used) : (refV Y).set (52 + β) (heldV s') = refV { Y with sb := Y.sb.set β s' } := by
 have hm := map_set (g := heldV) (s' := s') hs
 have e1 : M16 wearV { Y with sb := Y.sb.set β s' } = M16 wearV Y := zbc hs (by simp [wearV, h1])
 have e2 : M16 badV { Y with sb := Y.sb.set β s' } = M16 badV Y := zbc hs (by simp [badV, h2])
 have e3 : M16 usedV { Y with sb := Y.sb.set β s' } = M16 usedV Y := zbc hs (by simp [usedV, h3])
 rw [zby, zby, e1, e2, e3, ← List.append_assoc, ← List.append_assoc, ← List.append_assoc, ← List.append_assoc, show 52 + β = (G3 Y ++ M16 wearV Y ++ M16 badV Y ++ [Value.int .i64 (Y.dead : Int)] ++ M16 usedV Y).length + β by simp [zbk, G3], set_last]
 unfold M16 at *
 rw [hm]; simp [List.append_assoc]; rfl
end
structure Sta (w0 : World) (D B P gt lb WB g mb cb tb rb GB n : Nat) (Y Z : Ty) (w : World) : Prop where
 ta : TalAt w gt lb Y
 dim : Y.D = D ∧ Y.B = B ∧ Y.P = P
 ref : w.heap[WB]? = some (.cells (refV Z).toArray 71 (0, 0))
 tt : ∃ T, tab.TabAt w g mb cb n T
 rt : ∃ ls nx, rtab.RefAt w tb rb 40 ls nx
 geo : w.heap[GB]? = some (.cells (tal.geoV D B P).toArray 39 (0, 0))
 below : Below w0.heap.size w0 w
 new : ∀ k, TalF gt lb k ∨ k = WB ∨ tab.TabF g mb cb k ∨ rtab.RefF tb rb k → w0.heap.size ≤ k
section
variable {w0 w w' : World} {D B P gt lb WB g mb cb tb rb GB n : Nat} {Y Z : Ty}
theorem Sta.later (h : Sta w0 D B P gt lb WB g mb cb tb rb GB n Y Z w) (hb : Below w.heap.size w w') : Sta w0 D B P gt lb WB g mb cb tb rb GB n Y Z w' :=
 ⟨h.ta.below hb, h.dim, zad h.ref hb, by obtain ⟨T, hT⟩ := h.tt; exact ⟨T, hT.below hb⟩, by obtain ⟨ls, nx, hT⟩ := h.rt; exact ⟨ls, nx, hT.below hb⟩, zad h.geo hb, h.below.trans (hb.mono h.below.size), h.new⟩
theorem Sta.later_eq {wd : World} (h : Sta w0 D B P gt lb WB g mb cb tb rb GB n Y Z w) (hb : Below w.heap.size w w') (e : wd = w') : Sta w0 D B P gt lb WB g mb cb tb rb GB n Y Z wd := by rw [e]; exact h.later hb
theorem eqSta {Y' : Ty} (h : Sta w0 D B P gt lb WB g mb cb tb rb GB n Y Z w) (e : Y = Y') : Sta w0 D B P gt lb WB g mb cb tb rb GB n Y' Z w := e ▸ h
theorem map_kind {w : World} {b n : Nat} {D : DataW Value} {k : TypeId} (h : w.ownsMap Tryz.prog k anyElem b n D) : ∃ o, w.heap[b]? = some o ∧ kindO o = none := by
 obtain ⟨es, clock, hb, -⟩ := h
 exact ⟨_, hb, rfl⟩
theorem tal_tab {T : tab.Tb} (h : TalAt w gt lb Y) (h' : tab.TabAt w g mb cb n T) : ∀ k, tab.TabF g mb cb k → ¬ TalF gt lb k := by
 obtain ⟨D1, m1, -⟩ := h'.at_
 obtain ⟨D2, c2, m2, -⟩ := h'.cnt
 obtain ⟨o1, q1, e1⟩ := map_kind m1
 obtain ⟨o2, q2, e2⟩ := map_kind m2
 rintro k (rfl | rfl | rfl) (h1 | h1)
 · exact za3 h'.head h.head (by simp [kindO] <;> decide) h1
 · exact za3 h'.head h.rows (by simp [kindO] <;> decide) h1
 · exact za3 q1 h.head (by rw [e1]; simp [kindO]) h1
 · exact za3 q1 h.rows (by rw [e1]; simp [kindO]) h1
 · exact za3 q2 h.head (by rw [e2]; simp [kindO]) h1
 · exact za3 q2 h.rows (by rw [e2]; simp [kindO]) h1
theorem tab_ne {T : tab.Tb} {k : Nat} {cs : Array Value} {t : TypeId} {fr : Nat × Nat} (h' : tab.TabAt w g mb cb n T) (hk : w.heap[k]? = some (.cells cs t fr)) (ht : t ≠ 95) : ¬ tab.TabF g mb cb k := by
 obtain ⟨D1, m1, -⟩ := h'.at_
 obtain ⟨D2, c2, m2, -⟩ := h'.cnt
 obtain ⟨o1, q1, e1⟩ := map_kind m1
 obtain ⟨o2, q2, e2⟩ := map_kind m2
 rintro (h1 | h1 | h1)
 · exact za3 hk h'.head (by simp [kindO]; exact ht) h1
 · exact za3 hk q1 (by rw [e1]; simp [kindO]) h1
 · exact za3 hk q2 (by rw [e2]; simp [kindO]) h1
theorem tal_ne {k : Nat} {cs : Array Value} {t : TypeId} {fr : Nat × Nat} (h' : TalAt w gt lb Y) (hk : w.heap[k]? = some (.cells cs t fr)) (ht : t ≠ 99 ∧ t ≠ 104) : ¬ TalF gt lb k := by
 rintro (h1 | h1)
 · exact za3 hk h'.head (by simp [kindO]; exact ht.1) h1
 · exact za3 hk h'.rows (by simp [kindO]; exact ht.2) h1
theorem ref_ne {k : Nat} {cs : Array Value} {t : TypeId} {fr : Nat × Nat} {ls : List rtab.St} {nx : Int} (h' : rtab.RefAt w tb rb 40 ls nx) (hk : w.heap[k]? = some (.cells cs t fr)) (ht : t ≠ 135 ∧ t ≠ 137) : ¬ rtab.RefF tb rb k := by
 rintro (h1 | h1)
 · exact za3 hk h'.head (by simp [kindO]; exact ht.1) h1
 · exact za3 hk h'.rows (by simp [kindO]; exact ht.2) h1
theorem Sta.tal' (h : Sta w0 D B P gt lb WB g mb cb tb rb GB n Y Z w) (hk : Keep (TalF gt lb) w w') {Y' : Ty} (hy : TalAt w' gt lb Y') (hd : Y'.D = Y.D ∧ Y'.B = Y.B ∧ Y'.P = Y.P) : Sta w0 D B P gt lb WB g mb cb tb rb GB n Y' Z w' := by
 obtain ⟨T, hT⟩ := h.tt
 obtain ⟨ls, nx, hR⟩ := h.rt
 obtain ⟨d1, d2, d3⟩ := h.dim
 exact ⟨hy, ⟨by rw [hd.1, d1], by rw [hd.2.1, d2], by rw [hd.2.2, d3]⟩, zay h.ref hk (tal_ne h.ta h.ref (by decide)), ⟨T, hT.keep hk (tal_tab h.ta hT)⟩,
  ⟨ls, nx, hR.keep hk fun k hf => Or.elim hf (fun e => by rw [e]; exact tal_ne h.ta hR.head (by decide)) (fun e => by rw [e]; exact tal_ne h.ta hR.rows (by decide))⟩,
  zay h.geo hk (tal_ne h.ta h.geo (by decide)), h.below.trans (hk.below h.below.size fun k hf => h.new k (.inl hf)), h.new⟩
theorem Sta.ref' (h : Sta w0 D B P gt lb WB g mb cb tb rb GB n Y Z w) {Z' : Ty} {j : Nat} {v : Value} (he : (refV Z).set j v = refV Z') : Sta w0 D B P gt lb WB g mb cb tb rb GB n Y Z' (w.setCell ⟨WB, j, none⟩ v) := by
 obtain ⟨T, hT⟩ := h.tt
 obtain ⟨ls, nx, hR⟩ := h.rt
 have hk : Keep (fun k => k = WB) w (w.setCell ⟨WB, j, none⟩ v) := (Keep.refl (fun k => k = WB) w).setCell (p := ⟨WB, j, none⟩) (.inl rfl) v
 have h1 := heap_set2 (i := j) h.ref v
 rw [List.setIfInBounds_toArray, he] at h1
 refine ⟨⟨h.ta.ok, zay h.ta.head hk fun e => tal_ne h.ta h.ref (by decide) (.inl e.symm), zay h.ta.rows hk fun e => tal_ne h.ta h.ref (by decide) (.inr e.symm)⟩, h.dim, h1, ⟨T, hT.keep hk fun k hf e => tab_ne hT h.ref (by decide) (e ▸ hf)⟩,
  ⟨ls, nx, hR.keep hk fun k hf e => ref_ne hR h.ref (by decide) (e ▸ hf)⟩, zay h.geo hk fun e => za3 h.geo h.ref (by simp [kindO] <;> decide) e, h.below.trans (hk.below h.below.size fun k hf => h.new k (.inr (.inl hf))), h.new⟩
theorem Sta.tab' (h : Sta w0 D B P gt lb WB g mb cb tb rb GB n Y Z w) (hk : Keep (tab.TabF g mb cb) w w') {T : tab.Tb} {T' : tab.Tb} {n' : Nat} (hT : tab.TabAt w g mb cb n T) (hT' : tab.TabAt w' g mb cb n' T') : Sta w0 D B P gt lb WB g mb cb tb rb GB n' Y Z w' := by
 obtain ⟨ls, nx, hR⟩ := h.rt
 exact ⟨⟨h.ta.ok, zay h.ta.head hk (tab_ne hT h.ta.head (by decide)), zay h.ta.rows hk (tab_ne hT h.ta.rows (by decide))⟩, h.dim, zay h.ref hk (tab_ne hT h.ref (by decide)), ⟨T', hT'⟩,
  ⟨ls, nx, hR.keep hk fun k hf => Or.elim hf (fun e => by rw [e]; exact tab_ne hT hR.head (by decide)) (fun e => by rw [e]; exact tab_ne hT hR.rows (by decide))⟩,
  zay h.geo hk (tab_ne hT h.geo (by decide)), h.below.trans (hk.below h.below.size fun k hf => h.new k (.inr (.inr (.inl hf)))), h.new⟩
theorem Sta.rt' (h : Sta w0 D B P gt lb WB g mb cb tb rb GB n Y Z w) {ls ls' : List rtab.St} {nx nx' : Int} (hR : rtab.RefAt w tb rb 40 ls nx) (hk : Keep (rtab.RefF tb rb) w w') (hR' : rtab.RefAt w' tb rb 40 ls' nx') : Sta w0 D B P gt lb WB g mb cb tb rb GB n Y Z w' := by
 obtain ⟨T, hT⟩ := h.tt
 exact ⟨⟨h.ta.ok, zay h.ta.head hk (ref_ne hR h.ta.head (by decide)), zay h.ta.rows hk (ref_ne hR h.ta.rows (by decide))⟩, h.dim, zay h.ref hk (ref_ne hR h.ref (by decide)),
  ⟨T, hT.keep hk fun k hf e => Or.elim e (fun e => tab_ne hT hR.head (by decide) (e ▸ hf)) (fun e => tab_ne hT hR.rows (by decide) (e ▸ hf))⟩, ⟨ls', nx', hR'⟩,
  zay h.geo hk (ref_ne hR h.geo (by decide)), h.below.trans (hk.below h.below.size fun k hf => h.new k (.inr (.inr (.inr hf)))), h.new⟩
theorem Sta.mono (h : Sta w0 D B P gt lb WB g mb cb tb rb GB n Y Z w) {n' : Nat} (hn : n ≤ n') : Sta w0 D B P gt lb WB g mb cb tb rb GB n' Y Z w := by
 obtain ⟨T, hT⟩ := h.tt
 exact ⟨h.ta, h.dim, h.ref, ⟨T, hT.mono hn⟩, h.rt, h.geo, h.below, h.new⟩
theorem Sta.cell (h : Sta w0 D B P gt lb WB g mb cb tb rb GB n Y Z w) {j : Nat} {v : Value} (hv : (refV Z)[j]? = some v) : w.cell? ⟨WB, j, none⟩ = some v := by rw [zaf h.ref, List.getElem?_toArray]; exact hv
theorem Sta.free (h : Sta w0 D B P gt lb WB g mb cb tb rb GB n Y Z w) (j : Nat) : w.frozen? ⟨WB, j, none⟩ = false := zar h.ref j
theorem upd_dim (Y : Ty) (b : Int) (f : Sb → Sb) : (Y.upd b f).D = Y.D ∧ (Y.upd b f).B = Y.B ∧ (Y.upd b f).P = Y.P := by unfold Ty.upd; split <;> exact ⟨rfl, rfl, rfl⟩
theorem bad_dim (Y : Ty) (d b : Int) : (Y.badN d b).D = Y.D ∧ (Y.badN d b).B = Y.B ∧ (Y.badN d b).P = Y.P := by unfold Ty.badN; split; exact upd_dim _ _ _; exact ⟨rfl, rfl, rfl⟩
theorem dead_dim (Y : Ty) (d : Int) : (Y.deadN d).D = Y.D ∧ (Y.deadN d).B = Y.B ∧ (Y.deadN d).P = Y.P := by unfold Ty.deadN; split <;> exact ⟨rfl, rfl, rfl⟩
theorem get16 (g : Sb → Value) (Y : Ty) {β : Nat} (hβ : β < 16) : (M16 g Y)[β]? = some (g (Y.sb.getD β Sb.none)) := by simp [M16, hβ]
theorem at_wear {Y : Ty} {β : Nat} {s : Sb} (hs : Y.sb[β]? = some s) (hβ : β < 16) : (refV Y)[3 + β]? = some (.int .i64 s.wear) := by
 rw [zby, List.getElem?_append_right (by simp [G3]), show 3 + β - (G3 Y).length = β by simp [G3], List.getElem?_append_left (by rw [zbk]; exact hβ), get16 _ _ hβ, List.getD_eq_getElem?_getD, hs]; rfl
theorem at_bad {Y : Ty} {β : Nat} {s : Sb} (hs : Y.sb[β]? = some s) (hβ : β < 16) : (refV Y)[19 + β]? = some (.int .i64 ((s.bad : Nat) : Int)) := by
 rw [zby, ← List.append_assoc, List.getElem?_append_right (by simp [G3, zbk]), show 19 + β - (G3 Y ++ M16 wearV Y).length = β by simp [G3, zbk], List.getElem?_append_left (by rw [zbk]; exact hβ), get16 _ _ hβ, List.getD_eq_getElem?_getD, hs]; rfl
theorem at_dead (Y : Ty) : (refV Y)[35]? = some (.int .i64 ((Y.dead : Nat) : Int)) := by
 rw [zby, ← List.append_assoc, ← List.append_assoc, List.getElem?_append_right (by simp [G3, zbk]), show 35 - (G3 Y ++ M16 wearV Y ++ M16 badV Y).length = 0 by simp [G3, zbk]]; rfl
theorem at_used {Y : Ty} {β : Nat} {s : Sb} (hs : Y.sb[β]? = some s) (hβ : β < 16) : (refV Y)[36 + β]? = some (.bool s.used) := by
 rw [zby, ← List.append_assoc, ← List.append_assoc, ← List.append_assoc, List.getElem?_append_right (by simp [G3, zbk]), show 36 + β - (G3 Y ++ M16 wearV Y ++ M16 badV Y ++ [Value.int .i64 (Y.dead : Int)]).length = β by simp [G3, zbk], List.getElem?_append_left (by rw [zbk]; exact hβ), get16 _ _ hβ, List.getD_eq_getElem?_getD, hs]; rfl
theorem at_held {Y : Ty} {β : Nat} {s : Sb} (hs : Y.sb[β]? = some s) (hβ : β < 16) : (refV Y)[52 + β]? = some (.bool s.held) := by
 rw [zby, ← List.append_assoc, ← List.append_assoc, ← List.append_assoc, ← List.append_assoc, List.getElem?_append_right (by simp [G3, zbk]), show 52 + β - (G3 Y ++ M16 wearV Y ++ M16 badV Y ++ [Value.int .i64 (Y.dead : Int)] ++ M16 usedV Y).length = β by simp [G3, zbk], get16 _ _ hβ, List.getD_eq_getElem?_getD, hs]; rfl
theorem set_same {Y : Ty} {β : Nat} {s : Sb} (hs : Y.sb[β]? = some s) : { Y with sb := Y.sb.set β s } = Y := by
 have : Y.sb.set β s = Y.sb := by
  apply List.ext_getElem?
  intro i; rw [List.getElem?_set]; by_cases e : β = i
  · subst e
    have hlt : β < Y.sb.length := (List.getElem?_eq_some_iff.1 hs).1; simp [hlt, ← hs]
  · simp [e]
 rw [this]
theorem or_bits : ∀ a : Nat, a < 64 → ∀ d : Nat, d < 6 → bits .or .i64 (a : Int) ((2 ^ d : Nat) : Int) = ((orN a (d : Int) : Nat) : Int) := by decide +kernel
end
def inB (B : Nat) (x : Int) : Bool := decide (0 ≤ x) && decide (x < (B : Int))
theorem inB_true {B : Nat} {x : Int} (h : inB B x = true) : ∃ β : Nat, x = (β : Int) ∧ β < B := by
 simp [inB] at h
 exact ⟨x.toNat, by omega, by omega⟩
theorem inB_false {B : Nat} {x : Int} (h : inB B x = false) : x < 0 ∨ (B : Int) ≤ x := by
 simp [inB] at h
 omega
def step (Y : Ty) (x : Op7) : Ty :=
 if x.k = 1 then Y.wore x.bl x.n else if x.k = 2 then Y.badN x.di x.bl else if x.k = 3 then Y.deadN x.di else if x.k = 4 then Y.clean x.bl (x.n != 0) else if x.k = 5 then Y.hold x.bl (x.n != 0) else Y
def run (Y : Ty) (l : List Op7) : Ty := l.foldl step Y
def Post (w0 : World) (D B P : Nat) (Y : Ty) (e : Ending) (w : World) : Prop :=
 ∃ gt lb WB g mb cb tb rb GB, e = .returned (.tuple #[.pointer (some ⟨gt, 0, none⟩), .pointer (some ⟨WB, 0, none⟩), .pointer (some ⟨g, 0, none⟩), .pointer (some ⟨tb, 0, none⟩)]) ∧ Sta w0 D B P gt lb WB g mb cb tb rb GB 150 Y Y w
theorem new_M (g : Sb → Value) (D B P : Nat) : M16 g (Ty.new D B P) = (List.range 16).map (fun _ => g Sb.none) := by
 refine List.map_congr_left fun b _ => ?_
 unfold Ty.new
 rw [List.getD_eq_getElem?_getD, List.getElem?_replicate]
 split <;> rfl
theorem built_rt (D B P : Nat) : Tryz.prog.built 71 [(0, .agg (tal.geoV D B P).toArray)] = some (refV (Ty.new D B P)).toArray := by
 rw [zby, new_M, new_M, new_M, new_M]
 kernel_rfl
structure X5 where
 (gt lb WB : Nat) (v8 v9 : Value)
def R2 (w : World) (D B P : Nat) (v8 v9 : Value) (wx : World) : Prop := ∃ gt lb WB, v8 = .pointer (some ⟨gt, 0, none⟩) ∧ v9 = .pointer (some ⟨WB, 0, none⟩) ∧ TalAt wx gt lb (Ty.new D B P) ∧ wx.heap[WB]? = some (.cells (refV (Ty.new D B P)).toArray 71 (0, 0)) ∧ wx.heap[w.heap.size]? = some (.cells (tal.geoV D B P).toArray 39 (0, 0)) ∧ Below w.heap.size w wx ∧ w.heap.size ≤ gt ∧ w.heap.size ≤ lb ∧ w.heap.size ≤ WB
end Go.Proofs.YtpbigfopmompfaaGreat.tls
namespace Go.Proofs.YtpbigfopmompfaaGreat
open Go.RowKit
theorem zbq {P : Program} {id : Nat} {Q : Exit → Act → World → Prop} {a : Act} {w : World} {l : List Oper} (n : Nat) (hm : P.follows .mixedOrders = true) (hB : Region.lexTailB .any l.toArray n = true)
 (h : ∀ wd, wd = w.drew → wpStill P l.toArray wd (fun a' => wpList P l.toArray Q (l.drop n) a' wd) (l.take n) a) : (Code.region id l.toArray true).wp P Q a w := wp_region_still_tail n hm hB (h _ rfl)
end Go.Proofs.YtpbigfopmompfaaGreat
namespace Go.Proofs.YtpbigfopmompfaaGreat.pickHeld
open Go.RowKit
open Go.Proofs.YtpbigfopmompfaaGreat.pick
open Go.Proofs.YtpbigfopmompfaaGreat.tal (TalAt Sb Ty)
set_option linter.unusedVariables false
section
variable {Y : Ty} {T : tab.Tb} {β : Nat} {s : Sb}
end
theorem open_geo3 {cs : List Value} (h : okAll (List.replicate 3 (Kd.int .i64)) cs = true) : ∃ a b c : Int, cs = [.int .i64 a, .int .i64 b, .int .i64 c] := by
 have hl := zaz h
 match cs, hl, h with
 | [c0, c1, c2], _, h =>
  simp only [List.replicate_succ, List.replicate_zero, okAll, Bool.and_eq_true, and_true] at h; obtain ⟨h0, h1, h2⟩ := h; obtain ⟨a, rfl, -⟩ := zb3 h0; obtain ⟨b, rfl, -⟩ := zb3 h1; obtain ⟨c, rfl, -⟩ := zb3 h2; exact ⟨a, b, c, rfl⟩
end Go.Proofs.YtpbigfopmompfaaGreat.pickHeld
namespace Go.Proofs.YtpbigfopmompfaaGreat.tls
open Go.RowKit
open Go.Proofs.YtpbigfopmompfaaGreat.tal
set_option linter.unusedVariables false
def liveL (x D : Nat) : List Nat := (List.range D).filter fun d => !x.testBit d
theorem liveL_succ (x D : Nat) : liveL x (D + 1) = liveL x D ++ (if x.testBit D then [] else [D]) := by
 unfold liveL
 rw [List.range_succ, List.filter_append]
 cases h : x.testBit D <;> simp [h]
theorem live_set : ∀ D : Nat, D < 7 → ∀ x : Nat, x < 64 → setN (liveL x D) = andN (2 ^ D - 1) x := by decide +kernel
theorem neg_or : ∀ a : Nat, a < 64 → ∀ b : Nat, b < 64 → (63 - a) &&& (63 - b) = 63 - (a ||| b) := by decide +kernel
theorem andN_or {x a b : Nat} (ha : a < 64) (hb : b < 64) : andN (andN x a) b = andN x (a ||| b) := by unfold andN; rw [Nat.and_assoc, neg_or a ha b hb]
theorem or_lt {a b : Nat} (ha : a < 64) (hb : b < 64) : a ||| b < 64 := Nat.or_lt_two_pow (n := 6) ha hb
theorem spot_bit : ∀ m : Nat, m < 64 → ∀ d : Nat, d < 6 → decide (spotI (m : Int) (d : Int) < 0) = !m.testBit d := by decide +kernel
theorem use_dies : ∀ m : Nat, m < 64 → decide (2 ≤ (diesN m).length) = decide (0 < slotsI (m : Int)) := by decide +kernel
theorem dies_len : ∀ m : Nat, m < 64 → (diesN m).length ≤ 6 := by decide +kernel
theorem mask_live {Y : Ty} (ok : Y.ok) {β : Nat} {s : Sb} (hs : Y.sb[β]? = some s) : setN (liveL (Y.dead ||| s.bad) Y.D) = Y.mask (β : Int) := by
 have h6 := ok.geo.2.1
 have hb := ok.bad s (List.mem_of_getElem? hs)
 rw [live_set Y.D (by omega) _ (or_lt ok.dead hb)]
 unfold Ty.mask
 rw [get_in hs]
 exact (andN_or ok.dead hb).symm
set_option maxRecDepth 100000 in
set_option maxHeartbeats 4000000 in
theorem rmask_any {w : World} {Y : Ty} {WB : Nat} (ok : Y.ok) (hw : w.heap[WB]? = some (.cells (refV Y).toArray 71 (0, 0))) (β : Nat) (hβ : β < Y.B) :
 Calls Tryz.prog 40 #[.pointer (some ⟨WB, 0, none⟩), .int .i64 (β : Int)] w fun e w' => e = .returned (.int .i64 (Y.mask (β : Int) : Int)) ∧ Below w.heap.size w w' := by
 obtain ⟨s, hs⟩ : ∃ s, Y.sb[β]? = some s := ⟨_, List.getElem?_eq_getElem (by rw [ok.len]; exact hβ)⟩
 have HML := Lib.hid (mask_live ok hs)
 have hg := ok.geo
 have hd64 := ok.dead
 have hb64 := ok.bad s (List.mem_of_getElem? hs)
 have HC := Lib.hid (show ∀ w', Below w.heap.size w w' → w'.cell? ⟨WB, 0, none⟩ = some (.int .i64 (Y.D : Int)) ∧ w'.cell? ⟨WB, 1, none⟩ = some (.int .i64 (Y.B : Int)) ∧ w'.cell? ⟨WB, 35, none⟩ = some (.int .i64 (Y.dead : Int)) ∧ w'.cell? ⟨WB, 19 + β, none⟩ = some (.int .i64 (s.bad : Int)) from fun w' hb => by
  have h := zad hw hb; refine ⟨by rw [zaf h]; rfl, by rw [zaf h]; rfl, ?_, ?_⟩
  · rw [zaf h, List.getElem?_toArray]; exact at_dead Y
  · rw [zaf h, List.getElem?_toArray]; exact at_bad hs (by omega))
 obtain ⟨D, hD⟩ : ∃ D, D = Y.D := ⟨_, rfl⟩
 obtain ⟨B, hB⟩ : ∃ B, B = Y.B := ⟨_, rfl⟩
 obtain ⟨dd, hdd⟩ : ∃ dd, dd = Y.dead := ⟨_, rfl⟩
 obtain ⟨bb, hbb⟩ : ∃ bb, bb = s.bad := ⟨_, rfl⟩
 rw [← hD, ← hB, ← hdd, ← hbb] at HC
 rw [← hD, ← hdd, ← hbb] at HML
 rw [← hD] at hg
 rw [← hB] at hg hβ
 rw [← hdd] at hd64
 rw [← hbb] at hb64
 obtain ⟨g1, g2, g3, g4, -⟩ := hg
 clear hD hB hdd hbb hs ok hw
 go_enter Tryz.func40, Tryz.ntmps40
 go_wp2_with fail
 go_loopw [5, 6] (fun v i wr => ∃ k : Nat, k ≤ D ∧ i = .int .i64 k ∧ wr.ownsRow w.heap.size 3 1 v (liveL (dd ||| bb) k).length (nats .i64 (liveL (dd ||| bb) k)) ∧ Below w.heap.size w wr) (fun _ i _ => D - (intOf i).toNat)
 case atStart => exact ⟨0, by omega, rfl, World.ownsRow_nil _ _ _ _, Below.refl _ _⟩
 case round =>
  obtain ⟨k, hk, rfl, ho, hb⟩ := hrel; have HO := Lib.hid ho; have HB := Lib.hid hb; obtain ⟨c0, c1, c2, c3⟩ := HC.out wr hb; have hlen : (liveL (dd ||| bb) k).length ≤ k := by unfold liveL; exact Nat.le_trans (List.length_filter_le _ _) (by simp)
  have HSU := Lib.hid (liveL_succ (dd ||| bb) k); obtain ⟨m, hm⟩ : ∃ m, m = (liveL (dd ||| bb) k).length := ⟨_, rfl⟩; rw [← hm] at hlen HO; have HM := Lib.hid hm; clear ho hb hm; by_cases hkD : k < D
  · have hsp := spot_bit dd hd64 k (by omega)
    have hsp2 := spot_bit bb hb64 k (by omega); have HS1 := Lib.hid (refspot_any (dd : Int) (k : Int) wr); have HS2 := Lib.hid (refspot_any (bb : Int) (k : Int)); generalize spotI (dd : Int) (k : Int) = q1 at *; generalize spotI (bb : Int) (k : Int) = q2 at *; cases hb1 : dd.testBit k with
    | true =>
     rw [hb1] at hsp; have HSN := Lib.hid (show liveL (dd ||| bb) (k + 1) = liveL (dd ||| bb) k by rw [HSU.out, Nat.testBit_or, hb1]; simp); have hsp' : ¬ q1 < 0 := by simpa using hsp
     clear hsp hsp2 HS2; go_wp2_with fail
     refine HS1.out.mono ?_; rintro e w5 ⟨rfl, hb5⟩; have HR := Lib.hid (show w5.ownsRow w.heap.size 3 1 u5 m (nats .i64 (liveL (dd ||| bb) k)) ∧ Below w.heap.size w w5 from ⟨zb6 HO.out hb5, HB.out.trans (hb5.mono HB.out.size)⟩); clear hb5; go_wp2_with fail
     go_roundw
     case rel => exact ⟨k + 1, by omega, by go_num, by rw [HSN.out, ← HM.out]; exact HR.out.1, HR.out.2⟩
     case measure => simp [intOf]; omega
    | false =>
     rw [hb1] at hsp; have hsp' : q1 < 0 := by simpa using hsp
     clear hsp c0 c1 c2 c3; obtain ⟨c0, c1, c2, c3⟩ := HC.out wr HB.out; go_wp2_with fail
     refine HS1.out.mono ?_; rintro e w5 ⟨rfl, hb5⟩; have HB5 := Lib.hid (HB.out.trans (hb5.mono HB.out.size)); have HO5 := Lib.hid (zb6 HO.out hb5); clear hb5 c0 c1 c2 c3; obtain ⟨c0, c1, c2, c3⟩ := HC.out w5 HB5.out; have hβI : (β : Int) < 16 := by omega
     have hβ0 : (0 : Int) ≤ (β : Int) := by omega
     have HS2' := Lib.hid (HS2.out w5); go_wp2_with fail
     refine HS2'.out.mono ?_; rintro e w6 ⟨rfl, hb6⟩; have HB6 := Lib.hid (HB5.out.trans (hb6.mono HB5.out.size)); have ho6 := zb6 HO5.out hb6; clear hb6 c0 c1 c2 c3; cases hb2 : bb.testBit k with
     | true =>
      rw [hb2] at hsp2; have HSN := Lib.hid (show liveL (dd ||| bb) (k + 1) = liveL (dd ||| bb) k by rw [HSU.out, Nat.testBit_or, hb1, hb2]; simp); have hsp' : ¬ q2 < 0 := by simpa using hsp2
      have HO6 := Lib.hid ho6; clear hsp2 ho6; go_wp2_with fail
      go_roundw
      case rel => exact ⟨k + 1, by omega, by go_num, by rw [HSN.out, ← HM.out]; exact HO6.out, HB6.out⟩
      case measure => simp [intOf]; omega
     | false =>
      rw [hb2] at hsp2; have HSN := Lib.hid (show liveL (dd ||| bb) (k + 1) = liveL (dd ||| bb) k ++ [k] by rw [HSU.out, Nat.testBit_or, hb1, hb2]; simp); have hsp' : q2 < 0 := by simpa using hsp2
      have hbb6 := HB6.out; have hs6 := hbb6.size; clear hsp2; go_wp2_with (first | (at_builtin; go_must (refine zbm rfl (.tmp 47) (.tmp 49) 53 rfl 3 _ _ Tryz.underlying53 intInfo rfl ho6 hbb6 rfl rfl rfl (by unfold maxLen; omega) (by omega) hs6 (Nat.le_refl _) ?_)))
      intro v8 w8 hown8 hb8 _ _; have HO8 := Lib.hid hown8; have HB8 := Lib.hid hb8; clear hown8 hb8 ho6 hbb6 hs6; go_wp2_with fail
      go_roundw
      case rel => exact ⟨k + 1, by omega, by go_num, by rw [HSN.out, List.length_append, ← HM.out]; have := HO8.out; rw [show nats .i64 (liveL (dd ||| bb) k ++ [k]) = nats .i64 (liveL (dd ||| bb) k) ++ [.int .i64 (k : Int)] by simp [nats]]; exact this, HB8.out⟩
      case measure => simp [intOf]; omega
  · obtain rfl : k = D := by omega
    obtain ⟨A2, c2', rfl⟩ := pick.len_nats HO.out
    have HRs := Lib.hid (refset_any A2 m c2' wr.heap.size (liveL (dd ||| bb) k) wr (Rd.of_own HO.out) (fun d hd => by
     have := List.mem_range.1 (List.mem_filter.1 hd).1; omega) (by omega))
    rw [HML.out] at HRs; go_wp2_with fail
    refine HRs.out.mono ?_; rintro e w9 ⟨rfl, rfl⟩; go_wp2_with fail
    go_ret
    exact ⟨rfl, HB.out⟩
set_option maxRecDepth 100000 in
theorem rusable_any {w : World} {Y : Ty} {WB : Nat} (ok : Y.ok) (hw : w.heap[WB]? = some (.cells (refV Y).toArray 71 (0, 0))) (β : Nat) (hβ : β < Y.B) :
 Calls Tryz.prog 41 #[.pointer (some ⟨WB, 0, none⟩), .int .i64 (β : Int)] w fun e w' => e = .returned (.bool (Y.usable (β : Int))) ∧ Below w.heap.size w w' := by
 have HMk := Lib.hid (rmask_any ok hw β hβ)
 have hm := ok.mask (β : Int)
 have HU := Lib.hid (use_dies _ hm)
 have hdl := dies_len _ hm
 have HEq := Lib.hid (show Y.usable (β : Int) = decide (0 < slotsI (Y.mask (β : Int) : Int)) from rfl)
 generalize Y.mask (β : Int) = M at *
 clear ok hw
 go_enter Tryz.func41, Tryz.ntmps41
 go_wp2_with fail
 refine HMk.out.mono ?_
 rintro e w5 ⟨rfl, hb5⟩
 have HB5 := Lib.hid hb5
 clear hb5
 go_wp2_with fail
 refine (dies_nat M (by omega) w5).mono ?_
 rintro e w6 ⟨v, rfl, hown, hb6⟩
 obtain ⟨A2, c2, rfl⟩ := pick.len_nats hown
 have HB6 := Lib.hid (HB5.out.trans (hb6.mono HB5.out.size))
 obtain ⟨q, hq⟩ : ∃ q, q = (diesN M).length := ⟨_, rfl⟩
 rw [← hq] at hdl HU ⊢
 clear hown hb6 hq
 go_wp2_with fail
 go_ret
 refine ⟨?_, HB6.out⟩
 rw [HEq.out, ← HU.out]
 simp
 omega
end Go.Proofs.YtpbigfopmompfaaGreat.tls
