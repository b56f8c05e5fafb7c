import Derived.Test.YtpbigfopmompfaaGreatRegion
import Derived.StillTailTactics
import Derived.Test.YtpbigfopmompfaaGreatBunN
import Derived.Test.YtpbigfopmompfaaGreatOwnRows
import Derived.Test.YtpbigfopmompfaaGreatBunS
import Derived.Deep.DeepCutAuto
import Derived.Deep.QuietTactic
import Derived.BigQuiet
import Derived.Test.YtpbigfopmompfaaGreatBegun5
import Derived.Test.YtpbigfopmompfaaGreatBunQ
import Derived.Test.YtpbigfopmompfaaGreatBegun13
/- What a claim's proof leans on: Still, PutMid, Ref13, Ops13, Tallies, HeldLaw. -/
namespace Go.Proofs.YtpbigfopmompfaaGreat
open Go.RowKit
theorem wp_tail {P : Program} {id : Nat} {Q : Exit → Act → World → Prop} {a : Act} {w : World} {l : List Oper} (n : Nat) (hm : P.follows .mixedOrders = true) (hB : Region.lexTailB .any l.toArray n = true)
 (h : ∀ wd, wd = w.drew → wpStill P l.toArray wd (fun a' => wpList P l.toArray Q (l.drop n) a' wd) (l.take n) a) : (Code.region id l.toArray true).wp P Q a w := wp_region_still_tail n hm hB (h _ rfl)
end Go.Proofs.YtpbigfopmompfaaGreat
namespace Go.Proofs.YtpbigfopmompfaaGreat
open Go.RowKit
set_option linter.unusedVariables false
theorem wp_put_mid' {P : Program} {o : Oper} {a : Act} {w : World} {K : Act → World → Prop} {Q : Exit → Act → World → Prop} (ty : TypeId) (x y : Operand) (ho : o.op = .store ty x y) (g i : Nat) (new : List Value) (hx : a.eval x = .pointer (some ⟨g, i, none⟩)) (hy : a.eval y = .agg new.toArray)
 (t : TypeId) (old : List Value) (hg : w.heap[g]? = some (.cells old.toArray t (0, 0))) (hi : (P.info? ty).map (·.size) = some new.length) (hold : i + new.length ≤ old.length) (h1 : ∀ v ∈ new, v.oneCell' = true)
 (h : ∀ w', Upd g (.cells (splice old i new).toArray t (0, 0)) w w' → K (a.put o.dst undef) w') : o.wp P a w K Q := by
 have hU := upd_setCells (i := i) hg hold
 refine wp_store_mid ty x y ho g i new.toArray hx hy (fun j hj => ?_) (by simpa using hi) (all_oneCell_toArray h1) (by simpa using h _ hU)
 have hj' : i + j < old.length := by simp at hj; omega
 refine ⟨?_, blk_frozen hg _⟩
 rw [blk_cell hg, List.getElem?_toArray, List.getElem?_eq_getElem hj']; rfl
theorem wp_build' {P : Program} {o : Oper} {a : Act} {w : World} {K : Act → World → Prop} {Q : Exit → Act → World → Prop} (t : TypeId) (parts : Array (Nat × Operand)) (ho : o.op = .build t parts) (ps : List (Nat × Value)) (hps : parts.toList.map (fun p => (p.1, a.eval p.2)) = ps)
 (cells : Array Value) (hb : P.built t ps = some cells) (h : K (a.put o.dst (.agg cells)) w) : o.wp P a w K Q := by
 have e : (parts.map fun (i, x) => (i, a.eval x)).toList = ps := by rw [← hps, Array.toList_map]
 exact wp_build t parts ho (by rw [e, hb]; rfl) (by rw [e, hb]; exact h)
theorem splice_rows {C : Nat} {r' : List Value} (hr' : r'.length = C) : ∀ {rows : List (List Value)} {i : Nat}, (∀ r ∈ rows, r.length = C) → i < rows.length → splice rows.flatten (i * C) r' = (rows.set i r').flatten
 | [], _, _, h => by simp at h
 | r :: rs, 0, hC, _ => by
  have hr := hC r (by simp)
  simp [splice, hr', ← hr]
 | r :: rs, i + 1, hC, hi => by
  have hr := hC r (by simp)
  have ih := splice_rows hr' (rows := rs) (i := i) (fun r h => hC r (by simp [h])) (by simpa using hi)
  unfold splice at ih ⊢
  rw [List.set_cons_succ, List.flatten_cons, List.flatten_cons, ← ih, show (i + 1) * C = r.length + i * C by rw [Nat.succ_mul, hr]; omega, List.take_length_add_append, show r.length + i * C + r'.length = r.length + (i * C + r'.length) by omega, List.drop_length_add_append, List.append_assoc]
end Go.Proofs.YtpbigfopmompfaaGreat
namespace Go.Proofs.YtpbigfopmompfaaGreat.rtab
open Go.RowKit
open Go.Proofs.YtpbigfopmompfaaGreat.nand (alloc_low)
set_option linter.unusedVariables false
structure St where
 (is : Bool) (b r s m q o : Int)
def St.v (x : St) : List Value := [.bool x.is, .int .i64 x.b, .int .i64 x.r, .int .i64 x.s, .int .i64 x.m, .int .i64 x.q, .int .i64 x.o]
def St.none : St := ⟨false, 0, 0, 0, 0, 0, 0⟩
def rowsR (l : List St) : List (List Value) := l.map St.v
theorem rowsR_len (l : List St) : ∀ r ∈ rowsR l, r.length = 7 := by
 intro r hr
 obtain ⟨x, -, rfl⟩ := List.mem_map.1 hr
 rfl
structure RefAt (w : World) (tb rb N : Nat) (l : List St) (nx : Int) : Prop where
 len : l.length = N
 big : N ≤ 65536
 head : w.heap[tb]? = some (.cells #[.slice (some ⟨rb, 0, none⟩) N N, .int .i64 nx] 135 (0, 0))
 rows : w.heap[rb]? = some (.cells (rowsR l).flatten.toArray 137 (0, 0))
def RefF (tb rb k : Nat) : Prop := k = tb ∨ k = rb
section
variable {w w' : World} {tb rb N : Nat} {l : List St} {nx : Int}
theorem RefAt.below (h : RefAt w tb rb N l nx) (hb : Below w.heap.size w w') : RefAt w' tb rb N l nx := ⟨h.len, h.big, blk_below h.head hb, blk_below h.rows hb⟩
theorem RefAt.keep {S : Nat → Prop} (h : RefAt w tb rb N l nx) (hk : Keep S w w') (hn : ∀ k, RefF tb rb k → ¬ S k) : RefAt w' tb rb N l nx := ⟨h.len, h.big, blk_keep h.head hk (hn _ (.inl rfl)), blk_keep h.rows hk (hn _ (.inr rfl))⟩
theorem RefAt.ne (h : RefAt w tb rb N l nx) : tb ≠ rb := nand.ne_kind h.head h.rows (by simp [nand.kindO] <;> decide)
theorem RefAt.lt (h : RefAt w tb rb N l nx) : tb < w.heap.size ∧ rb < w.heap.size := ⟨lt_of_cells h.head, lt_of_cells h.rows⟩
theorem RefAt.cell (h : RefAt w tb rb N l nx) {i : Nat} {x : St} (hx : l[i]? = some x) {j : Nat} {u : Value} (hu : x.v[j]? = some u) : w.cell? ⟨rb, i * 7 + j, none⟩ = some u := by
 have hj : j < 7 := (List.getElem?_eq_some_iff.1 hu).1
 rw [blk_cell h.rows, List.getElem?_toArray, flat_get (rowsR_len l) (i := i) (r := x.v) (by simp [rowsR, hx]) hj]
 exact hu
end
theorem one_st (x : St) : ∀ u ∈ x.v, u.oneCell' = true := by
 intro u hu
 simp [St.v] at hu
 rcases hu with rfl | rfl | rfl | rfl | rfl | rfl | rfl <;> rfl
theorem RefAt.stored {w w' : World} {tb rb N : Nat} {l : List St} {nx : Int} (h : RefAt w tb rb N l nx) {i : Nat} {x : St} (hU : Upd rb (.cells (splice (rowsR l).flatten (i * 7) x.v).toArray 137 (0, 0)) w w') (hi : i < l.length) : RefAt w' tb rb N (l.set i x) nx := by
 refine ⟨by rw [List.length_set]; exact h.len, h.big, hU.old h.head h.ne, ?_⟩
 have := hU.at_
 rw [splice_rows (C := 7) (show x.v.length = 7 from rfl) (rowsR_len l) (by simpa [rowsR] using hi)] at this
 rw [show rowsR (l.set i x) = (rowsR l).set i x.v by simp [rowsR, List.map_set]]
 exact this
theorem RefAt.setNext {w : World} {tb rb N : Nat} {l : List St} {nx : Int} (h : RefAt w tb rb N l nx) (k : Nat) (v : Int) : RefAt ((w.drewN k).setCell ⟨tb, 1, none⟩ (.int .i64 v)) tb rb N l v := by
 have h' := h.below (below_drewN (Below.refl _ w) k)
 refine ⟨h.len, h.big, ?_, blk_set (p := ⟨tb, 1, none⟩) h'.rows (fun e => h.ne e.symm) _⟩
 have := heap_set2 (i := 1) h'.head (.int .i64 v)
 exact this
theorem keep_setNext {w0 w : World} {tb rb : Nat} (h : Keep (RefF tb rb) w0 w) (k : Nat) (v : Value) : Keep (RefF tb rb) w0 ((w.drewN k).setCell ⟨tb, 1, none⟩ v) := (h.drewN k).setCell (p := ⟨tb, 1, none⟩) (.inl (.inl rfl)) v
theorem built_st (b row slot m sq r : Int) : Tryz.prog.built 137 [(0, .bool true), (1, .agg #[.int .i64 b, .int .i64 row, .int .i64 slot]), (2, .int .i64 m), (3, .int .i64 sq), (4, .int .i64 r)] = some (St.v ⟨true, b, row, slot, m, sq, r⟩).toArray := by kernel_rfl
theorem stInfo : (Tryz.prog.info? 137).map (·.size) = some 7 := by kernel_rfl
def PutPost (tb rb N : Nat) (w : World) (e : Ending) (w' : World) : Prop := ∃ v l' nx', e = .returned (.bool v) ∧ RefAt w' tb rb N l' nx' ∧ Keep (RefF tb rb) w w'
set_option maxRecDepth 100000 in
set_option maxHeartbeats 8000000 in
theorem put_any {w : World} {tb rb N : Nat} {l : List St} {nx : Int} (h : RefAt w tb rb N l nx) (lp sq r b row slot m : Int) (d : List Nat) (hd : d.length = 16) :
 Calls Tryz.prog 71 #[.pointer (some ⟨tb, 0, none⟩), .agg (enV lp sq r d).toArray, .agg #[.int .i64 b, .int .i64 row, .int .i64 slot], .int .i64 m] w (PutPost tb rb N w) := by
 have hb0 := below2 w (.cells (enV lp sq r d).toArray 29) (.cells #[.int .i64 b, .int .i64 row, .int .i64 slot] 31)
 have he := heap_at1 w (.cells (enV lp sq r d).toArray 29) (.cells #[.int .i64 b, .int .i64 row, .int .i64 slot] 31)
 have hp := heap_new' (w.alloc (.cells (enV lp sq r d).toArray 29)) (.cells #[.int .i64 b, .int .i64 row, .int .i64 slot] 31) (w.heap.size + 1) (by simp)
 have h2 := h.below hb0
 have HT := Lib.hid h2
 have HK0 := Lib.hid (Keep.of_new (S := RefF tb rb) hb0)
 have HS := Lib.hid (show tb < w.heap.size ∧ rb < w.heap.size from h.lt)
 go_enter Tryz.func71, Tryz.ntmps71
 go_upto_region 1 with fail
 change Code.wp _ _ _ _ ((w.alloc (.cells (enV lp sq r d).toArray 29)).alloc (.cells #[.int .i64 b, .int .i64 row, .int .i64 slot] 31))
 generalize (w.alloc (.cells (enV lp sq r d).toArray 29)).alloc (.cells #[.int .i64 b, .int .i64 row, .int .i64 slot] 31) = w2 at *
 have e0 : w2.cell? ⟨w.heap.size, 0, none⟩ = some (.int .i64 lp) := by rw [blk_cell he]; rfl
 have e1 : w2.cell? ⟨w.heap.size, 1, none⟩ = some (.int .i64 sq) := by rw [blk_cell he]; rfl
 have e2 : w2.cell? ⟨w.heap.size, 2, none⟩ = some (.int .i64 r) := by rw [blk_cell he]; rfl
 have c0 : w2.cell? ⟨tb, 0, none⟩ = some (.slice (some ⟨rb, 0, none⟩) N N) := by rw [blk_cell h2.head]; rfl
 have c1 : w2.cell? ⟨tb, 1, none⟩ = some (.int .i64 nx) := by rw [blk_cell h2.head]; rfl
 have f1 : w2.frozen? ⟨tb, 1, none⟩ = false := blk_frozen h2.head 1
 have HE := Lib.hid he
 have HP := Lib.hid hp
 have hN := h.big
 have NO := Lib.hid (show ∀ k, PutPost tb rb N w (.returned (.bool false)) (w2.drewN k) from fun k => ⟨_, _, _, rfl, HT.out.below (below_drewN (Below.refl _ w2) k), HK0.out.drewN k⟩)
 clear he hp h2 h hb0 f1
 by_cases a1 : lp < 0
 · go_quiet (fail)
   go_wp2_with fail
   go_ret
   exact NO.out _
 · by_cases a2 : (N : Int) ≤ lp
   · go_quiet (fail)
     go_wp2_with fail
     go_ret
     exact NO.out _
   · obtain ⟨i, rfl⟩ := Int.eq_ofNat_of_zero_le (show 0 ≤ lp by omega)
     have hiN : i < N := by omega
     have a2' : decide (N ≤ i) = false := by simp; omega
     cases hr : tab.roleB r with
     | false =>
      unfold tab.roleB at hr
      simp only [Bool.or_eq_false_iff] at hr
      obtain ⟨⟨r1, r2⟩, r3⟩ := hr
      have q1 : (r != (1 : Int)) = true := by simpa using r1
      have q2 : (r != (2 : Int)) = true := by simpa using r2
      have q3 : (r != (4 : Int)) = true := by simpa using r3
      clear r1 r2 r3
      go_quiet (fail)
      go_wp2_with fail
      go_ret
      exact NO.out _
     | true =>
      obtain ⟨x, hx⟩ : ∃ x, l[i]? = some x := ⟨_, List.getElem?_eq_getElem (show i < l.length by rw [HT.out.len]; exact hiN)⟩
      obtain ⟨is, xq, hxi, hxq⟩ : ∃ is xq, is = x.is ∧ xq = x.q := ⟨_, _, rfl, rfl⟩
      have d0 : w2.cell? ⟨rb, i * 7, none⟩ = some (.bool is) := by rw [hxi]; exact HT.out.cell hx (j := 0) rfl
      have d5 : w2.cell? ⟨rb, i * 7 + 5, none⟩ = some (.int .i64 xq) := by rw [hxq]; exact HT.out.cell hx (j := 5) rfl
      have HX := Lib.hid hx
      clear hx hxi hxq
      obtain ⟨bad, hbad⟩ : ∃ bad, bad = (is && decide (sq < xq)) := ⟨_, rfl⟩
      have HBAD := Lib.hid hbad
      clear hbad
      go_cut [61] (fun v wx => v = .bool bad ∧ ∃ k, wx = w2.drewN k)
      case first =>
       have fin : ∀ k, Value.bool bad = .bool bad ∧ ∃ k', w2.drewN k = w2.drewN k' := fun k => ⟨rfl, k, rfl⟩
       have HFIN := Lib.hid fin
       unfold tab.roleB at hr
       have HRR : Hid ((r != (1 : Int)) = false ∨ ((r != (1 : Int)) = true ∧ (r != (2 : Int)) = false) ∨ ((r != (1 : Int)) = true ∧ (r != (2 : Int)) = true ∧ (r != (4 : Int)) = false)) := Lib.hid (by
        by_cases r1 : r = 1
        · exact .inl (by simp [r1])
        · by_cases r2 : r = 2
          · exact .inr (.inl ⟨by simpa using r1, by simp [r2]⟩)
          · exact .inr (.inr ⟨by simpa using r1, by simpa using r2, by simp [r1, r2] at hr; simp [hr]⟩))
       have HBB : Hid ((is = false ∧ bad = false) ∨ (is = true ∧ sq < xq ∧ bad = true) ∨ (is = true ∧ ¬ sq < xq ∧ bad = false)) := Lib.hid (by
        rw [HBAD.out]
        cases is with
        | false => exact .inl ⟨rfl, rfl⟩
        | true =>
         by_cases h : sq < xq
         · exact .inr (.inl ⟨rfl, h, by simp [h]⟩)
         · exact .inr (.inr ⟨rfl, h, by simp [h]⟩))
       clear hr fin HBAD
       rcases HBB.out with ⟨rfl, rfl⟩ | ⟨rfl, hs, rfl⟩ | ⟨rfl, hs, rfl⟩
       all_goals clear HBB
       all_goals rcases HRR.out with q1 | ⟨q1, q2⟩ | ⟨q1, q2, q3⟩
       all_goals clear HRR
       all_goals
        go_quiet (fail)
        go_wp2_with fail
        go_meet
        exact ⟨rfl, _, rfl⟩
      case rest =>
       obtain ⟨rfl, k0, rfl⟩ := hcut
       cases bad with
       | true =>
        go_wp2_with fail
        go_ret
        exact NO.out _
       | false =>
        have hTk := HT.out.below (below_drewN (Below.refl _ w2) k0)
        have hEk : (w2.drewN k0).heap[w.heap.size]? = some (.cells (enV i sq r d).toArray 29 (0, 0)) := HE.out
        have hPk : (w2.drewN k0).heap[w.heap.size + 1]? = some (.cells ([.int .i64 b, .int .i64 row, .int .i64 slot] : List Value).toArray 31 (0, 0)) := HP.out
        have hKk := HK0.out.drewN k0
        clear HT HE HP HK0 NO e0 e1 e2 c0 c1 d0 d5 HBAD HX
        generalize w2.drewN k0 = wa at *
        have HT := Lib.hid hTk
        have HE := Lib.hid hEk
        have HP := Lib.hid hPk
        have HKA := Lib.hid hKk
        obtain ⟨EB, hEB⟩ : ∃ EB, EB = w.heap.size := ⟨_, rfl⟩
        rw [← hEB] at hEk HE
        rw [← hEB] at hPk HP
        have HNE := Lib.hid (show EB ≠ rb ∧ EB + 1 ≠ rb ∧ EB ≠ tb by have := HS.out; omega)
        simp only [← hEB]
        obtain ⟨xn, hxn⟩ : ∃ xn : St, xn = ⟨true, b, row, slot, m, sq, r⟩ := ⟨_, rfl⟩
        have HBS := Lib.hid (show Tryz.prog.built 137 [(0, .bool true), (1, .agg #[.int .i64 b, .int .i64 row, .int .i64 slot]), (2, .int .i64 m), (3, .int .i64 sq), (4, .int .i64 r)] = some xn.v.toArray by rw [hxn]; exact built_st b row slot m sq r)
        have HIN := Lib.hid (show i < l.length by rw [HT.out.len]; exact hiN)
        have HSZ := Lib.hid (show i * 7 + xn.v.length ≤ (rowsR l).flatten.length by
         rw [flat_len (rowsR_len l)]
         simp [rowsR, St.v]
         have := HIN.out
         omega)
        clear hTk hEk hPk hKk hxn hEB
        go_upto_region 3 with fail
        refine wp_region_puts_g (by kernel_rfl) (by kernel_rfl) (X := Unit) (fun _ => [(some 62, .pointer (some ⟨tb, 0, none⟩)), (some 63, .pointer (some ⟨tb, 0, none⟩)), (some 64, .pointer (some ⟨tb, 0, none⟩)), (some 65, .slice (some ⟨rb, 0, none⟩) N N), (some 66, .pointer (some ⟨EB, 0, none⟩)), (some 67, .int .i64 (i : Int)), (some 68, .agg ([.int .i64 b, .int .i64 row, .int .i64 slot]).toArray), (some 69, .int .i64 m), (some 70, .pointer (some ⟨EB, 1, none⟩)), (some 71, .int .i64 sq), (some 72, .pointer (some ⟨EB, 2, none⟩)), (some 73, .int .i64 r), (some 74, .agg xn.v.toArray), (some 75, .pointer (some ⟨rb, i * 7, none⟩)), (none, undef)])
         (fun _ L w' => w'.heap[EB]? = some (.cells (enV i sq r d).toArray 29 (0, 0)) ∧ w'.heap[EB + 1]? = some (.cells ([.int .i64 b, .int .i64 row, .int .i64 slot] : List Value).toArray 31 (0, 0)) ∧ (L 14 = false → RefAt w' tb rb N l nx) ∧ (L 14 = true → RefAt w' tb rb N (l.set i xn) nx) ∧ Keep (RefF tb rb) wa w' ∧ Below 0 wa w') (fun _ => rfl) (by kernel_rfl) ⟨(), fun L hL => ⟨HE.out, HP.out, (fun _ => HT.out.below (Below.refl _ wa).drew), (by rw [hL 14]; intro h; cases h), (Keep.refl _ wa).drew, (Below.refl 0 wa).drew⟩⟩ ?_ ?_
        · refine ⟨?_, ?_, ?_, ?_, ?_, ?_, ?_, ?_, ?_, ?_, ?_, ?_, ?_, ?_, ?_, trivial⟩
          · intro _ L w' hL hpre hJ a ha
            obtain ⟨je, jp, j0, j1, jk, jb⟩ := hJ
            simp [Region.binds] at hpre
            refine .inl ⟨wanted_none rfl, ?_⟩
            exact wp_move' (.tmp 0) (.inl rfl) (.pointer (some ⟨tb, 0, none⟩)) (by rw [ha, eval_puts_out rfl]; rfl) ⟨(), _, rfl, rfl, je, jp, j0, j1, jk, jb⟩
          · intro _ L w' hL hpre hJ a ha
            obtain ⟨je, jp, j0, j1, jk, jb⟩ := hJ
            simp [Region.binds] at hpre
            refine .inl ⟨wanted_none rfl, ?_⟩
            have e62 : a.eval (.tmp 62) = .pointer (some ⟨tb, 0, none⟩) := by rw [ha]; exact eval_puts_in (i := 0) rfl (by simp [hpre]) (by simp) rfl
            clear ha
            have je' := Lib.hid je
            have jp' := Lib.hid jp
            have j0' := Lib.hid j0
            have j1' := Lib.hid j1
            have jk' := Lib.hid jk
            have jb' := Lib.hid jb
            clear je jp j0 j1 jk jb
            refine wp_intro fun K HK => ?_
            unfold Oper.wp
            simp only [execOp, e62]
            go_simp
            exact HK.out _ _ ⟨(), _, rfl, rfl, je'.out, jp'.out, j0'.out, j1'.out, jk'.out, jb'.out⟩
          · intro _ L w' hL hpre hJ a ha
            obtain ⟨je, jp, j0, j1, jk, jb⟩ := hJ
            simp [Region.binds] at hpre
            refine .inl ⟨wanted_none rfl, ?_⟩
            have e63 : a.eval (.tmp 63) = .pointer (some ⟨tb, 0, none⟩) := by rw [ha]; exact eval_puts_in (i := 1) rfl (by simp [hpre]) (by simp) rfl
            clear ha
            have je' := Lib.hid je
            have jp' := Lib.hid jp
            have j0' := Lib.hid j0
            have j1' := Lib.hid j1
            have jk' := Lib.hid jk
            have jb' := Lib.hid jb
            clear je jp j0 j1 jk jb
            refine wp_intro fun K HK => ?_
            unfold Oper.wp
            simp only [execOp, e63]
            go_simp
            exact HK.out _ _ ⟨(), _, rfl, rfl, je'.out, jp'.out, j0'.out, j1'.out, jk'.out, jb'.out⟩
          · intro _ L w' hL hpre hJ a ha
            obtain ⟨je, jp, j0, j1, jk, jb⟩ := hJ
            simp [Region.binds] at hpre
            refine .inl ⟨wanted_none rfl, ?_⟩
            have e64 : a.eval (.tmp 64) = .pointer (some ⟨tb, 0, none⟩) := by rw [ha]; exact eval_puts_in (i := 2) rfl (by simp [hpre]) (by simp) rfl
            have cz : w'.cell? ⟨tb, 0, none⟩ = some (.slice (some ⟨rb, 0, none⟩) N N) := by
             cases h : L 14 with
             | false => rw [blk_cell (j0 h).head]; rfl
             | true => rw [blk_cell (j1 h).head]; rfl
            have HJ := Lib.hid (And.intro je (And.intro jp (And.intro j0 (And.intro j1 (And.intro jk jb)))))
            clear ha je jp j0 j1 jk jb
            refine wp_intro fun K HK => ?_
            unfold Oper.wp
            simp only [execOp, e64]
            go_simp
            exact HK.out _ _ ⟨(), _, rfl, rfl, HJ.out⟩
          · intro _ L w' hL hpre hJ a ha
            obtain ⟨je, jp, j0, j1, jk, jb⟩ := hJ
            simp [Region.binds] at hpre
            refine .inl ⟨wanted_none rfl, ?_⟩
            have e5 : a.eval (.tmp 5) = .pointer (some ⟨EB, 0, none⟩) := by rw [ha, eval_puts_out rfl]; rfl
            clear ha
            have je' := Lib.hid je
            have jp' := Lib.hid jp
            have j0' := Lib.hid j0
            have j1' := Lib.hid j1
            have jk' := Lib.hid jk
            have jb' := Lib.hid jb
            clear je jp j0 j1 jk jb
            refine wp_intro fun K HK => ?_
            unfold Oper.wp
            simp only [execOp, e5]
            go_simp
            exact HK.out _ _ ⟨(), _, rfl, rfl, je'.out, jp'.out, j0'.out, j1'.out, jk'.out, jb'.out⟩
          · intro _ L w' hL hpre hJ a ha
            obtain ⟨je, jp, j0, j1, jk, jb⟩ := hJ
            simp [Region.binds] at hpre
            refine .inl ⟨wanted_none rfl, ?_⟩
            have e66 : a.eval (.tmp 66) = .pointer (some ⟨EB, 0, none⟩) := by rw [ha]; exact eval_puts_in (i := 4) rfl (by simp [hpre]) (by simp) rfl
            have cz : w'.cell? ⟨EB, 0, none⟩ = some (.int .i64 (i : Int)) := by rw [blk_cell je]; rfl
            have HJ := Lib.hid (And.intro je (And.intro jp (And.intro j0 (And.intro j1 (And.intro jk jb)))))
            clear ha je jp j0 j1 jk jb
            refine wp_intro fun K HK => ?_
            unfold Oper.wp
            simp only [execOp, e66]
            go_simp
            exact HK.out _ _ ⟨(), _, rfl, rfl, HJ.out⟩
          · intro _ L w' hL hpre hJ a ha
            obtain ⟨je, jp, j0, j1, jk, jb⟩ := hJ
            simp [Region.binds] at hpre
            refine .inl ⟨wanted_none rfl, ?_⟩
            exact wp_load_mid 31 (.tmp 6) rfl (EB + 1) 0 (by rw [ha, eval_puts_out rfl]; rfl) ([.int .i64 b, .int .i64 row, .int .i64 slot]) _ (range_blk jp) Tryz.underlying31 rfl (by kernel_rfl) ⟨(), _, rfl, rfl, je, jp, j0, j1, jk, jb⟩
          · intro _ L w' hL hpre hJ a ha
            obtain ⟨je, jp, j0, j1, jk, jb⟩ := hJ
            simp [Region.binds] at hpre
            refine .inl ⟨wanted_none rfl, ?_⟩
            exact wp_move' (.tmp 3) (.inl rfl) (.int .i64 m) (by rw [ha, eval_puts_out rfl]; rfl) ⟨(), _, rfl, rfl, je, jp, j0, j1, jk, jb⟩
          · intro _ L w' hL hpre hJ a ha
            obtain ⟨je, jp, j0, j1, jk, jb⟩ := hJ
            simp [Region.binds] at hpre
            refine .inl ⟨wanted_none rfl, ?_⟩
            have e5 : a.eval (.tmp 5) = .pointer (some ⟨EB, 0, none⟩) := by rw [ha, eval_puts_out rfl]; rfl
            clear ha
            have je' := Lib.hid je
            have jp' := Lib.hid jp
            have j0' := Lib.hid j0
            have j1' := Lib.hid j1
            have jk' := Lib.hid jk
            have jb' := Lib.hid jb
            clear je jp j0 j1 jk jb
            refine wp_intro fun K HK => ?_
            unfold Oper.wp
            simp only [execOp, e5]
            go_simp
            exact HK.out _ _ ⟨(), _, rfl, rfl, je'.out, jp'.out, j0'.out, j1'.out, jk'.out, jb'.out⟩
          · intro _ L w' hL hpre hJ a ha
            obtain ⟨je, jp, j0, j1, jk, jb⟩ := hJ
            simp [Region.binds] at hpre
            refine .inl ⟨wanted_none rfl, ?_⟩
            have e70 : a.eval (.tmp 70) = .pointer (some ⟨EB, 1, none⟩) := by rw [ha]; exact eval_puts_in (i := 8) rfl (by simp [hpre]) (by simp) rfl
            have cz : w'.cell? ⟨EB, 1, none⟩ = some (.int .i64 sq) := by rw [blk_cell je]; rfl
            have HJ := Lib.hid (And.intro je (And.intro jp (And.intro j0 (And.intro j1 (And.intro jk jb)))))
            clear ha je jp j0 j1 jk jb
            refine wp_intro fun K HK => ?_
            unfold Oper.wp
            simp only [execOp, e70]
            go_simp
            exact HK.out _ _ ⟨(), _, rfl, rfl, HJ.out⟩
          · intro _ L w' hL hpre hJ a ha
            obtain ⟨je, jp, j0, j1, jk, jb⟩ := hJ
            simp [Region.binds] at hpre
            refine .inl ⟨wanted_none rfl, ?_⟩
            have e5 : a.eval (.tmp 5) = .pointer (some ⟨EB, 0, none⟩) := by rw [ha, eval_puts_out rfl]; rfl
            clear ha
            have je' := Lib.hid je
            have jp' := Lib.hid jp
            have j0' := Lib.hid j0
            have j1' := Lib.hid j1
            have jk' := Lib.hid jk
            have jb' := Lib.hid jb
            clear je jp j0 j1 jk jb
            refine wp_intro fun K HK => ?_
            unfold Oper.wp
            simp only [execOp, e5]
            go_simp
            exact HK.out _ _ ⟨(), _, rfl, rfl, je'.out, jp'.out, j0'.out, j1'.out, jk'.out, jb'.out⟩
          · intro _ L w' hL hpre hJ a ha
            obtain ⟨je, jp, j0, j1, jk, jb⟩ := hJ
            simp [Region.binds] at hpre
            refine .inl ⟨wanted_none rfl, ?_⟩
            have e72 : a.eval (.tmp 72) = .pointer (some ⟨EB, 2, none⟩) := by rw [ha]; exact eval_puts_in (i := 10) rfl (by simp [hpre]) (by simp) rfl
            have cz : w'.cell? ⟨EB, 2, none⟩ = some (.int .i64 r) := by rw [blk_cell je]; rfl
            have HJ := Lib.hid (And.intro je (And.intro jp (And.intro j0 (And.intro j1 (And.intro jk jb)))))
            clear ha je jp j0 j1 jk jb
            refine wp_intro fun K HK => ?_
            unfold Oper.wp
            simp only [execOp, e72]
            go_simp
            exact HK.out _ _ ⟨(), _, rfl, rfl, HJ.out⟩
          · intro _ L w' hL hpre hJ a ha
            obtain ⟨je, jp, j0, j1, jk, jb⟩ := hJ
            simp [Region.binds] at hpre
            refine .inl ⟨wanted_none rfl, ?_⟩
            have e68 : a.eval (.tmp 68) = .agg ([.int .i64 b, .int .i64 row, .int .i64 slot]).toArray := by rw [ha]; exact eval_puts_in (i := 6) rfl (by simp [hpre]) (by simp) rfl
            have e69 : a.eval (.tmp 69) = .int .i64 m := by rw [ha]; exact eval_puts_in (i := 7) rfl (by simp [hpre]) (by simp) rfl
            have e71 : a.eval (.tmp 71) = .int .i64 sq := by rw [ha]; exact eval_puts_in (i := 9) rfl (by simp [hpre]) (by simp) rfl
            have e73 : a.eval (.tmp 73) = .int .i64 r := by rw [ha]; exact eval_puts_in (i := 11) rfl (by simp [hpre]) (by simp) rfl
            exact wp_build' 137 _ rfl [(0, .bool true), (1, .agg #[.int .i64 b, .int .i64 row, .int .i64 slot]), (2, .int .i64 m), (3, .int .i64 sq), (4, .int .i64 r)] (by simp only [List.map_cons, List.map_nil, e68, e69, e71, e73]; rfl) _ HBS.out ⟨(), _, rfl, rfl, je, jp, j0, j1, jk, jb⟩
          · intro _ L w' hL hpre hJ a ha
            obtain ⟨je, jp, j0, j1, jk, jb⟩ := hJ
            simp [Region.binds] at hpre
            refine .inl ⟨wanted_none rfl, ?_⟩
            have e65 : a.eval (.tmp 65) = .slice (some ⟨rb, 0, none⟩) N N := by rw [ha]; exact eval_puts_in (i := 3) rfl (by simp [hpre]) (by simp) rfl
            have e67 : a.eval (.tmp 67) = .int .i64 (i : Int) := by rw [ha]; exact eval_puts_in (i := 5) rfl (by simp [hpre]) (by simp) rfl
            clear ha
            have je' := Lib.hid je
            have jp' := Lib.hid jp
            have j0' := Lib.hid j0
            have j1' := Lib.hid j1
            have jk' := Lib.hid jk
            have jb' := Lib.hid jb
            clear je jp j0 j1 jk jb
            refine wp_intro fun K HK => ?_
            unfold Oper.wp
            simp only [execOp, e65, e67]
            go_simp
            exact HK.out _ _ ⟨(), _, rfl, rfl, je'.out, jp'.out, j0'.out, j1'.out, jk'.out, jb'.out⟩
          · intro _ L w' hL hpre hJ a ha
            obtain ⟨je, jp, j0, j1, jk, jb⟩ := hJ
            simp [Region.binds] at hpre
            refine .inl ⟨wanted_none rfl, ?_⟩
            have e75 : a.eval (.tmp 75) = .pointer (some ⟨rb, i * 7, none⟩) := by rw [ha]; exact eval_puts_in (i := 13) rfl (by simp [hpre]) (by simp) rfl
            have e74 : a.eval (.tmp 74) = .agg xn.v.toArray := by rw [ha]; exact eval_puts_in (i := 12) rfl (by simp [hpre]) (by simp) rfl
            exact wp_put_mid' 137 (.tmp 75) (.tmp 74) rfl rb (i * 7) xn.v e75 e74 137 (rowsR l).flatten (j0 hL).rows stInfo HSZ.out (one_st xn) (fun w'' hU => ⟨(), _, rfl, rfl, hU.old je HNE.out.1, hU.old jp HNE.out.2.1, (fun h => by cases h), (fun _ => (j0 hL).stored hU HIN.out), jk.trans (hU.keep (S := RefF tb rb) (.inr rfl)) (fun _ h => h) (fun _ _ h => h), hU.below jb (Nat.zero_le _)⟩)
        · intro _ L w' hL hJ
          obtain ⟨je, jp, j0, j1, jk, jb⟩ := hJ
          simp only [List.foldl_cons, List.foldl_nil]
          have HT3 := Lib.hid (j1 (hL 14 (by decide)))
          have HE3 := Lib.hid je
          have HK3 := Lib.hid jk
          clear je jp j0 j1 jk jb hL
          go_simp
          go_upto_region 4 with fail
          have c0 : w'.cell? ⟨EB, 1, none⟩ = some (.int .i64 sq) := by rw [blk_cell HE3.out]; rfl
          have c1 : w'.cell? ⟨tb, 1, none⟩ = some (.int .i64 nx) := by rw [blk_cell HT3.out.head]; rfl
          have f1 : w'.frozen? ⟨tb, 1, none⟩ = false := blk_frozen HT3.out.head 1
          have HFK := Lib.hid (HKA.out.trans HK3.out (fun _ h => h) (fun _ _ h => h))
          have HTn := Lib.hid (fun (k : Nat) (v : Int) => HT3.out.setNext k v)
          by_cases hge : nx ≤ sq
          · go_quiet (fail)
            go_wp2_with fail
            go_ret
            exact ⟨_, _, _, rfl, HTn.out _ _, keep_setNext HFK.out _ _⟩
          · go_quiet (fail)
            go_wp2_with fail
            go_ret
            exact ⟨_, _, _, rfl, HT3.out.below (below_drewN (Below.refl _ _) _), HFK.out.drewN _⟩
end Go.Proofs.YtpbigfopmompfaaGreat.rtab
namespace Go.Proofs.YtpbigfopmompfaaGreat
open Go.RowKit
set_option linter.unusedVariables false
structure Op7 where
 (k : Int) (e : En) (p : Ad) (m di bl n : Int)
def Op7.v (x : Op7) : List Value := [.int .i64 x.k] ++ (x.e.v ++ (x.p.v ++ [.int .i64 x.m, .int .i64 x.di, .int .i64 x.bl, .int .i64 x.n]))
structure Op7.good (x : Op7) : Prop where
 e : x.e.ok
 ew : x.e.wf
 p : x.p.wf
 k : wfI x.k
 m : wfI x.m
 di : wfI x.di
 bl : wfI x.bl
 n : wfI x.n
theorem Op7.good.len {x : Op7} (h : x.good) : x.v.length = 27 := by simp [Op7.v, En.v, enV, nats_length, h.e.1, Ad.v]
theorem set_mid {α : Type} (A : List α) (u v : α) (C : List α) : (A ++ (u :: C)).set A.length v = A ++ (v :: C) := by
 rw [List.set_append_right _ _ (Nat.le_refl _), Nat.sub_self]; rfl
theorem Op7.setB {x : Op7} (h : x.good) (b : Int) : x.v.set 20 (.int .i64 b) = Op7.v { x with p := ⟨b, x.p.b, x.p.p⟩ } := by
 have := set_mid ([.int .i64 x.k] ++ x.e.v) (.int .i64 x.p.d) (.int .i64 b) ([.int .i64 x.p.b, .int .i64 x.p.p] ++ [.int .i64 x.m, .int .i64 x.di, .int .i64 x.bl, .int .i64 x.n])
 rw [show ([Value.int .i64 x.k] ++ x.e.v).length = 20 by simp [En.v, enV, nats_length, h.e.1]] at this
 unfold Op7.v
 rw [show [Value.int .i64 x.k] ++ (x.e.v ++ (x.p.v ++ [.int .i64 x.m, .int .i64 x.di, .int .i64 x.bl, .int .i64 x.n])) = [Value.int .i64 x.k] ++ x.e.v ++ (Value.int .i64 x.p.d :: ([Value.int .i64 x.p.b, .int .i64 x.p.p] ++ [.int .i64 x.m, .int .i64 x.di, .int .i64 x.bl, .int .i64 x.n])) by simp [Ad.v], this]
 simp [Ad.v]
section
variable {w : World} {g : Nat} {x : Op7} {t : TypeId} {fr : Nat × Nat}
end
end Go.Proofs.YtpbigfopmompfaaGreat
namespace Go.Proofs.YtpbigfopmompfaaGreat.tls
open Go.RowKit
open Go.Proofs.YtpbigfopmompfaaGreat.tal
open Go.Proofs.YtpbigfopmompfaaGreat.nand (alloc_low ne_kind kindO)
set_option linter.unusedVariables false
def at16 {α : Type} (f : Sb → α) (Y : Ty) (b : Nat) : α := f (Y.sb.getD b Sb.none)
def refV (Y : Ty) : List Value :=
 [.int .i64 (Y.D : Int), .int .i64 (Y.B : Int), .int .i64 (Y.P : Int)] ++ ((List.range 16).map (fun b => .int .i64 (at16 Sb.wear Y b)) ++ ((List.range 16).map (fun b => .int .i64 ((at16 Sb.bad Y b : Nat) : Int)) ++ ([.int .i64 (Y.dead : Int)] ++ ((List.range 16).map (fun b => .bool (at16 Sb.used Y b)) ++ (List.range 16).map (fun b => .bool (at16 Sb.held Y b))))))
theorem range_set {α : Type} (f : Nat → α) (n β : Nat) (v : α) : ((List.range n).map f).set β v = (List.range n).map (fun b => if b = β then v else f b) := by
 apply List.ext_getElem?
 intro i
 rw [List.getElem?_set]
 by_cases e : β = i
 · subst e
   by_cases h : β < n
   · simp [h]
   · simp [h]
 · by_cases h : i < n
   · have e' : ¬ i = β := fun h => e h.symm
     simp [e, e', h]
   · simp [e, h]
section
variable {Y : Ty} {β : Nat} {s : Sb}
theorem at_set {α : Type} (f : Sb → α) (hs : Y.sb[β]? = some s) (s' : Sb) (b : Nat) : at16 f { Y with sb := Y.sb.set β s' } b = if b = β then f s' else at16 f Y b := by
 unfold at16
 have hlt : β < Y.sb.length := (List.getElem?_eq_some_iff.1 hs).1
 rw [List.getD_eq_getElem?_getD, List.getD_eq_getElem?_getD, List.getElem?_set]
 by_cases e : b = β
 · subst e; simp [hlt]
 · rw [if_neg (fun h => e h.symm), if_neg e]
theorem at_get {α : Type} (f : Sb → α) (hs : Y.sb[β]? = some s) : at16 f Y β = f s := by
 unfold at16
 rw [List.getD_eq_getElem?_getD, hs]; rfl
theorem map_same {g : Sb → Value} {s' : Sb} (hs : Y.sb[β]? = some s) (h : g s' = g s) : (List.range 16).map (fun b => g ((({ Y with sb := Y.sb.set β s' } : Ty).sb).getD b Sb.none)) = (List.range 16).map (fun b => g (Y.sb.getD b Sb.none)) := by
 refine List.map_congr_left fun b _ => ?_
 have h1 := at_set g hs s' b
 unfold at16 at h1
 rw [h1]
 by_cases e : b = β
 · subst e
   have := at_get g hs
   unfold at16 at this
   rw [if_pos rfl, this, h]
 · rw [if_neg e]
theorem map_set {g : Sb → Value} {s' : Sb} (hs : Y.sb[β]? = some s) : ((List.range 16).map (fun b => g (Y.sb.getD b Sb.none))).set β (g s') = (List.range 16).map (fun b => g ((({ Y with sb := Y.sb.set β s' } : Ty).sb).getD b Sb.none)) := by
 rw [range_set]
 refine List.map_congr_left fun b _ => ?_
 have h1 := at_set g hs s' b
 unfold at16 at h1
 rw [h1]
end
structure Sta (w0 : World) (D B P gt lb WB g mb cb tb rb GB n : Nat) (Y Z : Ty) (w : World) : Prop where
 ta : TalAt w gt lb Y
 dim : Y.D = D ∧ Y.B = B ∧ Y.P = P
 ref : w.heap[WB]? = some (.cells (refV Z).toArray 71 (0, 0))
 tt : ∃ T, tab.TabAt w g mb cb n T
 rt : ∃ ls nx, rtab.RefAt w tb rb 40 ls nx
 geo : w.heap[GB]? = some (.cells (tal.geoV D B P).toArray 39 (0, 0))
 below : Below w0.heap.size w0 w
 new : ∀ k, TalF gt lb k ∨ k = WB ∨ tab.TabF g mb cb k ∨ rtab.RefF tb rb k → w0.heap.size ≤ k
section
variable {w0 w w' : World} {D B P gt lb WB g mb cb tb rb GB n : Nat} {Y Z : Ty}
theorem Sta.mono (h : Sta w0 D B P gt lb WB g mb cb tb rb GB n Y Z w) {n' : Nat} (hn : n ≤ n') : Sta w0 D B P gt lb WB g mb cb tb rb GB n' Y Z w := by
 obtain ⟨T, hT⟩ := h.tt
 exact ⟨h.ta, h.dim, h.ref, ⟨T, hT.mono hn⟩, h.rt, h.geo, h.below, h.new⟩
theorem Sta.cell (h : Sta w0 D B P gt lb WB g mb cb tb rb GB n Y Z w) {j : Nat} {v : Value} (hv : (refV Z)[j]? = some v) : w.cell? ⟨WB, j, none⟩ = some v := by rw [blk_cell h.ref, List.getElem?_toArray]; exact hv
theorem Sta.free (h : Sta w0 D B P gt lb WB g mb cb tb rb GB n Y Z w) (j : Nat) : w.frozen? ⟨WB, j, none⟩ = false := blk_frozen h.ref j
theorem set_same {Y : Ty} {β : Nat} {s : Sb} (hs : Y.sb[β]? = some s) : { Y with sb := Y.sb.set β s } = Y := by
 have : Y.sb.set β s = Y.sb := by
  apply List.ext_getElem?
  intro i
  rw [List.getElem?_set]
  by_cases e : β = i
  · subst e
    have hlt : β < Y.sb.length := (List.getElem?_eq_some_iff.1 hs).1
    simp [hlt, ← hs]
  · simp [e]
 rw [this]
end
def inB (B : Nat) (x : Int) : Bool := decide (0 ≤ x) && decide (x < (B : Int))
def step (Y : Ty) (x : Op7) : Ty :=
 if x.k = 1 then Y.wore x.bl x.n else if x.k = 2 then Y.badN x.di x.bl else if x.k = 3 then Y.deadN x.di else if x.k = 4 then Y.clean x.bl (x.n != 0) else if x.k = 5 then Y.hold x.bl (x.n != 0) else Y
def run (Y : Ty) (l : List Op7) : Ty := l.foldl step Y
end Go.Proofs.YtpbigfopmompfaaGreat.tls
namespace Go.Proofs.YtpbigfopmompfaaGreat.pickHeld
open Go.RowKit
open Go.Proofs.YtpbigfopmompfaaGreat.pick
open Go.Proofs.YtpbigfopmompfaaGreat.tal (TalAt Sb Ty)
set_option linter.unusedVariables false
section
variable {Y : Ty} {T : tab.Tb} {β : Nat} {s : Sb}
end
theorem open_geo3 {cs : List Value} (h : okAll (List.replicate 3 (Kd.int .i64)) cs = true) : ∃ a b c : Int, cs = [.int .i64 a, .int .i64 b, .int .i64 c] := by
 have hl := okAll_length h
 match cs, hl, h with
 | [c0, c1, c2], _, h =>
  simp only [List.replicate_succ, List.replicate_zero, okAll, Bool.and_eq_true, and_true] at h
  obtain ⟨h0, h1, h2⟩ := h
  obtain ⟨a, rfl, -⟩ := ok_int h0
  obtain ⟨b, rfl, -⟩ := ok_int h1
  obtain ⟨c, rfl, -⟩ := ok_int h2
  exact ⟨a, b, c, rfl⟩
end Go.Proofs.YtpbigfopmompfaaGreat.pickHeld
