import Derived.Test.YtakekjbbbjmdpaaOpen9
/- SherdRoles: which roles have data, a page, a sequence; no condition. -/
namespace Go.Proofs.Ytakekjbbbjmdpaa.sherdRoles
open Go.RowKit
set_option linter.unusedVariables false
theorem wpList_want_build {P : Program} {ops : Array Oper} {rest : List Oper} {o : Oper} {a : Act} {w : World} {Q : Exit → Act → World → Prop} (t : TypeId) (parts : Array (Nat × Operand)) (ho : o.op = .build t parts) (ps : List (Nat × Value)) (hps : parts.toList.map (fun p => (p.1, a.eval p.2)) = ps)
    (hw : Region.wanted o (yielded ops a.tmps) = true) (cells : Array Value) (hb : P.built t ps = some cells) (h : wpList P ops Q rest (a.put o.dst (.agg cells)) w) : wpList P ops Q (o :: rest) a w := by
  have e : (parts.map fun (i, x) => (i, a.eval x)).toList = ps := by rw [← hps, Array.toList_map]
  unfold wpList
  rw [if_pos hw]
  exact .inl (wp_build t parts ho (by rw [e, hb]; rfl) (by rw [e, hb]; exact h))
theorem built_zd : Try.prog.built 38 [] = some (nats .u8 zero16).toArray := by kernel_rfl
theorem dInfo {d : List Nat} (h : d.length = 16) : (Try.prog.info? 38).map (·.size) = some (nats .u8 d).length := by rw [nats_length, h]; kernel_rfl
def wideB (l s : Int) : Bool := decide (0 ≤ l) && (decide (l ≤ 65535) && (decide (0 ≤ s) && decide (s ≤ 1099511627775)))
def wantB (I : Bool) (d : List Nat) (r l s : Int) : Bool := I && entryB d r l s
theorem entry_role {d : List Nat} {r l s : Int} (h : entryB d r l s = true) : inB r 255 = true := by
  rw [inB_iff]
  unfold entryB at h
  split at h
  · omega
  · split at h
    · omega
    · split at h
      · omega
      · cases h
theorem place_ok : placeB 3 1 7 = true := by decide +kernel
theorem may_own (d : List Nat) (r l s : Int) : maySh d r l s 1 3 1 7 = wantB (wideB l s) d r l s := by
  unfold maySh wantB wideB numbersB
  rw [place_ok]
  cases h : entryB d r l s with
  | false => simp
  | true =>
    rw [entry_role h]
    unfold inB
    rw [Bool.eq_iff_iff]
    simp
    omega
theorem may_par (d : List Nat) (r l s : Int) : maySh d r l s 2 3 1 7 = (wideB l s && inB r 255) := by
  unfold maySh wideB numbersB
  rw [place_ok]
  unfold inB
  rw [Bool.eq_iff_iff]
  simp
  omega
theorem sh_kind {d : List Nat} (hd : d.length = 16) (r l s : Int) : (shV d r l s 1 3 1 7).set 19 (.int .i64 2) = shV d r l s 2 3 1 7 := (sh_sets hd r l s 1 3 1 7 2).2.2.2.1
set_option maxRecDepth 100000 in
set_option maxHeartbeats 8000000 in
theorem walk (r l s : Int) (cs : List Value) (w : World) (w0 : (Lit.int .i64 r).wf = true) (w1 : (Lit.int .i64 l).wf = true) (w2 : (Lit.int .i64 s).wf = true) (w3 : okAll (List.replicate 16 (Kd.int .u8)) cs = true) :
    Calls Try.prog 14 #[.int .i64 r, .int .i64 l, .int .i64 s, .agg cs.toArray] w fun e w' => e = .returned (.bool true) ∧ Below w.heap.size w w' := by
  obtain ⟨d, rfl, hd, hb⟩ := open_bytes w3
  clear w0 w1 w2 w3
  have hz : ∀ w, (binOp .eql 38 (.agg (nats .u8 d).toArray) (.agg (nats .u8 zero16).toArray)).run Try.prog w = .ok (.bool (noneB d)) w := fun w => eql_data w d zero16 hb zeros16 hd rfl
  have hDi := dInfo hd
  have hV := shInfo d hd r l s 1 3 1 7
  have hVl := Lib.hid (shV_length hd r l s 1 3 1 7)
  have hbs := built_sherd hd r l s 1 3 1 7
  have HD := Lib.hid hd
  have HB := Lib.hid hb
  have h0 := heap_alloc_new w (.cells (nats .u8 d).toArray 38)
  have hbel := (Below.refl _ w).alloc (Nat.le_refl _) (.cells (nats .u8 d).toArray 38)
  clear hd hb
  go_enter Try.func14, Try.ntmps14
  go_upto_region 1 with fail
  generalize w.alloc (.cells (nats .u8 d).toArray 38) = w1 at *
  go_wp2_with fail
  refine (begun9_any _).mono ?_
  rintro e w2 ⟨rfl, hb1⟩
  have h02 := blk_below h0 hb1
  have hbel2 := hbel.trans (hb1.mono hbel.size)
  have ne0 : w.heap.size ≠ w2.heap.size := by have := lt_of_cells h02; omega
  clear h0 hbel hb1
  go_upto_region 5 with (first | (refine wpList_load_mid rfl 38 (.tmp 7) rfl w.heap.size 0 rfl _ _ (range_blk h02) Try.underlying38 rfl hDi ?_) | (refine wpList_build_l rfl 40 _ rfl _ rfl _ hbs ?_) | (refine wpList_put_row rfl 40 (.tmp 10) (.tmp 21) rfl w2.heap.size (shV d r l s 1 3 1 7) rfl rfl 40 _ (heap_new' w2 _ _ rfl) hV (by rw [hVl.out]; rfl) (one_shV _ _ _ _ _ _ _ _) ?_; intro w3 hU3; have hS := hU3.at_; have hDd := hU3.old (blk_alloc h02 _) ne0; have hb3 := hU3.below (hbel2.alloc hbel2.size _) hbel2.size))
  go_simp
  go_cut [11] (fun v wx => v = .bool (wideB l s) ∧ wx = w3)
  case first =>
    by_cases c0 : 0 ≤ l
    · by_cases c1 : l ≤ 65535
      · by_cases c2 : 0 ≤ s
        · by_cases c3 : s ≤ 1099511627775
          · have E := Lib.hid (show wideB l s = true by simp [wideB, c0, c1, c2, c3])
            go_wp2_with fail
            go_meet
            exact ⟨by rw [E.out], rfl⟩
          · have E := Lib.hid (show wideB l s = false by simp [wideB, c3])
            go_wp2_with fail
            go_meet
            exact ⟨by rw [E.out], rfl⟩
        · have E := Lib.hid (show wideB l s = false by simp [wideB, c2])
          go_wp2_with fail
          go_meet
          exact ⟨by rw [E.out], rfl⟩
      · have E := Lib.hid (show wideB l s = false by simp [wideB, c1])
        go_wp2_with fail
        go_meet
        exact ⟨by rw [E.out], rfl⟩
    · have E := Lib.hid (show wideB l s = false by simp [wideB, c0])
      go_wp2_with fail
      go_meet
      exact ⟨by rw [E.out], rfl⟩
  case rest =>
    obtain ⟨rfl, rfl⟩ := hcut
    obtain ⟨w3, rfl⟩ : ∃ x : World, x = wc := ⟨_, rfl⟩
    have HO := Lib.hid (may_own d r l s)
    have HP := Lib.hid (may_par d r l s)
    generalize wideB l s = I at *
    go_upto_region 6 with fail
    go_cut [12] (fun v wx => v = .bool (wantB I d r l s) ∧ wx = w3)
    case first =>
      cases I with
      | false =>
        have E := Lib.hid (show wantB false d r l s = false from rfl)
        go_wp2_with fail
        go_meet
        exact ⟨by rw [E.out], rfl⟩
      | true =>
        by_cases h1 : r = 1
        · have E := Lib.hid (show wantB true d r l s = true by unfold wantB entryB; rw [if_pos h1]; rfl)
          subst h1
          go_wp2_with fail
          go_meet
          exact ⟨by rw [E.out], rfl⟩
        · have t1 : (r == 1) = false := by simpa using h1
          cases hN : noneB d with
          | false =>
            have E := Lib.hid (show wantB true d r l s = false by unfold wantB entryB; rw [if_neg h1, hN]; simp)
            rw [hN] at hz
            clear hN h1
            go_wp2_with (first | (refine wpList_want_any 38 (.tmp 7) rfl w.heap.size 0 rfl rfl _ _ (range_blk hDd) Try.underlying38 rfl hDi ?_) | (refine wpList_want_build 38 _ rfl _ rfl rfl _ built_zd ?_))
            go_meet
            exact ⟨by rw [E.out], rfl⟩
          | true =>
            rw [hN] at hz
            by_cases h2 : r = 2
            · have E := Lib.hid (show wantB true d r l s = true by unfold wantB entryB; rw [if_neg h1, if_pos (.inl h2), hN]; rfl)
              subst h2
              clear hN h1
              go_wp2_with (first | (refine wpList_want_any 38 (.tmp 7) rfl w.heap.size 0 rfl rfl _ _ (range_blk hDd) Try.underlying38 rfl hDi ?_) | (refine wpList_want_build 38 _ rfl _ rfl rfl _ built_zd ?_))
              go_meet
              exact ⟨by rw [E.out], rfl⟩
            · have t2 : (r == 2) = false := by simpa using h2
              by_cases h4 : r = 4
              · have E := Lib.hid (show wantB true d r l s = true by unfold wantB entryB; rw [if_neg h1, if_pos (.inr h4), hN]; rfl)
                subst h4
                clear hN h1 h2
                go_wp2_with (first | (refine wpList_want_any 38 (.tmp 7) rfl w.heap.size 0 rfl rfl _ _ (range_blk hDd) Try.underlying38 rfl hDi ?_) | (refine wpList_want_build 38 _ rfl _ rfl rfl _ built_zd ?_))
                go_meet
                exact ⟨by rw [E.out], rfl⟩
              · have t4 : (r == 4) = false := by simpa using h4
                by_cases h3 : r = 3
                · by_cases hl : l = 0
                  · by_cases hs : s = 0
                    · have E := Lib.hid (show wantB true d r l s = true by unfold wantB entryB; rw [if_neg h1, if_neg (by omega), if_pos h3, hN, hl, hs]; rfl)
                      subst h3 hl hs
                      clear hN h1 h2 h4 t1 t2 t4
                      go_wp2_with (first | (refine wpList_want_any 38 (.tmp 7) rfl w.heap.size 0 rfl rfl _ _ (range_blk hDd) Try.underlying38 rfl hDi ?_) | (refine wpList_want_build 38 _ rfl _ rfl rfl _ built_zd ?_))
                      go_meet
                      exact ⟨by rw [E.out], rfl⟩
                    · have ts : (s == 0) = false := by simpa using hs
                      have E := Lib.hid (show wantB true d r l s = false by unfold wantB entryB; rw [if_neg h1, if_neg (by omega), if_pos h3, ts]; simp)
                      subst h3 hl
                      clear hN h1 h2 h4 hs t1 t2 t4
                      go_wp2_with (first | (refine wpList_want_any 38 (.tmp 7) rfl w.heap.size 0 rfl rfl _ _ (range_blk hDd) Try.underlying38 rfl hDi ?_) | (refine wpList_want_build 38 _ rfl _ rfl rfl _ built_zd ?_))
                      go_meet
                      exact ⟨by rw [E.out], rfl⟩
                  · have tl : (l == 0) = false := by simpa using hl
                    have E := Lib.hid (show wantB true d r l s = false by unfold wantB entryB; rw [if_neg h1, if_neg (by omega), if_pos h3, tl]; simp)
                    subst h3
                    clear hN h1 h2 h4 hl t1 t2 t4
                    go_wp2_with (first | (refine wpList_want_any 38 (.tmp 7) rfl w.heap.size 0 rfl rfl _ _ (range_blk hDd) Try.underlying38 rfl hDi ?_) | (refine wpList_want_build 38 _ rfl _ rfl rfl _ built_zd ?_))
                    go_meet
                    exact ⟨by rw [E.out], rfl⟩
                · have t3 : (r == 3) = false := by simpa using h3
                  have E := Lib.hid (show wantB true d r l s = false by unfold wantB entryB; rw [if_neg h1, if_neg (by omega), if_neg h3]; rfl)
                  clear hN h1 h2 h4 h3
                  go_wp2_with (first | (refine wpList_want_any 38 (.tmp 7) rfl w.heap.size 0 rfl rfl _ _ (range_blk hDd) Try.underlying38 rfl hDi ?_) | (refine wpList_want_build 38 _ rfl _ rfl rfl _ built_zd ?_))
                  go_meet
                  exact ⟨by rw [E.out], rfl⟩
    case rest =>
      obtain ⟨rfl, rfl⟩ := hcut
      obtain ⟨w3, rfl⟩ : ∃ x : World, x = wc := ⟨_, rfl⟩
      have hf := Lib.hid (show I = false → wantB I d r l s = false by rintro rfl; rfl)
      generalize wantB I d r l s = W at *
      have hV2 := shInfo d HD.out r l s 2 3 1 7
      have hV2l := Lib.hid (shV_length HD.out r l s 2 3 1 7)
      have ne3 : w2.heap.size ≠ w3.heap.size := by have := lt_of_cells hS; omega
      clear hz hDi hbs hDd
      go_upto_region 9 with (first | (refine wpList_load_mid rfl 40 (.tmp 10) rfl w2.heap.size 0 rfl _ _ (range_blk hS) Try.underlying40 rfl hV ?_) | (refine wpList_put_row rfl 40 (.tmp 13) (.tmp 66) rfl w3.heap.size (shV d r l s 1 3 1 7) rfl rfl 40 _ (heap_new' w3 _ _ rfl) hV (by rw [hVl.out]; rfl) (one_shV _ _ _ _ _ _ _ _) ?_; intro w4 hU4; have hT := hU4.at_; have hS4 := hU4.old (blk_alloc hS _) ne3; have hb4 := hU4.below (hb3.alloc hb3.size _) hb3.size; have f19 := blk_frozen hT 19; have c19 := (sh_cells HD.out hT).2.2.2.1))
      have U := upd_setCell (i := 19) hT (.int .i64 2)
      have hT5 := U.at_
      rw [sh_kind HD.out] at hT5
      have hS5 := U.old hS4 ne3
      have hb5 := U.below hb4 hb3.size
      clear U hT hS4 hb4 f19 c19 hS hb3
      go_simp
      generalize w4.setCell ⟨w3.heap.size, 19, none⟩ (.int .i64 2) = w5 at *
      go_wp2_with (refine wpList_load_mid rfl 40 (.tmp 10) rfl w2.heap.size 0 rfl _ _ (range_blk hS5) Try.underlying40 rfl hV ?_)
      refine (smay_any d r l s 1 3 1 7 _ HD.out HB.out).mono ?_
      rw [HO.out]
      rintro e w6 ⟨rfl, hb6⟩
      have hT6 := blk_below hT5 hb6
      have hS6 := blk_below hS5 hb6
      have hbel6 := hb5.trans (hb6.mono hb5.size)
      clear hT5 hS5 hb5 hb6
      go_wp2_with (refine wpList_want_any 40 (.tmp 13) rfl w3.heap.size 0 rfl rfl _ _ (range_blk hT6) Try.underlying40 rfl hV2 ?_)
      refine (smay_any d r l s 2 3 1 7 _ HD.out HB.out).mono ?_
      rw [HP.out]
      rintro e w7 ⟨rfl, hb7⟩
      have hS7 := blk_below hS6 hb7
      have hbel7 := hbel6.trans (hb7.mono hbel6.size)
      clear hT6 hS6 hbel6 hb7
      cases I with
      | false =>
        obtain rfl := hf.out rfl
        go_wp2_with (refine wpList_want_any 40 (.tmp 10) rfl w2.heap.size 0 rfl rfl _ _ (range_blk hS7) Try.underlying40 rfl hV ?_)
        refine (refmay_any d r l s 1 3 1 7 _ HD.out HB.out).mono ?_
        rw [HO.out]
        rintro e w8 ⟨rfl, hb8⟩
        have hbel8 := hbel7.trans (hb8.mono hbel7.size)
        go_wp2_with fail
        go_ret
        exact ⟨rfl, hbel8⟩
      | true =>
        by_cases r0 : 0 ≤ r
        · by_cases r1 : r ≤ 255
          · have hi : inB r 255 = true := by rw [inB_iff]; omega
            rw [hi]
            clear hi
            go_wp2_with (refine wpList_want_any 40 (.tmp 10) rfl w2.heap.size 0 rfl rfl _ _ (range_blk hS7) Try.underlying40 rfl hV ?_)
            refine (refmay_any d r l s 1 3 1 7 _ HD.out HB.out).mono ?_
            rw [HO.out]
            rintro e w8 ⟨rfl, hb8⟩
            have hbel8 := hbel7.trans (hb8.mono hbel7.size)
            go_wp2_with fail
            go_ret
            exact ⟨by simp, hbel8⟩
          · have hi : inB r 255 = false := by rw [inB_no]; omega
            have d1 : decide (r ≤ 255) = false := by simp; omega
            have r2 : 255 < r := by omega
            rw [hi]
            clear hi r1
            go_wp2_with (refine wpList_want_any 40 (.tmp 10) rfl w2.heap.size 0 rfl rfl _ _ (range_blk hS7) Try.underlying40 rfl hV ?_)
            refine (refmay_any d r l s 1 3 1 7 _ HD.out HB.out).mono ?_
            rw [HO.out]
            rintro e w8 ⟨rfl, hb8⟩
            have hbel8 := hbel7.trans (hb8.mono hbel7.size)
            go_wp2_with fail
            go_ret
            exact ⟨by simp, hbel8⟩
        · have hi : inB r 255 = false := by rw [inB_no]; omega
          rw [hi]
          clear hi
          go_wp2_with (refine wpList_want_any 40 (.tmp 10) rfl w2.heap.size 0 rfl rfl _ _ (range_blk hS7) Try.underlying40 rfl hV ?_)
          refine (refmay_any d r l s 1 3 1 7 _ HD.out HB.out).mono ?_
          rw [HO.out]
          rintro e w8 ⟨rfl, hb8⟩
          have hbel8 := hbel7.trans (hb8.mono hbel7.size)
          go_wp2_with fail
          go_ret
          exact ⟨by simp, hbel8⟩
end Go.Proofs.Ytakekjbbbjmdpaa.sherdRoles
