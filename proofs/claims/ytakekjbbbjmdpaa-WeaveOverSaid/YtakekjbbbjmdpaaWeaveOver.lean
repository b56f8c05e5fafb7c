import Derived.Test.YtakekjbbbjmdpaaBackLaw
import Derived.Test.YtakekjbbbjmdpaaRegion3
/- WeaveOver: laid over one another twice nothing is left; in any order it is the same. -/
namespace Go.Proofs.Ytakekjbbbjmdpaa.weaveOver
open Go.RowKit
set_option linter.unusedVariables false
theorem rds_drop {w : World} {B C n b o : Nat} {rows : List (List Value)} (h : Rds w B (some ⟨b, o, none⟩) C n rows) {k : Nat} (hk : k < n) : Rds w B (some ⟨b, o + k * C, none⟩) C (n - k) (rows.drop k) := by
  refine ⟨by rw [List.length_drop, h.1], fun r hr => h.2.1 r (List.mem_of_mem_drop hr), fun hn => ?_⟩
  obtain ⟨b', o', e, hb, hc⟩ := h.2.2 (by omega)
  injection e with e
  injection e with e1 e2
  subst e1 e2
  refine ⟨_, _, rfl, hb, fun i r j u h1 h2 => ?_⟩
  rw [List.getElem?_drop] at h1
  have := hc _ r j u h1 h2
  rw [show o + k * C + (i * C + j) = o + ((k + i) * C + j) by rw [Nat.add_mul]; omega]
  exact this
theorem turn_any (t : Int) (q : Nat) (hq : 0 < q) (h8 : q ≤ 8) : ∃ K : Nat, K < q ∧ (wrap64 (t.tmod q + q)).tmod q = (K : Int) := by
  have h1 := Int.tmod_lt_of_pos t (show (0 : Int) < q by omega)
  have h2 : -(q : Int) < t.tmod q := by
    rw [Int.tmod_eq_emod]
    have h2 := Int.emod_nonneg t (show (q : Int) ≠ 0 by omega)
    have h3 := Int.emod_lt_of_pos t (show (0 : Int) < q by omega)
    split
    · omega
    · simp; omega
  generalize t.tmod q = y at *
  rw [show wrap64 (y + q) = y + q by unfold wrap64; omega, Int.tmod_eq_emod_of_nonneg (by omega)]
  refine ⟨((y + q) % q).toNat, ?_, ?_⟩
  · have := Int.emod_lt_of_pos (y + q) (show (0 : Int) < q by omega)
    have := Int.emod_nonneg (y + q) (show (q : Int) ≠ 0 by omega)
    omega
  · have := Int.emod_nonneg (y + q) (show (q : Int) ≠ 0 by omega)
    omega
theorem dInfo {l : List Sh} (h : ∀ x ∈ l, x.ok) : (Try.prog.info? 38).map (·.size) = some (nats .u8 (overD l)).length := by rw [nats_length, overD_length fun x hx => (h x hx).1]; kernel_rfl
theorem dLen {l : List Sh} (h : ∀ x ∈ l, x.ok) : (nats .u8 (overD l)).length = 16 := by rw [nats_length, overD_length fun x hx => (h x hx).1]
theorem wpList_want_build {P : Program} {ops : Array Oper} {rest : List Oper} {o : Oper} {a : Act} {w : World} {Q : Exit → Act → World → Prop} (t : TypeId) (parts : Array (Nat × Operand)) (ho : o.op = .build t parts) (ps : List (Nat × Value)) (hps : parts.toList.map (fun p => (p.1, a.eval p.2)) = ps)
    (hw : Region.wanted o (yielded ops a.tmps) = true) (cells : Array Value) (hb : P.built t ps = some cells) (h : wpList P ops Q rest (a.put o.dst (.agg cells)) w) : wpList P ops Q (o :: rest) a w := by
  have e : (parts.map fun (i, x) => (i, a.eval x)).toList = ps := by rw [← hps, Array.toList_map]
  unfold wpList
  rw [if_pos hw]
  exact .inl (wp_build t parts ho (by rw [e, hb]; rfl) (by rw [e, hb]; exact h))
theorem built_zeroD : Try.prog.built 38 [] = some zeroD.toArray := by kernel_rfl
structure VJ (l : List Sh) (K q : Nat) (A : Option Addr) (B base g0 : Nat) (w0 : World) (v55 v59 v12 : Value) (L : Nat → Bool) (w : World) : Prop where
  h0 : w.heap[g0]? = some (.cells (nats .u8 (overD l)).toArray 38 (0, 0))
  hr : Rds w B A 23 q (shs l)
  hb : Below B w0 w
  hs : base ≤ w.heap.size
  f55 : L 3 = true → L 7 = false → OwnRows w base 40 23 v55 (q - K) (shs (l.drop K))
  f59 : L 7 = true → L 8 = false → OwnRows w base 40 23 v59 q (shs (l.drop K ++ l.take K))
  f12 : L 12 = true → ∃ g, v12 = .pointer (some ⟨g, 0, none⟩) ∧ base ≤ g ∧ (L 13 = false → w.heap[g]? = some (.cells zeroD.toArray 38 (0, 0))) ∧ (L 13 = true → w.heap[g]? = some (.cells (nats .u8 (overD l)).toArray 38 (0, 0)))
  f13 : L 13 = true → L 12 = true
  f73 : L 7 = true → L 3 = true
section
variable {l : List Sh} {K q : Nat} {A : Option Addr} {B base g0 : Nat} {w0 : World} {v55 v59 v12 : Value} {L L' : Nat → Bool} {w w' : World}
theorem VJ.below (h : VJ l K q A B base g0 w0 v55 v59 v12 L w) (hb : Below w.heap.size w w') (hB : B ≤ base) : VJ l K q A B base g0 w0 v55 v59 v12 L w' :=
  ⟨blk_below h.h0 hb, h.hr.below hb (Nat.le_trans hB h.hs), h.hb.trans (hb.mono (Nat.le_trans hB h.hs)), Nat.le_trans h.hs hb.size, fun a b => (h.f55 a b).below hb, fun a b => (h.f59 a b).below hb, fun a => by
    obtain ⟨g, e, hg, h2, h3⟩ := h.f12 a
    exact ⟨g, e, hg, fun x => blk_below (h2 x) hb, fun x => blk_below (h3 x) hb⟩, h.f13, h.f73⟩
theorem VJ.same (h : VJ l K q A B base g0 w0 v55 v59 v12 L w) (h3 : L' 3 = L 3) (h7 : L' 7 = L 7) (h8 : L 8 = true → L' 8 = true) (h12 : L' 12 = L 12) (h13 : L' 13 = L 13) : VJ l K q A B base g0 w0 v55 v59 v12 L' w :=
  ⟨h.h0, h.hr, h.hb, h.hs, by rw [h3, h7]; exact h.f55, fun a b => h.f59 (by rw [← h7]; exact a) (by cases e : L 8 with | false => rfl | true => rw [h8 e] at b; cases b), by rw [h12, h13]; exact h.f12, by rw [h12, h13]; exact h.f13, by rw [h3, h7]; exact h.f73⟩
end
set_option maxRecDepth 100000 in
set_option maxHeartbeats 8000000 in
theorem walk (A : Option Addr) (n c : Nat) (t : Int) (w : World) (w0 : IsRows (List.replicate 16 (Kd.int .u8) ++ List.replicate 7 (Kd.int .i64)) w A n c) (w1 : (Lit.int .i64 t).wf = true) :
    Calls Try.prog 16 #[.slice A n c, .int .i64 t] w fun e w' => e = .returned (.bool true) ∧ Below w.heap.size w w' := by
  obtain ⟨l0, hr0, hl0, hnc, hcm⟩ := open_shs w0
  clear w0 w1
  unfold maxLen at hcm
  have hq2 : min n 8 ≤ n := by omega
  have hq3 : min n 8 ≤ 8 := by omega
  have hr := hr0.take hq2
  rw [show (shs l0).take (min n 8) = shs (l0.take (min n 8)) by simp [shs, List.map_take]] at hr
  have hok : ∀ x ∈ l0.take (min n 8), x.ok := fun x hx => (hl0 x (List.mem_of_mem_take hx)).1
  have hc : (8 < (n : Int) ∧ min n 8 = 8) ∨ (decide (8 < (n : Int)) = false ∧ min n 8 = n) := by
    by_cases h : n ≤ 8
    · exact .inr ⟨by simp; omega, by omega⟩
    · exact .inl ⟨by omega, by omega⟩
  have hqc : min n 8 ≤ c := by omega
  generalize l0.take (min n 8) = l at *
  generalize min n 8 = q at *
  have hl : l.length = q := by have := hr.1; rwa [shs, List.length_map] at this
  have HOk := Lib.hid hok
  have HL := Lib.hid hl
  clear hr0 hl0 hok hl
  go_enter Try.func16, Try.ntmps16
  go_wp2_with fail
  refine (begun9_any _).mono ?_
  rintro e w1 ⟨rfl, hb_w1⟩
  have hr1 := hr.below hb_w1 (Nat.le_refl _)
  clear hr
  by_cases hq0 : q = 0
  · subst hq0
    rcases hc with ⟨hc, hq⟩ | ⟨hc, hq⟩
    · omega
    subst hq
    have qZ : ∀ w, (binOp .eql 38 (.agg zeroD.toArray) (.agg zeroD.toArray)).run Try.prog w = .ok (.bool true) w := fun w => by
      unfold zeroD
      rw [eql_data w _ _ (by decide) (by decide) rfl rfl]; simp
    go_wp2_with fail
    refine (over_any [] none 0 0 w1.heap.size w1 Rds.nil (Nat.le_refl _) (by simp) (by decide)).mono ?_
    rintro e w2 ⟨rfl, hb⟩
    have hb_w2 := hb_w1.trans (hb.mono hb_w1.size)
    clear hb hb_w1 hr1
    rw [show nats .u8 (overD []) = zeroD from rfl, show (overM [] : Int) = 0 from rfl]
    go_wp2_with (first | (refine wpList_put_row rfl 38 (.tmp 7) (.tmp 30) rfl w2.heap.size zeroD rfl rfl 38 _ (heap_new' w2 _ _ rfl) (by kernel_rfl) rfl (one_nats _ _) ?_; intro w3 hU; have h7 := hU.at_; have hb_w3 := hU.below (hb_w2.alloc hb_w2.size _) hb_w2.size; clear hU hb_w2) | (refine wpList_load_mid rfl 38 (.tmp 7) rfl w2.heap.size 0 rfl _ _ (range_blk h7) Try.underlying38 rfl (by kernel_rfl) ?_) | (refine wpList_build_l rfl 38 _ rfl _ rfl _ built_zeroD ?_))
    go_ret
    exact ⟨rfl, hb_w3⟩
  · obtain ⟨K, hK, hKe⟩ := turn_any t q (by omega) hq3
    obtain ⟨b, o, rfl, hbb, -⟩ := hr1.2.2 (show 0 < q by omega)
    have hqe : ((q : Int) == 0) = false := by simp; omega
    have hoks := HOk.out
    have hD16 := overD_length fun y hy => (hoks y hy).1
    have hDb := overD_lt (fun y hy => (hoks y hy).1) fun y hy => (hoks y hy).2
    have iD := dInfo hoks
    have iDl := Lib.hid (dLen hoks)
    have HT1 := Lib.hid (over_turned (l := l) (fun y hy => (hoks y hy).1) K)
    have HT2 := Lib.hid (over_twice (l := l) fun y hy => (hoks y hy).1)
    have okT : ∀ x ∈ l.drop K ++ l.take K, x.ok := fun x hx => by
      rcases List.mem_append.1 hx with h | h
      · exact hoks x (List.mem_of_mem_drop h)
      · exact hoks x (List.mem_of_mem_take h)
    have okW : ∀ x ∈ l ++ l, x.ok := fun x hx => by
      rcases List.mem_append.1 hx with h | h <;> exact hoks x h
    have HOT := Lib.hid okT
    have HOW := Lib.hid okW
    have hMlt := overM_lt l
    clear hoks okT okW
    rcases hc with ⟨hc, hq⟩ | ⟨hc, hq⟩
    all_goals
      go_wp2_with fail
      first | rw [show (8 : Int) = (q : Int) by omega, show (8 : Nat) = q by omega] | rw [show (n : Int) = (q : Int) by omega, show n = q by omega] | skip
      clear hc hq2
      clear hq
      rw [hKe]
      refine (over_any l _ q c _ w1 hr1 hb_w1.size HOk.out (by omega)).mono ?_
      rintro e w2 ⟨rfl, hb⟩
      have hr2 := hr1.below hb hb_w1.size
      have hb_w2 := hb_w1.trans (hb.mono hb_w1.size)
      clear hb hb_w1 hr1
      go_upto_region 11 with (first | (refine wpList_put_row rfl 38 (.tmp 10) (.tmp 49) rfl w2.heap.size (nats .u8 (overD l)) rfl rfl 38 _ (heap_new' w2 _ _ rfl) iD (by rw [iDl.out]; rfl) (one_nats _ _) ?_; intro w3 hU; have h0_w3 := hU.at_; have hr3 := (hr2.below ((Below.refl _ w2).alloc (Nat.le_refl _) _) hb_w2.size).upd hU hb_w2.size; have hb_w3 := hU.below (hb_w2.alloc hb_w2.size _) hb_w2.size; clear hU hb_w2 hr2))
      have g0 := lt_of_cells h0_w3
      have hsz3 := hb_w3.size
      refine wp_region_puts (by kernel_rfl) (by kernel_rfl) (by kernel_rfl) (X := Value × Value × Value) (fun x => [(some 52, .slice (some ⟨b, o, none⟩) q c), (some 53, .int .i64 K), (some 54, .slice (some ⟨b, o + K * 23, none⟩) (q - K) (c - K)), (some 55, x.1), (some 56, .slice (some ⟨b, o, none⟩) q c), (some 57, .int .i64 K), (some 58, .slice (some ⟨b, o, none⟩) K c), (some 59, x.2.1), (some 60, .tuple #[.agg (nats .u8 (overD l)).toArray, .int .u64 (overM l : Int)]), (some 51, .tuple #[.agg (nats .u8 (overD l)).toArray, .int .u64 (overM l : Int)]), (some 61, .agg (nats .u8 (overD l)).toArray), (some 62, .int .u64 (overM l : Int)), (some 12, x.2.2), (none, undef), (some 13, .int .u64 (overM l : Int))])
        (fun x L w' => VJ l K q (some ⟨b, o, none⟩) w.heap.size w3.heap.size w2.heap.size w x.1 x.2.1 x.2.2 L w') (fun _ => rfl) (by kernel_rfl) ?_ ?_ ?_
      · exact ⟨(undef, undef, undef), fun L hL => ⟨h0_w3, hr3, hb_w3.drew, Nat.le_refl _, (fun h => by rw [hL] at h; cases h), (fun h => by rw [hL] at h; cases h), (fun h => by rw [hL] at h; cases h), (fun h => by rw [hL] at h; cases h), (fun h => by rw [hL] at h; cases h)⟩⟩
      · refine ⟨?_, ?_, ?_, ?_, ?_, ?_, ?_, ?_, ?_, ?_, ?_, ?_, ?_, ?_, ?_, trivial⟩
        · intro x L w' hL hpre hJ a ha
          exact wp_move' (.tmp 0) (.inl rfl) _ (by rw [ha, eval_puts_out rfl]; rfl) ⟨x, _, rfl, rfl, hJ.same rfl rfl id rfl rfl⟩
        · intro x L w' hL hpre hJ a ha
          exact wp_move' (.tmp 9) (.inl rfl) _ (by rw [ha, eval_puts_out rfl]; rfl) ⟨x, _, rfl, rfl, hJ.same rfl rfl id rfl rfl⟩
        · intro x L w' hL hpre hJ a ha
          simp [Region.binds] at hpre
          have e1 : a.eval (.tmp 52) = .slice (some ⟨b, o, none⟩) q c := by rw [ha]; exact eval_puts_in (i := 0) rfl (by simp [hpre]) (by simp) rfl
          have e2 : a.tmps[53]?.getD undef = .int .i64 K := by
            have e2 : a.eval (.tmp 53) = .int .i64 K := by rw [ha]; exact eval_puts_in (i := 1) rfl (by simp [hpre]) (by simp) rfl
            simpa [Act.eval] using e2
          have hcK : ¬ c = K := by omega
          have hKq := Nat.le_of_lt hK
          clear ha
          have HJ := Lib.hid hJ
          clear hJ
          refine wp_intro fun K' HK => ?_
          unfold Oper.wp
          simp only [execOp, e1]
          go_simp
          exact HK.out _ _ ⟨x, _, rfl, rfl, HJ.out.same rfl rfl id rfl rfl⟩
        · intro x L w' hL hpre hJ a ha
          simp [Region.binds] at hpre
          refine wp_appendRows (.const (.slice none 0 0)) (.tmp 54) 65 rfl 40 _ 23 72 Try.underlying65 shInfo3 rfl (by decide) (OwnRows.nil (base := w3.heap.size)) (Below.refl w3.heap.size w') rfl (by rw [ha]; exact eval_puts_in (i := 2) rfl (by simp [hpre]) (by simp) rfl) (rds_drop hJ.hr hK) (fun r hr => one_shs _ r (List.mem_of_mem_drop hr)) (by unfold maxLen; omega) (by omega) hJ.hs (Nat.le_refl _) ?_
          intro v5 w5 hown5 hbel5 hgr5 _
          rw [List.nil_append, Nat.zero_add, show (shs l).drop K = shs (l.drop K) by simp [shs, List.map_drop]] at hown5
          refine ⟨(v5, x.2.1, x.2.2), v5, rfl, rfl, (hbel5.block _ g0).trans hJ.h0, hJ.hr.below hbel5 hsz3, hJ.hb.trans (hbel5.mono hsz3), Nat.le_trans hJ.hs hbel5.size, fun _ _ => hown5, fun h7 h8 => ?_, fun h => ?_, hJ.f13, fun _ => rfl⟩
          · have := hJ.f73 h7
            rw [hL] at this; cases this
          · obtain ⟨g7, e7, hg7, z1, z2⟩ := hJ.f12 h
            exact ⟨g7, e7, hg7, fun h10 => blk_grown (z1 h10) hgr5 (by simp [Value.ownBlock]), fun h10 => blk_grown (z2 h10) hgr5 (by simp [Value.ownBlock])⟩
        · intro x L w' hL hpre hJ a ha
          exact wp_move' (.tmp 0) (.inl rfl) _ (by rw [ha, eval_puts_out rfl]; rfl) ⟨x, _, rfl, rfl, hJ.same rfl rfl id rfl rfl⟩
        · intro x L w' hL hpre hJ a ha
          exact wp_move' (.tmp 9) (.inl rfl) _ (by rw [ha, eval_puts_out rfl]; rfl) ⟨x, _, rfl, rfl, hJ.same rfl rfl id rfl rfl⟩
        · intro x L w' hL hpre hJ a ha
          simp [Region.binds] at hpre
          have e1 : a.eval (.tmp 56) = .slice (some ⟨b, o, none⟩) q c := by rw [ha]; exact eval_puts_in (i := 4) rfl (by simp [hpre]) (by simp) rfl
          have e2 : a.tmps[57]?.getD undef = .int .i64 K := by
            have e2 : a.eval (.tmp 57) = .int .i64 K := by rw [ha]; exact eval_puts_in (i := 5) rfl (by simp [hpre]) (by simp) rfl
            simpa [Act.eval] using e2
          have hKc : K ≤ c := by omega
          have hKq := Nat.le_of_lt hK
          clear ha
          have HJ := Lib.hid hJ
          clear hJ
          refine wp_intro fun K' HK => ?_
          unfold Oper.wp
          simp only [execOp, e1]
          go_simp
          exact HK.out _ _ ⟨x, _, rfl, rfl, HJ.out.same rfl rfl id rfl rfl⟩
        · intro x L w' hL hpre hJ a ha
          simp [Region.binds] at hpre
          have p3 : L 3 = true := by simp [hpre]
          have ho := hJ.f55 p3 hL
          refine wp_appendRows (.tmp 55) (.tmp 58) 65 rfl 40 _ 23 72 Try.underlying65 shInfo3 rfl (by decide) ho (Below.refl w3.heap.size w') (by rw [ha]; exact eval_puts_in (i := 3) rfl p3 (by simp) rfl) (by rw [ha]; exact eval_puts_in (i := 6) rfl (by simp [hpre]) (by simp) rfl) (hJ.hr.take (Nat.le_of_lt hK)) (fun r hr => one_shs _ r (List.mem_of_mem_take hr)) (by unfold maxLen; omega) (by omega) hJ.hs (Nat.le_refl _) ?_
          intro v5 w5 hown5 hbel5 hgr5 _
          rw [show q - K + K = q by omega, show shs (l.drop K) ++ (shs l).take K = shs (l.drop K ++ l.take K) by simp [shs, List.map_take, List.map_drop]] at hown5
          refine ⟨(x.1, v5, x.2.2), v5, rfl, rfl, (hbel5.block _ g0).trans hJ.h0, hJ.hr.below hbel5 hsz3, hJ.hb.trans (hbel5.mono hsz3), Nat.le_trans hJ.hs hbel5.size, fun _ h => ?_, fun _ _ => hown5, fun h => ?_, hJ.f13, fun _ => p3⟩
          · simp [also] at h
          · obtain ⟨g7, e7, hg7, z1, z2⟩ := hJ.f12 h
            exact ⟨g7, e7, hg7, fun h10 => blk_grown (z1 h10) hgr5 (fun e => own_ne ho.1 (z1 h10) (by decide) e.symm), fun h10 => blk_grown (z2 h10) hgr5 (fun e => own_ne ho.1 (z2 h10) (by decide) e.symm)⟩
        · intro x L w' hL hpre hJ a ha
          simp [Region.binds] at hpre
          have p7 : L 7 = true := by simp [hpre]
          have ho := hJ.f59 p7 hL
          obtain ⟨A', c', e', -, -⟩ := ho.slice
          have e41 : a.eval (.tmp 59) = .slice A' q c' := by rw [ha, eval_puts_in (i := 7) rfl p7 (by simp) rfl]; exact e'
          rw [e'] at ho
          clear ha
          have HJ := Lib.hid hJ
          have HR := Lib.hid ho.rds
          clear hJ ho e'
          refine wp_intro fun K' HK => ?_
          unfold Oper.wp
          simp only [execOp, resolve, List.map_toArray, List.map_cons, List.map_nil, e41]
          go_simp
          refine (over_any (l.drop K ++ l.take K) A' q c' _ w' HR.out (Nat.le_refl _) HOT.out (by omega)).mono ?_
          rw [HT1.out.1, HT1.out.2]
          rintro e w'' ⟨rfl, hb⟩
          have hJ' := HJ.out.below hb hsz3
          exact HK.out _ _ ⟨x, _, rfl, rfl, hJ'.same rfl rfl (fun _ => rfl) rfl rfl⟩
        · intro x L w' hL hpre hJ a ha
          simp [Region.binds] at hpre
          exact wp_move' (.tmp 60) (.inl rfl) _ (by rw [ha]; exact eval_puts_in (i := 8) rfl (by simp [hpre]) (by simp) rfl) ⟨x, _, rfl, rfl, hJ.same rfl rfl id rfl rfl⟩
        · intro x L w' hL hpre hJ a ha
          simp [Region.binds] at hpre
          exact wp_extract' (.tmp 51) 0 rfl _ (by rw [ha]; exact eval_puts_in (i := 9) rfl (by simp [hpre]) (by simp) rfl) _ rfl ⟨x, _, rfl, rfl, hJ.same rfl rfl id rfl rfl⟩
        · intro x L w' hL hpre hJ a ha
          simp [Region.binds] at hpre
          exact wp_extract' (.tmp 51) 1 rfl _ (by rw [ha]; exact eval_puts_in (i := 9) rfl (by simp [hpre]) (by simp) rfl) _ rfl ⟨x, _, rfl, rfl, hJ.same rfl rfl id rfl rfl⟩
        · intro x L w' hL hpre hJ a ha
          refine wp_alloc' 38 rfl _ _ _ dInfo3 ?_
          have hJ' := hJ.below ((Below.refl _ w').alloc (Nat.le_refl _) (.cells zeroD.toArray 38)) hsz3
          exact ⟨(x.1, x.2.1, .pointer (some ⟨w'.heap.size, 0, none⟩)), _, rfl, rfl, hJ'.h0, hJ'.hr, hJ'.hb, hJ'.hs, hJ'.f55, hJ'.f59, fun _ => ⟨_, rfl, hJ.hs, fun _ => heap_alloc_new _ _, fun h => by
            have h9 := hJ.f13 h
            rw [hL] at h9; cases h9⟩, fun _ => rfl, hJ'.f73⟩
        · intro x L w' hL hpre hJ a ha
          simp [Region.binds] at hpre
          have p12 : L 12 = true := by simp [hpre]
          have p10 : L 10 = true := by simp [hpre]
          have p8 : L 8 = true := by simp [hpre]
          have p7 : L 7 = true := by simp [hpre]
          obtain ⟨g7, e7, hg7, z1, -⟩ := hJ.f12 p12
          refine wp_put_row' 38 (.tmp 12) (.tmp 61) rfl g7 (nats .u8 (overD l)) (by rw [ha, eval_puts_in (i := 12) rfl p12 (by simp) rfl]; exact e7) (by rw [ha]; exact eval_puts_in (i := 10) rfl p10 (by simp) rfl) 38 _ (z1 hL) iD (by rw [iDl.out]; rfl) (one_nats _ _) ?_
          intro w5 hU
          exact ⟨x, _, rfl, rfl, hU.old hJ.h0 (by omega), hJ.hr.upd hU (by omega), hU.below hJ.hb (by omega), by rw [hU.size]; exact hJ.hs, (fun _ h => by have h : L 7 = false := h; rw [p7] at h; cases h), (fun _ h => by have h : L 8 = false := h; rw [p8] at h; cases h), fun _ => ⟨g7, e7, hg7, (fun h => by simp [also] at h), fun _ => hU.at_⟩, fun _ => p12, hJ.f73⟩
        · intro x L w' hL hpre hJ a ha
          simp [Region.binds] at hpre
          exact wp_move' (.tmp 62) (.inr rfl) _ (by rw [ha]; exact eval_puts_in (i := 11) rfl (by simp [hpre]) (by simp) rfl) ⟨x, _, rfl, rfl, hJ.same rfl rfl id rfl rfl⟩
      · intro x L w4 hL hJ
        obtain ⟨g7, e7, hg7, -, z2⟩ := hJ.f12 (hL 12 (by decide))
        have h7 := z2 (hL 13 (by decide))
        have h04 := hJ.h0
        have hr4 := hJ.hr
        have hb_w4 := hJ.hb
        have hs4 := hJ.hs
        obtain ⟨v55, v59, v12⟩ := x
        simp only at e7
        subst e7
        clear hJ hL z2 hr3 h0_w3 hb_w3
        simp only [List.foldl_cons, List.foldl_nil]
        go_simp
        have hB4 : w.heap.size ≤ w4.heap.size := hb_w4.size
        go_wp2_with (at_builtin; first | (refine wpList_appendRows rfl (.const (.slice none 0 0)) (.tmp 64) 65 rfl 40 _ 23 72 Try.underlying65 shInfo3 rfl (by decide) (OwnRows.nil (base := w4.heap.size)) (Below.refl w4.heap.size w4) rfl rfl hr4 (one_shs _) (by unfold maxLen; omega) (by omega) (Nat.le_refl _) (Nat.le_refl _) ?_; intro v5 w5 hown5 hb5 hgr5 hat5; rw [List.nil_append, Nat.zero_add] at hown5; have h05 := blk_below h04 hb5; have h75 := blk_below h7 hb5; have hr5 := hr4.below hb5 hB4; have hb_w5 := hb_w4.trans (hb5.mono hB4); have hs5 := hb5.size) | (refine wpList_appendRows rfl (.tmp 65) (.tmp 66) 65 rfl 40 _ 23 72 Try.underlying65 shInfo3 rfl (by decide) hown5 (Below.refl w4.heap.size w5) rfl rfl hr5 (one_shs _) (by unfold maxLen; omega) (by omega) hs5 (Nat.le_refl _) ?_; intro v6 w6 hown6 hb6 hgr6 hat6; rw [show shs l ++ shs l = shs (l ++ l) by simp [shs]] at hown6; have h06 := (hb6.block _ (lt_of_cells h04)).trans h05; have h76 := (hb6.block _ (lt_of_cells h7)).trans h75; have hb_w6 := hb_w5.trans (hb6.mono hB4); obtain ⟨A6, c6, rfl, -, -⟩ := hown6.slice))
        refine (over_any (l ++ l) A6 (q + q) c6 _ w6 hown6.rds (Nat.le_refl _) HOW.out (by omega)).mono ?_
        rw [HT2.out.1, HT2.out.2]
        rintro e w7 ⟨rfl, hb⟩
        have h07 := blk_below h06 hb
        have h77 := blk_below h76 hb
        have hb_w7 := hb_w6.trans (hb.mono hb_w6.size)
        have qZ : ∀ w, (binOp .eql 38 (.agg zeroD.toArray) (.agg zeroD.toArray)).run Try.prog w = .ok (.bool true) w := fun w => by
          unfold zeroD
          rw [eql_data w _ _ (by decide) (by decide) rfl rfl]; simp
        have qD : ∀ w, (binOp .eql 38 (.agg (nats .u8 (overD l)).toArray) (.agg (nats .u8 (overD l)).toArray)).run Try.prog w = .ok (.bool true) w := fun w => by
          rw [eql_data w _ _ hDb hDb hD16 hD16]; simp
        rw [show nats .u8 (List.replicate 16 0) = zeroD from rfl]
        have ne0 : w2.heap.size ≠ w7.heap.size := by have := lt_of_cells h07; omega
        have ne7 : g7 ≠ w7.heap.size := by have := lt_of_cells h77; omega
        clear hb hb_w6 h06 h76 hown6 hb6 hgr6 hat6 h05 h75 hr5 hb_w5 hs5 hown5 hb5 hgr5 hat5 h04 h7 hr4 hb_w4 hs4
        go_wp2_with (first | (refine wpList_put_row rfl 38 (.tmp 14) (.tmp 69) rfl w7.heap.size zeroD rfl rfl 38 _ (heap_new' w7 _ _ rfl) (by kernel_rfl) rfl (one_nats _ _) ?_; intro w8 hU; have h14 := hU.at_; have h08 := hU.old (blk_alloc h07 _) ne0; have h78 := hU.old (blk_alloc h77 _) ne7; have hb_w8 := hU.below (hb_w7.alloc hb_w7.size _) hb_w7.size; clear hU) | (refine wpList_load_mid rfl 38 (.tmp 10) rfl w2.heap.size 0 rfl _ _ (range_blk h08) Try.underlying38 rfl iD ?_) | (refine wpList_load_mid rfl 38 (.tmp 12) rfl g7 0 rfl _ _ (range_blk h78) Try.underlying38 rfl iD ?_) | (refine wpList_want_any 38 (.tmp 14) rfl w7.heap.size 0 rfl rfl _ _ (range_blk h14) Try.underlying38 rfl (by kernel_rfl) ?_) | (refine wpList_want_build 38 _ rfl _ rfl rfl _ built_zeroD ?_))
        go_ret
        exact ⟨rfl, hb_w8⟩
end Go.Proofs.Ytakekjbbbjmdpaa.weaveOver
