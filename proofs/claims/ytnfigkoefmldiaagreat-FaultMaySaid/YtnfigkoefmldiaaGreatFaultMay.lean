import Derived.Test.YtnfigkoefmldiaaGreatBunR
import Derived.Test.YtnfigkoefmldiaaGreatRefSet
import Derived.Test.YtnfigkoefmldiaaGreatOpenF
/- FaultMay: which faults may be; of which dies they are; no condition. -/
namespace Go.Proofs.YtnfigkoefmldiaaGreat.faultMay
open Go.RowKit
open Go.Proofs.YtnfigkoefmldiaaGreat.nand
set_option linter.unusedVariables false
theorem open_geo {cs : List Value} (h : okAll (List.replicate 3 (Kd.int .i64)) cs = true) : ∃ a b c : Int, cs = [.int .i64 a, .int .i64 b, .int .i64 c] ∧ (Lit.int .i64 a).wf = true ∧ (Lit.int .i64 b).wf = true ∧ (Lit.int .i64 c).wf = true := by
  have hl := okAll_length h
  match cs, hl, h with
  | [c0, c1, c2], _, h =>
    simp only [List.replicate_succ, List.replicate_zero, okAll, Bool.and_eq_true, and_true] at h
    obtain ⟨h0, h1, h2⟩ := h
    obtain ⟨a, rfl, a0⟩ := ok_int h0
    obtain ⟨b, rfl, a1⟩ := ok_int h1
    obtain ⟨c, rfl, a2⟩ := ok_int h2
    exact ⟨a, b, c, rfl, a0, a1, a2⟩
theorem open_flt {cs : List Value} (h : okAll (List.replicate 7 (Kd.int .i64)) cs = true) : ∃ f : Flt, cs = f.v ∧ f.wf := by
  obtain ⟨r, l, s, k, b, o, m, rfl, h0, h1, h2, h3, h4, h5, h6⟩ := open_ints7 h
  exact ⟨⟨r, l, s, k, b, o, m⟩, rfl, h0, h1, ⟨h2, h3, h4⟩, h5, h6⟩
theorem open_flts' {w : World} {a : Option Addr} {len cap : Nat} (h : IsRows (List.replicate 7 (Kd.int .i64)) w a len cap) : ∃ l : List Flt, Rds w w.heap.size a 7 len (flts l) ∧ (∀ x ∈ l, x.wf) ∧ len ≤ cap ∧ cap ≤ maxLen := by
  obtain ⟨rows, h1, h2, h3, h4⟩ := h.rds (by simp)
  obtain ⟨l, rfl, hl⟩ := open_all (f := Flt.v) (p := fun x => x.wf) (fun cs hc => open_flt hc) h2
  exact ⟨l, h1, hl, h3, h4⟩
theorem geoN (x n : Int) (q : Nat) (hq : n = q) (h0 : 0 < q) (k : Nat) : ∃ D : Nat, (k : Int) + x % n = (D : Int) ∧ k ≤ D ∧ D < k + q := by
  have h1 := Int.emod_nonneg x (show n ≠ 0 by omega)
  have h2 := Int.emod_lt_of_pos x (show 0 < n by omega)
  obtain ⟨d, hd⟩ := Int.eq_ofNat_of_zero_le h1
  exact ⟨k + d, by omega, by omega, by omega⟩
def stepD (ds : List Nat) (d : Nat) : List Nat := if d ∈ ds then ds else ds ++ [d]
structure Ds (ins : List Flt) (ds : List Nat) : Prop where
  eq : diesI ins = (setN ds : Int)
  bit : ∀ d, (setN ds).testBit d = decide (d ∈ ds)
  lt : ∀ d ∈ ds, d < 6
theorem Ds.start : Ds [] [] := ⟨rfl, by simp [setN], by simp⟩
theorem Ds.small {ins : List Flt} {ds : List Nat} (h : Ds ins ds) : setN ds < 64 := by
  refine Nat.lt_pow_two_of_testBit (n := 6) _ fun j hj => ?_
  rw [h.bit]
  have : ¬ j ∈ ds := fun hm => by have := h.lt j hm; omega
  simpa using this
theorem or_add : ∀ m, m < 64 → ∀ d, d < 6 → m.testBit d = false → m + 2 ^ d = m ||| 2 ^ d := by decide +kernel
theorem or_same : ∀ m, m < 64 → ∀ d, d < 6 → m.testBit d = true → m ||| 2 ^ d = m := by decide +kernel
theorem one_of : ∀ d : Nat, d < 6 → (oneI (d : Int)).toNat = 2 ^ d := by decide +kernel
theorem Ds.next {ins : List Flt} {ds : List Nat} (h : Ds ins ds) {x : Flt} {d : Nat} (hd : x.d = d) (hd6 : d < 6) : Ds (ins ++ [x]) (stepD ds d) := by
  have hs := h.small
  have e : diesI (ins ++ [x]) = withI (diesI ins) x.d := by simp [diesI, List.foldl_append]
  have e2 : diesI (ins ++ [x]) = ((setN ds ||| 2 ^ d : Nat) : Int) := by
    rw [e, h.eq, hd]
    unfold withI
    rw [if_pos (setB_of (by omega) (by omega)), Int.toNat_natCast, one_of d hd6]
  unfold stepD
  by_cases hm : d ∈ ds
  · rw [if_pos hm]
    refine ⟨by rw [e2, or_same _ hs d hd6 (by rw [h.bit]; simpa using hm)], h.bit, h.lt⟩
  · rw [if_neg hm]
    have ha := or_add _ hs d hd6 (by rw [h.bit]; simpa using hm)
    refine ⟨by rw [e2, setN_snoc, ha], fun j => ?_, fun j hj => ?_⟩
    · rw [setN_snoc, ha, Nat.testBit_or, h.bit, Nat.testBit_two_pow]
      simp
      by_cases e : d = j <;> simp [e, eq_comm]
    · rcases List.mem_append.1 hj with hj | hj
      · exact h.lt j hj
      · rw [List.mem_singleton.1 hj]; exact hd6
theorem Ds.spot {ins : List Flt} {ds : List Nat} (h : Ds ins ds) {d : Nat} (hd : d < 6) : decide (spotI (setN ds : Int) (d : Int) < 0) = decide (d ∉ ds) := by
  have hs := h.small
  have hb : hasB (setN ds : Int) (d : Int) = decide (d ∈ ds) := by
    unfold hasB
    rw [setB_of (by omega) (by omega), Int.toNat_natCast, Int.toNat_natCast, h.bit]
    simp; omega
  unfold spotI
  rw [hb]
  by_cases hm : d ∈ ds
  · simp [hm]
  · simp [hm]
theorem stepD_len (ds : List Nat) (d : Nat) : (stepD ds d).length ≤ ds.length + 1 := by unfold stepD; split <;> simp
def geoV (D B P : Nat) : List Value := [.int .i64 (D : Int), .int .i64 (B : Int), .int .i64 (P : Int)]
theorem refin_ad (D B P : Nat) (x : Flt) (w : World) : Calls Tryz.prog 28 #[.agg (geoV D B P).toArray, .agg (Ad.mk x.d x.b x.p).v.toArray] w fun e w' => e = .returned (.bool (inG D B P x.d x.b x.p)) ∧ Below w.heap.size w w' := refin_any D B P x.d x.b x.p w
theorem flt_ad_range {w : World} {b o : Nat} {x : Flt} (h : w.rangeAt b o x.v) : w.rangeAt b (o + 2) (Ad.mk x.d x.b x.p).v := by
  intro j v hv
  have := h (2 + j) v (by
    match j, hv with
    | 0, hv => exact hv
    | 1, hv => exact hv
    | 2, hv => exact hv
    | j + 3, hv => simp [Ad.v] at hv)
  rw [show o + 2 + j = o + (2 + j) by omega]
  exact this
theorem apart_t {w : World} {B B' n m C1 C2 : Nat} {e1 e2 : TypeId} {v u : Value} {xs ys : List Value} (hne : e1 ≠ e2) (h1 : w.ownsRow B e1 C1 v n xs) (h2 : w.ownsRow B' e2 C2 u m ys) : v.ownBlock = none ∨ v.ownBlock ≠ u.ownBlock := by
  cases hv : v.ownBlock with
  | none => exact .inl rfl
  | some k =>
    right
    intro e
    obtain ⟨cur, h3, -⟩ := own_blk h1 hv
    obtain ⟨cur2, h4, -⟩ := own_blk h2 e.symm
    exact ne_kind h3 h4 (by simpa [kindO] using hne) rfl
theorem own_off' {w : World} {B n C j : Nat} {e : TypeId} {v : Value} {xs : List Value} (h : w.ownsRow B e C v n xs) (hj : j < B) : v.ownBlock ≠ some j := by
  intro e
  obtain ⟨cur, -, hb⟩ := own_blk h e
  omega
theorem below_of_same {P : Program} {f : FuncId} {args : Array Value} {w : World} {e0 : Ending} (h : Calls P f args w fun e w' => e = e0 ∧ w = w') : Calls P f args w fun e w' => e = e0 ∧ Below w.heap.size w w' :=
  h.mono fun _ _ h => ⟨h.1, h.2 ▸ Below.refl _ _⟩
set_option maxRecDepth 100000 in
set_option maxHeartbeats 8000000 in
theorem walk (cs0 cs1 : List Value) (A : Option Addr) (n c : Nat) (w : World) (w0 : okAll (List.replicate 3 (Kd.int .i64)) cs0 = true) (w1 : okAll (List.replicate 7 (Kd.int .i64)) cs1 = true) (w2 : IsRows (List.replicate 7 (Kd.int .i64)) w A n c) :
    Calls Tryz.prog 6 #[.agg cs0.toArray, .agg cs1.toArray, .slice A n c] w fun e w' => e = .returned (.bool true) ∧ Below w.heap.size w w' := by
  obtain ⟨a, b, cc, rfl, -, -, -⟩ := open_geo w0
  obtain ⟨f, rfl, -⟩ := open_flt w1
  obtain ⟨l, hr, -, hnc, hcm⟩ := open_flts' w2
  unfold maxLen at hcm
  have HR := Lib.hid hr
  have HL := Lib.hid (show l.length = n by have := hr.1; simpa [flts] using this)
  clear hr w0 w1 w2
  obtain ⟨D, eD, D1, D2⟩ := geoN a 4 4 rfl (by omega) 3
  obtain ⟨B, eB, B1, B2⟩ := geoN b 9 9 rfl (by omega) 8
  obtain ⟨P, eP, P1, P2⟩ := geoN cc 7 7 rfl (by omega) 2
  have hG := fun w => geo_any a b cc w
  rw [show (3 : Int) + a % 4 = (D : Int) from eD, show (8 : Int) + b % 9 = (B : Int) from eB, show (2 : Int) + cc % 7 = (P : Int) from eP] at hG
  have HG := Lib.hid hG
  clear hG eD eB eP
  have hbel := below2 w (.cells #[.int .i64 a, .int .i64 b, .int .i64 cc] 25) (.cells f.v.toArray 44)
  have hg := heap_at1 w (.cells #[.int .i64 a, .int .i64 b, .int .i64 cc] 25) (.cells f.v.toArray 44)
  have hf := heap_new' (w.alloc (.cells #[.int .i64 a, .int .i64 b, .int .i64 cc] 25)) (.cells f.v.toArray 44) (w.heap.size + 1) (by simp)
  go_enter Tryz.func6, Tryz.ntmps6
  go_upto_region 1 with fail
  change Code.wp _ _ _ _ ((w.alloc (.cells #[.int .i64 a, .int .i64 b, .int .i64 cc] 25)).alloc (.cells f.v.toArray 44))
  generalize (w.alloc (.cells #[.int .i64 a, .int .i64 b, .int .i64 cc] 25)).alloc (.cells f.v.toArray 44) = wa at *
  have HB0 := Lib.hid hbel
  have HG0 := Lib.hid hg
  have HF0 := Lib.hid hf
  clear hbel hg hf
  go_wp2_with fail
  refine (begun7_any _).mono ?_
  rintro e w1 ⟨rfl, hb⟩
  have HB1 := Lib.hid (HB0.out.trans (hb.mono HB0.out.size))
  have hg1 := blk_below HG0.out hb
  have HF1 := Lib.hid (blk_below HF0.out hb)
  have c0 : w1.cell? ⟨w.heap.size, 0, none⟩ = some (.int .i64 a) := by rw [blk_cell hg1]; rfl
  have c1 : w1.cell? ⟨w.heap.size, 1, none⟩ = some (.int .i64 b) := by rw [blk_cell hg1]; rfl
  have c2 : w1.cell? ⟨w.heap.size, 2, none⟩ = some (.int .i64 cc) := by rw [blk_cell hg1]; rfl
  have HG1 := Lib.hid hg1
  clear hb hg1 HB0 HG0 HF0
  go_wp2_with fail
  refine (HG.out _).mono ?_
  rintro e w2 ⟨rfl, hb⟩
  have hg2 := blk_below HG1.out hb
  have HF2 := Lib.hid (blk_below HF1.out hb)
  have HB2 := Lib.hid (HB1.out.trans (hb.mono HB1.out.size))
  clear hb HG1 HF1 HB1 c0 c1 c2 HG
  go_upto_region 5 with (first | (refine wpList_put_row rfl 25 (.tmp 3) (.tmp 21) rfl w.heap.size (geoV D B P) rfl rfl 25 _ hg2 geoInfo rfl (by simp [geoV, Value.oneCell']) ?_; intro w3 hU3; have hg3 := hU3.at_; have hf3 := hU3.old HF2.out (by omega); have hb3 := hU3.below HB2.out (Nat.le_refl _); clear hU3))
  have HG3 := Lib.hid hg3
  have HF3 := Lib.hid hf3
  have HB3 := Lib.hid hb3
  clear hg2 HF2 HB2 hg3 hf3 hb3
  go_simp
  obtain ⟨M, hM⟩ : ∃ M, M = mayF D B P f := ⟨_, rfl⟩
  have HM := Lib.hid hM
  clear hM
  go_cut [8] (fun v wx => v = .bool M ∧ Below w3.heap.size w3 wx)
  case first =>
    have hrg := range_blk HG3.out
    have hra := flt_addr HF3.out
    have c0 := flt_c0 HF3.out
    have c1 := flt_c1 HF3.out
    have HBq := Below.refl w3.heap.size w3
    by_cases a1 : 0 ≤ f.at_
    · by_cases a2 : 1 ≤ f.k
      · by_cases a3 : f.k ≤ 5
        · go_wp2_with (first | (refine want_geo (.tmp 3) rfl w.heap.size 0 rfl (by rfl) hrg geoInfo ?_) | (refine want_addr (.tmp 37) rfl (w.heap.size + 1) 2 rfl (by rfl) hra aInfo ?_))
          refine (refin_ad D B P f _).mono ?_
          rintro e w4 ⟨rfl, hb4⟩
          have d1 := flt_c1 (blk_below HF3.out hb4)
          have d5 := flt_c5 (blk_below HF3.out hb4)
          have d6 := flt_c6 (blk_below HF3.out hb4)
          replace HBq := hb4
          clear hb4 c0 c1 hrg hra
          cases hI : inG D B P f.d f.b f.p with
          | false =>
            have HI := Lib.hid hI
            clear hI
            go_wp2_with fail
            go_meet
            exact ⟨by rw [HM.out]; unfold mayF; rw [decide_eq_true a1, decide_eq_true a2, decide_eq_true a3, HI.out]; rfl, HBq⟩
          | true =>
            by_cases hk : f.k = 5
            · have HK := Lib.hid hk
              have hk1 : (f.k == (5 : Int)) = true := by rw [hk]; rfl
              have hk2 : (f.k != (5 : Int)) = false := by rw [hk]; rfl
              clear hk
              by_cases a5 : 0 ≤ f.n
              · by_cases a6 : f.n ≤ 31
                · by_cases a7 : 1 ≤ f.x
                  · by_cases a8 : f.x ≤ 255
                    · go_wp2_with fail
                      go_meet
                      exact ⟨by rw [HM.out]; unfold mayF; rw [decide_eq_true a1, decide_eq_true a2, decide_eq_true a3, hI]; unfold turnF; rw [if_pos HK.out, decide_eq_true a5, decide_eq_true (show f.n < 32 by omega), decide_eq_true a7, decide_eq_true a8]; rfl, HBq⟩
                    · go_wp2_with fail
                      go_meet
                      exact ⟨by rw [HM.out]; unfold mayF; rw [decide_eq_true a1, decide_eq_true a2, decide_eq_true a3, hI]; unfold turnF; rw [if_pos HK.out, decide_eq_true a5, decide_eq_true (show f.n < 32 by omega), decide_eq_true a7, decide_eq_false (show ¬ f.x ≤ 255 by omega)]; rfl, HBq⟩
                  · go_wp2_with fail
                    go_meet
                    exact ⟨by rw [HM.out]; unfold mayF; rw [decide_eq_true a1, decide_eq_true a2, decide_eq_true a3, hI]; unfold turnF; rw [if_pos HK.out, decide_eq_true a5, decide_eq_true (show f.n < 32 by omega), decide_eq_false (show ¬ 1 ≤ f.x by omega)]; rfl, HBq⟩
                · go_wp2_with fail
                  go_meet
                  exact ⟨by rw [HM.out]; unfold mayF; rw [decide_eq_true a1, decide_eq_true a2, decide_eq_true a3, hI]; unfold turnF; rw [if_pos HK.out, decide_eq_true a5, decide_eq_false (show ¬ f.n < 32 by omega)]; rfl, HBq⟩
              · go_wp2_with fail
                go_meet
                exact ⟨by rw [HM.out]; unfold mayF; rw [decide_eq_true a1, decide_eq_true a2, decide_eq_true a3, hI]; unfold turnF; rw [if_pos HK.out, decide_eq_false (show ¬ 0 ≤ f.n by omega)]; rfl, HBq⟩
            · have HK := Lib.hid hk
              have hk1 : (f.k == (5 : Int)) = false := by simpa using hk
              have hk2 : (f.k != (5 : Int)) = true := by simpa using hk
              clear hk
              by_cases a5 : f.n = 0
              · have b5 : (f.n == (0 : Int)) = true := by simpa using a5
                by_cases a6 : f.x = 0
                · have b6 : (f.x == (0 : Int)) = true := by simpa using a6
                  have HA := Lib.hid (And.intro a5 a6)
                  clear a5 a6
                  go_wp2_with fail
                  go_meet
                  exact ⟨by rw [HM.out]; unfold mayF; rw [decide_eq_true a1, decide_eq_true a2, decide_eq_true a3, hI]; unfold turnF; rw [if_neg HK.out, decide_eq_true HA.out.1, decide_eq_true HA.out.2]; rfl, HBq⟩
                · have b6 : (f.x == (0 : Int)) = false := by simpa using a6
                  have HA := Lib.hid (And.intro a5 a6)
                  clear a5 a6
                  go_wp2_with fail
                  go_meet
                  exact ⟨by rw [HM.out]; unfold mayF; rw [decide_eq_true a1, decide_eq_true a2, decide_eq_true a3, hI]; unfold turnF; rw [if_neg HK.out, decide_eq_true HA.out.1, decide_eq_false HA.out.2]; rfl, HBq⟩
              · have b5 : (f.n == (0 : Int)) = false := by simpa using a5
                have HA := Lib.hid a5
                clear a5
                go_wp2_with fail
                go_meet
                exact ⟨by rw [HM.out]; unfold mayF; rw [decide_eq_true a1, decide_eq_true a2, decide_eq_true a3, hI]; unfold turnF; rw [if_neg HK.out, decide_eq_false HA.out]; rfl, HBq⟩
        · go_wp2_with fail
          go_meet
          exact ⟨by rw [HM.out]; unfold mayF; rw [decide_eq_true a1, decide_eq_true a2, decide_eq_false (show ¬ f.k ≤ 5 by omega)]; rfl, HBq⟩
      · go_wp2_with fail
        go_meet
        exact ⟨by rw [HM.out]; unfold mayF; rw [decide_eq_true a1, decide_eq_false (show ¬ 1 ≤ f.k by omega)]; rfl, HBq⟩
    · go_wp2_with fail
      go_meet
      exact ⟨by rw [HM.out]; unfold mayF; rw [decide_eq_false (show ¬ 0 ≤ f.at_ by omega)]; rfl, HBq⟩
  case rest =>
    obtain ⟨rfl, hb⟩ := hcut
    obtain ⟨wq, rfl⟩ : ∃ x : World, x = wc := ⟨_, rfl⟩
    have HG4 := Lib.hid (blk_below HG3.out hb)
    have HF4 := Lib.hid (blk_below HF3.out hb)
    have HB4 := Lib.hid (HB3.out.trans (hb.mono HB3.out.size))
    have HW := Lib.hid (show w.heap.size ≤ wq.heap.size from HB4.out.size)
    have HLO := Lib.hid (show w.heap.size + 1 < wq.heap.size from lt_of_cells HF4.out)
    clear hb HG3 HF3 HB3
    go_wp2_with fail
    go_loopw [9, 10, 11] (fun vd vi i wr => ∃ (k : Nat) (ds : List Nat) (ins : List Flt), k ≤ n ∧ k ≤ 12 ∧ i = .int .i64 k ∧ Ds ins ds ∧ ds.length ≤ k ∧ ins.length ≤ k ∧ wr.ownsRow wq.heap.size 3 1 vd ds.length (nats .i64 ds) ∧ OwnRows wr wq.heap.size 44 7 vi ins.length (flts ins) ∧ wr.heap[w.heap.size]? = some (.cells (geoV D B P).toArray 25 (0, 0)) ∧ wr.heap[w.heap.size + 1]? = some (.cells f.v.toArray 44 (0, 0)) ∧ wq.heap.size ≤ wr.heap.size ∧ Below w.heap.size w wr) (fun _ _ i _ => n - (intOf i).toNat)
    case atStart => exact ⟨0, [], [], by omega, by omega, rfl, Ds.start, by simp, by simp, World.ownsRow_nil _ _ _ _, OwnRows.nil, HG4.out, HF4.out, Nat.le_refl _, HB4.out⟩
    case round =>
      clear HG4 HF4 HB4
      obtain ⟨k, ds, ins, hk, hk12, rfl, hDs, hdl, hil, hd, hi, hg, hf, hsz, hb⟩ := hrel
      obtain ⟨A9, c9, rfl, -, -⟩ := own_slice hd
      obtain ⟨A10, c10, rfl, -, -⟩ := hi.slice
      have HDS := Lib.hid hDs
      have HD := Lib.hid hd
      have HI := Lib.hid hi
      have HGr := Lib.hid hg
      have HFr := Lib.hid hf
      have HBr := Lib.hid hb
      by_cases hlt : k < n ∧ k < 12
      · have hkl : k < l.length := by rw [HL.out]; exact hlt.1
        obtain ⟨x, hKx⟩ : ∃ x, l[k]? = some x := ⟨_, List.getElem?_eq_getElem hkl⟩
        obtain ⟨bb, oo, rfl, hbb, hRr⟩ := rds_range (HR.out.below hb (Nat.le_refl _)) hlt.1 (r := x.v) (flts_at hKx)
        have hlt1 : (k : Int) < (n : Int) := by omega
        have hlt2 : (k : Int) < 12 := by omega
        have hadr := flt_ad_range hRr
        have HRr := Lib.hid hRr
        have HKX := Lib.hid hKx
        obtain ⟨q9, hq9⟩ : ∃ q, q = ds.length := ⟨_, rfl⟩
        obtain ⟨q10, hq10⟩ : ∃ q, q = ins.length := ⟨_, rfl⟩
        have HQ9 := Lib.hid hq9
        have HQ10 := Lib.hid hq10
        rw [← hq9] at hd hdl HD ⊢
        rw [← hq10] at hi hil HI ⊢
        clear hDs hRr hkl hKx hq9 hq10
        go_upto_region 11 with fail
        cases hIn : inG D B P x.d x.b x.p with
        | false =>
          refine wp_region_puts_g (by kernel_rfl) (by kernel_rfl) (X := Unit) (fun _ => [(some 91, .agg (geoV D B P).toArray), (some 92, .slice (some ⟨bb, oo, none⟩) n c), (some 93, .int .i64 (k : Int)), (some 94, .pointer (some ⟨bb, oo + k * 7, none⟩)), (some 95, .pointer (some ⟨bb, oo + k * 7 + 2, none⟩)), (some 96, .agg (Ad.v (Ad.mk x.d x.b x.p)).toArray), (some 97, .bool false), (some 98, .bool true)])
            (fun _ L w' => w'.heap[w.heap.size]? = some (.cells (geoV D B P).toArray 25 (0, 0)) ∧ w'.rangeAt bb (oo + k * 7 + 2) (Ad.v (Ad.mk x.d x.b x.p)) ∧ Below wr.heap.size wr w') (fun _ => rfl) (by kernel_rfl) ⟨(), fun _ _ => ⟨hg, hadr, (Below.refl _ wr).drew⟩⟩ ?_ ?_
          · refine ⟨?_, ?_, ?_, ?_, ?_, ?_, ?_, ?_, trivial⟩
            · intro _ L w' hL hpre hJ a ha
              obtain ⟨jg, ja, jb⟩ := hJ
              simp [Region.binds] at hpre
              refine .inl ⟨wanted_none rfl, ?_⟩
              exact wp_load_mid 25 (.tmp 3) rfl w.heap.size 0 (by rw [ha, eval_puts_out rfl]; rfl) (geoV D B P) _ (range_blk jg) Tryz.underlying25 rfl geoInfo ⟨(), _, rfl, rfl, jg, ja, jb⟩
            · intro _ L w' hL hpre hJ a ha
              obtain ⟨jg, ja, jb⟩ := hJ
              simp [Region.binds] at hpre
              refine .inl ⟨wanted_none rfl, ?_⟩
              exact wp_move' (.tmp 2) (.inl rfl) (.slice (some ⟨bb, oo, none⟩) n c) (by rw [ha, eval_puts_out rfl]; rfl) ⟨(), _, rfl, rfl, jg, ja, jb⟩
            · intro _ L w' hL hpre hJ a ha
              obtain ⟨jg, ja, jb⟩ := hJ
              simp [Region.binds] at hpre
              refine .inl ⟨wanted_none rfl, ?_⟩
              exact wp_move' (.tmp 11) (.inl rfl) (.int .i64 (k : Int)) (by rw [ha, eval_puts_out rfl]; rfl) ⟨(), _, rfl, rfl, jg, ja, jb⟩
            · intro _ L w' hL hpre hJ a ha
              obtain ⟨jg, ja, jb⟩ := hJ
              simp [Region.binds] at hpre
              refine .inl ⟨wanted_none rfl, ?_⟩
              have e92 : a.eval (.tmp 92) = .slice (some ⟨bb, oo, none⟩) n c := by rw [ha]; exact eval_puts_in (i := 1) rfl (by simp [hpre]) (by simp) rfl
              have e93 : a.eval (.tmp 93) = .int .i64 (k : Int) := by rw [ha]; exact eval_puts_in (i := 2) rfl (by simp [hpre]) (by simp) rfl
              clear ha
              have jg' := Lib.hid jg
              have ja' := Lib.hid ja
              have jb' := Lib.hid jb
              clear jg ja jb
              refine wp_intro fun K HK => ?_
              unfold Oper.wp
              simp only [execOp, e92, e93]
              go_simp
              exact HK.out _ _ ⟨(), _, rfl, rfl, jg'.out, ja'.out, jb'.out⟩
            · intro _ L w' hL hpre hJ a ha
              obtain ⟨jg, ja, jb⟩ := hJ
              simp [Region.binds] at hpre
              refine .inl ⟨wanted_none rfl, ?_⟩
              have e94 : a.eval (.tmp 94) = .pointer (some ⟨bb, oo + k * 7, none⟩) := by rw [ha]; exact eval_puts_in (i := 3) rfl (by simp [hpre]) (by simp) rfl
              clear ha
              have jg' := Lib.hid jg
              have ja' := Lib.hid ja
              have jb' := Lib.hid jb
              clear jg ja jb
              refine wp_intro fun K HK => ?_
              unfold Oper.wp
              simp only [execOp, e94]
              go_simp
              exact HK.out _ _ ⟨(), _, rfl, rfl, jg'.out, ja'.out, jb'.out⟩
            · intro _ L w' hL hpre hJ a ha
              obtain ⟨jg, ja, jb⟩ := hJ
              simp [Region.binds] at hpre
              refine .inl ⟨wanted_none rfl, ?_⟩
              exact wp_load_mid 32 (.tmp 95) rfl bb (oo + k * 7 + 2) (by rw [ha]; exact eval_puts_in (i := 4) rfl (by simp [hpre]) (by simp) rfl) (Ad.v (Ad.mk x.d x.b x.p)) _ (ja) Tryz.underlying32 rfl aInfo ⟨(), _, rfl, rfl, jg, ja, jb⟩
            · intro _ L w' hL hpre hJ a ha
              obtain ⟨jg, ja, jb⟩ := hJ
              simp [Region.binds] at hpre
              refine .inl ⟨wanted_none rfl, ?_⟩
              have e91 : a.eval (.tmp 91) = .agg (geoV D B P).toArray := by rw [ha]; exact eval_puts_in (i := 0) rfl (by simp [hpre]) (by simp) rfl
              have e96 : a.eval (.tmp 96) = .agg (Ad.v (Ad.mk x.d x.b x.p)).toArray := by rw [ha]; exact eval_puts_in (i := 5) rfl (by simp [hpre]) (by simp) rfl
              clear ha
              have jg' := Lib.hid jg
              have ja' := Lib.hid ja
              have jb' := Lib.hid jb
              clear jg ja jb
              refine wp_intro fun K HK => ?_
              unfold Oper.wp
              simp only [execOp, resolve, List.map_toArray, List.map_cons, List.map_nil, e91, e96]
              go_simp
              refine (refin_ad D B P x w').mono ?_
              rw [hIn]
              rintro e w'' ⟨rfl, hb⟩
              exact HK.out _ _ ⟨(), _, rfl, rfl, blk_below jg'.out hb, range_keep' ja'.out hb, jb'.out.trans (hb.mono jb'.out.size)⟩
            · intro _ L w' hL hpre hJ a ha
              obtain ⟨jg, ja, jb⟩ := hJ
              simp [Region.binds] at hpre
              refine .inl ⟨wanted_none rfl, ?_⟩
              have e97 : a.eval (.tmp 97) = .bool false := by rw [ha]; exact eval_puts_in (i := 6) rfl (by simp [hpre]) (by simp) rfl
              clear ha
              have jg' := Lib.hid jg
              have ja' := Lib.hid ja
              have jb' := Lib.hid jb
              clear jg ja jb
              refine wp_intro fun K HK => ?_
              unfold Oper.wp
              simp only [execOp, e97]
              go_simp
              exact HK.out _ _ ⟨(), _, rfl, rfl, jg'.out, ja'.out, jb'.out⟩
          · intro _ L w' hL hJ
            obtain ⟨jg, ja, jb⟩ := hJ
            clear hL
            simp only [List.foldl_cons, List.foldl_nil]
            have HBx := Lib.hid jb
            clear jg ja jb
            go_simp
            go_wp2_with fail
            go_roundw
            case rel => exact ⟨k + 1, ds, ins, by omega, by omega, by go_num, HDS.out, by rw [← HQ9.out]; omega, by rw [← HQ10.out]; omega, by rw [← HQ9.out]; exact own_below HD.out HBx.out, by rw [← HQ10.out]; exact HI.out.below HBx.out, blk_below HGr.out HBx.out, blk_below HFr.out HBx.out, Nat.le_trans hsz HBx.out.size, HBr.out.trans (HBx.out.mono HBr.out.size)⟩
            case measure => simp [intOf]; omega
        | true =>
          refine wp_region_puts_g (by kernel_rfl) (by kernel_rfl) (X := Unit) (fun _ => [(some 91, .agg (geoV D B P).toArray), (some 92, .slice (some ⟨bb, oo, none⟩) n c), (some 93, .int .i64 (k : Int)), (some 94, .pointer (some ⟨bb, oo + k * 7, none⟩)), (some 95, .pointer (some ⟨bb, oo + k * 7 + 2, none⟩)), (some 96, .agg (Ad.v (Ad.mk x.d x.b x.p)).toArray), (some 97, .bool true), (some 98, .bool false)])
            (fun _ L w' => w'.heap[w.heap.size]? = some (.cells (geoV D B P).toArray 25 (0, 0)) ∧ w'.rangeAt bb (oo + k * 7 + 2) (Ad.v (Ad.mk x.d x.b x.p)) ∧ Below wr.heap.size wr w') (fun _ => rfl) (by kernel_rfl) ⟨(), fun _ _ => ⟨hg, hadr, (Below.refl _ wr).drew⟩⟩ ?_ ?_
          · refine ⟨?_, ?_, ?_, ?_, ?_, ?_, ?_, ?_, trivial⟩
            · intro _ L w' hL hpre hJ a ha
              obtain ⟨jg, ja, jb⟩ := hJ
              simp [Region.binds] at hpre
              refine .inl ⟨wanted_none rfl, ?_⟩
              exact wp_load_mid 25 (.tmp 3) rfl w.heap.size 0 (by rw [ha, eval_puts_out rfl]; rfl) (geoV D B P) _ (range_blk jg) Tryz.underlying25 rfl geoInfo ⟨(), _, rfl, rfl, jg, ja, jb⟩
            · intro _ L w' hL hpre hJ a ha
              obtain ⟨jg, ja, jb⟩ := hJ
              simp [Region.binds] at hpre
              refine .inl ⟨wanted_none rfl, ?_⟩
              exact wp_move' (.tmp 2) (.inl rfl) (.slice (some ⟨bb, oo, none⟩) n c) (by rw [ha, eval_puts_out rfl]; rfl) ⟨(), _, rfl, rfl, jg, ja, jb⟩
            · intro _ L w' hL hpre hJ a ha
              obtain ⟨jg, ja, jb⟩ := hJ
              simp [Region.binds] at hpre
              refine .inl ⟨wanted_none rfl, ?_⟩
              exact wp_move' (.tmp 11) (.inl rfl) (.int .i64 (k : Int)) (by rw [ha, eval_puts_out rfl]; rfl) ⟨(), _, rfl, rfl, jg, ja, jb⟩
            · intro _ L w' hL hpre hJ a ha
              obtain ⟨jg, ja, jb⟩ := hJ
              simp [Region.binds] at hpre
              refine .inl ⟨wanted_none rfl, ?_⟩
              have e92 : a.eval (.tmp 92) = .slice (some ⟨bb, oo, none⟩) n c := by rw [ha]; exact eval_puts_in (i := 1) rfl (by simp [hpre]) (by simp) rfl
              have e93 : a.eval (.tmp 93) = .int .i64 (k : Int) := by rw [ha]; exact eval_puts_in (i := 2) rfl (by simp [hpre]) (by simp) rfl
              clear ha
              have jg' := Lib.hid jg
              have ja' := Lib.hid ja
              have jb' := Lib.hid jb
              clear jg ja jb
              refine wp_intro fun K HK => ?_
              unfold Oper.wp
              simp only [execOp, e92, e93]
              go_simp
              exact HK.out _ _ ⟨(), _, rfl, rfl, jg'.out, ja'.out, jb'.out⟩
            · intro _ L w' hL hpre hJ a ha
              obtain ⟨jg, ja, jb⟩ := hJ
              simp [Region.binds] at hpre
              refine .inl ⟨wanted_none rfl, ?_⟩
              have e94 : a.eval (.tmp 94) = .pointer (some ⟨bb, oo + k * 7, none⟩) := by rw [ha]; exact eval_puts_in (i := 3) rfl (by simp [hpre]) (by simp) rfl
              clear ha
              have jg' := Lib.hid jg
              have ja' := Lib.hid ja
              have jb' := Lib.hid jb
              clear jg ja jb
              refine wp_intro fun K HK => ?_
              unfold Oper.wp
              simp only [execOp, e94]
              go_simp
              exact HK.out _ _ ⟨(), _, rfl, rfl, jg'.out, ja'.out, jb'.out⟩
            · intro _ L w' hL hpre hJ a ha
              obtain ⟨jg, ja, jb⟩ := hJ
              simp [Region.binds] at hpre
              refine .inl ⟨wanted_none rfl, ?_⟩
              exact wp_load_mid 32 (.tmp 95) rfl bb (oo + k * 7 + 2) (by rw [ha]; exact eval_puts_in (i := 4) rfl (by simp [hpre]) (by simp) rfl) (Ad.v (Ad.mk x.d x.b x.p)) _ (ja) Tryz.underlying32 rfl aInfo ⟨(), _, rfl, rfl, jg, ja, jb⟩
            · intro _ L w' hL hpre hJ a ha
              obtain ⟨jg, ja, jb⟩ := hJ
              simp [Region.binds] at hpre
              refine .inl ⟨wanted_none rfl, ?_⟩
              have e91 : a.eval (.tmp 91) = .agg (geoV D B P).toArray := by rw [ha]; exact eval_puts_in (i := 0) rfl (by simp [hpre]) (by simp) rfl
              have e96 : a.eval (.tmp 96) = .agg (Ad.v (Ad.mk x.d x.b x.p)).toArray := by rw [ha]; exact eval_puts_in (i := 5) rfl (by simp [hpre]) (by simp) rfl
              clear ha
              have jg' := Lib.hid jg
              have ja' := Lib.hid ja
              have jb' := Lib.hid jb
              clear jg ja jb
              refine wp_intro fun K HK => ?_
              unfold Oper.wp
              simp only [execOp, resolve, List.map_toArray, List.map_cons, List.map_nil, e91, e96]
              go_simp
              refine (refin_ad D B P x w').mono ?_
              rw [hIn]
              rintro e w'' ⟨rfl, hb⟩
              exact HK.out _ _ ⟨(), _, rfl, rfl, blk_below jg'.out hb, range_keep' ja'.out hb, jb'.out.trans (hb.mono jb'.out.size)⟩
            · intro _ L w' hL hpre hJ a ha
              obtain ⟨jg, ja, jb⟩ := hJ
              simp [Region.binds] at hpre
              refine .inl ⟨wanted_none rfl, ?_⟩
              have e97 : a.eval (.tmp 97) = .bool true := by rw [ha]; exact eval_puts_in (i := 6) rfl (by simp [hpre]) (by simp) rfl
              clear ha
              have jg' := Lib.hid jg
              have ja' := Lib.hid ja
              have jb' := Lib.hid jb
              clear jg ja jb
              refine wp_intro fun K HK => ?_
              unfold Oper.wp
              simp only [execOp, e97]
              go_simp
              exact HK.out _ _ ⟨(), _, rfl, rfl, jg'.out, ja'.out, jb'.out⟩
          · intro _ L w' hL hJ
            obtain ⟨jg, ja, jb⟩ := hJ
            clear hL
            simp only [List.foldl_cons, List.foldl_nil]
            have HBx := Lib.hid jb
            clear jg ja jb
            go_simp
            obtain ⟨wm, hwm⟩ : ∃ x : World, x = w' := ⟨_, rfl⟩
            rw [← hwm] at HBx ⊢
            clear hwm
            have hd6 : 0 ≤ x.d ∧ x.d < D := by have := hIn; rw [inG_iff] at this; simp at this; omega
            obtain ⟨d, hdx⟩ := Int.eq_ofNat_of_zero_le hd6.1
            have hd6' : d < 6 := by omega
            have HXD := Lib.hid (And.intro hdx hd6')
            have hrm := range_keep' HRr.out HBx.out
            have him := (HI.out.below HBx.out).alloc (.cells x.v.toArray 44)
            have hdm := HD.out
            have HDm := Lib.hid (own_below HD.out HBx.out)
            have hbm := (HBr.out.trans (HBx.out.mono HBr.out.size)).alloc (HBr.out.trans (HBx.out.mono HBr.out.size)).size (.cells x.v.toArray 44)
            have hrd : Rds (wm.alloc (.cells x.v.toArray 44)) (wm.alloc (.cells x.v.toArray 44)).heap.size (some ⟨wm.heap.size, 0, none⟩) 7 1 [x.v] := rds_one (row := x.v) (heap_new' wm (.cells x.v.toArray 44) _ rfl)
            have hs5 : wq.heap.size ≤ (wm.alloc (.cells x.v.toArray 44)).heap.size := by have := HBx.out.size; simp; omega
            have hwq := HW.out
            clear hdx hd6 hd6' hIn hd hi hg hf hb hadr
            go_upto_region 13 with (first | (refine wpList_load_mid rfl 44 (.tmp 102) rfl bb (oo + k * 7) rfl x.v _ hrm Tryz.underlying44 rfl fltInfo ?_) | (refine wpList_buildOne rfl 47 (.tmp 103) rfl 44 x.v _ 7 56 rfl Tryz.underlying47 fltInfo3 rfl (by decide) (by decide) ?_) | (at_builtin; refine wpList_appendRows rfl (.tmp 99) (.tmp 104) 47 rfl 44 _ 7 56 Tryz.underlying47 fltInfo3 rfl (by decide) him hbm rfl rfl hrd (fun r hr => by rw [List.mem_singleton.1 hr]; exact one_flt x) (by unfold maxLen; omega) (by omega) hs5 hwq ?_; intro v6 w6 hown6 hb6 hgr6 hat6))
            have HRl := HR.out.below hb6 (Nat.le_refl _)
            obtain ⟨b', o', e', -, hx6⟩ := rds_range HRl hlt.1 (r := x.v) (flts_at HKX.out)
            cases e'
            have hx6 : w6.cell? ⟨bb, oo + k * 7 + 2, none⟩ = some (.int .i64 (d : Int)) := by have := hx6 2 (.int .i64 x.d) rfl; rw [HXD.out.1] at this; exact this
            have hlo := HLO.out
            have hgm := blk_alloc (blk_below HGr.out HBx.out) (.cells x.v.toArray 44)
            have hfm := blk_alloc (blk_below HFr.out HBx.out) (.cells x.v.toArray 44)
            have HG6 := Lib.hid ((hgr6.block _ (lt_of_cells hgm) (fun e => own_off' him.1 (by omega) e.symm)).trans hgm)
            have HF6 := Lib.hid ((hgr6.block _ (lt_of_cells hfm) (fun e => own_off' him.1 (by omega) e.symm)).trans hfm)
            have hd6 := (HDm.out.alloc (.cells x.v.toArray 44)).kept hgr6 (apart_t (by decide) (HDm.out.alloc (.cells x.v.toArray 44)) him.1)
            have HD6 := Lib.hid hd6
            have HI6 := Lib.hid (show OwnRows w6 wq.heap.size 44 7 v6 (q10 + 1) (flts (ins ++ [x])) by have := hown6; rw [show flts (ins ++ [x]) = flts ins ++ [x.v] by simp [flts]]; exact this)
            have HB6 := Lib.hid hb6
            have HS6 := Lib.hid (show wq.heap.size ≤ w6.heap.size from Nat.le_trans hs5 hgr6.size)
            have HNX := Lib.hid (HDS.out.next HXD.out.1 HXD.out.2)
            have hsp := HDS.out.spot HXD.out.2
            have HLT := Lib.hid (show ∀ y ∈ ds, y < 8 from fun y hy => by have := HDS.out.lt y hy; omega)
            obtain ⟨S, hS⟩ : ∃ S, S = setN ds := ⟨_, rfl⟩
            have HSet := fun (w' : World) (h : w'.ownsRow wq.heap.size 3 1 (.slice A9 q9 c9) q9 (nats .i64 ds)) => refset_any A9 q9 c9 w'.heap.size ds w' (Rd.of_own h) HLT.out (by omega)
            rw [← hS] at HSet hsp
            obtain ⟨SP, hSP⟩ : ∃ SP, SP = spotI (S : Int) (d : Int) := ⟨_, rfl⟩
            rw [← hSP] at hsp
            have HSPQ := Lib.hid hSP
            have HSE := Lib.hid HSet
            obtain ⟨dn, hdn⟩ : ∃ dn, dn = stepD ds d := ⟨_, rfl⟩
            rw [← hdn] at HNX
            have HDN := Lib.hid hdn
            clear hrm him hdm hbm hrd hown6 hb6 hgr6 hat6 HRl hgm hfm hS HSet hSP HDm hdn
            by_cases hmem : d ∈ ds
            · have HDE := Lib.hid (show dn = ds by rw [HDN.out, stepD, if_pos hmem])
              have HSP := Lib.hid (show decide (SP < 0) = false by rw [hsp]; simpa using hmem)
              clear hmem hsp
              refine wp_region_puts_g (by kernel_rfl) (by kernel_rfl) (X := Unit) (fun _ => [(some 106, .slice A9 q9 c9), (some 107, .int .i64 (S : Int)), (some 108, .slice (some ⟨bb, oo, none⟩) n c), (some 109, .int .i64 (k : Int)), (some 110, .pointer (some ⟨bb, oo + k * 7, none⟩)), (some 111, .pointer (some ⟨bb, oo + k * 7 + 2, none⟩)), (some 112, .pointer (some ⟨bb, oo + k * 7 + 2, none⟩)), (some 113, .int .i64 (d : Int)), (some 114, .int .i64 SP), (some 115, .bool false)])
                (fun _ L w' => w'.ownsRow wq.heap.size 3 1 (.slice A9 q9 c9) q9 (nats .i64 ds) ∧ w'.cell? ⟨bb, oo + k * 7 + 2, none⟩ = some (.int .i64 (d : Int)) ∧ Below w6.heap.size w6 w') (fun _ => rfl) (by kernel_rfl) ⟨(), fun _ _ => ⟨hd6, hx6, (Below.refl _ w6).drew⟩⟩ ?_ ?_
              · refine ⟨?_, ?_, ?_, ?_, ?_, ?_, ?_, ?_, ?_, ?_, trivial⟩
                · intro _ L w' hL hpre hJ a ha
                  obtain ⟨jd, jx, jb⟩ := hJ
                  simp [Region.binds] at hpre
                  refine .inl ⟨wanted_none rfl, ?_⟩
                  exact wp_move' (.tmp 9) (.inl rfl) (.slice A9 q9 c9) (by rw [ha, eval_puts_out rfl]; rfl) ⟨(), _, rfl, rfl, jd, jx, jb⟩
                · intro _ L w' hL hpre hJ a ha
                  obtain ⟨jd, jx, jb⟩ := hJ
                  simp [Region.binds] at hpre
                  refine .inl ⟨wanted_none rfl, ?_⟩
                  have e106 : a.eval (.tmp 106) = .slice A9 q9 c9 := by rw [ha]; exact eval_puts_in (i := 0) rfl (by simp [hpre]) (by simp) rfl
                  clear ha
                  have jd' := Lib.hid jd
                  have jx' := Lib.hid jx
                  have jb' := Lib.hid jb
                  clear jd jx jb
                  refine wp_intro fun K HK => ?_
                  unfold Oper.wp
                  simp only [execOp, resolve, List.map_toArray, List.map_cons, List.map_nil, e106]
                  go_simp
                  refine (below_of_same (HSE.out w' jd'.out)).mono ?_
                  rintro e w'' ⟨rfl, hb⟩
                  exact HK.out _ _ ⟨(), _, rfl, rfl, own_below jd'.out hb, (hb.cell (p := ⟨bb, oo + k * 7 + 2, none⟩) (World.block_lt_of_cell? _ _ jx'.out)).trans jx'.out, jb'.out.trans (hb.mono jb'.out.size)⟩
                · intro _ L w' hL hpre hJ a ha
                  obtain ⟨jd, jx, jb⟩ := hJ
                  simp [Region.binds] at hpre
                  refine .inl ⟨wanted_none rfl, ?_⟩
                  exact wp_move' (.tmp 2) (.inl rfl) (.slice (some ⟨bb, oo, none⟩) n c) (by rw [ha, eval_puts_out rfl]; rfl) ⟨(), _, rfl, rfl, jd, jx, jb⟩
                · intro _ L w' hL hpre hJ a ha
                  obtain ⟨jd, jx, jb⟩ := hJ
                  simp [Region.binds] at hpre
                  refine .inl ⟨wanted_none rfl, ?_⟩
                  exact wp_move' (.tmp 11) (.inl rfl) (.int .i64 (k : Int)) (by rw [ha, eval_puts_out rfl]; rfl) ⟨(), _, rfl, rfl, jd, jx, jb⟩
                · intro _ L w' hL hpre hJ a ha
                  obtain ⟨jd, jx, jb⟩ := hJ
                  simp [Region.binds] at hpre
                  refine .inl ⟨wanted_none rfl, ?_⟩
                  have e108 : a.eval (.tmp 108) = .slice (some ⟨bb, oo, none⟩) n c := by rw [ha]; exact eval_puts_in (i := 2) rfl (by simp [hpre]) (by simp) rfl
                  have e109 : a.eval (.tmp 109) = .int .i64 (k : Int) := by rw [ha]; exact eval_puts_in (i := 3) rfl (by simp [hpre]) (by simp) rfl
                  clear ha
                  have jd' := Lib.hid jd
                  have jx' := Lib.hid jx
                  have jb' := Lib.hid jb
                  clear jd jx jb
                  refine wp_intro fun K HK => ?_
                  unfold Oper.wp
                  simp only [execOp, e108, e109]
                  go_simp
                  exact HK.out _ _ ⟨(), _, rfl, rfl, jd'.out, jx'.out, jb'.out⟩
                · intro _ L w' hL hpre hJ a ha
                  obtain ⟨jd, jx, jb⟩ := hJ
                  simp [Region.binds] at hpre
                  refine .inl ⟨wanted_none rfl, ?_⟩
                  have e110 : a.eval (.tmp 110) = .pointer (some ⟨bb, oo + k * 7, none⟩) := by rw [ha]; exact eval_puts_in (i := 4) rfl (by simp [hpre]) (by simp) rfl
                  clear ha
                  have jd' := Lib.hid jd
                  have jx' := Lib.hid jx
                  have jb' := Lib.hid jb
                  clear jd jx jb
                  refine wp_intro fun K HK => ?_
                  unfold Oper.wp
                  simp only [execOp, e110]
                  go_simp
                  exact HK.out _ _ ⟨(), _, rfl, rfl, jd'.out, jx'.out, jb'.out⟩
                · intro _ L w' hL hpre hJ a ha
                  obtain ⟨jd, jx, jb⟩ := hJ
                  simp [Region.binds] at hpre
                  refine .inl ⟨wanted_none rfl, ?_⟩
                  have e111 : a.eval (.tmp 111) = .pointer (some ⟨bb, oo + k * 7 + 2, none⟩) := by rw [ha]; exact eval_puts_in (i := 5) rfl (by simp [hpre]) (by simp) rfl
                  clear ha
                  have jd' := Lib.hid jd
                  have jx' := Lib.hid jx
                  have jb' := Lib.hid jb
                  clear jd jx jb
                  refine wp_intro fun K HK => ?_
                  unfold Oper.wp
                  simp only [execOp, e111]
                  go_simp
                  exact HK.out _ _ ⟨(), _, rfl, rfl, jd'.out, jx'.out, jb'.out⟩
                · intro _ L w' hL hpre hJ a ha
                  obtain ⟨jd, jx, jb⟩ := hJ
                  simp [Region.binds] at hpre
                  refine .inl ⟨wanted_none rfl, ?_⟩
                  have e112 : a.eval (.tmp 112) = .pointer (some ⟨bb, oo + k * 7 + 2, none⟩) := by rw [ha]; exact eval_puts_in (i := 6) rfl (by simp [hpre]) (by simp) rfl
                  clear ha
                  have jc := jx
                  have jd' := Lib.hid jd
                  have jx' := Lib.hid jx
                  have jb' := Lib.hid jb
                  clear jd jx jb
                  refine wp_intro fun K HK => ?_
                  unfold Oper.wp
                  simp only [execOp, e112]
                  go_simp
                  exact HK.out _ _ ⟨(), _, rfl, rfl, jd'.out, jx'.out, jb'.out⟩
                · intro _ L w' hL hpre hJ a ha
                  obtain ⟨jd, jx, jb⟩ := hJ
                  simp [Region.binds] at hpre
                  refine .inl ⟨wanted_none rfl, ?_⟩
                  have e107 : a.eval (.tmp 107) = .int .i64 (S : Int) := by rw [ha]; exact eval_puts_in (i := 1) rfl (by simp [hpre]) (by simp) rfl
                  have e113 : a.eval (.tmp 113) = .int .i64 (d : Int) := by rw [ha]; exact eval_puts_in (i := 7) rfl (by simp [hpre]) (by simp) rfl
                  clear ha
                  have jd' := Lib.hid jd
                  have jx' := Lib.hid jx
                  have jb' := Lib.hid jb
                  clear jd jx jb
                  refine wp_intro fun K HK => ?_
                  unfold Oper.wp
                  simp only [execOp, resolve, List.map_toArray, List.map_cons, List.map_nil, e107, e113]
                  go_simp
                  refine (refspot_any (S : Int) (d : Int) w').mono ?_
                  rw [← HSPQ.out]
                  rintro e w'' ⟨rfl, hb⟩
                  exact HK.out _ _ ⟨(), _, rfl, rfl, own_below jd'.out hb, (hb.cell (p := ⟨bb, oo + k * 7 + 2, none⟩) (World.block_lt_of_cell? _ _ jx'.out)).trans jx'.out, jb'.out.trans (hb.mono jb'.out.size)⟩
                · intro _ L w' hL hpre hJ a ha
                  obtain ⟨jd, jx, jb⟩ := hJ
                  simp [Region.binds] at hpre
                  refine .inl ⟨wanted_none rfl, ?_⟩
                  have e114 : a.eval (.tmp 114) = .int .i64 SP := by rw [ha]; exact eval_puts_in (i := 8) rfl (by simp [hpre]) (by simp) rfl
                  clear ha
                  have hq := HSP.out
                  have jd' := Lib.hid jd
                  have jx' := Lib.hid jx
                  have jb' := Lib.hid jb
                  clear jd jx jb
                  refine wp_intro fun K HK => ?_
                  unfold Oper.wp
                  simp only [execOp, e114]
                  go_simp
                  exact HK.out _ _ ⟨(), _, rfl, rfl, jd'.out, jx'.out, jb'.out⟩
              · intro _ L w' hL hJ
                obtain ⟨jd, jx, jb⟩ := hJ
                clear hL
                simp only [List.foldl_cons, List.foldl_nil]
                have HBy := Lib.hid jb
                clear jd jx jb
                go_simp
                go_wp2_with fail
                go_roundw
                case rel => exact ⟨k + 1, ds, ins ++ [x], by omega, by omega, by go_num, by rw [← HDE.out]; exact HNX.out, by rw [← HQ9.out]; omega, by rw [List.length_append, ← HQ10.out]; simp; omega, by rw [← HQ9.out]; exact own_below HD6.out HBy.out, by rw [List.length_append, ← HQ10.out]; exact HI6.out.below HBy.out, blk_below HG6.out HBy.out, blk_below HF6.out HBy.out, Nat.le_trans HS6.out HBy.out.size, HB6.out.trans (HBy.out.mono HB6.out.size)⟩
                case measure => simp [intOf]; omega
            · have HDE := Lib.hid (show dn = ds ++ [d] by rw [HDN.out, stepD, if_neg hmem])
              have HSP := Lib.hid (show decide (SP < 0) = true by rw [hsp]; simpa using hmem)
              clear hmem hsp
              refine wp_region_puts_g (by kernel_rfl) (by kernel_rfl) (X := Unit) (fun _ => [(some 106, .slice A9 q9 c9), (some 107, .int .i64 (S : Int)), (some 108, .slice (some ⟨bb, oo, none⟩) n c), (some 109, .int .i64 (k : Int)), (some 110, .pointer (some ⟨bb, oo + k * 7, none⟩)), (some 111, .pointer (some ⟨bb, oo + k * 7 + 2, none⟩)), (some 112, .pointer (some ⟨bb, oo + k * 7 + 2, none⟩)), (some 113, .int .i64 (d : Int)), (some 114, .int .i64 SP), (some 115, .bool true)])
                (fun _ L w' => w'.ownsRow wq.heap.size 3 1 (.slice A9 q9 c9) q9 (nats .i64 ds) ∧ w'.cell? ⟨bb, oo + k * 7 + 2, none⟩ = some (.int .i64 (d : Int)) ∧ Below w6.heap.size w6 w') (fun _ => rfl) (by kernel_rfl) ⟨(), fun _ _ => ⟨hd6, hx6, (Below.refl _ w6).drew⟩⟩ ?_ ?_
              · refine ⟨?_, ?_, ?_, ?_, ?_, ?_, ?_, ?_, ?_, ?_, trivial⟩
                · intro _ L w' hL hpre hJ a ha
                  obtain ⟨jd, jx, jb⟩ := hJ
                  simp [Region.binds] at hpre
                  refine .inl ⟨wanted_none rfl, ?_⟩
                  exact wp_move' (.tmp 9) (.inl rfl) (.slice A9 q9 c9) (by rw [ha, eval_puts_out rfl]; rfl) ⟨(), _, rfl, rfl, jd, jx, jb⟩
                · intro _ L w' hL hpre hJ a ha
                  obtain ⟨jd, jx, jb⟩ := hJ
                  simp [Region.binds] at hpre
                  refine .inl ⟨wanted_none rfl, ?_⟩
                  have e106 : a.eval (.tmp 106) = .slice A9 q9 c9 := by rw [ha]; exact eval_puts_in (i := 0) rfl (by simp [hpre]) (by simp) rfl
                  clear ha
                  have jd' := Lib.hid jd
                  have jx' := Lib.hid jx
                  have jb' := Lib.hid jb
                  clear jd jx jb
                  refine wp_intro fun K HK => ?_
                  unfold Oper.wp
                  simp only [execOp, resolve, List.map_toArray, List.map_cons, List.map_nil, e106]
                  go_simp
                  refine (below_of_same (HSE.out w' jd'.out)).mono ?_
                  rintro e w'' ⟨rfl, hb⟩
                  exact HK.out _ _ ⟨(), _, rfl, rfl, own_below jd'.out hb, (hb.cell (p := ⟨bb, oo + k * 7 + 2, none⟩) (World.block_lt_of_cell? _ _ jx'.out)).trans jx'.out, jb'.out.trans (hb.mono jb'.out.size)⟩
                · intro _ L w' hL hpre hJ a ha
                  obtain ⟨jd, jx, jb⟩ := hJ
                  simp [Region.binds] at hpre
                  refine .inl ⟨wanted_none rfl, ?_⟩
                  exact wp_move' (.tmp 2) (.inl rfl) (.slice (some ⟨bb, oo, none⟩) n c) (by rw [ha, eval_puts_out rfl]; rfl) ⟨(), _, rfl, rfl, jd, jx, jb⟩
                · intro _ L w' hL hpre hJ a ha
                  obtain ⟨jd, jx, jb⟩ := hJ
                  simp [Region.binds] at hpre
                  refine .inl ⟨wanted_none rfl, ?_⟩
                  exact wp_move' (.tmp 11) (.inl rfl) (.int .i64 (k : Int)) (by rw [ha, eval_puts_out rfl]; rfl) ⟨(), _, rfl, rfl, jd, jx, jb⟩
                · intro _ L w' hL hpre hJ a ha
                  obtain ⟨jd, jx, jb⟩ := hJ
                  simp [Region.binds] at hpre
                  refine .inl ⟨wanted_none rfl, ?_⟩
                  have e108 : a.eval (.tmp 108) = .slice (some ⟨bb, oo, none⟩) n c := by rw [ha]; exact eval_puts_in (i := 2) rfl (by simp [hpre]) (by simp) rfl
                  have e109 : a.eval (.tmp 109) = .int .i64 (k : Int) := by rw [ha]; exact eval_puts_in (i := 3) rfl (by simp [hpre]) (by simp) rfl
                  clear ha
                  have jd' := Lib.hid jd
                  have jx' := Lib.hid jx
                  have jb' := Lib.hid jb
                  clear jd jx jb
                  refine wp_intro fun K HK => ?_
                  unfold Oper.wp
                  simp only [execOp, e108, e109]
                  go_simp
                  exact HK.out _ _ ⟨(), _, rfl, rfl, jd'.out, jx'.out, jb'.out⟩
                · intro _ L w' hL hpre hJ a ha
                  obtain ⟨jd, jx, jb⟩ := hJ
                  simp [Region.binds] at hpre
                  refine .inl ⟨wanted_none rfl, ?_⟩
                  have e110 : a.eval (.tmp 110) = .pointer (some ⟨bb, oo + k * 7, none⟩) := by rw [ha]; exact eval_puts_in (i := 4) rfl (by simp [hpre]) (by simp) rfl
                  clear ha
                  have jd' := Lib.hid jd
                  have jx' := Lib.hid jx
                  have jb' := Lib.hid jb
                  clear jd jx jb
                  refine wp_intro fun K HK => ?_
                  unfold Oper.wp
                  simp only [execOp, e110]
                  go_simp
                  exact HK.out _ _ ⟨(), _, rfl, rfl, jd'.out, jx'.out, jb'.out⟩
                · intro _ L w' hL hpre hJ a ha
                  obtain ⟨jd, jx, jb⟩ := hJ
                  simp [Region.binds] at hpre
                  refine .inl ⟨wanted_none rfl, ?_⟩
                  have e111 : a.eval (.tmp 111) = .pointer (some ⟨bb, oo + k * 7 + 2, none⟩) := by rw [ha]; exact eval_puts_in (i := 5) rfl (by simp [hpre]) (by simp) rfl
                  clear ha
                  have jd' := Lib.hid jd
                  have jx' := Lib.hid jx
                  have jb' := Lib.hid jb
                  clear jd jx jb
                  refine wp_intro fun K HK => ?_
                  unfold Oper.wp
                  simp only [execOp, e111]
                  go_simp
                  exact HK.out _ _ ⟨(), _, rfl, rfl, jd'.out, jx'.out, jb'.out⟩
                · intro _ L w' hL hpre hJ a ha
                  obtain ⟨jd, jx, jb⟩ := hJ
                  simp [Region.binds] at hpre
                  refine .inl ⟨wanted_none rfl, ?_⟩
                  have e112 : a.eval (.tmp 112) = .pointer (some ⟨bb, oo + k * 7 + 2, none⟩) := by rw [ha]; exact eval_puts_in (i := 6) rfl (by simp [hpre]) (by simp) rfl
                  clear ha
                  have jc := jx
                  have jd' := Lib.hid jd
                  have jx' := Lib.hid jx
                  have jb' := Lib.hid jb
                  clear jd jx jb
                  refine wp_intro fun K HK => ?_
                  unfold Oper.wp
                  simp only [execOp, e112]
                  go_simp
                  exact HK.out _ _ ⟨(), _, rfl, rfl, jd'.out, jx'.out, jb'.out⟩
                · intro _ L w' hL hpre hJ a ha
                  obtain ⟨jd, jx, jb⟩ := hJ
                  simp [Region.binds] at hpre
                  refine .inl ⟨wanted_none rfl, ?_⟩
                  have e107 : a.eval (.tmp 107) = .int .i64 (S : Int) := by rw [ha]; exact eval_puts_in (i := 1) rfl (by simp [hpre]) (by simp) rfl
                  have e113 : a.eval (.tmp 113) = .int .i64 (d : Int) := by rw [ha]; exact eval_puts_in (i := 7) rfl (by simp [hpre]) (by simp) rfl
                  clear ha
                  have jd' := Lib.hid jd
                  have jx' := Lib.hid jx
                  have jb' := Lib.hid jb
                  clear jd jx jb
                  refine wp_intro fun K HK => ?_
                  unfold Oper.wp
                  simp only [execOp, resolve, List.map_toArray, List.map_cons, List.map_nil, e107, e113]
                  go_simp
                  refine (refspot_any (S : Int) (d : Int) w').mono ?_
                  rw [← HSPQ.out]
                  rintro e w'' ⟨rfl, hb⟩
                  exact HK.out _ _ ⟨(), _, rfl, rfl, own_below jd'.out hb, (hb.cell (p := ⟨bb, oo + k * 7 + 2, none⟩) (World.block_lt_of_cell? _ _ jx'.out)).trans jx'.out, jb'.out.trans (hb.mono jb'.out.size)⟩
                · intro _ L w' hL hpre hJ a ha
                  obtain ⟨jd, jx, jb⟩ := hJ
                  simp [Region.binds] at hpre
                  refine .inl ⟨wanted_none rfl, ?_⟩
                  have e114 : a.eval (.tmp 114) = .int .i64 SP := by rw [ha]; exact eval_puts_in (i := 8) rfl (by simp [hpre]) (by simp) rfl
                  clear ha
                  have hq := HSP.out
                  have jd' := Lib.hid jd
                  have jx' := Lib.hid jx
                  have jb' := Lib.hid jb
                  clear jd jx jb
                  refine wp_intro fun K HK => ?_
                  unfold Oper.wp
                  simp only [execOp, e114]
                  go_simp
                  exact HK.out _ _ ⟨(), _, rfl, rfl, jd'.out, jx'.out, jb'.out⟩
              · intro _ L w' hL hJ
                obtain ⟨jd, jx, jb⟩ := hJ
                clear hL
                simp only [List.foldl_cons, List.foldl_nil]
                have HBy := Lib.hid jb
                have jc := jx
                have hd7 := jd
                have hb7 := HB6.out.trans (jb.mono HB6.out.size)
                have hs7 := Nat.le_trans HS6.out jb.size
                have hwq := HW.out
                clear jd jx jb
                go_simp
                go_wp2_with (first | (at_builtin; go_must (refine wpList_append1 rfl (.tmp 116) (.tmp 123) 22 rfl 3 _ _ Tryz.underlying22 intInfo rfl hd7 hb7 rfl rfl rfl (by unfold maxLen; omega) (by omega) hs7 hwq ?_)))
                intro v8 w8 hown8 hb8 hgr8 _
                have hlo := HLO.out
                have hgm := blk_alloc (blk_below HG6.out HBy.out) (.cells #[.int .i64 (d : Int)] 3)
                have hfm := blk_alloc (blk_below HF6.out HBy.out) (.cells #[.int .i64 (d : Int)] 3)
                have him := (HI6.out.below HBy.out).alloc (.cells #[.int .i64 (d : Int)] 3)
                have hdm := hd7.alloc (.cells #[.int .i64 (d : Int)] 3)
                have HG8 := Lib.hid ((hgr8.block _ (lt_of_cells hgm) (fun e => own_off' hdm (by omega) e.symm)).trans hgm)
                have HF8 := Lib.hid ((hgr8.block _ (lt_of_cells hfm) (fun e => own_off' hdm (by omega) e.symm)).trans hfm)
                have HI8 := Lib.hid (show OwnRows w8 wq.heap.size 44 7 v6 (q10 + 1) (flts (ins ++ [x])) from ⟨him.1.kept hgr8 (apart_t (by decide) him.1 hdm), him.2⟩)
                have HD8 := Lib.hid (show w8.ownsRow wq.heap.size 3 1 v8 (q9 + 1) (nats .i64 (ds ++ [d])) by have := hown8; rw [show nats .i64 (ds ++ [d]) = nats .i64 ds ++ [.int .i64 (d : Int)] by simp [nats]]; exact this)
                have HB8 := Lib.hid hb8
                have HS8 := Lib.hid (show wq.heap.size ≤ w8.heap.size by have := hgr8.size; simp at this; omega)
                clear hgm hfm him hdm hown8 hb8 hgr8 hd7 hb7 hs7 jc
                go_wp2_with fail
                go_roundw
                case rel => exact ⟨k + 1, ds ++ [d], ins ++ [x], by omega, by omega, by go_num, by rw [← HDE.out]; exact HNX.out, by rw [List.length_append, ← HQ9.out]; simp; omega, by rw [List.length_append, ← HQ10.out]; simp; omega, by rw [List.length_append, ← HQ9.out]; exact HD8.out, by rw [List.length_append, ← HQ10.out]; exact HI8.out, HG8.out, HF8.out, HS8.out, HB8.out⟩
                case measure => simp [intOf]; omega
      · have hcase : (∃ hk : k = n, True) ∨ (∃ hk : k = 12, (12 : Int) < (n : Int)) := by
          by_cases h : k = n
          · exact .inl ⟨h, trivial⟩
          · exact .inr ⟨by omega, by omega⟩
        have hrg := range_blk hg
        have hrf := range_blk hf
        have CM := fun w => nand.may_any D B P f w (by omega)
        rw [← HM.out] at CM
        have hdn : ins.length ≤ 1000000 := by omega
        have CD := fun w' (h : Below wr.heap.size wr w') => dies_of ins A10 ins.length c10 wr.heap.size w' ((hi.rds).below h (Nat.le_refl _)) h.size hdn
        have CS := fun w' (h : Below wr.heap.size wr w') => refset_any A9 ds.length c9 wr.heap.size ds w' ((Rd.of_own hd).below h (Nat.le_refl _)) (fun d hd => by have := hDs.lt d hd; omega) (by omega)
        rw [hDs.eq] at CD
        have HCM := Lib.hid CM
        have HCD := Lib.hid CD
        have HCS := Lib.hid CS
        clear CM CD CS hDs hd hi hg hf hlt HDS HD HI HGr HFr hdn
        generalize setN ds = S at *
        rcases hcase with ⟨rfl, -⟩ | ⟨rfl, hn12⟩
        all_goals
          go_wp2_with (first | (refine wpList_load_mid rfl 25 (.tmp 3) rfl w.heap.size 0 rfl (geoV D B P) _ hrg Tryz.underlying25 rfl geoInfo ?_) | (refine wpList_load_mid rfl 44 (.tmp 4) rfl (w.heap.size + 1) 0 rfl f.v _ hrf Tryz.underlying44 rfl fltInfo ?_))
          refine (show Calls _ _ #[.agg (geoV D B P).toArray, .agg f.v.toArray] _ _ from HCM.out _).mono ?_
          rintro e w5 ⟨rfl, hb5⟩
          have HB5 := Lib.hid hb5
          have hMM : (M == M) = true := by simp
          clear hb5 hrg hrf
          go_wp2_with fail
          refine (HCD.out _ HB5.out).mono ?_
          rintro e w6 ⟨rfl, hb6⟩
          have HB6 := Lib.hid (HB5.out.trans (hb6.mono HB5.out.size))
          clear hb6
          go_wp2_with fail
          refine (HCS.out _ HB6.out).mono ?_
          rintro e w7 ⟨rfl, rfl⟩
          have hSS : ((S : Int) == (S : Int)) = true := by simp
          have HBe := Lib.hid (HBr.out.trans (HB6.out.mono HBr.out.size))
          go_wp2_with fail
          go_ret
          exact ⟨rfl, HBe.out⟩
end Go.Proofs.YtnfigkoefmldiaaGreat.faultMay
