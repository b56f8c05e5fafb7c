import Derived.Test.YtajjmlbhagiicaaZigBytes
import Derived.Test.YtajjmlbhagiicaaStr
import Derived.Test.YtajjmlbhagiicaaBunP
import Derived.Test.YtajjmlbhagiicaaBunB
import Derived.Test.YtajjmlbhagiicaaRegion3
import Derived.Deep.RegionHeld
import Derived.Deep.DrawnRows
/- ZigAll: widths, turns, the way there and back; no condition. -/
namespace Go.Proofs.Ytajjmlbhagiicaa.zigAll
open Go.RowKit Go.Proofs.Ytajjmlbhagiicaa.zigBytes
set_option linter.unusedVariables false
attribute [local go_sem ↓] Go.wp_at_zero Go.wp_at_succ
theorem blk_drewN {w : World} {g : Nat} {x : Obj} (h : w.heap[g]? = some x) (k : Nat) : (w.drewN k).heap[g]? = some x := h
theorem bytesN_ofN (b : List Nat) (hb : ∀ x ∈ b, x < 256) : bytesN (ofN b) = b := by
  apply List.ext_getElem?
  intro j
  have hl : (bytesN (ofN b)).length = b.length := by rw [bytesN_len, ofN_len8]; omega
  by_cases hj : j < b.length
  · have e : (bytesN (ofN b))[j]? = some (octN (ofN b) (8 * j)) := by
      have : j < ((ofN b).length + 7) / 8 := by rw [ofN_len8]; omega
      simp [bytesN, bytesTo, this]
    rw [e, List.getElem?_eq_getElem hj]
    congr 1
    apply Nat.eq_of_testBit_eq
    intro q
    rw [octN_testBit]
    by_cases hq : q < 8
    · obtain ⟨x, h1, h2⟩ := ofN_get b (8 * j + (7 - q)) (by omega)
      rw [show (8 * j + (7 - q)) / 8 = j by omega, List.getElem?_eq_getElem hj] at h1
      rw [List.getD_eq_getElem?_getD, h2, ← Option.some.inj h1, show 7 - (8 * j + (7 - q)) % 8 = q by omega]
      simp [hq]
    · have hx := hb _ (List.getElem_mem hj)
      rw [Nat.testBit_lt_two_pow (Nat.lt_of_lt_of_le hx (Nat.pow_le_pow_right (n := 2) (by decide) (show 8 ≤ q by omega)))]
      simp [hq]
  · rw [List.getElem?_eq_none (by omega), List.getElem?_eq_none (by omega)]
theorem own_lift {w w' : World} {p : Prop} {e : TypeId} {v : Value} {n : Nat} {xs : List Value} (h : p → ∃ B', World.ownsRow w B' e 1 v n xs) (hb : Below w.heap.size w w') : p → ∃ B', World.ownsRow w' B' e 1 v n xs := fun q => by
  obtain ⟨B', h'⟩ := h q
  exact ⟨B', own_below h' hb⟩
set_option maxRecDepth 100000 in
set_option maxHeartbeats 16000000 in
theorem walk_in (n u x k by_ : Int) (Zn Gu Nn Nu T : Int) (y0 y1 y2 y3 y4 y5 y6 y7 Un : Nat) (str : ByteArray) (w : World)
    (HV : Hid (bytesV n = .agg #[.int .u8 (y0 : Int), .int .u8 (y1 : Int), .int .u8 (y2 : Int), .int .u8 (y3 : Int), .int .u8 (y4 : Int), .int .u8 (y5 : Int), .int .u8 (y6 : Int), .int .u8 (y7 : Int)]))
    (hz1 : Hid (∀ w, Calls Try.prog 7 #[.int .i64 n] w fun e w' => e = .returned (.int .u64 Zn) ∧ w = w'))
    (hz2 : Hid (∀ w, Calls Try.prog 7 #[.int .i64 Gu] w fun e w' => e = .returned (.int .u64 u) ∧ w = w'))
    (hz3 : Hid (∀ w, Calls Try.prog 8 #[.int .i64 n] w fun e w' => e = .returned (.int .u64 Zn) ∧ w = w'))
    (hg1 : Hid (∀ w, Calls Try.prog 9 #[.int .u64 u] w fun e w' => e = .returned (.int .i64 Gu) ∧ w = w'))
    (hg2 : Hid (∀ w, Calls Try.prog 9 #[.int .u64 Zn] w fun e w' => e = .returned (.int .i64 n) ∧ w = w'))
    (hg3 : Hid (∀ w, Calls Try.prog 10 #[.int .u64 u] w fun e w' => e = .returned (.int .i64 Gu) ∧ w = w'))
    (hn0 : Hid (narrowI n k = Nn)) (hn1 : Hid (narrowI (wrap64 u) k = Nu)) (ht : Hid (turnI x by_ = T)) (hx : Hid (0 ≤ x ∧ x < 4294967296))
    (hof : Hid (∀ w, Calls Try.prog 16 #[.agg #[.int .u8 (y0 : Int), .int .u8 (y1 : Int), .int .u8 (y2 : Int), .int .u8 (y3 : Int), .int .u8 (y4 : Int), .int .u8 (y5 : Int), .int .u8 (y6 : Int), .int .u8 (y7 : Int)]] w fun e w' => e = .returned (.int .i64 n) ∧ Below w.heap.size w w'))
    (hU : IntKind.u64.wrap n = (Un : Int)) (hUb : Hid (Un < 18446744073709551616)) (hbits : Hid (bitsL Un 64 = ofN [y0, y1, y2, y3, y4, y5, y6, y7]))
    (hby : Hid (bytesN (ofN [y0, y1, y2, y3, y4, y5, y6, y7]) = [y0, y1, y2, y3, y4, y5, y6, y7])) (hlen : Hid ((ofN [y0, y1, y2, y3, y4, y5, y6, y7]).length = 64)) (hstr : Hid (strN [y0, y1, y2, y3, y4, y5, y6, y7] = str)) :
    Calls Try.prog 3 #[.int .i64 n, .int .u64 u, .int .u32 x, .int .i64 k, .int .i64 by_] w fun e w' => e = .returned (.bool true) ∧ Below w.heap.size w w' := by
  have hUc := Lib.hid (show (Un : Int) < 18446744073709551616 by have := hUb.out; clear hU; omega)
  -- THE CONTRACTS
  have bel : ∀ {f : Nat} {args : Array Value} {v : Value}, (∀ w, Calls Try.prog f args w fun e w' => e = .returned v ∧ w = w') → ∀ w, Calls Try.prog f args w fun e w' => e = .returned v ∧ Below w.heap.size w w' := fun h w => (h w).mono (by rintro e w' ⟨rfl, rfl⟩; exact ⟨rfl, Below.refl _ _⟩)
  have HZ1 := Lib.hid (bel hz1.out)
  have HZ2 := Lib.hid (bel hz2.out)
  have HZ3 := Lib.hid (bel hz3.out)
  have HG1 := Lib.hid (bel hg1.out)
  have HG2 := Lib.hid (bel hg2.out)
  have HG3 := Lib.hid (bel hg3.out)
  have HN := Lib.hid (bel (fun w => by have := narrow_any n k w; rw [hn0.out] at this; exact this))
  have HWd := Lib.hid (bel (fun w => by have := wide_any u k w; rw [hn1.out] at this; exact this))
  have HF := Lib.hid (bel (fun w => by have := fit_any n k w; rw [hn0.out] at this; exact this))
  have HRN := Lib.hid (show ∀ w, Calls Try.prog 5 #[.int .i64 (IntKind.i64.wrap u), .int .i64 k] w fun e w' => e = .returned (.int .i64 Nu) ∧ Below w.heap.size w w' from fun w => by have := refnarrow_any (IntKind.i64.wrap u) k w; rw [show narrowI (IntKind.i64.wrap u) k = Nu by rw [IntWalk.i64_left]; exact hn1.out] at this; exact this)
  have HT := Lib.hid (fun w => (turn_any x by_ w hx.out.1 hx.out.2).mono (R' := fun e w' => e = .returned (.int .u32 T) ∧ Below w.heap.size w w') (by rw [ht.out]; rintro e w' ⟨rfl, nt, rfl⟩; exact ⟨rfl, below_drewN (Below.refl _ _) nt⟩))
  have HRT := Lib.hid (fun w => by have := refturn_any x by_ w hx.out.1 hx.out.2; rw [ht.out] at this; exact this)
  have HO := Lib.hid hof.out
  have HU := Lib.hid hU
  have HUc := hUc
  have HBi := hbits
  have HBy := hby
  have HS := hstr
  have hI8 : (Try.prog.info? 26).map (·.size) = some 8 := by kernel_rfl
  clear hU
  go_enter Try.func3, Try.ntmps3
  go_wp2_with fail
  refine (begun_any _).mono ?_
  rintro e w1 ⟨rfl, h1⟩
  go_wp2_with fail
  refine (refnarrow_any _ _ _).mono ?_
  rw [hn0.out]
  rintro e w2 ⟨rfl, hb⟩
  replace h1 := h1.trans (hb.mono h1.size)
  clear hb
  go_wp2_with fail
  refine (bytes8_any n _).mono ?_
  rw [HV.out]
  rintro e w3 ⟨rfl, hb⟩
  replace h1 := h1.trans (hb.mono h1.size)
  clear hb
  have hB := heap_alloc_new w3 (.cells #[.int .u8 (y0 : Int), .int .u8 (y1 : Int), .int .u8 (y2 : Int), .int .u8 (y3 : Int), .int .u8 (y4 : Int), .int .u8 (y5 : Int), .int .u8 (y6 : Int), .int .u8 (y7 : Int)] 26)
  have hbel := h1.alloc h1.size (.cells #[.int .u8 (y0 : Int), .int .u8 (y1 : Int), .int .u8 (y2 : Int), .int .u8 (y3 : Int), .int .u8 (y4 : Int), .int .u8 (y5 : Int), .int .u8 (y6 : Int), .int .u8 (y7 : Int)] 26)
  clear h1
  go_wp2_with fail
  generalize w3.alloc (.cells #[.int .u8 (y0 : Int), .int .u8 (y1 : Int), .int .u8 (y2 : Int), .int .u8 (y3 : Int), .int .u8 (y4 : Int), .int .u8 (y5 : Int), .int .u8 (y6 : Int), .int .u8 (y7 : Int)] 26) = w4 at *
  generalize w3.heap.size = g at *
  replace hB : w4.drew.heap[g]? = _ := hB
  replace hbel := below_drewN hbel 1
  replace hbel : Below w.heap.size w w4.drew := hbel
  -- THE REGION
  simp only [List.append_eq, List.cons_append, List.nil_append]
  have HD : ∀ y : Value × Value, distinctB (([(some 22, .int .i64 n), (some 23, .int .u64 Zn), (some 24, .int .i64 n), (some 25, .int .u64 Zn), (some 26, .bool true), (some 27, .bool true), (some 28, .int .u64 u), (some 29, .int .i64 Gu), (some 30, .int .u64 u), (some 31, .int .i64 Gu), (some 32, .bool true), (some 33, .bool true), (some 34, .bool true), (some 35, .int .i64 n), (some 36, .int .u64 Zn), (some 37, .int .i64 n), (some 38, .int .i64 n), (some 39, .bool true), (some 40, .bool true), (some 41, .bool true), (some 42, .int .u64 u), (some 43, .int .i64 Gu), (some 44, .int .u64 u), (some 45, .int .u64 u), (some 46, .bool true), (some 47, .bool true), (some 48, .bool true), (some 49, .int .i64 n), (some 50, .int .i64 k), (some 51, .int .i64 Nn), (some 52, .int .i64 Nn), (some 53, .bool true), (some 54, .bool true), (some 55, .bool true), (some 56, .int .u64 u), (some 57, .int .i64 k), (some 58, .int .i64 Nu), (some 59, .int .u64 u), (some 60, .int .i64 (IntKind.i64.wrap u)), (some 61, .int .i64 k), (some 62, .int .i64 Nu), (some 63, .bool true), (some 64, .bool true), (some 65, .bool true), (some 66, .int .i64 n), (some 67, .int .i64 k), (some 68, .bool (Nn == n)), (some 69, .int .i64 Nn), (some 70, .int .i64 n), (some 71, .bool (Nn == n)), (some 72, .bool true), (some 73, .bool true), (some 74, .bool true), (some 75, .int .u32 x), (some 76, .int .i64 by_), (some 77, .int .u32 T), (some 78, .int .u32 x), (some 79, .int .i64 by_), (some 80, .int .u32 T), (some 81, .bool true), (some 82, .bool true), (some 83, .bool true), (some 84, .agg ([.int .u8 (y0 : Int), .int .u8 (y1 : Int), .int .u8 (y2 : Int), .int .u8 (y3 : Int), .int .u8 (y4 : Int), .int .u8 (y5 : Int), .int .u8 (y6 : Int), .int .u8 (y7 : Int)]).toArray), (some 85, .int .i64 n), (some 86, .int .i64 n), (some 87, .bool true), (some 88, .bool true), (some 89, .bool true), (some 90, .slice (some ⟨g, 0, none⟩) 8 8), (some 91, .string str), (some 92, .int .i64 n), (some 93, .int .u64 (Un : Int)), (some 94, y.1), (some 95, y.2), (some 96, .string str), (some 97, .bool true), (some 98, .bool true), (some 10, .bool true)] : List (Option Tmp × Value)).map (·.1)) = true := fun _ => by kernel_rfl
  refine wp_region_puts_g (by kernel_rfl) (by kernel_rfl) (X := Value × Value) (fun y => [(some 22, .int .i64 n), (some 23, .int .u64 Zn), (some 24, .int .i64 n), (some 25, .int .u64 Zn), (some 26, .bool true), (some 27, .bool true), (some 28, .int .u64 u), (some 29, .int .i64 Gu), (some 30, .int .u64 u), (some 31, .int .i64 Gu), (some 32, .bool true), (some 33, .bool true), (some 34, .bool true), (some 35, .int .i64 n), (some 36, .int .u64 Zn), (some 37, .int .i64 n), (some 38, .int .i64 n), (some 39, .bool true), (some 40, .bool true), (some 41, .bool true), (some 42, .int .u64 u), (some 43, .int .i64 Gu), (some 44, .int .u64 u), (some 45, .int .u64 u), (some 46, .bool true), (some 47, .bool true), (some 48, .bool true), (some 49, .int .i64 n), (some 50, .int .i64 k), (some 51, .int .i64 Nn), (some 52, .int .i64 Nn), (some 53, .bool true), (some 54, .bool true), (some 55, .bool true), (some 56, .int .u64 u), (some 57, .int .i64 k), (some 58, .int .i64 Nu), (some 59, .int .u64 u), (some 60, .int .i64 (IntKind.i64.wrap u)), (some 61, .int .i64 k), (some 62, .int .i64 Nu), (some 63, .bool true), (some 64, .bool true), (some 65, .bool true), (some 66, .int .i64 n), (some 67, .int .i64 k), (some 68, .bool (Nn == n)), (some 69, .int .i64 Nn), (some 70, .int .i64 n), (some 71, .bool (Nn == n)), (some 72, .bool true), (some 73, .bool true), (some 74, .bool true), (some 75, .int .u32 x), (some 76, .int .i64 by_), (some 77, .int .u32 T), (some 78, .int .u32 x), (some 79, .int .i64 by_), (some 80, .int .u32 T), (some 81, .bool true), (some 82, .bool true), (some 83, .bool true), (some 84, .agg ([.int .u8 (y0 : Int), .int .u8 (y1 : Int), .int .u8 (y2 : Int), .int .u8 (y3 : Int), .int .u8 (y4 : Int), .int .u8 (y5 : Int), .int .u8 (y6 : Int), .int .u8 (y7 : Int)]).toArray), (some 85, .int .i64 n), (some 86, .int .i64 n), (some 87, .bool true), (some 88, .bool true), (some 89, .bool true), (some 90, .slice (some ⟨g, 0, none⟩) 8 8), (some 91, .string str), (some 92, .int .i64 n), (some 93, .int .u64 (Un : Int)), (some 94, y.1), (some 95, y.2), (some 96, .string str), (some 97, .bool true), (some 98, .bool true), (some 10, .bool true)])
    (fun y L w' => w'.heap[g]? = some (.cells #[.int .u8 (y0 : Int), .int .u8 (y1 : Int), .int .u8 (y2 : Int), .int .u8 (y3 : Int), .int .u8 (y4 : Int), .int .u8 (y5 : Int), .int .u8 (y6 : Int), .int .u8 (y7 : Int)] 26 (0, 0)) ∧ (L 72 = true → ∃ B', World.ownsRow w' B' 4 1 y.1 64 (bools (ofN [y0, y1, y2, y3, y4, y5, y6, y7]))) ∧ (L 73 = true → ∃ B', World.ownsRow w' B' 5 1 y.2 8 (nats .u8 [y0, y1, y2, y3, y4, y5, y6, y7])) ∧ Below w.heap.size w w') (fun _ => rfl) (by kernel_rfl) ⟨(undef, undef), fun L hL => ⟨hB, (by rw [hL 72]; intro h; cases h), (by rw [hL 73]; intro h; cases h), hbel⟩⟩ ?_ ?_
  · refine ⟨?_, ?_, ?_, ?_, ?_, ?_, ?_, ?_, ?_, ?_, ?_, ?_, ?_, ?_, ?_, ?_, ?_, ?_, ?_, ?_, ?_, ?_, ?_, ?_, ?_, ?_, ?_, ?_, ?_, ?_, ?_, ?_, ?_, ?_, ?_, ?_, ?_, ?_, ?_, ?_, ?_, ?_, ?_, ?_, ?_, ?_, ?_, ?_, ?_, ?_, ?_, ?_, ?_, ?_, ?_, ?_, ?_, ?_, ?_, ?_, ?_, ?_, ?_, ?_, ?_, ?_, ?_, ?_, ?_, ?_, ?_, ?_, ?_, ?_, ?_, ?_, ?_, ?_, trivial⟩
    · intro y L w' hL hpre hJ a ha
      obtain ⟨jB, ja, jc, jb⟩ := hJ
      simp [Region.binds] at hpre
      refine .inl ⟨wanted_none rfl, ?_⟩
      exact wp_move' (.tmp 0) (.inl rfl) (.int .i64 n) (by rw [ha, eval_puts_out rfl]; rfl) ⟨y, _, rfl, rfl, jB, ja, jc, jb⟩
    · intro y L w' hL hpre hJ a ha
      obtain ⟨jB, ja, jc, jb⟩ := hJ
      simp [Region.binds] at hpre
      refine .inl ⟨wanted_none rfl, ?_⟩
      have e22 : a.eval (.tmp 22) = .int .i64 n := by rw [ha]; exact eval_puts_in (i := 0) rfl (by simp [hpre]) (by simp) (HD y)
      clear ha
      have jB' := Lib.hid jB
      have ja' := Lib.hid ja
      have jc' := Lib.hid jc
      have jb' := Lib.hid jb
      clear jB ja jc jb
      refine wp_intro fun K HK => ?_
      unfold Oper.wp
      simp only [execOp, resolve, List.map_toArray, List.map_cons, List.map_nil, e22]
      go_simp
      refine (HZ1.out w').mono ?_
      rintro e w'' ⟨rfl, hb⟩
      exact HK.out _ _ ⟨y, _, rfl, rfl, blk_below jB'.out hb, (own_lift ja'.out hb), (own_lift jc'.out hb), jb'.out.trans (hb.mono jb'.out.size)⟩
    · intro y L w' hL hpre hJ a ha
      obtain ⟨jB, ja, jc, jb⟩ := hJ
      simp [Region.binds] at hpre
      refine .inl ⟨wanted_none rfl, ?_⟩
      exact wp_move' (.tmp 0) (.inl rfl) (.int .i64 n) (by rw [ha, eval_puts_out rfl]; rfl) ⟨y, _, rfl, rfl, jB, ja, jc, jb⟩
    · intro y L w' hL hpre hJ a ha
      obtain ⟨jB, ja, jc, jb⟩ := hJ
      simp [Region.binds] at hpre
      refine .inl ⟨wanted_none rfl, ?_⟩
      have e24 : a.eval (.tmp 24) = .int .i64 n := by rw [ha]; exact eval_puts_in (i := 2) rfl (by simp [hpre]) (by simp) (HD y)
      clear ha
      have jB' := Lib.hid jB
      have ja' := Lib.hid ja
      have jc' := Lib.hid jc
      have jb' := Lib.hid jb
      clear jB ja jc jb
      refine wp_intro fun K HK => ?_
      unfold Oper.wp
      simp only [execOp, resolve, List.map_toArray, List.map_cons, List.map_nil, e24]
      go_simp
      refine (HZ3.out w').mono ?_
      rintro e w'' ⟨rfl, hb⟩
      exact HK.out _ _ ⟨y, _, rfl, rfl, blk_below jB'.out hb, (own_lift ja'.out hb), (own_lift jc'.out hb), jb'.out.trans (hb.mono jb'.out.size)⟩
    · intro y L w' hL hpre hJ a ha
      obtain ⟨jB, ja, jc, jb⟩ := hJ
      simp [Region.binds] at hpre
      refine .inl ⟨wanted_none rfl, ?_⟩
      have e23 : a.eval (.tmp 23) = .int .u64 Zn := by rw [ha]; exact eval_puts_in (i := 1) rfl (by simp [hpre]) (by simp) (HD y)
      have e25 : a.eval (.tmp 25) = .int .u64 Zn := by rw [ha]; exact eval_puts_in (i := 3) rfl (by simp [hpre]) (by simp) (HD y)
      clear ha
      have jB' := Lib.hid jB
      have ja' := Lib.hid ja
      have jc' := Lib.hid jc
      have jb' := Lib.hid jb
      clear jB ja jc jb
      refine wp_intro fun K HK => ?_
      unfold Oper.wp
      simp only [execOp, e23, e25]
      go_simp
      exact HK.out _ _ ⟨y, _, rfl, rfl, jB'.out, ja'.out, jc'.out, jb'.out⟩
    · intro y L w' hL hpre hJ a ha
      obtain ⟨jB, ja, jc, jb⟩ := hJ
      simp [Region.binds] at hpre
      refine .inl ⟨wanted_none rfl, ?_⟩
      exact wp_move' (.tmp 26) (.inl rfl) (.bool true) (by rw [ha]; exact eval_puts_in (i := 4) rfl (by simp [hpre]) (by simp) (HD y)) ⟨y, _, rfl, rfl, jB, ja, jc, jb⟩
    · intro y L w' hL hpre hJ a ha
      obtain ⟨jB, ja, jc, jb⟩ := hJ
      simp [Region.binds] at hpre
      refine .inl ⟨wanted_yes (g := 5) (t := 27) (b := true) rfl rfl (by rw [ha]; exact eval_puts_in (i := 5) rfl (by simp [hpre]) (by simp) (HD y)), ?_⟩
      exact wp_move' (.tmp 1) (.inl rfl) (.int .u64 u) (by rw [ha, eval_puts_out rfl]; rfl) ⟨y, _, rfl, rfl, jB, ja, jc, jb⟩
    · intro y L w' hL hpre hJ a ha
      obtain ⟨jB, ja, jc, jb⟩ := hJ
      simp [Region.binds] at hpre
      refine .inl ⟨wanted_yes (g := 5) (t := 27) (b := true) rfl rfl (by rw [ha]; exact eval_puts_in (i := 5) rfl (by simp [hpre]) (by simp) (HD y)), ?_⟩
      have e28 : a.eval (.tmp 28) = .int .u64 u := by rw [ha]; exact eval_puts_in (i := 6) rfl (by simp [hpre]) (by simp) (HD y)
      clear ha
      have jB' := Lib.hid jB
      have ja' := Lib.hid ja
      have jc' := Lib.hid jc
      have jb' := Lib.hid jb
      clear jB ja jc jb
      refine wp_intro fun K HK => ?_
      unfold Oper.wp
      simp only [execOp, resolve, List.map_toArray, List.map_cons, List.map_nil, e28]
      go_simp
      refine (HG1.out w').mono ?_
      rintro e w'' ⟨rfl, hb⟩
      exact HK.out _ _ ⟨y, _, rfl, rfl, blk_below jB'.out hb, (own_lift ja'.out hb), (own_lift jc'.out hb), jb'.out.trans (hb.mono jb'.out.size)⟩
    · intro y L w' hL hpre hJ a ha
      obtain ⟨jB, ja, jc, jb⟩ := hJ
      simp [Region.binds] at hpre
      refine .inl ⟨wanted_yes (g := 5) (t := 27) (b := true) rfl rfl (by rw [ha]; exact eval_puts_in (i := 5) rfl (by simp [hpre]) (by simp) (HD y)), ?_⟩
      exact wp_move' (.tmp 1) (.inl rfl) (.int .u64 u) (by rw [ha, eval_puts_out rfl]; rfl) ⟨y, _, rfl, rfl, jB, ja, jc, jb⟩
    · intro y L w' hL hpre hJ a ha
      obtain ⟨jB, ja, jc, jb⟩ := hJ
      simp [Region.binds] at hpre
      refine .inl ⟨wanted_yes (g := 5) (t := 27) (b := true) rfl rfl (by rw [ha]; exact eval_puts_in (i := 5) rfl (by simp [hpre]) (by simp) (HD y)), ?_⟩
      have e30 : a.eval (.tmp 30) = .int .u64 u := by rw [ha]; exact eval_puts_in (i := 8) rfl (by simp [hpre]) (by simp) (HD y)
      clear ha
      have jB' := Lib.hid jB
      have ja' := Lib.hid ja
      have jc' := Lib.hid jc
      have jb' := Lib.hid jb
      clear jB ja jc jb
      refine wp_intro fun K HK => ?_
      unfold Oper.wp
      simp only [execOp, resolve, List.map_toArray, List.map_cons, List.map_nil, e30]
      go_simp
      refine (HG3.out w').mono ?_
      rintro e w'' ⟨rfl, hb⟩
      exact HK.out _ _ ⟨y, _, rfl, rfl, blk_below jB'.out hb, (own_lift ja'.out hb), (own_lift jc'.out hb), jb'.out.trans (hb.mono jb'.out.size)⟩
    · intro y L w' hL hpre hJ a ha
      obtain ⟨jB, ja, jc, jb⟩ := hJ
      simp [Region.binds] at hpre
      refine .inl ⟨wanted_yes (g := 5) (t := 27) (b := true) rfl rfl (by rw [ha]; exact eval_puts_in (i := 5) rfl (by simp [hpre]) (by simp) (HD y)), ?_⟩
      have e29 : a.eval (.tmp 29) = .int .i64 Gu := by rw [ha]; exact eval_puts_in (i := 7) rfl (by simp [hpre]) (by simp) (HD y)
      have e31 : a.eval (.tmp 31) = .int .i64 Gu := by rw [ha]; exact eval_puts_in (i := 9) rfl (by simp [hpre]) (by simp) (HD y)
      clear ha
      have jB' := Lib.hid jB
      have ja' := Lib.hid ja
      have jc' := Lib.hid jc
      have jb' := Lib.hid jb
      clear jB ja jc jb
      refine wp_intro fun K HK => ?_
      unfold Oper.wp
      simp only [execOp, e29, e31]
      go_simp
      exact HK.out _ _ ⟨y, _, rfl, rfl, jB'.out, ja'.out, jc'.out, jb'.out⟩
    · intro y L w' hL hpre hJ a ha
      obtain ⟨jB, ja, jc, jb⟩ := hJ
      simp [Region.binds] at hpre
      refine .inl ⟨wanted_none rfl, ?_⟩
      have e27 : a.eval (.tmp 27) = .bool true := by rw [ha]; exact eval_puts_in (i := 5) rfl (by simp [hpre]) (by simp) (HD y)
      have e32 : a.eval (.tmp 32) = .bool true := by rw [ha]; exact eval_puts_in (i := 10) rfl (by simp [hpre]) (by simp) (HD y)
      clear ha
      have jB' := Lib.hid jB
      have ja' := Lib.hid ja
      have jc' := Lib.hid jc
      have jb' := Lib.hid jb
      clear jB ja jc jb
      refine wp_intro fun K HK => ?_
      unfold Oper.wp
      simp only [execOp, e27, e32]
      go_simp
      exact HK.out _ _ ⟨y, _, rfl, rfl, jB'.out, ja'.out, jc'.out, jb'.out⟩
    · intro y L w' hL hpre hJ a ha
      obtain ⟨jB, ja, jc, jb⟩ := hJ
      simp [Region.binds] at hpre
      refine .inl ⟨wanted_none rfl, ?_⟩
      exact wp_move' (.tmp 33) (.inl rfl) (.bool true) (by rw [ha]; exact eval_puts_in (i := 11) rfl (by simp [hpre]) (by simp) (HD y)) ⟨y, _, rfl, rfl, jB, ja, jc, jb⟩
    · intro y L w' hL hpre hJ a ha
      obtain ⟨jB, ja, jc, jb⟩ := hJ
      simp [Region.binds] at hpre
      refine .inl ⟨wanted_yes (g := 12) (t := 34) (b := true) rfl rfl (by rw [ha]; exact eval_puts_in (i := 12) rfl (by simp [hpre]) (by simp) (HD y)), ?_⟩
      exact wp_move' (.tmp 0) (.inl rfl) (.int .i64 n) (by rw [ha, eval_puts_out rfl]; rfl) ⟨y, _, rfl, rfl, jB, ja, jc, jb⟩
    · intro y L w' hL hpre hJ a ha
      obtain ⟨jB, ja, jc, jb⟩ := hJ
      simp [Region.binds] at hpre
      refine .inl ⟨wanted_yes (g := 12) (t := 34) (b := true) rfl rfl (by rw [ha]; exact eval_puts_in (i := 12) rfl (by simp [hpre]) (by simp) (HD y)), ?_⟩
      have e35 : a.eval (.tmp 35) = .int .i64 n := by rw [ha]; exact eval_puts_in (i := 13) rfl (by simp [hpre]) (by simp) (HD y)
      clear ha
      have jB' := Lib.hid jB
      have ja' := Lib.hid ja
      have jc' := Lib.hid jc
      have jb' := Lib.hid jb
      clear jB ja jc jb
      refine wp_intro fun K HK => ?_
      unfold Oper.wp
      simp only [execOp, resolve, List.map_toArray, List.map_cons, List.map_nil, e35]
      go_simp
      refine (HZ1.out w').mono ?_
      rintro e w'' ⟨rfl, hb⟩
      exact HK.out _ _ ⟨y, _, rfl, rfl, blk_below jB'.out hb, (own_lift ja'.out hb), (own_lift jc'.out hb), jb'.out.trans (hb.mono jb'.out.size)⟩
    · intro y L w' hL hpre hJ a ha
      obtain ⟨jB, ja, jc, jb⟩ := hJ
      simp [Region.binds] at hpre
      refine .inl ⟨wanted_yes (g := 12) (t := 34) (b := true) rfl rfl (by rw [ha]; exact eval_puts_in (i := 12) rfl (by simp [hpre]) (by simp) (HD y)), ?_⟩
      have e36 : a.eval (.tmp 36) = .int .u64 Zn := by rw [ha]; exact eval_puts_in (i := 14) rfl (by simp [hpre]) (by simp) (HD y)
      clear ha
      have jB' := Lib.hid jB
      have ja' := Lib.hid ja
      have jc' := Lib.hid jc
      have jb' := Lib.hid jb
      clear jB ja jc jb
      refine wp_intro fun K HK => ?_
      unfold Oper.wp
      simp only [execOp, resolve, List.map_toArray, List.map_cons, List.map_nil, e36]
      go_simp
      refine (HG2.out w').mono ?_
      rintro e w'' ⟨rfl, hb⟩
      exact HK.out _ _ ⟨y, _, rfl, rfl, blk_below jB'.out hb, (own_lift ja'.out hb), (own_lift jc'.out hb), jb'.out.trans (hb.mono jb'.out.size)⟩
    · intro y L w' hL hpre hJ a ha
      obtain ⟨jB, ja, jc, jb⟩ := hJ
      simp [Region.binds] at hpre
      refine .inl ⟨wanted_yes (g := 12) (t := 34) (b := true) rfl rfl (by rw [ha]; exact eval_puts_in (i := 12) rfl (by simp [hpre]) (by simp) (HD y)), ?_⟩
      exact wp_move' (.tmp 0) (.inl rfl) (.int .i64 n) (by rw [ha, eval_puts_out rfl]; rfl) ⟨y, _, rfl, rfl, jB, ja, jc, jb⟩
    · intro y L w' hL hpre hJ a ha
      obtain ⟨jB, ja, jc, jb⟩ := hJ
      simp [Region.binds] at hpre
      refine .inl ⟨wanted_yes (g := 12) (t := 34) (b := true) rfl rfl (by rw [ha]; exact eval_puts_in (i := 12) rfl (by simp [hpre]) (by simp) (HD y)), ?_⟩
      have e37 : a.eval (.tmp 37) = .int .i64 n := by rw [ha]; exact eval_puts_in (i := 15) rfl (by simp [hpre]) (by simp) (HD y)
      have e38 : a.eval (.tmp 38) = .int .i64 n := by rw [ha]; exact eval_puts_in (i := 16) rfl (by simp [hpre]) (by simp) (HD y)
      clear ha
      have jB' := Lib.hid jB
      have ja' := Lib.hid ja
      have jc' := Lib.hid jc
      have jb' := Lib.hid jb
      clear jB ja jc jb
      refine wp_intro fun K HK => ?_
      unfold Oper.wp
      simp only [execOp, e37, e38]
      go_simp
      exact HK.out _ _ ⟨y, _, rfl, rfl, jB'.out, ja'.out, jc'.out, jb'.out⟩
    · intro y L w' hL hpre hJ a ha
      obtain ⟨jB, ja, jc, jb⟩ := hJ
      simp [Region.binds] at hpre
      refine .inl ⟨wanted_none rfl, ?_⟩
      have e34 : a.eval (.tmp 34) = .bool true := by rw [ha]; exact eval_puts_in (i := 12) rfl (by simp [hpre]) (by simp) (HD y)
      have e39 : a.eval (.tmp 39) = .bool true := by rw [ha]; exact eval_puts_in (i := 17) rfl (by simp [hpre]) (by simp) (HD y)
      clear ha
      have jB' := Lib.hid jB
      have ja' := Lib.hid ja
      have jc' := Lib.hid jc
      have jb' := Lib.hid jb
      clear jB ja jc jb
      refine wp_intro fun K HK => ?_
      unfold Oper.wp
      simp only [execOp, e34, e39]
      go_simp
      exact HK.out _ _ ⟨y, _, rfl, rfl, jB'.out, ja'.out, jc'.out, jb'.out⟩
    · intro y L w' hL hpre hJ a ha
      obtain ⟨jB, ja, jc, jb⟩ := hJ
      simp [Region.binds] at hpre
      refine .inl ⟨wanted_none rfl, ?_⟩
      exact wp_move' (.tmp 40) (.inl rfl) (.bool true) (by rw [ha]; exact eval_puts_in (i := 18) rfl (by simp [hpre]) (by simp) (HD y)) ⟨y, _, rfl, rfl, jB, ja, jc, jb⟩
    · intro y L w' hL hpre hJ a ha
      obtain ⟨jB, ja, jc, jb⟩ := hJ
      simp [Region.binds] at hpre
      refine .inl ⟨wanted_yes (g := 19) (t := 41) (b := true) rfl rfl (by rw [ha]; exact eval_puts_in (i := 19) rfl (by simp [hpre]) (by simp) (HD y)), ?_⟩
      exact wp_move' (.tmp 1) (.inl rfl) (.int .u64 u) (by rw [ha, eval_puts_out rfl]; rfl) ⟨y, _, rfl, rfl, jB, ja, jc, jb⟩
    · intro y L w' hL hpre hJ a ha
      obtain ⟨jB, ja, jc, jb⟩ := hJ
      simp [Region.binds] at hpre
      refine .inl ⟨wanted_yes (g := 19) (t := 41) (b := true) rfl rfl (by rw [ha]; exact eval_puts_in (i := 19) rfl (by simp [hpre]) (by simp) (HD y)), ?_⟩
      have e42 : a.eval (.tmp 42) = .int .u64 u := by rw [ha]; exact eval_puts_in (i := 20) rfl (by simp [hpre]) (by simp) (HD y)
      clear ha
      have jB' := Lib.hid jB
      have ja' := Lib.hid ja
      have jc' := Lib.hid jc
      have jb' := Lib.hid jb
      clear jB ja jc jb
      refine wp_intro fun K HK => ?_
      unfold Oper.wp
      simp only [execOp, resolve, List.map_toArray, List.map_cons, List.map_nil, e42]
      go_simp
      refine (HG1.out w').mono ?_
      rintro e w'' ⟨rfl, hb⟩
      exact HK.out _ _ ⟨y, _, rfl, rfl, blk_below jB'.out hb, (own_lift ja'.out hb), (own_lift jc'.out hb), jb'.out.trans (hb.mono jb'.out.size)⟩
    · intro y L w' hL hpre hJ a ha
      obtain ⟨jB, ja, jc, jb⟩ := hJ
      simp [Region.binds] at hpre
      refine .inl ⟨wanted_yes (g := 19) (t := 41) (b := true) rfl rfl (by rw [ha]; exact eval_puts_in (i := 19) rfl (by simp [hpre]) (by simp) (HD y)), ?_⟩
      have e43 : a.eval (.tmp 43) = .int .i64 Gu := by rw [ha]; exact eval_puts_in (i := 21) rfl (by simp [hpre]) (by simp) (HD y)
      clear ha
      have jB' := Lib.hid jB
      have ja' := Lib.hid ja
      have jc' := Lib.hid jc
      have jb' := Lib.hid jb
      clear jB ja jc jb
      refine wp_intro fun K HK => ?_
      unfold Oper.wp
      simp only [execOp, resolve, List.map_toArray, List.map_cons, List.map_nil, e43]
      go_simp
      refine (HZ2.out w').mono ?_
      rintro e w'' ⟨rfl, hb⟩
      exact HK.out _ _ ⟨y, _, rfl, rfl, blk_below jB'.out hb, (own_lift ja'.out hb), (own_lift jc'.out hb), jb'.out.trans (hb.mono jb'.out.size)⟩
    · intro y L w' hL hpre hJ a ha
      obtain ⟨jB, ja, jc, jb⟩ := hJ
      simp [Region.binds] at hpre
      refine .inl ⟨wanted_yes (g := 19) (t := 41) (b := true) rfl rfl (by rw [ha]; exact eval_puts_in (i := 19) rfl (by simp [hpre]) (by simp) (HD y)), ?_⟩
      exact wp_move' (.tmp 1) (.inl rfl) (.int .u64 u) (by rw [ha, eval_puts_out rfl]; rfl) ⟨y, _, rfl, rfl, jB, ja, jc, jb⟩
    · intro y L w' hL hpre hJ a ha
      obtain ⟨jB, ja, jc, jb⟩ := hJ
      simp [Region.binds] at hpre
      refine .inl ⟨wanted_yes (g := 19) (t := 41) (b := true) rfl rfl (by rw [ha]; exact eval_puts_in (i := 19) rfl (by simp [hpre]) (by simp) (HD y)), ?_⟩
      have e44 : a.eval (.tmp 44) = .int .u64 u := by rw [ha]; exact eval_puts_in (i := 22) rfl (by simp [hpre]) (by simp) (HD y)
      have e45 : a.eval (.tmp 45) = .int .u64 u := by rw [ha]; exact eval_puts_in (i := 23) rfl (by simp [hpre]) (by simp) (HD y)
      clear ha
      have jB' := Lib.hid jB
      have ja' := Lib.hid ja
      have jc' := Lib.hid jc
      have jb' := Lib.hid jb
      clear jB ja jc jb
      refine wp_intro fun K HK => ?_
      unfold Oper.wp
      simp only [execOp, e44, e45]
      go_simp
      exact HK.out _ _ ⟨y, _, rfl, rfl, jB'.out, ja'.out, jc'.out, jb'.out⟩
    · intro y L w' hL hpre hJ a ha
      obtain ⟨jB, ja, jc, jb⟩ := hJ
      simp [Region.binds] at hpre
      refine .inl ⟨wanted_none rfl, ?_⟩
      have e41 : a.eval (.tmp 41) = .bool true := by rw [ha]; exact eval_puts_in (i := 19) rfl (by simp [hpre]) (by simp) (HD y)
      have e46 : a.eval (.tmp 46) = .bool true := by rw [ha]; exact eval_puts_in (i := 24) rfl (by simp [hpre]) (by simp) (HD y)
      clear ha
      have jB' := Lib.hid jB
      have ja' := Lib.hid ja
      have jc' := Lib.hid jc
      have jb' := Lib.hid jb
      clear jB ja jc jb
      refine wp_intro fun K HK => ?_
      unfold Oper.wp
      simp only [execOp, e41, e46]
      go_simp
      exact HK.out _ _ ⟨y, _, rfl, rfl, jB'.out, ja'.out, jc'.out, jb'.out⟩
    · intro y L w' hL hpre hJ a ha
      obtain ⟨jB, ja, jc, jb⟩ := hJ
      simp [Region.binds] at hpre
      refine .inl ⟨wanted_none rfl, ?_⟩
      exact wp_move' (.tmp 47) (.inl rfl) (.bool true) (by rw [ha]; exact eval_puts_in (i := 25) rfl (by simp [hpre]) (by simp) (HD y)) ⟨y, _, rfl, rfl, jB, ja, jc, jb⟩
    · intro y L w' hL hpre hJ a ha
      obtain ⟨jB, ja, jc, jb⟩ := hJ
      simp [Region.binds] at hpre
      refine .inl ⟨wanted_yes (g := 26) (t := 48) (b := true) rfl rfl (by rw [ha]; exact eval_puts_in (i := 26) rfl (by simp [hpre]) (by simp) (HD y)), ?_⟩
      exact wp_move' (.tmp 0) (.inl rfl) (.int .i64 n) (by rw [ha, eval_puts_out rfl]; rfl) ⟨y, _, rfl, rfl, jB, ja, jc, jb⟩
    · intro y L w' hL hpre hJ a ha
      obtain ⟨jB, ja, jc, jb⟩ := hJ
      simp [Region.binds] at hpre
      refine .inl ⟨wanted_yes (g := 26) (t := 48) (b := true) rfl rfl (by rw [ha]; exact eval_puts_in (i := 26) rfl (by simp [hpre]) (by simp) (HD y)), ?_⟩
      exact wp_move' (.tmp 3) (.inl rfl) (.int .i64 k) (by rw [ha, eval_puts_out rfl]; rfl) ⟨y, _, rfl, rfl, jB, ja, jc, jb⟩
    · intro y L w' hL hpre hJ a ha
      obtain ⟨jB, ja, jc, jb⟩ := hJ
      simp [Region.binds] at hpre
      refine .inl ⟨wanted_yes (g := 26) (t := 48) (b := true) rfl rfl (by rw [ha]; exact eval_puts_in (i := 26) rfl (by simp [hpre]) (by simp) (HD y)), ?_⟩
      have e49 : a.eval (.tmp 49) = .int .i64 n := by rw [ha]; exact eval_puts_in (i := 27) rfl (by simp [hpre]) (by simp) (HD y)
      have e50 : a.eval (.tmp 50) = .int .i64 k := by rw [ha]; exact eval_puts_in (i := 28) rfl (by simp [hpre]) (by simp) (HD y)
      clear ha
      have jB' := Lib.hid jB
      have ja' := Lib.hid ja
      have jc' := Lib.hid jc
      have jb' := Lib.hid jb
      clear jB ja jc jb
      refine wp_intro fun K HK => ?_
      unfold Oper.wp
      simp only [execOp, resolve, List.map_toArray, List.map_cons, List.map_nil, e49, e50]
      go_simp
      refine (HN.out w').mono ?_
      rintro e w'' ⟨rfl, hb⟩
      exact HK.out _ _ ⟨y, _, rfl, rfl, blk_below jB'.out hb, (own_lift ja'.out hb), (own_lift jc'.out hb), jb'.out.trans (hb.mono jb'.out.size)⟩
    · intro y L w' hL hpre hJ a ha
      obtain ⟨jB, ja, jc, jb⟩ := hJ
      simp [Region.binds] at hpre
      refine .inl ⟨wanted_yes (g := 26) (t := 48) (b := true) rfl rfl (by rw [ha]; exact eval_puts_in (i := 26) rfl (by simp [hpre]) (by simp) (HD y)), ?_⟩
      exact wp_move' (.tmp 12) (.inl rfl) (.int .i64 Nn) (by rw [ha, eval_puts_out rfl]; rfl) ⟨y, _, rfl, rfl, jB, ja, jc, jb⟩
    · intro y L w' hL hpre hJ a ha
      obtain ⟨jB, ja, jc, jb⟩ := hJ
      simp [Region.binds] at hpre
      refine .inl ⟨wanted_yes (g := 26) (t := 48) (b := true) rfl rfl (by rw [ha]; exact eval_puts_in (i := 26) rfl (by simp [hpre]) (by simp) (HD y)), ?_⟩
      have e51 : a.eval (.tmp 51) = .int .i64 Nn := by rw [ha]; exact eval_puts_in (i := 29) rfl (by simp [hpre]) (by simp) (HD y)
      have e52 : a.eval (.tmp 52) = .int .i64 Nn := by rw [ha]; exact eval_puts_in (i := 30) rfl (by simp [hpre]) (by simp) (HD y)
      clear ha
      have jB' := Lib.hid jB
      have ja' := Lib.hid ja
      have jc' := Lib.hid jc
      have jb' := Lib.hid jb
      clear jB ja jc jb
      refine wp_intro fun K HK => ?_
      unfold Oper.wp
      simp only [execOp, e51, e52]
      go_simp
      exact HK.out _ _ ⟨y, _, rfl, rfl, jB'.out, ja'.out, jc'.out, jb'.out⟩
    · intro y L w' hL hpre hJ a ha
      obtain ⟨jB, ja, jc, jb⟩ := hJ
      simp [Region.binds] at hpre
      refine .inl ⟨wanted_none rfl, ?_⟩
      have e48 : a.eval (.tmp 48) = .bool true := by rw [ha]; exact eval_puts_in (i := 26) rfl (by simp [hpre]) (by simp) (HD y)
      have e53 : a.eval (.tmp 53) = .bool true := by rw [ha]; exact eval_puts_in (i := 31) rfl (by simp [hpre]) (by simp) (HD y)
      clear ha
      have jB' := Lib.hid jB
      have ja' := Lib.hid ja
      have jc' := Lib.hid jc
      have jb' := Lib.hid jb
      clear jB ja jc jb
      refine wp_intro fun K HK => ?_
      unfold Oper.wp
      simp only [execOp, e48, e53]
      go_simp
      exact HK.out _ _ ⟨y, _, rfl, rfl, jB'.out, ja'.out, jc'.out, jb'.out⟩
    · intro y L w' hL hpre hJ a ha
      obtain ⟨jB, ja, jc, jb⟩ := hJ
      simp [Region.binds] at hpre
      refine .inl ⟨wanted_none rfl, ?_⟩
      exact wp_move' (.tmp 54) (.inl rfl) (.bool true) (by rw [ha]; exact eval_puts_in (i := 32) rfl (by simp [hpre]) (by simp) (HD y)) ⟨y, _, rfl, rfl, jB, ja, jc, jb⟩
    · intro y L w' hL hpre hJ a ha
      obtain ⟨jB, ja, jc, jb⟩ := hJ
      simp [Region.binds] at hpre
      refine .inl ⟨wanted_yes (g := 33) (t := 55) (b := true) rfl rfl (by rw [ha]; exact eval_puts_in (i := 33) rfl (by simp [hpre]) (by simp) (HD y)), ?_⟩
      exact wp_move' (.tmp 1) (.inl rfl) (.int .u64 u) (by rw [ha, eval_puts_out rfl]; rfl) ⟨y, _, rfl, rfl, jB, ja, jc, jb⟩
    · intro y L w' hL hpre hJ a ha
      obtain ⟨jB, ja, jc, jb⟩ := hJ
      simp [Region.binds] at hpre
      refine .inl ⟨wanted_yes (g := 33) (t := 55) (b := true) rfl rfl (by rw [ha]; exact eval_puts_in (i := 33) rfl (by simp [hpre]) (by simp) (HD y)), ?_⟩
      exact wp_move' (.tmp 3) (.inl rfl) (.int .i64 k) (by rw [ha, eval_puts_out rfl]; rfl) ⟨y, _, rfl, rfl, jB, ja, jc, jb⟩
    · intro y L w' hL hpre hJ a ha
      obtain ⟨jB, ja, jc, jb⟩ := hJ
      simp [Region.binds] at hpre
      refine .inl ⟨wanted_yes (g := 33) (t := 55) (b := true) rfl rfl (by rw [ha]; exact eval_puts_in (i := 33) rfl (by simp [hpre]) (by simp) (HD y)), ?_⟩
      have e56 : a.eval (.tmp 56) = .int .u64 u := by rw [ha]; exact eval_puts_in (i := 34) rfl (by simp [hpre]) (by simp) (HD y)
      have e57 : a.eval (.tmp 57) = .int .i64 k := by rw [ha]; exact eval_puts_in (i := 35) rfl (by simp [hpre]) (by simp) (HD y)
      clear ha
      have jB' := Lib.hid jB
      have ja' := Lib.hid ja
      have jc' := Lib.hid jc
      have jb' := Lib.hid jb
      clear jB ja jc jb
      refine wp_intro fun K HK => ?_
      unfold Oper.wp
      simp only [execOp, resolve, List.map_toArray, List.map_cons, List.map_nil, e56, e57]
      go_simp
      refine (HWd.out w').mono ?_
      rintro e w'' ⟨rfl, hb⟩
      exact HK.out _ _ ⟨y, _, rfl, rfl, blk_below jB'.out hb, (own_lift ja'.out hb), (own_lift jc'.out hb), jb'.out.trans (hb.mono jb'.out.size)⟩
    · intro y L w' hL hpre hJ a ha
      obtain ⟨jB, ja, jc, jb⟩ := hJ
      simp [Region.binds] at hpre
      refine .inl ⟨wanted_yes (g := 33) (t := 55) (b := true) rfl rfl (by rw [ha]; exact eval_puts_in (i := 33) rfl (by simp [hpre]) (by simp) (HD y)), ?_⟩
      exact wp_move' (.tmp 1) (.inl rfl) (.int .u64 u) (by rw [ha, eval_puts_out rfl]; rfl) ⟨y, _, rfl, rfl, jB, ja, jc, jb⟩
    · intro y L w' hL hpre hJ a ha
      obtain ⟨jB, ja, jc, jb⟩ := hJ
      simp [Region.binds] at hpre
      refine .inl ⟨wanted_yes (g := 33) (t := 55) (b := true) rfl rfl (by rw [ha]; exact eval_puts_in (i := 33) rfl (by simp [hpre]) (by simp) (HD y)), ?_⟩
      have e59 : a.eval (.tmp 59) = .int .u64 u := by rw [ha]; exact eval_puts_in (i := 37) rfl (by simp [hpre]) (by simp) (HD y)
      clear ha
      have jB' := Lib.hid jB
      have ja' := Lib.hid ja
      have jc' := Lib.hid jc
      have jb' := Lib.hid jb
      clear jB ja jc jb
      refine wp_intro fun K HK => ?_
      unfold Oper.wp
      simp only [execOp, e59]
      go_simp
      exact HK.out _ _ ⟨y, _, rfl, rfl, jB'.out, ja'.out, jc'.out, jb'.out⟩
    · intro y L w' hL hpre hJ a ha
      obtain ⟨jB, ja, jc, jb⟩ := hJ
      simp [Region.binds] at hpre
      refine .inl ⟨wanted_yes (g := 33) (t := 55) (b := true) rfl rfl (by rw [ha]; exact eval_puts_in (i := 33) rfl (by simp [hpre]) (by simp) (HD y)), ?_⟩
      exact wp_move' (.tmp 3) (.inl rfl) (.int .i64 k) (by rw [ha, eval_puts_out rfl]; rfl) ⟨y, _, rfl, rfl, jB, ja, jc, jb⟩
    · intro y L w' hL hpre hJ a ha
      obtain ⟨jB, ja, jc, jb⟩ := hJ
      simp [Region.binds] at hpre
      refine .inl ⟨wanted_yes (g := 33) (t := 55) (b := true) rfl rfl (by rw [ha]; exact eval_puts_in (i := 33) rfl (by simp [hpre]) (by simp) (HD y)), ?_⟩
      have e60 : a.eval (.tmp 60) = .int .i64 (IntKind.i64.wrap u) := by rw [ha]; exact eval_puts_in (i := 38) rfl (by simp [hpre]) (by simp) (HD y)
      have e61 : a.eval (.tmp 61) = .int .i64 k := by rw [ha]; exact eval_puts_in (i := 39) rfl (by simp [hpre]) (by simp) (HD y)
      clear ha
      have jB' := Lib.hid jB
      have ja' := Lib.hid ja
      have jc' := Lib.hid jc
      have jb' := Lib.hid jb
      clear jB ja jc jb
      refine wp_intro fun K HK => ?_
      unfold Oper.wp
      simp only [execOp, resolve, List.map_toArray, List.map_cons, List.map_nil, e60, e61]
      go_simp
      refine (HRN.out w').mono ?_
      rintro e w'' ⟨rfl, hb⟩
      exact HK.out _ _ ⟨y, _, rfl, rfl, blk_below jB'.out hb, (own_lift ja'.out hb), (own_lift jc'.out hb), jb'.out.trans (hb.mono jb'.out.size)⟩
    · intro y L w' hL hpre hJ a ha
      obtain ⟨jB, ja, jc, jb⟩ := hJ
      simp [Region.binds] at hpre
      refine .inl ⟨wanted_yes (g := 33) (t := 55) (b := true) rfl rfl (by rw [ha]; exact eval_puts_in (i := 33) rfl (by simp [hpre]) (by simp) (HD y)), ?_⟩
      have e58 : a.eval (.tmp 58) = .int .i64 Nu := by rw [ha]; exact eval_puts_in (i := 36) rfl (by simp [hpre]) (by simp) (HD y)
      have e62 : a.eval (.tmp 62) = .int .i64 Nu := by rw [ha]; exact eval_puts_in (i := 40) rfl (by simp [hpre]) (by simp) (HD y)
      clear ha
      have jB' := Lib.hid jB
      have ja' := Lib.hid ja
      have jc' := Lib.hid jc
      have jb' := Lib.hid jb
      clear jB ja jc jb
      refine wp_intro fun K HK => ?_
      unfold Oper.wp
      simp only [execOp, e58, e62]
      go_simp
      exact HK.out _ _ ⟨y, _, rfl, rfl, jB'.out, ja'.out, jc'.out, jb'.out⟩
    · intro y L w' hL hpre hJ a ha
      obtain ⟨jB, ja, jc, jb⟩ := hJ
      simp [Region.binds] at hpre
      refine .inl ⟨wanted_none rfl, ?_⟩
      have e55 : a.eval (.tmp 55) = .bool true := by rw [ha]; exact eval_puts_in (i := 33) rfl (by simp [hpre]) (by simp) (HD y)
      have e63 : a.eval (.tmp 63) = .bool true := by rw [ha]; exact eval_puts_in (i := 41) rfl (by simp [hpre]) (by simp) (HD y)
      clear ha
      have jB' := Lib.hid jB
      have ja' := Lib.hid ja
      have jc' := Lib.hid jc
      have jb' := Lib.hid jb
      clear jB ja jc jb
      refine wp_intro fun K HK => ?_
      unfold Oper.wp
      simp only [execOp, e55, e63]
      go_simp
      exact HK.out _ _ ⟨y, _, rfl, rfl, jB'.out, ja'.out, jc'.out, jb'.out⟩
    · intro y L w' hL hpre hJ a ha
      obtain ⟨jB, ja, jc, jb⟩ := hJ
      simp [Region.binds] at hpre
      refine .inl ⟨wanted_none rfl, ?_⟩
      exact wp_move' (.tmp 64) (.inl rfl) (.bool true) (by rw [ha]; exact eval_puts_in (i := 42) rfl (by simp [hpre]) (by simp) (HD y)) ⟨y, _, rfl, rfl, jB, ja, jc, jb⟩
    · intro y L w' hL hpre hJ a ha
      obtain ⟨jB, ja, jc, jb⟩ := hJ
      simp [Region.binds] at hpre
      refine .inl ⟨wanted_yes (g := 43) (t := 65) (b := true) rfl rfl (by rw [ha]; exact eval_puts_in (i := 43) rfl (by simp [hpre]) (by simp) (HD y)), ?_⟩
      exact wp_move' (.tmp 0) (.inl rfl) (.int .i64 n) (by rw [ha, eval_puts_out rfl]; rfl) ⟨y, _, rfl, rfl, jB, ja, jc, jb⟩
    · intro y L w' hL hpre hJ a ha
      obtain ⟨jB, ja, jc, jb⟩ := hJ
      simp [Region.binds] at hpre
      refine .inl ⟨wanted_yes (g := 43) (t := 65) (b := true) rfl rfl (by rw [ha]; exact eval_puts_in (i := 43) rfl (by simp [hpre]) (by simp) (HD y)), ?_⟩
      exact wp_move' (.tmp 3) (.inl rfl) (.int .i64 k) (by rw [ha, eval_puts_out rfl]; rfl) ⟨y, _, rfl, rfl, jB, ja, jc, jb⟩
    · intro y L w' hL hpre hJ a ha
      obtain ⟨jB, ja, jc, jb⟩ := hJ
      simp [Region.binds] at hpre
      refine .inl ⟨wanted_yes (g := 43) (t := 65) (b := true) rfl rfl (by rw [ha]; exact eval_puts_in (i := 43) rfl (by simp [hpre]) (by simp) (HD y)), ?_⟩
      have e66 : a.eval (.tmp 66) = .int .i64 n := by rw [ha]; exact eval_puts_in (i := 44) rfl (by simp [hpre]) (by simp) (HD y)
      have e67 : a.eval (.tmp 67) = .int .i64 k := by rw [ha]; exact eval_puts_in (i := 45) rfl (by simp [hpre]) (by simp) (HD y)
      clear ha
      have jB' := Lib.hid jB
      have ja' := Lib.hid ja
      have jc' := Lib.hid jc
      have jb' := Lib.hid jb
      clear jB ja jc jb
      refine wp_intro fun K HK => ?_
      unfold Oper.wp
      simp only [execOp, resolve, List.map_toArray, List.map_cons, List.map_nil, e66, e67]
      go_simp
      refine (HF.out w').mono ?_
      rintro e w'' ⟨rfl, hb⟩
      exact HK.out _ _ ⟨y, _, rfl, rfl, blk_below jB'.out hb, (own_lift ja'.out hb), (own_lift jc'.out hb), jb'.out.trans (hb.mono jb'.out.size)⟩
    · intro y L w' hL hpre hJ a ha
      obtain ⟨jB, ja, jc, jb⟩ := hJ
      simp [Region.binds] at hpre
      refine .inl ⟨wanted_yes (g := 43) (t := 65) (b := true) rfl rfl (by rw [ha]; exact eval_puts_in (i := 43) rfl (by simp [hpre]) (by simp) (HD y)), ?_⟩
      exact wp_move' (.tmp 12) (.inl rfl) (.int .i64 Nn) (by rw [ha, eval_puts_out rfl]; rfl) ⟨y, _, rfl, rfl, jB, ja, jc, jb⟩
    · intro y L w' hL hpre hJ a ha
      obtain ⟨jB, ja, jc, jb⟩ := hJ
      simp [Region.binds] at hpre
      refine .inl ⟨wanted_yes (g := 43) (t := 65) (b := true) rfl rfl (by rw [ha]; exact eval_puts_in (i := 43) rfl (by simp [hpre]) (by simp) (HD y)), ?_⟩
      exact wp_move' (.tmp 0) (.inl rfl) (.int .i64 n) (by rw [ha, eval_puts_out rfl]; rfl) ⟨y, _, rfl, rfl, jB, ja, jc, jb⟩
    · intro y L w' hL hpre hJ a ha
      obtain ⟨jB, ja, jc, jb⟩ := hJ
      simp [Region.binds] at hpre
      refine .inl ⟨wanted_yes (g := 43) (t := 65) (b := true) rfl rfl (by rw [ha]; exact eval_puts_in (i := 43) rfl (by simp [hpre]) (by simp) (HD y)), ?_⟩
      have e69 : a.eval (.tmp 69) = .int .i64 Nn := by rw [ha]; exact eval_puts_in (i := 47) rfl (by simp [hpre]) (by simp) (HD y)
      have e70 : a.eval (.tmp 70) = .int .i64 n := by rw [ha]; exact eval_puts_in (i := 48) rfl (by simp [hpre]) (by simp) (HD y)
      clear ha
      have jB' := Lib.hid jB
      have ja' := Lib.hid ja
      have jc' := Lib.hid jc
      have jb' := Lib.hid jb
      clear jB ja jc jb
      refine wp_intro fun K HK => ?_
      unfold Oper.wp
      simp only [execOp, e69, e70]
      go_simp
      exact HK.out _ _ ⟨y, _, rfl, rfl, jB'.out, ja'.out, jc'.out, jb'.out⟩
    · intro y L w' hL hpre hJ a ha
      obtain ⟨jB, ja, jc, jb⟩ := hJ
      simp [Region.binds] at hpre
      refine .inl ⟨wanted_yes (g := 43) (t := 65) (b := true) rfl rfl (by rw [ha]; exact eval_puts_in (i := 43) rfl (by simp [hpre]) (by simp) (HD y)), ?_⟩
      have e68 : a.eval (.tmp 68) = .bool (Nn == n) := by rw [ha]; exact eval_puts_in (i := 46) rfl (by simp [hpre]) (by simp) (HD y)
      have e71 : a.eval (.tmp 71) = .bool (Nn == n) := by rw [ha]; exact eval_puts_in (i := 49) rfl (by simp [hpre]) (by simp) (HD y)
      clear ha
      have jB' := Lib.hid jB
      have ja' := Lib.hid ja
      have jc' := Lib.hid jc
      have jb' := Lib.hid jb
      clear jB ja jc jb
      refine wp_intro fun K HK => ?_
      unfold Oper.wp
      simp only [execOp, e68, e71]
      go_simp
      exact HK.out _ _ ⟨y, _, rfl, rfl, jB'.out, ja'.out, jc'.out, jb'.out⟩
    · intro y L w' hL hpre hJ a ha
      obtain ⟨jB, ja, jc, jb⟩ := hJ
      simp [Region.binds] at hpre
      refine .inl ⟨wanted_none rfl, ?_⟩
      have e65 : a.eval (.tmp 65) = .bool true := by rw [ha]; exact eval_puts_in (i := 43) rfl (by simp [hpre]) (by simp) (HD y)
      have e72 : a.eval (.tmp 72) = .bool true := by rw [ha]; exact eval_puts_in (i := 50) rfl (by simp [hpre]) (by simp) (HD y)
      clear ha
      have jB' := Lib.hid jB
      have ja' := Lib.hid ja
      have jc' := Lib.hid jc
      have jb' := Lib.hid jb
      clear jB ja jc jb
      refine wp_intro fun K HK => ?_
      unfold Oper.wp
      simp only [execOp, e65, e72]
      go_simp
      exact HK.out _ _ ⟨y, _, rfl, rfl, jB'.out, ja'.out, jc'.out, jb'.out⟩
    · intro y L w' hL hpre hJ a ha
      obtain ⟨jB, ja, jc, jb⟩ := hJ
      simp [Region.binds] at hpre
      refine .inl ⟨wanted_none rfl, ?_⟩
      exact wp_move' (.tmp 73) (.inl rfl) (.bool true) (by rw [ha]; exact eval_puts_in (i := 51) rfl (by simp [hpre]) (by simp) (HD y)) ⟨y, _, rfl, rfl, jB, ja, jc, jb⟩
    · intro y L w' hL hpre hJ a ha
      obtain ⟨jB, ja, jc, jb⟩ := hJ
      simp [Region.binds] at hpre
      refine .inl ⟨wanted_yes (g := 52) (t := 74) (b := true) rfl rfl (by rw [ha]; exact eval_puts_in (i := 52) rfl (by simp [hpre]) (by simp) (HD y)), ?_⟩
      exact wp_move' (.tmp 2) (.inl rfl) (.int .u32 x) (by rw [ha, eval_puts_out rfl]; rfl) ⟨y, _, rfl, rfl, jB, ja, jc, jb⟩
    · intro y L w' hL hpre hJ a ha
      obtain ⟨jB, ja, jc, jb⟩ := hJ
      simp [Region.binds] at hpre
      refine .inl ⟨wanted_yes (g := 52) (t := 74) (b := true) rfl rfl (by rw [ha]; exact eval_puts_in (i := 52) rfl (by simp [hpre]) (by simp) (HD y)), ?_⟩
      exact wp_move' (.tmp 4) (.inl rfl) (.int .i64 by_) (by rw [ha, eval_puts_out rfl]; rfl) ⟨y, _, rfl, rfl, jB, ja, jc, jb⟩
    · intro y L w' hL hpre hJ a ha
      obtain ⟨jB, ja, jc, jb⟩ := hJ
      simp [Region.binds] at hpre
      refine .inl ⟨wanted_yes (g := 52) (t := 74) (b := true) rfl rfl (by rw [ha]; exact eval_puts_in (i := 52) rfl (by simp [hpre]) (by simp) (HD y)), ?_⟩
      have e75 : a.eval (.tmp 75) = .int .u32 x := by rw [ha]; exact eval_puts_in (i := 53) rfl (by simp [hpre]) (by simp) (HD y)
      have e76 : a.eval (.tmp 76) = .int .i64 by_ := by rw [ha]; exact eval_puts_in (i := 54) rfl (by simp [hpre]) (by simp) (HD y)
      clear ha
      have jB' := Lib.hid jB
      have ja' := Lib.hid ja
      have jc' := Lib.hid jc
      have jb' := Lib.hid jb
      clear jB ja jc jb
      refine wp_intro fun K HK => ?_
      unfold Oper.wp
      simp only [execOp, resolve, List.map_toArray, List.map_cons, List.map_nil, e75, e76]
      go_simp
      refine (HT.out w').mono ?_
      rintro e w'' ⟨rfl, hb⟩
      exact HK.out _ _ ⟨y, _, rfl, rfl, blk_below jB'.out hb, (own_lift ja'.out hb), (own_lift jc'.out hb), jb'.out.trans (hb.mono jb'.out.size)⟩
    · intro y L w' hL hpre hJ a ha
      obtain ⟨jB, ja, jc, jb⟩ := hJ
      simp [Region.binds] at hpre
      refine .inl ⟨wanted_yes (g := 52) (t := 74) (b := true) rfl rfl (by rw [ha]; exact eval_puts_in (i := 52) rfl (by simp [hpre]) (by simp) (HD y)), ?_⟩
      exact wp_move' (.tmp 2) (.inl rfl) (.int .u32 x) (by rw [ha, eval_puts_out rfl]; rfl) ⟨y, _, rfl, rfl, jB, ja, jc, jb⟩
    · intro y L w' hL hpre hJ a ha
      obtain ⟨jB, ja, jc, jb⟩ := hJ
      simp [Region.binds] at hpre
      refine .inl ⟨wanted_yes (g := 52) (t := 74) (b := true) rfl rfl (by rw [ha]; exact eval_puts_in (i := 52) rfl (by simp [hpre]) (by simp) (HD y)), ?_⟩
      exact wp_move' (.tmp 4) (.inl rfl) (.int .i64 by_) (by rw [ha, eval_puts_out rfl]; rfl) ⟨y, _, rfl, rfl, jB, ja, jc, jb⟩
    · intro y L w' hL hpre hJ a ha
      obtain ⟨jB, ja, jc, jb⟩ := hJ
      simp [Region.binds] at hpre
      refine .inl ⟨wanted_yes (g := 52) (t := 74) (b := true) rfl rfl (by rw [ha]; exact eval_puts_in (i := 52) rfl (by simp [hpre]) (by simp) (HD y)), ?_⟩
      have e78 : a.eval (.tmp 78) = .int .u32 x := by rw [ha]; exact eval_puts_in (i := 56) rfl (by simp [hpre]) (by simp) (HD y)
      have e79 : a.eval (.tmp 79) = .int .i64 by_ := by rw [ha]; exact eval_puts_in (i := 57) rfl (by simp [hpre]) (by simp) (HD y)
      clear ha
      have jB' := Lib.hid jB
      have ja' := Lib.hid ja
      have jc' := Lib.hid jc
      have jb' := Lib.hid jb
      clear jB ja jc jb
      refine wp_intro fun K HK => ?_
      unfold Oper.wp
      simp only [execOp, resolve, List.map_toArray, List.map_cons, List.map_nil, e78, e79]
      go_simp
      refine (HRT.out w').mono ?_
      rintro e w'' ⟨rfl, hb⟩
      exact HK.out _ _ ⟨y, _, rfl, rfl, blk_below jB'.out hb, (own_lift ja'.out hb), (own_lift jc'.out hb), jb'.out.trans (hb.mono jb'.out.size)⟩
    · intro y L w' hL hpre hJ a ha
      obtain ⟨jB, ja, jc, jb⟩ := hJ
      simp [Region.binds] at hpre
      refine .inl ⟨wanted_yes (g := 52) (t := 74) (b := true) rfl rfl (by rw [ha]; exact eval_puts_in (i := 52) rfl (by simp [hpre]) (by simp) (HD y)), ?_⟩
      have e77 : a.eval (.tmp 77) = .int .u32 T := by rw [ha]; exact eval_puts_in (i := 55) rfl (by simp [hpre]) (by simp) (HD y)
      have e80 : a.eval (.tmp 80) = .int .u32 T := by rw [ha]; exact eval_puts_in (i := 58) rfl (by simp [hpre]) (by simp) (HD y)
      clear ha
      have jB' := Lib.hid jB
      have ja' := Lib.hid ja
      have jc' := Lib.hid jc
      have jb' := Lib.hid jb
      clear jB ja jc jb
      refine wp_intro fun K HK => ?_
      unfold Oper.wp
      simp only [execOp, e77, e80]
      go_simp
      exact HK.out _ _ ⟨y, _, rfl, rfl, jB'.out, ja'.out, jc'.out, jb'.out⟩
    · intro y L w' hL hpre hJ a ha
      obtain ⟨jB, ja, jc, jb⟩ := hJ
      simp [Region.binds] at hpre
      refine .inl ⟨wanted_none rfl, ?_⟩
      have e74 : a.eval (.tmp 74) = .bool true := by rw [ha]; exact eval_puts_in (i := 52) rfl (by simp [hpre]) (by simp) (HD y)
      have e81 : a.eval (.tmp 81) = .bool true := by rw [ha]; exact eval_puts_in (i := 59) rfl (by simp [hpre]) (by simp) (HD y)
      clear ha
      have jB' := Lib.hid jB
      have ja' := Lib.hid ja
      have jc' := Lib.hid jc
      have jb' := Lib.hid jb
      clear jB ja jc jb
      refine wp_intro fun K HK => ?_
      unfold Oper.wp
      simp only [execOp, e74, e81]
      go_simp
      exact HK.out _ _ ⟨y, _, rfl, rfl, jB'.out, ja'.out, jc'.out, jb'.out⟩
    · intro y L w' hL hpre hJ a ha
      obtain ⟨jB, ja, jc, jb⟩ := hJ
      simp [Region.binds] at hpre
      refine .inl ⟨wanted_none rfl, ?_⟩
      exact wp_move' (.tmp 82) (.inl rfl) (.bool true) (by rw [ha]; exact eval_puts_in (i := 60) rfl (by simp [hpre]) (by simp) (HD y)) ⟨y, _, rfl, rfl, jB, ja, jc, jb⟩
    · intro y L w' hL hpre hJ a ha
      obtain ⟨jB, ja, jc, jb⟩ := hJ
      simp [Region.binds] at hpre
      refine .inl ⟨wanted_yes (g := 61) (t := 83) (b := true) rfl rfl (by rw [ha]; exact eval_puts_in (i := 61) rfl (by simp [hpre]) (by simp) (HD y)), ?_⟩
      exact wp_load_mid 26 (.tmp 13) rfl g 0 (by rw [ha, eval_puts_out rfl]; rfl) ([.int .u8 (y0 : Int), .int .u8 (y1 : Int), .int .u8 (y2 : Int), .int .u8 (y3 : Int), .int .u8 (y4 : Int), .int .u8 (y5 : Int), .int .u8 (y6 : Int), .int .u8 (y7 : Int)]) _ (range_blk jB) Try.underlying26 rfl hI8 ⟨y, _, rfl, rfl, jB, ja, jc, jb⟩
    · intro y L w' hL hpre hJ a ha
      obtain ⟨jB, ja, jc, jb⟩ := hJ
      simp [Region.binds] at hpre
      refine .inl ⟨wanted_yes (g := 61) (t := 83) (b := true) rfl rfl (by rw [ha]; exact eval_puts_in (i := 61) rfl (by simp [hpre]) (by simp) (HD y)), ?_⟩
      have e84 : a.eval (.tmp 84) = .agg ([.int .u8 (y0 : Int), .int .u8 (y1 : Int), .int .u8 (y2 : Int), .int .u8 (y3 : Int), .int .u8 (y4 : Int), .int .u8 (y5 : Int), .int .u8 (y6 : Int), .int .u8 (y7 : Int)]).toArray := by rw [ha]; exact eval_puts_in (i := 62) rfl (by simp [hpre]) (by simp) (HD y)
      clear ha
      have jB' := Lib.hid jB
      have ja' := Lib.hid ja
      have jc' := Lib.hid jc
      have jb' := Lib.hid jb
      clear jB ja jc jb
      refine wp_intro fun K HK => ?_
      unfold Oper.wp
      simp only [execOp, resolve, List.map_toArray, List.map_cons, List.map_nil, e84]
      go_simp
      refine (HO.out w').mono ?_
      rintro e w'' ⟨rfl, hb⟩
      exact HK.out _ _ ⟨y, _, rfl, rfl, blk_below jB'.out hb, (own_lift ja'.out hb), (own_lift jc'.out hb), jb'.out.trans (hb.mono jb'.out.size)⟩
    · intro y L w' hL hpre hJ a ha
      obtain ⟨jB, ja, jc, jb⟩ := hJ
      simp [Region.binds] at hpre
      refine .inl ⟨wanted_yes (g := 61) (t := 83) (b := true) rfl rfl (by rw [ha]; exact eval_puts_in (i := 61) rfl (by simp [hpre]) (by simp) (HD y)), ?_⟩
      exact wp_move' (.tmp 0) (.inl rfl) (.int .i64 n) (by rw [ha, eval_puts_out rfl]; rfl) ⟨y, _, rfl, rfl, jB, ja, jc, jb⟩
    · intro y L w' hL hpre hJ a ha
      obtain ⟨jB, ja, jc, jb⟩ := hJ
      simp [Region.binds] at hpre
      refine .inl ⟨wanted_yes (g := 61) (t := 83) (b := true) rfl rfl (by rw [ha]; exact eval_puts_in (i := 61) rfl (by simp [hpre]) (by simp) (HD y)), ?_⟩
      have e85 : a.eval (.tmp 85) = .int .i64 n := by rw [ha]; exact eval_puts_in (i := 63) rfl (by simp [hpre]) (by simp) (HD y)
      have e86 : a.eval (.tmp 86) = .int .i64 n := by rw [ha]; exact eval_puts_in (i := 64) rfl (by simp [hpre]) (by simp) (HD y)
      clear ha
      have jB' := Lib.hid jB
      have ja' := Lib.hid ja
      have jc' := Lib.hid jc
      have jb' := Lib.hid jb
      clear jB ja jc jb
      refine wp_intro fun K HK => ?_
      unfold Oper.wp
      simp only [execOp, e85, e86]
      go_simp
      exact HK.out _ _ ⟨y, _, rfl, rfl, jB'.out, ja'.out, jc'.out, jb'.out⟩
    · intro y L w' hL hpre hJ a ha
      obtain ⟨jB, ja, jc, jb⟩ := hJ
      simp [Region.binds] at hpre
      refine .inl ⟨wanted_none rfl, ?_⟩
      have e83 : a.eval (.tmp 83) = .bool true := by rw [ha]; exact eval_puts_in (i := 61) rfl (by simp [hpre]) (by simp) (HD y)
      have e87 : a.eval (.tmp 87) = .bool true := by rw [ha]; exact eval_puts_in (i := 65) rfl (by simp [hpre]) (by simp) (HD y)
      clear ha
      have jB' := Lib.hid jB
      have ja' := Lib.hid ja
      have jc' := Lib.hid jc
      have jb' := Lib.hid jb
      clear jB ja jc jb
      refine wp_intro fun K HK => ?_
      unfold Oper.wp
      simp only [execOp, e83, e87]
      go_simp
      exact HK.out _ _ ⟨y, _, rfl, rfl, jB'.out, ja'.out, jc'.out, jb'.out⟩
    · intro y L w' hL hpre hJ a ha
      obtain ⟨jB, ja, jc, jb⟩ := hJ
      simp [Region.binds] at hpre
      refine .inl ⟨wanted_none rfl, ?_⟩
      exact wp_move' (.tmp 88) (.inl rfl) (.bool true) (by rw [ha]; exact eval_puts_in (i := 66) rfl (by simp [hpre]) (by simp) (HD y)) ⟨y, _, rfl, rfl, jB, ja, jc, jb⟩
    · intro y L w' hL hpre hJ a ha
      obtain ⟨jB, ja, jc, jb⟩ := hJ
      simp [Region.binds] at hpre
      refine .inl ⟨wanted_yes (g := 67) (t := 89) (b := true) rfl rfl (by rw [ha]; exact eval_puts_in (i := 67) rfl (by simp [hpre]) (by simp) (HD y)), ?_⟩
      have e13 : a.eval (.tmp 13) = .pointer (some ⟨g, 0, none⟩) := by rw [ha, eval_puts_out rfl]; rfl
      clear ha
      have jB' := Lib.hid jB
      have ja' := Lib.hid ja
      have jc' := Lib.hid jc
      have jb' := Lib.hid jb
      clear jB ja jc jb
      refine wp_intro fun K HK => ?_
      unfold Oper.wp
      simp only [execOp, e13]
      go_simp
      exact HK.out _ _ ⟨y, _, rfl, rfl, jB'.out, ja'.out, jc'.out, jb'.out⟩
    · intro y L w' hL hpre hJ a ha
      obtain ⟨jB, ja, jc, jb⟩ := hJ
      simp [Region.binds] at hpre
      refine .inl ⟨wanted_yes (g := 67) (t := 89) (b := true) rfl rfl (by rw [ha]; exact eval_puts_in (i := 67) rfl (by simp [hpre]) (by simp) (HD y)), ?_⟩
      have e90 : a.eval (.tmp 90) = .slice (some ⟨g, 0, none⟩) 8 8 := by rw [ha]; exact eval_puts_in (i := 68) rfl (by simp [hpre]) (by simp) (HD y)
      clear ha
      have hcv : (convert 34 9 (.slice (some ⟨g, 0, none⟩) 8 8)).run Try.prog w' = .ok (.string str) w' := by rw [← HS.out]; exact run_str _ _ _ _ _ _ (rd8 jB)
      have jB' := Lib.hid jB
      have ja' := Lib.hid ja
      have jc' := Lib.hid jc
      have jb' := Lib.hid jb
      clear jB ja jc jb
      refine wp_intro fun K HK => ?_
      unfold Oper.wp
      simp only [execOp, e90]
      go_simp
      exact HK.out _ _ ⟨y, _, rfl, rfl, jB'.out, ja'.out, jc'.out, jb'.out⟩
    · intro y L w' hL hpre hJ a ha
      obtain ⟨jB, ja, jc, jb⟩ := hJ
      simp [Region.binds] at hpre
      refine .inl ⟨wanted_yes (g := 67) (t := 89) (b := true) rfl rfl (by rw [ha]; exact eval_puts_in (i := 67) rfl (by simp [hpre]) (by simp) (HD y)), ?_⟩
      exact wp_move' (.tmp 0) (.inl rfl) (.int .i64 n) (by rw [ha, eval_puts_out rfl]; rfl) ⟨y, _, rfl, rfl, jB, ja, jc, jb⟩
    · intro y L w' hL hpre hJ a ha
      obtain ⟨jB, ja, jc, jb⟩ := hJ
      simp [Region.binds] at hpre
      refine .inl ⟨wanted_yes (g := 67) (t := 89) (b := true) rfl rfl (by rw [ha]; exact eval_puts_in (i := 67) rfl (by simp [hpre]) (by simp) (HD y)), ?_⟩
      have e92 : a.eval (.tmp 92) = .int .i64 n := by rw [ha]; exact eval_puts_in (i := 70) rfl (by simp [hpre]) (by simp) (HD y)
      clear ha
      have hu := HU.out
      have jB' := Lib.hid jB
      have ja' := Lib.hid ja
      have jc' := Lib.hid jc
      have jb' := Lib.hid jb
      clear jB ja jc jb
      refine wp_intro fun K HK => ?_
      unfold Oper.wp
      simp only [execOp, e92]
      go_simp
      exact HK.out _ _ ⟨y, _, rfl, rfl, jB'.out, ja'.out, jc'.out, jb'.out⟩
    · intro y L w' hL hpre hJ a ha
      obtain ⟨jB, ja, jc, jb⟩ := hJ
      simp [Region.binds] at hpre
      refine .inl ⟨wanted_yes (g := 67) (t := 89) (b := true) rfl rfl (by rw [ha]; exact eval_puts_in (i := 67) rfl (by simp [hpre]) (by simp) (HD y)), ?_⟩
      have e93 : a.eval (.tmp 93) = .int .u64 (Un : Int) := by rw [ha]; exact eval_puts_in (i := 71) rfl (by simp [hpre]) (by simp) (HD y)
      have jB' := Lib.hid jB
      have ja' := Lib.hid ja
      have jc' := Lib.hid jc
      have jb' := Lib.hid jb
      clear jB ja jc jb ha
      refine wp_intro fun K HK => ?_
      unfold Oper.wp
      simp only [execOp, resolve, List.map_toArray, List.map_cons, List.map_nil, e93]
      go_simp
      refine (bits_any (Un : Int) 64 _ (Int.natCast_nonneg _) HUc.out (by decide) (by decide)).mono ?_
      rw [Int.toNat_natCast, show (64 : Int).toNat = 64 from rfl, HBi.out]
      rintro e w'' ⟨v2, rfl, hown, hb⟩
      exact HK.out _ _ ⟨(v2, y.2), _, rfl, rfl, blk_below jB'.out hb, fun _ => ⟨_, hown⟩, own_lift jc'.out hb, jb'.out.trans (hb.mono jb'.out.size)⟩
    · intro y L w' hL hpre hJ a ha
      obtain ⟨jB, ja, jc, jb⟩ := hJ
      simp [Region.binds] at hpre
      refine .inl ⟨wanted_yes (g := 67) (t := 89) (b := true) rfl rfl (by rw [ha]; exact eval_puts_in (i := 67) rfl (by simp [hpre]) (by simp) (HD y)), ?_⟩
      have e94 : a.eval (.tmp 94) = y.1 := by rw [ha]; exact eval_puts_in (i := 72) rfl (by simp [hpre]) (by simp) (HD y)
      have h72 : L 72 = true := by simp [hpre]
      obtain ⟨B', hw⟩ := ja h72
      obtain ⟨A2, c2, e2, -, -⟩ := own_slice hw
      rw [e2] at e94 hw
      have jB' := Lib.hid jB
      have ja' := Lib.hid ja
      have jc' := Lib.hid jc
      have jb' := Lib.hid jb
      have HWw := Lib.hid hw
      clear jB ja jc jb ha hw
      refine wp_intro fun K HK => ?_
      unfold Oper.wp
      simp only [execOp, resolve, List.map_toArray, List.map_cons, List.map_nil, e94]
      go_simp
      refine (bytes_any A2 64 c2 _ _ _ (Rd.of_own HWw.out) (Nat.le_refl _) (by decide)).mono ?_
      rw [HBy.out]
      rintro e w'' ⟨v5, rfl, hown, hb⟩
      exact HK.out _ _ ⟨(y.1, v5), _, rfl, rfl, blk_below jB'.out hb, own_lift ja'.out hb, fun _ => ⟨_, hown⟩, jb'.out.trans (hb.mono jb'.out.size)⟩
    · intro y L w' hL hpre hJ a ha
      obtain ⟨jB, ja, jc, jb⟩ := hJ
      simp [Region.binds] at hpre
      refine .inl ⟨wanted_yes (g := 67) (t := 89) (b := true) rfl rfl (by rw [ha]; exact eval_puts_in (i := 67) rfl (by simp [hpre]) (by simp) (HD y)), ?_⟩
      have e95 : a.eval (.tmp 95) = y.2 := by rw [ha]; exact eval_puts_in (i := 73) rfl (by simp [hpre]) (by simp) (HD y)
      clear ha
      have h73 : L 73 = true := by simp [hpre]
      obtain ⟨B', hw⟩ := jc h73
      obtain ⟨A5, c5, e5, -, -⟩ := own_slice hw
      rw [e5] at e95 hw
      have hcv := run_str A5 8 c5 _ _ _ (Rd.of_own hw)
      rw [HS.out] at hcv
      clear hw h73
      have jB' := Lib.hid jB
      have ja' := Lib.hid ja
      have jc' := Lib.hid jc
      have jb' := Lib.hid jb
      clear jB ja jc jb
      refine wp_intro fun K HK => ?_
      unfold Oper.wp
      simp only [execOp, e95]
      go_simp
      exact HK.out _ _ ⟨y, _, rfl, rfl, jB'.out, ja'.out, jc'.out, jb'.out⟩
    · intro y L w' hL hpre hJ a ha
      obtain ⟨jB, ja, jc, jb⟩ := hJ
      simp [Region.binds] at hpre
      refine .inl ⟨wanted_yes (g := 67) (t := 89) (b := true) rfl rfl (by rw [ha]; exact eval_puts_in (i := 67) rfl (by simp [hpre]) (by simp) (HD y)), ?_⟩
      have e91 : a.eval (.tmp 91) = .string str := by rw [ha]; exact eval_puts_in (i := 69) rfl (by simp [hpre]) (by simp) (HD y)
      have e96 : a.eval (.tmp 96) = .string str := by rw [ha]; exact eval_puts_in (i := 74) rfl (by simp [hpre]) (by simp) (HD y)
      clear ha
      have jB' := Lib.hid jB
      have ja' := Lib.hid ja
      have jc' := Lib.hid jc
      have jb' := Lib.hid jb
      clear jB ja jc jb
      refine wp_intro fun K HK => ?_
      unfold Oper.wp
      simp only [execOp, e91, e96]
      go_simp
      exact HK.out _ _ ⟨y, _, rfl, rfl, jB'.out, ja'.out, jc'.out, jb'.out⟩
    · intro y L w' hL hpre hJ a ha
      obtain ⟨jB, ja, jc, jb⟩ := hJ
      simp [Region.binds] at hpre
      refine .inl ⟨wanted_none rfl, ?_⟩
      have e89 : a.eval (.tmp 89) = .bool true := by rw [ha]; exact eval_puts_in (i := 67) rfl (by simp [hpre]) (by simp) (HD y)
      have e97 : a.eval (.tmp 97) = .bool true := by rw [ha]; exact eval_puts_in (i := 75) rfl (by simp [hpre]) (by simp) (HD y)
      clear ha
      have jB' := Lib.hid jB
      have ja' := Lib.hid ja
      have jc' := Lib.hid jc
      have jb' := Lib.hid jb
      clear jB ja jc jb
      refine wp_intro fun K HK => ?_
      unfold Oper.wp
      simp only [execOp, e89, e97]
      go_simp
      exact HK.out _ _ ⟨y, _, rfl, rfl, jB'.out, ja'.out, jc'.out, jb'.out⟩
    · intro y L w' hL hpre hJ a ha
      obtain ⟨jB, ja, jc, jb⟩ := hJ
      simp [Region.binds] at hpre
      refine .inl ⟨wanted_none rfl, ?_⟩
      exact wp_move' (.tmp 98) (.inr rfl) (.bool true) (by rw [ha]; exact eval_puts_in (i := 76) rfl (by simp [hpre]) (by simp) (HD y)) ⟨y, _, rfl, rfl, jB, ja, jc, jb⟩
  · intro y L w' hL hJ
    obtain ⟨jB, ja, jc, jb⟩ := hJ
    clear hL
    simp only [List.foldl_cons, List.foldl_nil]
    go_simp
    go_wp2_with fail
    go_ret
    exact ⟨rfl, jb⟩
theorem walk (n u x k by_ : Int) (w : World) (w0 : (Lit.int .i64 n).wf = true) (w1 : (Lit.int .u64 u).wf = true) (w2 : (Lit.int .u32 x).wf = true) (w3 : (Lit.int .i64 k).wf = true) (w4 : (Lit.int .i64 by_).wf = true) :
    Calls Try.prog 3 #[.int .i64 n, .int .u64 u, .int .u32 x, .int .i64 k, .int .i64 by_] w fun e w' => e = .returned (.bool true) ∧ Below w.heap.size w w' := by
  obtain ⟨n1, n2⟩ := wf_i64 w0
  obtain ⟨u1, u2⟩ := wf_u64 w1
  have hx := wf_u32 w2
  obtain ⟨z1, z2⟩ := zigI_bd n n1 n2
  obtain ⟨g1, g2⟩ := zagI_bd u u1 u2
  have y : ∀ i, ∃ Y : Nat, byteI n i = (Y : Int) ∧ Y < 256 := fun i => by
    have := byteI_bd n i
    obtain ⟨Y, hY⟩ := Int.eq_ofNat_of_zero_le this.1
    exact ⟨Y, hY, by omega⟩
  obtain ⟨y0, e0, b0⟩ := y 0
  obtain ⟨y1, e1, b1⟩ := y 1
  obtain ⟨y2, e2, b2⟩ := y 2
  obtain ⟨y3, e3, b3⟩ := y 3
  obtain ⟨y4, e4, b4⟩ := y 4
  obtain ⟨y5, e5, b5⟩ := y 5
  obtain ⟨y6, e6, b6⟩ := y 6
  obtain ⟨y7, e7, b7⟩ := y 7
  have hof := of8_byte n n1 n2
  rw [e0, e1, e2, e3, e4, e5, e6, e7] at hof
  have hu := of8_u64 y0 y1 y2 y3 y4 y5 y6 y7 b0 b1 b2 b3 b4 b5 b6 b7
  rw [hof] at hu
  have hlen : (ofN [y0, y1, y2, y3, y4, y5, y6, y7]).length = 64 := by rw [ofN_len8]; rfl
  have hb : ∀ x ∈ [y0, y1, y2, y3, y4, y5, y6, y7], x < 256 := by
    intro x hx
    simp at hx
    omega
  refine walk_in n u x k by_ (zigI n) (zagI u) _ _ _ y0 y1 y2 y3 y4 y5 y6 y7 (numN (ofN [y0, y1, y2, y3, y4, y5, y6, y7])) _ w ?_ (fun w => zig_any n w n1 n2) ?_ (fun w => refzig_any n w n1 n2) (fun w => zag_any u w u1 u2) ?_ (fun w => refzag_any u w u1 u2) rfl rfl rfl hx ?_ hu ?_ ?_ (bytesN_ofN _ hb) hlen rfl
  · show _ = _
    unfold bytesV
    rw [e0, e1, e2, e3, e4, e5, e6, e7]
  · intro w
    have := zig_any (zagI u) w g1 g2
    rw [zig_zag u u1] at this
    exact this
  · intro w
    have := zag_any (zigI n) w z1 z2
    rw [zag_zig n] at this
    exact this
  · intro w
    have := of8_any y0 y1 y2 y3 y4 y5 y6 y7 w (by omega) (by omega) (by omega) (by omega) (by omega) (by omega) (by omega) (by omega)
    rw [hof] at this
    exact this
  · have := numN_lt (ofN [y0, y1, y2, y3, y4, y5, y6, y7])
    rw [hlen] at this
    exact this
  · have := bitsL_numN (ofN [y0, y1, y2, y3, y4, y5, y6, y7])
    rw [hlen] at this
    exact this
end Go.Proofs.Ytajjmlbhagiicaa.zigAll
