import Derived.Test.YtpbigfopmompfaaGreatBunI
import Derived.Test.YtpbigfopmompfaaGreatTwins
import Derived.Test.YtpbigfopmompfaaGreatBunE
/- Stage 5's begun. -/
namespace Go.Proofs.YtpbigfopmompfaaGreat.begun5
open Go.RowKit
open Go.Proofs.YtpbigfopmompfaaGreat.pg (wfP pgs idxs twinsK)
set_option linter.unusedVariables false
def a1 : Ad := ⟨1, 2, 3⟩
def a2 : Ad := ⟨0, 9, 9⟩
def sx : Value := .string ⟨#[120]⟩
def sy : Value := .string ⟨#[121]⟩
def f2 : List (Ad × Value) := putF (putF [] a1 sx) a2 sy
def P1 : List Nat := 1 :: List.replicate 31 0
def P2 : List Nat := 2 :: List.replicate 31 0
def PL : List (List Nat) := [P1, P2, P1]
theorem wf1 : a1.wf := ⟨rfl, rfl, rfl⟩
theorem wf2 : a2.wf := ⟨rfl, rfl, rfl⟩
theorem look1 : lookF f2 a1 (.string ⟨#[]⟩) = .string ⟨#[120]⟩ := rfl
theorem has1 : hasF f2 a1 = true := by decide
theorem has2 : hasF f2 a2 = true := by decide
theorem has3 : hasF (delF f2 a2) a2 = false := by decide
theorem len2 : f2.length = 2 := rfl
theorem keys2 : f2.map (·.1) = [a2, a1] := rfl
theorem sort2 : sortA [a2, a1] = [a2, a1] := by
 unfold sortA
 refine List.mergeSort_of_pairwise ?_
 simp [lt_ord, lessA, a1, a2]
theorem keep2 : keepL 1 2 [a2, a1] = [a1] := by decide
theorem wfPL : ∀ p ∈ PL, wfP p := by
 intro p hp
 simp [PL] at hp
 rcases hp with rfl | rfl | rfl <;> exact ⟨rfl, by decide⟩
theorem twins3 : twinsK PL PL.length = [P1] := by decide +kernel
theorem idx1 : idxs PL P1 PL.length = [0, 2] := by decide +kernel
theorem built_a1 : Tryz.prog.built 85 [(0, .int .i64 1), (1, .int .i64 2), (2, .int .i64 3)] = some a1.v.toArray := by kernel_rfl
theorem built_a2 : Tryz.prog.built 85 [(0, .int .i64 0), (1, .int .i64 9), (2, .int .i64 9)] = some a2.v.toArray := by kernel_rfl
theorem built_p1 : Tryz.prog.built 90 [(0, .int .u8 1)] = some (nats .u8 P1).toArray := by kernel_rfl
theorem built_p2 : Tryz.prog.built 90 [(0, .int .u8 2)] = some (nats .u8 P2).toArray := by kernel_rfl
theorem three_p (w : World) : (Instr.buildSlice 213 3 #[(0, .agg (nats .u8 P1).toArray), (1, .agg (nats .u8 P2).toArray), (2, .agg (nats .u8 P1).toArray)]).run Tryz.prog w = .ok (.slice (some ⟨w.heap.size, 0, none⟩) 3 3) (w.alloc (.cells (pgs PL).flatten.toArray 90)) := by kernel_rfl
theorem rds_blk {w : World} {g C : Nat} {rows : List (List Value)} {t : TypeId} {fr : Nat × Nat} (h : w.heap[g]? = some (.cells rows.flatten.toArray t fr)) (hC : ∀ r ∈ rows, r.length = C) : Rds w w.heap.size (some ⟨g, 0, none⟩) C rows.length rows := by
 refine ⟨rfl, hC, fun _ => ⟨g, 0, rfl, zag h, fun i r j u h1 h2 => ?_⟩⟩
 have hj : j < C := by
  have := (List.getElem?_eq_some_iff.1 h2).1; rw [hC r (List.mem_of_getElem? h1)] at this; exact this
 have := zal h (i * C + j) u (by rw [zbd hC h1 hj]; exact h2)
 simpa using this
theorem range_pre {w : World} {b i : Nat} {a c : List Value} (h : w.rangeAt b i [a, c].flatten) : w.rangeAt b i a := fun j v hv => h j v (by
 have := (List.getElem?_eq_some_iff.1 hv).1
 rw [List.flatten_cons, List.getElem?_append_left this]; exact hv)
theorem cell1 {w : World} {base n c g j : Nat} {e : TypeId} {xs : List Value} {v : Value} (h : w.ownsRow base e 1 (.slice (some ⟨g, 0, none⟩) n c) n xs) (hj : xs[j]? = some v) : w.cell? ⟨g, j, none⟩ = some v := by
 have h0 := h.2
 rcases h0 with ⟨h0, -⟩ | ⟨g', cap, cur, hv, hb, hh, h1, h2, h3, h4⟩
 · cases h0
 · cases hv
   rw [zaf hh]; have hx : xs = List.take (n * 1) cur.toList := by exact (by simpa using h4.symm)
   have hjn : j < n * 1 := by
    have := (List.getElem?_eq_some_iff.1 hj).1; rw [hx, List.length_take] at this; omega
   rw [hx, List.getElem?_take_of_lt hjn] at hj; simpa using hj
theorem lt_cell {w : World} {p : Addr} {v : Value} (h : w.cell? p = some v) : p.block < w.heap.size := World.block_lt_of_cell? w p h
theorem grown_cell {w w' : World} {b : Nat} (hg : w.grownBy w' (some b)) {p : Addr} (hp : p.block < w.heap.size) (hne : p.block ≠ b) : w'.cell? p = w.cell? p :=
 World.cell?_of_block (hg.block _ hp (fun e => hne (Option.some.inj e)))
theorem pgs32 : ∀ r ∈ pgs PL, r.length = 32 := by decide
theorem three_q : ∃ q1 q2 l3 : List Value, Tryz.prog.built 90 [(0, .int .u8 1)] = some q1.toArray ∧ Tryz.prog.built 90 [(0, .int .u8 2)] = some q2.toArray ∧
 (∀ w, (Instr.buildSlice 213 3 #[(0, .agg q1.toArray), (1, .agg q2.toArray), (2, .agg q1.toArray)]).run Tryz.prog w = .ok (.slice (some ⟨w.heap.size, 0, none⟩) 3 3) (w.alloc (.cells l3.toArray 90))) ∧ l3 = (pgs PL).flatten :=
 ⟨nats .u8 P1, nats .u8 P2, _, built_p1, built_p2, three_p, rfl⟩
theorem wpList_build3 {P : Program} {ops : Array Oper} {rest : List Oper} {o : Oper} {a : Act} {w : World} {Q : Exit → Act → World → Prop} (hgd : o.guard = none) (t : TypeId) (x y z : Operand) (ho : o.op = .buildSlice t 3 #[(0, x), (1, y), (2, z)]) (r1 r2 r3 : List Value)
 (hx : a.eval x = .agg r1.toArray) (hy : a.eval y = .agg r2.toArray) (hz : a.eval z = .agg r3.toArray) (v : World → Value) (l : List Value) (e : TypeId)
 (hrun : ∀ w, (Instr.buildSlice t 3 #[(0, .agg r1.toArray), (1, .agg r2.toArray), (2, .agg r3.toArray)]).run P w = .ok (v w) (w.alloc (.cells l.toArray e)))
 (h : wpList P ops Q rest (a.put o.dst (v w)) (w.alloc (.cells l.toArray e))) : wpList P ops Q (o :: rest) a w := by
 refine wpList_plain hgd fun K hK => ?_
 unfold Oper.wp execOp
 simp only [ho, Sem.run_bind, List.map_toArray, List.map_cons, List.map_nil, hx, hy, hz, hrun, Result.andThen_ok]
 exact hK _ _ h
set_option maxRecDepth 100000 in
set_option maxHeartbeats 8000000 in
theorem begun5_any (w : World) : Calls Tryz.prog 129 #[] w fun e w' => e = .returned (.bool true) ∧ Below w.heap.size w w' := by
 have hnn := spotStr.nonnil_eql
 go_enter Tryz.func129, Tryz.ntmps129
 go_wp2_with fail
 refine (spotStr.new _).mono ?_
 rintro e w1 ⟨rfl, hS1, hb1⟩
 go_wp2_with (first | (refine zao rfl 85 _ rfl _ rfl _ built_a1 ?_))
 refine (spotStr.set _ _ _ _ a1 sx _ hS1 wf1 (by omega) rfl).mono ?_
 rintro e w2 ⟨rfl, hS2, hg2⟩
 have hb2 := hb1.grown hg2 hb1.size (fun j hj => by cases hj; exact Nat.le_refl _)
 clear hS1 hg2 hb1
 go_wp2_with (first | (refine zao rfl 85 _ rfl _ rfl _ built_a2 ?_))
 refine (spotStr.set _ _ _ _ a2 sy _ hS2 wf2 (by omega) rfl).mono ?_
 rintro e w3 ⟨rfl, hS3, hg3⟩
 have hb3 := hb2.grown hg3 hb2.size (fun j hj => by cases hj; exact Nat.le_refl _)
 change Spot w3 _ _ _ _ f2 at hS3
 clear hS2 hg3 hb2
 go_wp2_with (first | (refine zao rfl 85 _ rfl _ rfl _ built_a1 ?_))
 refine (spotStr.get _ _ _ f2 a1 _ hS3 wf1).mono ?_
 rw [look1, has1]
 rintro e w4 ⟨rfl, hbb⟩
 have hS4 := hS3.below hbb
 have hb4 := hb3.trans (hbb.mono hb3.size)
 clear hS3 hbb hb3
 go_wp2_with fail
 refine (spotStr.all _ _ _ f2 _ hS4 (by omega)).mono ?_
 rw [keys2, sort2, len2]
 rintro e w5 ⟨v4, rfl, hown, hbb, -⟩
 have hS5 := hS4.below hbb
 have hb5 := hb4.trans (hbb.mono hb4.size)
 obtain ⟨g4, c4, rfl, hg4, -, hn4, hm4⟩ := za7 hown.1 (by decide)
 have hO5 := hown
 have hs4 := hb4.size
 clear hS4 hbb hb4 hown
 clear hnn
 have HF := Lib.hid (And.intro hS5 (And.intro hb5 hO5))
 clear hS5 hb5 hO5
 obtain ⟨q1, q2, l3, hq1, hq2, hq3, hl3⟩ := three_q
 go_wp2_with (first | (refine zao rfl 90 _ rfl [(0, .int .u8 1)] rfl q1 hq1 ?_) | (refine zao rfl 90 _ rfl [(0, .int .u8 2)] rfl q2 hq2 ?_) | (refine wpList_build3 rfl 213 _ _ _ rfl q1 q2 q1 rfl rfl rfl _ l3 _ hq3 ?_))
 clear hq1 hq2 hq3 hl3
 have H := HF.out
 clear HF
 obtain ⟨hS5, hb5, hO5⟩ := H
 change Calls _ _ _ (w5.alloc (.cells (pgs PL).flatten.toArray 90)) _
 have hnew := zak w5 (.cells (pgs PL).flatten.toArray 90) _ rfl
 have hbn := (Below.refl _ w5).alloc (Nat.le_refl _) (.cells (pgs PL).flatten.toArray 90)
 have hS6 := hS5.below hbn
 have hO6 := hO5.below hbn
 have hb6 := hb5.trans (hbn.mono hb5.size)
 clear hS5 hO5 hb5 hbn
 have hr6 := rds_blk hnew pgs32
 generalize w5.alloc (.cells (pgs PL).flatten.toArray 90) = w6 at *
 refine (pg.twins_any _ 3 3 _ PL w6 hr6 (Nat.le_refl _) wfPL (by decide)).mono ?_
 rw [twins3]
 rintro e w7 ⟨v7, f7, rfl, hown7, hin7, hbb⟩
 have hin := hin7 P1
 rw [idx1] at hin
 have hS7 := hS6.below hbb
 have hO7 := hO6.below hbb
 have hs6 := hb6.size
 have hb7 := hb6.trans (hbb.mono hb6.size)
 clear hS6 hO6 hb6 hbb hin7 hr6 hnew
 obtain ⟨gt, ct, rfl, hgt, -, hnt, hmt⟩ := za7 hown7 (by decide)
 simp only [List.map_cons, List.map_nil] at hown7
 generalize pg.lookF f7 P1 (.slice none 0 0) = vi at hin hown7
 obtain ⟨gi, ci, rfl, hgi, -, hni, hmi⟩ := za7 hin (by decide)
 have hct := cell1 hown7 (j := 0) rfl
 have hci := cell1 hin (j := 1) rfl
 clear hown7 hin
 have hr7 := hO7.rds
 have hc7 := range_pre (a := a2.v) (c := a1.v) hr7.cells
 have hcell7 : w7.cell? ⟨g4, 0, none⟩ = some (.int .i64 0) := hc7 0 _ rfl
 go_wp2_with fail
 refine (spotStr.len _ _ _ f2 w7 hS7).mono ?_
 rw [len2]
 rintro e w8 ⟨rfl, rfl⟩
 go_wp2_with fail
 refine (spotStr.block _ _ _ f2 1 2 w7 hS7 (by omega)).mono ?_
 rw [keys2, sort2, keep2]
 rintro e w8 ⟨A8, c8, rfl, -, hbb⟩
 have hS8 := hS7.below hbb
 have hO8 := hO7.below hbb
 have hb8 := hb7.trans (hbb.mono hb7.size)
 have hct8 := (hbb.cell (p := ⟨gt, 0, none⟩) (lt_cell hct)).trans hct
 have hci8 := (hbb.cell (p := ⟨gi, 1, none⟩) (lt_cell hci)).trans hci
 clear hS7 hO7 hb7 hct hci hr7 hc7 hcell7 hbb
 have hr8 := hO8.rds
 have hc8 := range_pre (a := a2.v) (c := a1.v) hr8.cells
 go_wp2_with (first | (refine zat 85 (.tmp 59) rfl g4 0 rfl rfl a2.v _ hc8 Tryz.underlying85 rfl zbx ?_))
 refine (spotStr.drop _ _ _ f2 a2 w8 hS8 wf2).mono ?_
 rw [has2]
 rintro e w9 ⟨rfl, hS9, hg9⟩
 have hlt8 := hS8.lt
 have hO9 := hO8.grown hg9 (fun k hk => by cases hk; exact hO8.ne5 (by have := hb8.size; omega))
 have hb9 := hb8.grown hg9 hb8.size (fun j hj => by cases hj; exact Nat.le_refl _)
 have hct9 := (grown_cell hg9 (p := ⟨gt, 0, none⟩) (lt_cell hct8) (by have := hb8.size; simp; omega)).trans hct8
 have hci9 := (grown_cell hg9 (p := ⟨gi, 1, none⟩) (lt_cell hci8) (by have := hb8.size; simp; omega)).trans hci8
 clear hS8 hO8 hb8 hct8 hci8 hr8 hc8 hg9
 have hr9 := hO9.rds
 have hc9 := range_pre (a := a2.v) (c := a1.v) hr9.cells
 go_wp2_with (first | (refine zat 85 (.tmp 66) rfl g4 0 rfl rfl a2.v _ hc9 Tryz.underlying85 rfl zbx ?_))
 refine (spotStr.drop _ _ _ _ a2 w9 hS9 wf2).mono ?_
 rw [has3]
 rintro e w10 ⟨rfl, hS10, hg10⟩
 have hb10 := hb9.grown hg10 hb9.size (fun j hj => by cases hj; exact Nat.le_refl _)
 have hct10 := (grown_cell hg10 (p := ⟨gt, 0, none⟩) (lt_cell hct9) (by have := hb9.size; simp; omega)).trans hct9
 have hci10 := (grown_cell hg10 (p := ⟨gi, 1, none⟩) (lt_cell hci9) (by have := hb9.size; simp; omega)).trans hci9
 clear hS9 hO9 hb9 hct9 hci9 hr9 hc9 hg10
 go_wp2_with fail
 go_ret
 exact ⟨rfl, hb10⟩
end Go.Proofs.YtpbigfopmompfaaGreat.begun5
