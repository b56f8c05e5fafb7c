import Derived.Test.YtpbigfopmompfaaGreatBunG
import Derived.Test.YtpbigfopmompfaaGreatBunE
import Derived.Test.YtpbigfopmompfaaGreatPageLaw
/- The contract of 'begun' of stage 9: it answers true. -/
namespace Go.Proofs.YtpbigfopmompfaaGreat
open Go.RowKit
theorem flatSh : flat Tryz.prog 6 153 = some (List.replicate 16 (Kd.int .u8) ++ [.int .i64, .int .i64, .int .i64, .int .i64, .int .i64, .int .i64, .int .i64]) := by kernel_rfl
theorem eqSh : eqOk Tryz.prog 6 153 = true := by kernel_rfl
theorem flatEn : flat Tryz.prog 6 29 = some ([.int .i64, .int .i64, .int .i64] ++ List.replicate 16 (Kd.int .u8)) := by kernel_rfl
theorem eqEn : eqOk Tryz.prog 6 29 = true := by kernel_rfl
def D1 : List Nat := [1, 2, 0, 0, 0, 0, 0, 0, 0, 0, 0, 0, 0, 0, 0, 0]
def A1 : List Value := shV D1 1 3 9 1 2 1 7
def B1 : Sh := ⟨zero16, 3, 0, 0, 1, 2, 1, 7⟩
def es1 : List En := [⟨3, 9, 1, D1⟩, ⟨0, 0, 3, zero16⟩]
def P1 : Sh := parSh es1 2 1 7
def Q1 : List Nat := pageN D1 1 3 9 1 2 1 7
theorem may_a1 : maySh D1 1 3 9 1 2 1 7 = true := by decide +kernel
theorem may_b1 : maySh zero16 3 0 0 1 2 1 7 = true := by decide +kernel
theorem par1 : parB es1 2 1 7 = true := by decide +kernel
theorem get0 : getB zero32 = false := by decide +kernel
theorem back1_ok : backB P1 [B1] = true := by decide +kernel
theorem back1_v : (backE P1 [B1]).v = enV 3 9 1 D1 := by kernel_rfl
theorem built_d1 : Tryz.prog.built 27 [(0, .int .u8 1), (1, .int .u8 2)] = some (nats .u8 D1).toArray := by kernel_rfl
theorem built_e1 : Tryz.prog.built 29 [(0, .int .i64 3), (1, .int .i64 9), (2, .int .i64 1), (3, .agg (nats .u8 D1).toArray)] = some (enV 3 9 1 D1).toArray := by kernel_rfl
theorem built_e2 : Tryz.prog.built 29 [(2, .int .i64 3)] = some (enV 0 0 3 zero16).toArray := by kernel_rfl
theorem own_a1 : ownV D1 1 3 9 2 1 7 = A1 := by unfold ownV; rw [may_a1]; rfl
theorem own_b1 : ownV zero16 3 0 0 2 1 7 = B1.v := by unfold ownV; rw [may_b1]; rfl
theorem two_e (w : World) : (Instr.buildSlice 157 2 #[(0, .agg (enV 3 9 1 D1).toArray), (1, .agg (enV 0 0 3 zero16).toArray)]).run Tryz.prog w = .ok (.slice (some ⟨w.heap.size, 0, none⟩) 2 2) (w.alloc (.cells (ens es1).flatten.toArray 29)) := by kernel_rfl
theorem rds_blk {w : World} {g C : Nat} {rows : List (List Value)} {t : TypeId} {fr : Nat × Nat} (h : w.heap[g]? = some (.cells rows.flatten.toArray t fr)) (hC : ∀ r ∈ rows, r.length = C) : Rds w w.heap.size (some ⟨g, 0, none⟩) C rows.length rows := by
 refine ⟨rfl, hC, fun _ => ⟨g, 0, rfl, zag h, fun i r j u h1 h2 => ?_⟩⟩
 have hj : j < C := by rw [← hC r (List.mem_of_getElem? h1)]; exact (List.getElem?_eq_some_iff.1 h2).1
 rw [zaf h, Nat.zero_add, List.getElem?_toArray, zbd hC h1 hj, h2]
theorem wpList_run_bs {P : Program} {ops : Array Oper} {rest : List Oper} {o : Oper} {a : Act} {w : World} {Q : Exit → Act → World → Prop} (hgd : o.guard = none) (t : TypeId) (len : Nat) (parts : Array (Nat × Operand)) (ho : o.op = .buildSlice t len parts) (ps : List (Nat × Value)) (hps : parts.toList.map (fun p => (p.1, a.eval p.2)) = ps)
 (v : Value) (w' : World) (hrun : (Instr.buildSlice t len ps.toArray).run P w = .ok v w') (h : wpList P ops Q rest (a.put o.dst v) w') : wpList P ops Q (o :: rest) a w := by
 refine wpList_plain hgd fun K hK => ?_
 have e : (parts.map fun (i, x) => (i, a.eval x)) = ps.toArray := by rw [← hps]; apply Array.toList_inj.1; simp
 unfold Oper.wp execOp
 simp only [ho, e, Sem.run_bind, hrun, Result.andThen_ok]
 exact hK _ _ h
theorem ens1_len : ∀ r ∈ ens es1, r.length = 19 := by
 intro r hr
 simp [ens, es1] at hr
 rcases hr with rfl | rfl <;> rfl
theorem es1_ok : ∀ x ∈ es1, x.ok := by
 intro x hx
 simp [es1] at hx
 rcases hx with rfl | rfl <;> exact ⟨rfl, by decide⟩
theorem par1_v : parV es1 2 1 7 = P1.v := by unfold parV; rw [par1]; rfl
theorem put_a1 : putP D1 1 3 9 1 2 1 7 = Q1 := by unfold putP; rw [may_a1]; rfl
theorem q1_len : Q1.length = 32 := pageN_length rfl _ _ _ _ _ _ _
theorem q1_lt : ∀ x ∈ Q1, x < 256 := pageN_lt (by decide) _ _ _ _ _ _ _
theorem get_b1 : getB Q1 = true := (get_page (d := D1) rfl (by decide) may_a1).1
theorem get_a1 : getV Q1 = A1 := by unfold getV; rw [get_b1]; exact (get_page (d := D1) rfl (by decide) may_a1).2
theorem get_e1 : getE Q1 = 0 := by unfold getE; rw [get_b1]; rfl
theorem built_p0 : Tryz.prog.built 90 [] = some (nats .u8 zero32).toArray := by kernel_rfl
theorem zeros32 : ∀ x ∈ zero32, x < 256 := by decide
theorem get_v0 : getV zero32 = zeroV := by unfold getV; rw [get0]; rfl
theorem get_e0 : getE zero32 = 1 := by unfold getE; rw [get0]; rfl
theorem p1_ok : P1.ok := ⟨zb2 (by decide +kernel), by decide +kernel⟩
theorem b1_ok : B1.ok := ⟨rfl, by decide⟩
theorem b1s_ok : ∀ x ∈ [B1], x.ok := by
 intro x hx
 rw [List.mem_singleton] at hx
 subst hx
 exact b1_ok
theorem back1_vv : backV P1 [B1] = enV 3 9 1 D1 := by unfold backV; rw [back1_ok]; exact back1_v
theorem of_r : roleI (metaN 2 5 77 : Int) = 2 := by decide +kernel
theorem of_l : lpnI (metaN 2 5 77 : Int) = 5 := by decide +kernel
theorem of_s : seqI (metaN 2 5 77 : Int) = 77 := by decide +kernel
theorem may_p1 : maySh P1.d P1.r P1.l P1.s P1.k P1.b P1.o P1.m = true := by decide +kernel
theorem may_z : maySh zero16 0 0 0 0 0 0 0 = false := by decide +kernel
theorem blank_q1 : blankB Q1 = false := by decide +kernel
theorem okA1 : okAll (List.replicate 16 (Kd.int .u8) ++ [.int .i64, .int .i64, .int .i64, .int .i64, .int .i64, .int .i64, .int .i64]) A1 = true := by decide +kernel
theorem okE1 : okAll ([.int .i64, .int .i64, .int .i64] ++ List.replicate 16 (Kd.int .u8)) (enV 3 9 1 D1) = true := by decide +kernel
theorem eql_a1 (w : World) : (binOp .eql 153 (.agg A1.toArray) (.agg A1.toArray)).run Tryz.prog w = .ok (.bool true) w := by
 rw [run_eql_flat w flatSh eqSh (by kernel_rfl) (by decide) okA1 okA1, lEq_self okA1]
theorem eql_e1 (w : World) : (binOp .eql 29 (.agg (enV 3 9 1 D1).toArray) (.agg (enV 3 9 1 D1).toArray)).run Tryz.prog w = .ok (.bool true) w := by
 rw [run_eql_flat w flatEn eqEn (by kernel_rfl) (by decide) okE1 okE1, lEq_self okE1]
theorem begun6_all (w : World) : Calls Tryz.prog 107 #[] w fun e w' => e = .returned (.bool true) ∧ Below w.heap.size w w' := by
 go_enter Tryz.func107, Tryz.ntmps107
 go_wp2_with fail
 refine (begun6_any _).mono ?_
 rintro e w' ⟨rfl, hb⟩
 go_wp2_with fail
 go_ret
 exact ⟨rfl, hb⟩
set_option maxRecDepth 100000 in
set_option maxHeartbeats 8000000 in
theorem begun9_any (w : World) : Calls Tryz.prog 89 #[] w fun e w' => e = .returned (.bool true) ∧ Below w.heap.size w w' := by
 have q1 := eql_a1
 have q2 := eql_e1
 have hb_w := Below.refl w.heap.size w
 go_enter Tryz.func89, Tryz.ntmps89
 go_wp2_with (first | (refine zao rfl 27 _ rfl _ rfl _ built_d1 ?_) | (refine zao rfl 29 _ rfl _ rfl _ built_e1 ?_) | (refine zao rfl 29 _ rfl _ rfl _ built_e2 ?_) | (refine zai rfl 29 (.tmp 1) (.tmp 21) rfl w.heap.size (enV 3 9 1 D1) rfl rfl 29 _ (zak w _ _ rfl) (zbv rfl _ _ _) rfl (one_enV _ _ _ _) ?_; intro w1 hUw1; have hE_w1 := hUw1.at_; have hb_w1 := hUw1.below (hb_w.alloc hb_w.size _) hb_w.size; clear hb_w  hUw1) | (refine zai rfl 29 (.tmp 2) (.tmp 22) rfl w1.heap.size (enV 0 0 3 zero16) rfl rfl 29 _ (zak w1 _ _ rfl) (zbv rfl _ _ _) rfl (one_enV _ _ _ _) ?_; intro w2 hUw2; have hF_w2 := hUw2.at_; have hE_w2 := hUw2.old (zam hE_w1 _) (show w.heap.size ≠ w1.heap.size by have := zag hE_w1; omega); have hb_w2 := hUw2.below (hb_w1.alloc hb_w1.size _) hb_w1.size; clear hb_w1 hE_w1 hUw2) | (refine wpList_load_mid rfl 29 (.tmp 1) rfl w.heap.size 0 rfl _ _ (zal hE_w2) Tryz.underlying29 rfl (zbv rfl _ _ _) ?_))
 refine (own_sherd 2 1 7 3 9 1 D1 _ rfl (by decide)).mono ?_
 rw [own_a1, may_a1]
 rintro e w3 ⟨rfl, hb⟩
 have hE_w3 := zad hE_w2 hb
 have hF_w3 := zad hF_w2 hb
 have hb_w3 := hb_w2.trans (hb.mono hb_w2.size)
 clear hb hb_w2 hE_w2 hF_w2
 go_wp2_with (first | (refine zai rfl 153 (.tmp 3) (.tmp 26) rfl w3.heap.size A1 rfl rfl 153 _ (zak w3 _ _ rfl) (za4 _ rfl _ _ _ _ _ _ _) rfl (zbb _ _ _ _ _ _ _ _) ?_; intro w4 hUw4; have hA_w4 := hUw4.at_; have hE_w4 := hUw4.old (zam hE_w3 _) (show w.heap.size ≠ w3.heap.size by have := zag hE_w3; omega); have hF_w4 := hUw4.old (zam hF_w3 _) (show w1.heap.size ≠ w3.heap.size by have := zag hF_w3; omega); have hb_w4 := hUw4.below (hb_w3.alloc hb_w3.size _) hb_w3.size; clear hb_w3 hE_w3 hF_w3 hUw4) | (refine wpList_load_mid rfl 29 (.tmp 2) rfl w1.heap.size 0 rfl _ _ (zal hF_w4) Tryz.underlying29 rfl (zbv rfl _ _ _) ?_))
 refine (own_sherd 2 1 7 0 0 3 zero16 _ rfl zeros16).mono ?_
 rw [own_b1, may_b1]
 rintro e w5 ⟨rfl, hb⟩
 have hE_w5 := zad hE_w4 hb
 have hF_w5 := zad hF_w4 hb
 have hA_w5 := zad hA_w4 hb
 have hb_w5 := hb_w4.trans (hb.mono hb_w4.size)
 clear hb hb_w4 hE_w4 hF_w4 hA_w4
 go_wp2_with (first | (refine zai rfl 153 (.tmp 5) (.tmp 31) rfl w5.heap.size B1.v rfl rfl 153 _ (zak w5 _ _ rfl) (za4 _ rfl _ _ _ _ _ _ _) rfl (zbb _ _ _ _ _ _ _ _) ?_; intro w6 hUw6; have hB_w6 := hUw6.at_; have hE_w6 := hUw6.old (zam hE_w5 _) (show w.heap.size ≠ w5.heap.size by have := zag hE_w5; omega); have hF_w6 := hUw6.old (zam hF_w5 _) (show w1.heap.size ≠ w5.heap.size by have := zag hF_w5; omega); have hA_w6 := hUw6.old (zam hA_w5 _) (show w3.heap.size ≠ w5.heap.size by have := zag hA_w5; omega); have hb_w6 := hUw6.below (hb_w5.alloc hb_w5.size _) hb_w5.size; clear hb_w5 hE_w5 hF_w5 hA_w5 hUw6) | (refine wpList_load_mid rfl 29 (.tmp 1) rfl w.heap.size 0 rfl _ _ (zal hE_w6) Tryz.underlying29 rfl (zbv rfl _ _ _) ?_) | (refine wpList_load_mid rfl 29 (.tmp 2) rfl w1.heap.size 0 rfl _ _ (zal hF_w6) Tryz.underlying29 rfl (zbv rfl _ _ _) ?_) | (refine wpList_run_bs rfl 157 2 _ rfl _ rfl _ _ (two_e _) ?_))
 have hE_w7 := zam hE_w6 (.cells (ens es1).flatten.toArray 29)
 have hF_w7 := zam hF_w6 (.cells (ens es1).flatten.toArray 29)
 have hA_w7 := zam hA_w6 (.cells (ens es1).flatten.toArray 29)
 have hB_w7 := zam hB_w6 (.cells (ens es1).flatten.toArray 29)
 have hb_w7 := hb_w6.alloc hb_w6.size (.cells (ens es1).flatten.toArray 29)
 have hnew := zak w6 (.cells (ens es1).flatten.toArray 29) _ rfl
 clear hb_w6 hE_w6 hF_w6 hA_w6 hB_w6
 generalize (w6.alloc (.cells (ens es1).flatten.toArray 29)) = w7 at *
 refine (parity_sh 2 1 7 es1 _ 2 2 _ _ (rds_blk hnew ens1_len) (Nat.le_refl _) es1_ok (by decide)).mono ?_
 rw [par1, par1_v]
 rintro e w8 ⟨rfl, hb⟩
 have hE_w8 := zad hE_w7 hb
 have hF_w8 := zad hF_w7 hb
 have hA_w8 := zad hA_w7 hb
 have hB_w8 := zad hB_w7 hb
 have hb_w8 := hb_w7.trans (hb.mono hb_w7.size)
 clear hb hb_w7 hE_w7 hF_w7 hA_w7 hB_w7
 clear hnew
 go_wp2_with (first | (refine zai rfl 153 (.tmp 7) (.tmp 38) rfl w8.heap.size P1.v rfl rfl 153 _ (zak w8 _ _ rfl) (za4 _ rfl _ _ _ _ _ _ _) rfl (zbb _ _ _ _ _ _ _ _) ?_; intro w9 hUw9; have hP_w9 := hUw9.at_; have hE_w9 := hUw9.old (zam hE_w8 _) (show w.heap.size ≠ w8.heap.size by have := zag hE_w8; omega); have hF_w9 := hUw9.old (zam hF_w8 _) (show w1.heap.size ≠ w8.heap.size by have := zag hF_w8; omega); have hA_w9 := hUw9.old (zam hA_w8 _) (show w3.heap.size ≠ w8.heap.size by have := zag hA_w8; omega); have hB_w9 := hUw9.old (zam hB_w8 _) (show w5.heap.size ≠ w8.heap.size by have := zag hB_w8; omega); have hb_w9 := hUw9.below (hb_w8.alloc hb_w8.size _) hb_w8.size; clear hb_w8 hE_w8 hF_w8 hA_w8 hB_w8 hUw9) | (refine wpList_load_mid rfl 153 (.tmp 3) rfl w3.heap.size 0 rfl _ _ (zal hA_w9) Tryz.underlying153 rfl (za4 _ rfl _ _ _ _ _ _ _) ?_))
 refine (put_sherd D1 1 3 9 1 2 1 7 _ rfl (by decide)).mono ?_
 rw [put_a1, may_a1]
 rintro e w10 ⟨rfl, hb⟩
 have hE_w10 := zad hE_w9 hb
 have hF_w10 := zad hF_w9 hb
 have hA_w10 := zad hA_w9 hb
 have hB_w10 := zad hB_w9 hb
 have hP_w10 := zad hP_w9 hb
 have hb_w10 := hb_w9.trans (hb.mono hb_w9.size)
 clear hb hb_w9 hE_w9 hF_w9 hA_w9 hB_w9 hP_w9
 go_wp2_with (first | (refine zai rfl 90 (.tmp 9) (.tmp 43) rfl w10.heap.size (nats .u8 Q1) rfl rfl 90 _ (zak w10 _ _ rfl) (zbe q1_len) (by rw [zaj, q1_len]; rfl) (za1 _ _) ?_; intro w11 hUw11; have hQ_w11 := hUw11.at_; have hE_w11 := hUw11.old (zam hE_w10 _) (show w.heap.size ≠ w10.heap.size by have := zag hE_w10; omega); have hF_w11 := hUw11.old (zam hF_w10 _) (show w1.heap.size ≠ w10.heap.size by have := zag hF_w10; omega); have hA_w11 := hUw11.old (zam hA_w10 _) (show w3.heap.size ≠ w10.heap.size by have := zag hA_w10; omega); have hB_w11 := hUw11.old (zam hB_w10 _) (show w5.heap.size ≠ w10.heap.size by have := zag hB_w10; omega); have hP_w11 := hUw11.old (zam hP_w10 _) (show w8.heap.size ≠ w10.heap.size by have := zag hP_w10; omega); have hb_w11 := hUw11.below (hb_w10.alloc hb_w10.size _) hb_w10.size; clear hb_w10 hE_w10 hF_w10 hA_w10 hB_w10 hP_w10 hUw11) | (refine wpList_load_mid rfl 90 (.tmp 9) rfl w10.heap.size 0 rfl _ _ (zal hQ_w11) Tryz.underlying90 rfl (zbe q1_len) ?_))
 refine (get_sherd Q1 _ q1_len q1_lt).mono ?_
 rw [get_a1, get_e1]
 rintro e w12 ⟨rfl, hb⟩
 have hE_w12 := zad hE_w11 hb
 have hF_w12 := zad hF_w11 hb
 have hA_w12 := zad hA_w11 hb
 have hB_w12 := zad hB_w11 hb
 have hP_w12 := zad hP_w11 hb
 have hQ_w12 := zad hQ_w11 hb
 have hb_w12 := hb_w11.trans (hb.mono hb_w11.size)
 clear hb hb_w11 hE_w11 hF_w11 hA_w11 hB_w11 hP_w11 hQ_w11
 go_wp2_with (first | (refine zai rfl 153 (.tmp 11) (.tmp 48) rfl w12.heap.size A1 rfl rfl 153 _ (zak w12 _ _ rfl) (za4 _ rfl _ _ _ _ _ _ _) rfl (zbb _ _ _ _ _ _ _ _) ?_; intro w13 hUw13; have hX_w13 := hUw13.at_; have hE_w13 := hUw13.old (zam hE_w12 _) (show w.heap.size ≠ w12.heap.size by have := zag hE_w12; omega); have hF_w13 := hUw13.old (zam hF_w12 _) (show w1.heap.size ≠ w12.heap.size by have := zag hF_w12; omega); have hA_w13 := hUw13.old (zam hA_w12 _) (show w3.heap.size ≠ w12.heap.size by have := zag hA_w12; omega); have hB_w13 := hUw13.old (zam hB_w12 _) (show w5.heap.size ≠ w12.heap.size by have := zag hB_w12; omega); have hP_w13 := hUw13.old (zam hP_w12 _) (show w8.heap.size ≠ w12.heap.size by have := zag hP_w12; omega); have hQ_w13 := hUw13.old (zam hQ_w12 _) (show w10.heap.size ≠ w12.heap.size by have := zag hQ_w12; omega); have hb_w13 := hUw13.below (hb_w12.alloc hb_w12.size _) hb_w12.size; clear hb_w12 hE_w12 hF_w12 hA_w12 hB_w12 hP_w12 hQ_w12 hUw13) | (refine zao rfl 90 _ rfl _ rfl _ built_p0 ?_))
 refine (get_sherd zero32 _ rfl zeros32).mono ?_
 rw [get_v0, get_e0]
 rintro e w14 ⟨rfl, hb⟩
 have hE_w14 := zad hE_w13 hb
 have hF_w14 := zad hF_w13 hb
 have hA_w14 := zad hA_w13 hb
 have hB_w14 := zad hB_w13 hb
 have hP_w14 := zad hP_w13 hb
 have hQ_w14 := zad hQ_w13 hb
 have hX_w14 := zad hX_w13 hb
 have hb_w14 := hb_w13.trans (hb.mono hb_w13.size)
 clear hb hb_w13 hE_w13 hF_w13 hA_w13 hB_w13 hP_w13 hQ_w13 hX_w13
 go_wp2_with (first | (refine zai rfl 153 (.tmp 13) (.tmp 53) rfl w14.heap.size zeroV rfl rfl 153 _ (zak w14 _ _ rfl) (za4 _ rfl _ _ _ _ _ _ _) rfl (zbb _ _ _ _ _ _ _ _) ?_; intro w15 hUw15; have hZ_w15 := hUw15.at_; have hE_w15 := hUw15.old (zam hE_w14 _) (show w.heap.size ≠ w14.heap.size by have := zag hE_w14; omega); have hF_w15 := hUw15.old (zam hF_w14 _) (show w1.heap.size ≠ w14.heap.size by have := zag hF_w14; omega); have hA_w15 := hUw15.old (zam hA_w14 _) (show w3.heap.size ≠ w14.heap.size by have := zag hA_w14; omega); have hB_w15 := hUw15.old (zam hB_w14 _) (show w5.heap.size ≠ w14.heap.size by have := zag hB_w14; omega); have hP_w15 := hUw15.old (zam hP_w14 _) (show w8.heap.size ≠ w14.heap.size by have := zag hP_w14; omega); have hQ_w15 := hUw15.old (zam hQ_w14 _) (show w10.heap.size ≠ w14.heap.size by have := zag hQ_w14; omega); have hX_w15 := hUw15.old (zam hX_w14 _) (show w12.heap.size ≠ w14.heap.size by have := zag hX_w14; omega); have hb_w15 := hUw15.below (hb_w14.alloc hb_w14.size _) hb_w14.size; clear hb_w14 hE_w14 hF_w14 hA_w14 hB_w14 hP_w14 hQ_w14 hX_w14 hUw15) | (refine wpList_load_mid rfl 153 (.tmp 7) rfl w8.heap.size 0 rfl _ _ (zal hP_w15) Tryz.underlying153 rfl (za4 _ rfl _ _ _ _ _ _ _) ?_) | (refine wpList_load_mid rfl 153 (.tmp 5) rfl w5.heap.size 0 rfl _ _ (zal hB_w15) Tryz.underlying153 rfl (za4 _ rfl _ _ _ _ _ _ _) ?_) | (refine wpList_buildOne rfl 164 (.tmp 57) rfl 153 B1.v _ 23 72 rfl Tryz.underlying164 shInfo3 rfl (by decide) (by decide) ?_))
 have hE_w16 := zam hE_w15 (.cells B1.v.toArray 153)
 have hF_w16 := zam hF_w15 (.cells B1.v.toArray 153)
 have hA_w16 := zam hA_w15 (.cells B1.v.toArray 153)
 have hB_w16 := zam hB_w15 (.cells B1.v.toArray 153)
 have hP_w16 := zam hP_w15 (.cells B1.v.toArray 153)
 have hQ_w16 := zam hQ_w15 (.cells B1.v.toArray 153)
 have hX_w16 := zam hX_w15 (.cells B1.v.toArray 153)
 have hZ_w16 := zam hZ_w15 (.cells B1.v.toArray 153)
 have hb_w16 := hb_w15.alloc hb_w15.size (.cells B1.v.toArray 153)
 have hnew := zak w15 (.cells B1.v.toArray 153) _ rfl
 clear hb_w15 hE_w15 hF_w15 hA_w15 hB_w15 hP_w15 hQ_w15 hX_w15 hZ_w15
 generalize (w15.alloc (.cells B1.v.toArray 153)) = w16 at *
 refine (back_any P1 [B1] _ 1 1 _ _ p1_ok (rds_sh (x := B1) b1_ok hnew) (Nat.le_refl _) b1s_ok (by decide) (fun _ h => by cases h; rfl)).mono ?_
 rw [back1_ok, back1_vv]
 rintro e w17 ⟨rfl, hb⟩
 have hE_w17 := zad hE_w16 hb
 have hF_w17 := zad hF_w16 hb
 have hA_w17 := zad hA_w16 hb
 have hB_w17 := zad hB_w16 hb
 have hP_w17 := zad hP_w16 hb
 have hQ_w17 := zad hQ_w16 hb
 have hX_w17 := zad hX_w16 hb
 have hZ_w17 := zad hZ_w16 hb
 have hb_w17 := hb_w16.trans (hb.mono hb_w16.size)
 clear hb hb_w16 hE_w16 hF_w16 hA_w16 hB_w16 hP_w16 hQ_w16 hX_w16 hZ_w16
 clear hnew
 go_wp2_with (first | (refine zai rfl 29 (.tmp 15) (.tmp 60) rfl w17.heap.size (enV 3 9 1 D1) rfl rfl 29 _ (zak w17 _ _ rfl) (zbv rfl _ _ _) rfl (one_enV _ _ _ _) ?_; intro w18 hUw18; have hY_w18 := hUw18.at_; have hE_w18 := hUw18.old (zam hE_w17 _) (show w.heap.size ≠ w17.heap.size by have := zag hE_w17; omega); have hF_w18 := hUw18.old (zam hF_w17 _) (show w1.heap.size ≠ w17.heap.size by have := zag hF_w17; omega); have hA_w18 := hUw18.old (zam hA_w17 _) (show w3.heap.size ≠ w17.heap.size by have := zag hA_w17; omega); have hB_w18 := hUw18.old (zam hB_w17 _) (show w5.heap.size ≠ w17.heap.size by have := zag hB_w17; omega); have hP_w18 := hUw18.old (zam hP_w17 _) (show w8.heap.size ≠ w17.heap.size by have := zag hP_w17; omega); have hQ_w18 := hUw18.old (zam hQ_w17 _) (show w10.heap.size ≠ w17.heap.size by have := zag hQ_w17; omega); have hX_w18 := hUw18.old (zam hX_w17 _) (show w12.heap.size ≠ w17.heap.size by have := zag hX_w17; omega); have hZ_w18 := hUw18.old (zam hZ_w17 _) (show w14.heap.size ≠ w17.heap.size by have := zag hZ_w17; omega); have hb_w18 := hUw18.below (hb_w17.alloc hb_w17.size _) hb_w17.size; clear hb_w17 hE_w17 hF_w17 hA_w17 hB_w17 hP_w17 hQ_w17 hX_w17 hZ_w17 hUw18) | (go_at_call 119; refine (meta_any _ _ _ _).mono ?_; rintro e w' ⟨rfl, rfl⟩) | (go_at_call 118; refine (of_sherd _ _ (by decide) (by decide)).mono ?_; rw [of_r, of_l, of_s]; rintro e w' ⟨rfl, rfl⟩))
 refine (begun6_all _).mono ?_
 rintro e w19 ⟨rfl, hb⟩
 have hE_w19 := zad hE_w18 hb
 have hF_w19 := zad hF_w18 hb
 have hA_w19 := zad hA_w18 hb
 have hB_w19 := zad hB_w18 hb
 have hP_w19 := zad hP_w18 hb
 have hQ_w19 := zad hQ_w18 hb
 have hX_w19 := zad hX_w18 hb
 have hZ_w19 := zad hZ_w18 hb
 have hY_w19 := zad hY_w18 hb
 have hb_w19 := hb_w18.trans (hb.mono hb_w18.size)
 clear hb hb_w18 hE_w18 hF_w18 hA_w18 hB_w18 hP_w18 hQ_w18 hX_w18 hZ_w18 hY_w18
 go_wp2_with (first | (refine zat 153 (.tmp 11) rfl w12.heap.size 0 rfl rfl _ _ (zal hX_w19) Tryz.underlying153 rfl (za4 _ rfl _ _ _ _ _ _ _) ?_) | (refine zat 153 (.tmp 3) rfl w3.heap.size 0 rfl rfl _ _ (zal hA_w19) Tryz.underlying153 rfl (za4 _ rfl _ _ _ _ _ _ _) ?_) | (refine zat 29 (.tmp 15) rfl w17.heap.size 0 rfl rfl _ _ (zal hY_w19) Tryz.underlying29 rfl (zbv rfl _ _ _) ?_) | (refine zat 29 (.tmp 1) rfl w.heap.size 0 rfl rfl _ _ (zal hE_w19) Tryz.underlying29 rfl (zbv rfl _ _ _) ?_) | (refine zat 153 (.tmp 7) rfl w8.heap.size 0 rfl rfl _ _ (zal hP_w19) Tryz.underlying153 rfl (za4 _ rfl _ _ _ _ _ _ _) ?_))
 refine (zbj _ _ _ _ _ _ _ _ _ p1_ok.1 p1_ok.2).mono ?_
 rw [may_p1]
 rintro e w20 ⟨rfl, hb⟩
 have hE_w20 := zad hE_w19 hb
 have hF_w20 := zad hF_w19 hb
 have hA_w20 := zad hA_w19 hb
 have hB_w20 := zad hB_w19 hb
 have hP_w20 := zad hP_w19 hb
 have hQ_w20 := zad hQ_w19 hb
 have hX_w20 := zad hX_w19 hb
 have hZ_w20 := zad hZ_w19 hb
 have hY_w20 := zad hY_w19 hb
 have hb_w20 := hb_w19.trans (hb.mono hb_w19.size)
 clear hb hb_w19 hE_w19 hF_w19 hA_w19 hB_w19 hP_w19 hQ_w19 hX_w19 hZ_w19 hY_w19
 go_wp2_with (first | (refine zao rfl 153 _ rfl _ rfl _ built_zero ?_))
 refine (zbj _ _ _ _ _ _ _ _ _ rfl zeros16).mono ?_
 rw [may_z]
 rintro e w21 ⟨rfl, hb⟩
 have hE_w21 := zad hE_w20 hb
 have hF_w21 := zad hF_w20 hb
 have hA_w21 := zad hA_w20 hb
 have hB_w21 := zad hB_w20 hb
 have hP_w21 := zad hP_w20 hb
 have hQ_w21 := zad hQ_w20 hb
 have hX_w21 := zad hX_w20 hb
 have hZ_w21 := zad hZ_w20 hb
 have hY_w21 := zad hY_w20 hb
 have hb_w21 := hb_w20.trans (hb.mono hb_w20.size)
 clear hb hb_w20 hE_w20 hF_w20 hA_w20 hB_w20 hP_w20 hQ_w20 hX_w20 hZ_w20 hY_w20
 go_wp2_with (first | (refine zat 90 (.tmp 9) rfl w10.heap.size 0 rfl rfl _ _ (zal hQ_w21) Tryz.underlying90 rfl (zbe q1_len) ?_))
 refine (blank_any Q1 _ q1_len).mono ?_
 rw [blank_q1]
 rintro e w22 ⟨rfl, hb⟩
 have hE_w22 := zad hE_w21 hb
 have hF_w22 := zad hF_w21 hb
 have hA_w22 := zad hA_w21 hb
 have hB_w22 := zad hB_w21 hb
 have hP_w22 := zad hP_w21 hb
 have hQ_w22 := zad hQ_w21 hb
 have hX_w22 := zad hX_w21 hb
 have hZ_w22 := zad hZ_w21 hb
 have hY_w22 := zad hY_w21 hb
 have hb_w22 := hb_w21.trans (hb.mono hb_w21.size)
 clear hb hb_w21 hE_w21 hF_w21 hA_w21 hB_w21 hP_w21 hQ_w21 hX_w21 hZ_w21 hY_w21
 go_wp2_with fail
 go_ret
 exact ⟨rfl, hb_w22⟩
end Go.Proofs.YtpbigfopmompfaaGreat
