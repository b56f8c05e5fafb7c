import Derived.Test.YtnfigkoefmldiaaGreatBunG
import Derived.Test.YtnfigkoefmldiaaGreatBunE
/- The contract of 'begun' of stage 9: it answers true. -/
namespace Go.Proofs.YtnfigkoefmldiaaGreat
open Go.RowKit
theorem get_page {d : List Nat} (hd : d.length = 16) (hb : ∀ x ∈ d, x < 256) {r l s k b o m : Int} (h : maySh d r l s k b o m = true) : getB (pageN d r l s k b o m) = true ∧ readV (pageN d r l s k b o m) 4 = shV d r l s k b o m := by
  obtain ⟨r0, r1, l0, l1, s0, s1, k0, k1, b0, b1, o0, o1, m0, m1⟩ := may_bd h
  obtain ⟨e1, e2, e3, e4, e5, e6, e7, e8⟩ := read_page hd hb r0 r1 l0 l1 s0 s1 (show 0 ≤ k by omega) (show k < 256 by omega) b0 (show b < 256 by omega) o0 (show o < 256 by omega) m0 m1
  have hp := page_iff (pageN_length hd r l s k b o m) (pageN_lt hb r l s k b o m)
  rw [e1, e2, e3, e4, e5, e6, e7, e8] at hp
  constructor
  · unfold getB
    rw [e1, e2, e3, e4, e5, e6, e7, e8, h, Bool.true_and, beq_iff_eq]
    exact hp.1 rfl
  · unfold readV
    rw [e1, e2, e3, e4, e5, e6, e7, e8]
    simp
def D1 : List Nat := [1, 2, 0, 0, 0, 0, 0, 0, 0, 0, 0, 0, 0, 0, 0, 0]
def A1 : List Value := shV D1 1 3 9 1 2 1 7
def B1 : Sh := ⟨zero16, 3, 0, 0, 1, 2, 1, 7⟩
def es1 : List En := [⟨3, 9, 1, D1⟩, ⟨0, 0, 3, zero16⟩]
def P1 : Sh := parSh es1 2 1 7
def Q1 : List Nat := pageN D1 1 3 9 1 2 1 7
theorem may_a1 : maySh D1 1 3 9 1 2 1 7 = true := by decide +kernel
theorem may_b1 : maySh zero16 3 0 0 1 2 1 7 = true := by decide +kernel
theorem par1 : parB es1 2 1 7 = true := by decide +kernel
theorem get0 : getB zero32 = false := by decide +kernel
theorem back1_ok : backB P1 [B1] = true := by decide +kernel
theorem back1_v : (backE P1 [B1]).v = enV 3 9 1 D1 := by kernel_rfl
theorem own_a1 : ownV D1 1 3 9 2 1 7 = A1 := by unfold ownV; rw [may_a1]; rfl
theorem own_b1 : ownV zero16 3 0 0 2 1 7 = B1.v := by unfold ownV; rw [may_b1]; rfl
theorem rds_blk {w : World} {g C : Nat} {rows : List (List Value)} {t : TypeId} {fr : Nat × Nat} (h : w.heap[g]? = some (.cells rows.flatten.toArray t fr)) (hC : ∀ r ∈ rows, r.length = C) : Rds w w.heap.size (some ⟨g, 0, none⟩) C rows.length rows := by
  refine ⟨rfl, hC, fun _ => ⟨g, 0, rfl, lt_of_cells h, fun i r j u h1 h2 => ?_⟩⟩
  have hj : j < C := by rw [← hC r (List.mem_of_getElem? h1)]; exact (List.getElem?_eq_some_iff.1 h2).1
  rw [blk_cell h, Nat.zero_add, List.getElem?_toArray, flat_get hC h1 hj, h2]
theorem wpList_run_bs {P : Program} {ops : Array Oper} {rest : List Oper} {o : Oper} {a : Act} {w : World} {Q : Exit → Act → World → Prop} (hgd : o.guard = none) (t : TypeId) (len : Nat) (parts : Array (Nat × Operand)) (ho : o.op = .buildSlice t len parts) (ps : List (Nat × Value)) (hps : parts.toList.map (fun p => (p.1, a.eval p.2)) = ps)
    (v : Value) (w' : World) (hrun : (Instr.buildSlice t len ps.toArray).run P w = .ok v w') (h : wpList P ops Q rest (a.put o.dst v) w') : wpList P ops Q (o :: rest) a w := by
  refine wpList_plain hgd fun K hK => ?_
  have e : (parts.map fun (i, x) => (i, a.eval x)) = ps.toArray := by rw [← hps]; apply Array.toList_inj.1; simp
  unfold Oper.wp execOp
  simp only [ho, e, Sem.run_bind, hrun, Result.andThen_ok]
  exact hK _ _ h
theorem ens1_len : ∀ r ∈ ens es1, r.length = 19 := by
  intro r hr
  simp [ens, es1] at hr
  rcases hr with rfl | rfl <;> rfl
theorem es1_ok : ∀ x ∈ es1, x.ok := by
  intro x hx
  simp [es1] at hx
  rcases hx with rfl | rfl <;> exact ⟨rfl, by decide⟩
theorem par1_v : parV es1 2 1 7 = P1.v := by unfold parV; rw [par1]; rfl
theorem put_a1 : putP D1 1 3 9 1 2 1 7 = Q1 := by unfold putP; rw [may_a1]; rfl
theorem q1_len : Q1.length = 32 := pageN_length rfl _ _ _ _ _ _ _
theorem q1_lt : ∀ x ∈ Q1, x < 256 := pageN_lt (by decide) _ _ _ _ _ _ _
theorem get_b1 : getB Q1 = true := (get_page (d := D1) rfl (by decide) may_a1).1
theorem get_a1 : getV Q1 = A1 := by unfold getV; rw [get_b1]; exact (get_page (d := D1) rfl (by decide) may_a1).2
theorem get_e1 : getE Q1 = 0 := by unfold getE; rw [get_b1]; rfl
theorem built_p0 : Tryz.prog.built 34 [] = some (nats .u8 zero32).toArray := by kernel_rfl
theorem zeros32 : ∀ x ∈ zero32, x < 256 := by decide
theorem get_v0 : getV zero32 = zeroV := by unfold getV; rw [get0]; rfl
theorem get_e0 : getE zero32 = 1 := by unfold getE; rw [get0]; rfl
theorem p1_ok : P1.ok := ⟨overD_length (by decide +kernel), by decide +kernel⟩
theorem b1_ok : B1.ok := ⟨rfl, by decide⟩
theorem b1s_ok : ∀ x ∈ [B1], x.ok := by
  intro x hx
  rw [List.mem_singleton] at hx
  subst hx
  exact b1_ok
theorem back1_vv : backV P1 [B1] = enV 3 9 1 D1 := by unfold backV; rw [back1_ok]; exact back1_v
theorem of_r : roleI (metaN 2 5 77 : Int) = 2 := by decide +kernel
theorem of_l : lpnI (metaN 2 5 77 : Int) = 5 := by decide +kernel
theorem of_s : seqI (metaN 2 5 77 : Int) = 77 := by decide +kernel
theorem may_p1 : maySh P1.d P1.r P1.l P1.s P1.k P1.b P1.o P1.m = true := by decide +kernel
theorem may_z : maySh zero16 0 0 0 0 0 0 0 = false := by decide +kernel
theorem blank_q1 : blankB Q1 = false := by decide +kernel
theorem okA1 : okAll (List.replicate 16 (Kd.int .u8) ++ [.int .i64, .int .i64, .int .i64, .int .i64, .int .i64, .int .i64, .int .i64]) A1 = true := by decide +kernel
theorem okE1 : okAll ([.int .i64, .int .i64, .int .i64] ++ List.replicate 16 (Kd.int .u8)) (enV 3 9 1 D1) = true := by decide +kernel
theorem begun6_all (w : World) : Calls Tryz.prog 42 #[] w fun e w' => e = .returned (.bool true) ∧ Below w.heap.size w w' := by
  go_enter Tryz.func42, Tryz.ntmps42
  go_wp2_with fail
  refine (begun6_any _).mono ?_
  rintro e w' ⟨rfl, hb⟩
  go_wp2_with fail
  go_ret
  exact ⟨rfl, hb⟩
end Go.Proofs.YtnfigkoefmldiaaGreat
