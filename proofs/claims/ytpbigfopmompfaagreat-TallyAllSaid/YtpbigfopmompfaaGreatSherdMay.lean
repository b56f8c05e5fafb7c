import Derived.Test.YtpbigfopmompfaaGreatSherd
import Derived.Deep.MidRow
/- The contracts of the layer sherd: which sherds may be. -/
namespace Go.Proofs.YtpbigfopmompfaaGreat
open Go.RowKit
def shV (d : List Nat) (r l s k b o m : Int) : List Value := nats .u8 d ++ [.int .i64 r, .int .i64 l, .int .i64 s, .int .i64 k, .int .i64 b, .int .i64 o, .int .i64 m]
theorem zba {d : List Nat} (h : d.length = 16) (r l s k b o m : Int) : (shV d r l s k b o m).length = 23 := by simp [shV, nats, h]
def zero16 : List Nat := List.replicate 16 0
def noneB (d : List Nat) : Bool := d == zero16
theorem range_data {w : World} {g : Nat} {d : List Nat} {r l s k b o m : Int} {t : TypeId} (h : w.heap[g]? = some (.cells (shV d r l s k b o m).toArray t (0, 0))) : w.rangeAt g 0 (nats .u8 d) := by
 intro j v hv
 rw [Nat.zero_add, zaf h, shV, List.getElem?_toArray, List.getElem?_append_left (List.getElem?_eq_some_iff.1 hv).1]
 exact hv
theorem za6 {w : World} {g : Nat} {d : List Nat} {r l s k b o m : Int} {t : TypeId} (hd : d.length = 16) (h : w.heap[g]? = some (.cells (shV d r l s k b o m).toArray t (0, 0))) :
 w.cell? ⟨g, 16, none⟩ = some (.int .i64 r) ∧ w.cell? ⟨g, 17, none⟩ = some (.int .i64 l) ∧ w.cell? ⟨g, 18, none⟩ = some (.int .i64 s) ∧ w.cell? ⟨g, 19, none⟩ = some (.int .i64 k) ∧ w.cell? ⟨g, 20, none⟩ = some (.int .i64 b) ∧ w.cell? ⟨g, 21, none⟩ = some (.int .i64 o) ∧ w.cell? ⟨g, 22, none⟩ = some (.int .i64 m) := by
 have hl : (nats .u8 d).length = 16 := by rw [zaj, hd]
 have e : ∀ i, w.cell? ⟨g, 16 + i, none⟩ = ([.int .i64 r, .int .i64 l, .int .i64 s, .int .i64 k, .int .i64 b, .int .i64 o, .int .i64 m] : List Value)[i]? := by
  intro i; rw [zaf h, shV, List.getElem?_toArray, List.getElem?_append_right (by omega), hl, Nat.add_sub_cancel_left]
 exact ⟨e 0, e 1, e 2, e 3, e 4, e 5, e 6⟩
def kData : List Kd := List.replicate 16 (Kd.int .u8)
theorem flatData : flat Tryz.prog 4 27 = some kData := by kernel_rfl
theorem eqData : eqOk Tryz.prog 4 27 = true := by kernel_rfl
theorem ok_bytes : ∀ (d : List Nat), (∀ x ∈ d, x < 256) → okAll (List.replicate d.length (Kd.int .u8)) (nats .u8 d) = true
 | [], _ => rfl
 | x :: d, h => by
  have ih := ok_bytes d fun y hy => h y (by simp [hy])
  have hx := h x (by simp); rw [List.length_cons, List.replicate_succ]; simp only [nats, List.map_cons, okAll, Kd.ok, Bool.and_eq_true, beq_self_eq_true, true_and]; refine ⟨?_, ih⟩; simp [Lit.wf, IntKind.min, IntKind.max, IntKind.bits, IntKind.signed]; omega
theorem nats_inj {k : IntKind} : ∀ {a b : List Nat}, nats k a = nats k b ↔ a = b
 | [], [] => by simp [nats]
 | [], _ :: _ => by simp [nats]
 | _ :: _, [] => by simp [nats]
 | x :: a, y :: b => by
  have := nats_inj (k := k) (a := a) (b := b); simp only [nats, List.map_cons, List.cons.injEq, Value.int.injEq, true_and] at *; rw [this]; constructor
  · rintro ⟨h1, h2⟩; exact ⟨by omega, h2⟩
  · rintro ⟨h1, h2⟩; exact ⟨by omega, h2⟩
theorem lEq_nats {a b : List Nat} (ha : ∀ x ∈ a, x < 256) (hb : ∀ x ∈ b, x < 256) (hl : a.length = b.length) : lEq (nats .u8 a) (nats .u8 b) = (a == b) := by
 have oa := ok_bytes a ha
 have ob := ok_bytes b hb
 rw [← hl] at ob
 rw [Bool.eq_iff_iff, lEq_iff oa ob, nats_inj, beq_iff_eq]
theorem eql_data (w : World) (a b : List Nat) (ha : ∀ x ∈ a, x < 256) (hb : ∀ x ∈ b, x < 256) (la : a.length = 16) (lb : b.length = 16) :
 (binOp .eql 27 (.agg (nats .u8 a).toArray) (.agg (nats .u8 b).toArray)).run Tryz.prog w = .ok (.bool (a == b)) w := by
 have oa := ok_bytes a ha
 have ob := ok_bytes b hb
 rw [la] at oa
 rw [lb] at ob
 rw [run_eql_flat w flatData eqData (by kernel_rfl) (by decide) oa ob, lEq_nats ha hb (by omega)]
def entryB (d : List Nat) (r l s : Int) : Bool := if r = 1 then true else if r = 2 ∨ r = 4 then noneB d else if r = 3 then noneB d && (l == 0 && s == 0) else false
theorem zeros16 : ∀ x ∈ zero16, x < 256 := by unfold zero16; simp
theorem entry_any (d : List Nat) (r l s k b o m : Int) (w : World) (hd : d.length = 16) (hb : ∀ x ∈ d, x < 256) :
 Calls Tryz.prog 142 #[.agg (shV d r l s k b o m).toArray] w fun e w' => e = .returned (.bool (entryB d r l s)) ∧ Below w.heap.size w w' := by
 have hB := heap_alloc_new w (.cells (shV d r l s k b o m).toArray 153)
 obtain ⟨c16, c17, c18, c19, c20, c21, c22⟩ := za6 hd hB
 have hR := range_data hB
 clear hB
 have hz : ∀ w, (binOp .eql 27 (.agg (nats .u8 d).toArray) (.agg #[.int .u8 0, .int .u8 0, .int .u8 0, .int .u8 0, .int .u8 0, .int .u8 0, .int .u8 0, .int .u8 0, .int .u8 0, .int .u8 0, .int .u8 0, .int .u8 0, .int .u8 0, .int .u8 0, .int .u8 0, .int .u8 0])).run Tryz.prog w = .ok (.bool (noneB d)) w := fun w => eql_data w d zero16 hb zeros16 hd rfl
 have hbel := (Below.refl _ w).alloc (Nat.le_refl _) (.cells (shV d r l s k b o m).toArray 153)
 clear c19 c20 c21 c22
 generalize hN : noneB d = N at *
 have HN := Lib.hid hN
 clear hN
 by_cases h1 : r = 1
 · have E := Lib.hid (show entryB d r l s = true by unfold entryB; rw [if_pos h1])
   rw [E.out]; subst h1; go_enter Tryz.func142, Tryz.ntmps142
   go_wp2_with (refine wpList_load_mid rfl 27 (.tmp 4) rfl w.heap.size 0 rfl _ _ hR Tryz.underlying27 rfl (by rw [zaj, hd]; kernel_rfl) ?_)
   go_ret
   exact ⟨rfl, hbel⟩
 · have t1 : (r == 1) = false := by simpa using h1
   by_cases h2 : r = 2
   · have E := Lib.hid (show entryB d r l s = N by unfold entryB; rw [if_neg h1, if_pos (.inl h2)]; exact HN.out)
     rw [E.out]; subst h2; go_enter Tryz.func142, Tryz.ntmps142
     go_wp2_with (refine wpList_load_mid rfl 27 (.tmp 4) rfl w.heap.size 0 rfl _ _ hR Tryz.underlying27 rfl (by rw [zaj, hd]; kernel_rfl) ?_)
     go_ret
     exact ⟨rfl, hbel⟩
   · have t2 : (r == 2) = false := by simpa using h2
     by_cases h4 : r = 4
     · have E := Lib.hid (show entryB d r l s = N by unfold entryB; rw [if_neg h1, if_pos (.inr h4)]; exact HN.out)
       rw [E.out]; subst h4; go_enter Tryz.func142, Tryz.ntmps142
       go_wp2_with (refine wpList_load_mid rfl 27 (.tmp 4) rfl w.heap.size 0 rfl _ _ hR Tryz.underlying27 rfl (by rw [zaj, hd]; kernel_rfl) ?_)
       go_ret
       exact ⟨rfl, hbel⟩
     · have t4 : (r == 4) = false := by simpa using h4
       by_cases h3 : r = 3
       · have E := Lib.hid (show entryB d r l s = (N && (l == 0 && s == 0)) by unfold entryB; rw [if_neg h1, if_neg (by omega), if_pos h3, HN.out])
         rw [E.out]; subst h3; cases N
         · clear t1 t2 t4 h1 h2 h4
           go_enter Tryz.func142, Tryz.ntmps142
           go_wp2_with (refine wpList_load_mid rfl 27 (.tmp 4) rfl w.heap.size 0 rfl _ _ hR Tryz.underlying27 rfl (by rw [zaj, hd]; kernel_rfl) ?_)
           go_ret
           exact ⟨rfl, hbel⟩
         · by_cases hl : l = 0
           · subst hl
             clear t1 t2 t4 h1 h2 h4; go_enter Tryz.func142, Tryz.ntmps142
             go_wp2_with (refine wpList_load_mid rfl 27 (.tmp 4) rfl w.heap.size 0 rfl _ _ hR Tryz.underlying27 rfl (by rw [zaj, hd]; kernel_rfl) ?_)
             go_ret
             exact ⟨by simp, hbel⟩
           · have tl : (l == 0) = false := by simpa using hl
             rw [tl]; clear t1 t2 t4 h1 h2 h4 hl; go_enter Tryz.func142, Tryz.ntmps142
             go_wp2_with (refine wpList_load_mid rfl 27 (.tmp 4) rfl w.heap.size 0 rfl _ _ hR Tryz.underlying27 rfl (by rw [zaj, hd]; kernel_rfl) ?_)
             go_ret
             exact ⟨rfl, hbel⟩
       · have t3 : (r == 3) = false := by simpa using h3
         have E := Lib.hid (show entryB d r l s = false by unfold entryB; rw [if_neg h1, if_neg (by omega), if_neg h3]); rw [E.out]; clear h1 h2 h3 h4; go_enter Tryz.func142, Tryz.ntmps142
         go_wp2_with (refine wpList_load_mid rfl 27 (.tmp 4) rfl w.heap.size 0 rfl _ _ hR Tryz.underlying27 rfl (by rw [zaj, hd]; kernel_rfl) ?_)
         go_ret
         exact ⟨rfl, hbel⟩
end Go.Proofs.YtpbigfopmompfaaGreat
