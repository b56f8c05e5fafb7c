import Derived.Test.YtpbigfopmompfaaGreatBunV
import Derived.Test.YtpbigfopmompfaaGreatBegun13
import Derived.Test.YtpbigfopmompfaaGreatBunU
import Derived.Test.YtpbigfopmompfaaGreatBunS
import Derived.Deep.QuietTactic
import Derived.BigQuiet
import Derived.Deep.DeepCutAuto
import Derived.Deep.CutBlock
/- TallyOf: of a flash, how worn each superblock is, which dies are dead; no condition. -/
namespace Go.Proofs.YtpbigfopmompfaaGreat.tallyOf
open Go.RowKit
open Go.Proofs.YtpbigfopmompfaaGreat.nand
open Go.Proofs.YtpbigfopmompfaaGreat.dev
open Go.Proofs.YtpbigfopmompfaaGreat.tal (Ty Sb andN)
set_option linter.unusedVariables false
def wornV (c : Nat → Nat → Nat) : List Value := (List.range 16).map fun b => .int .i64 (mx c b 6 : Int)
def eachV (c : Nat → Nat → Nat) : List Value := (List.range 96).map fun j => .int .i64 (c (j / 16) (j % 16) : Int)
theorem each_set (c : Nat → Nat → Nat) {d b : Nat} (hb : b < 16) : (eachV c).set (d * 16 + b) (.int .i64 ((c d b + 1 : Nat) : Int)) = eachV (bump c d b) := by
 apply List.ext_getElem?
 intro j
 unfold eachV
 rw [List.getElem?_set, List.getElem?_map, List.getElem?_map, List.length_map, List.length_range]
 by_cases hj : j < 96
 · rw [List.getElem?_range hj]
   by_cases e : d * 16 + b = j
   · subst e
     rw [if_pos rfl, if_pos hj]
     simp only [Option.map_some]
     rw [show (d * 16 + b) / 16 = d by omega, show (d * 16 + b) % 16 = b by omega]
     simp [bump]
   · rw [if_neg e]
     simp only [Option.map_some, bump]
     rw [if_neg (by omega)]
 · rw [List.getElem?_eq_none (by simpa using hj)]
   split
   · rw [if_neg (by omega)]; rfl
   · rfl
theorem each_get (c : Nat → Nat → Nat) {d b : Nat} (hd : d < 6) (hb : b < 16) : (eachV c).toArray[d * 16 + b]? = some (.int .i64 (c d b : Int)) := by
 rw [List.getElem?_toArray]
 unfold eachV
 rw [List.getElem?_map, List.getElem?_range (by omega)]
 simp only [Option.map_some]
 rw [show (d * 16 + b) / 16 = d by omega, show (d * 16 + b) % 16 = b by omega]
theorem worn_get (c : Nat → Nat → Nat) {b : Nat} (hb : b < 16) : (wornV c).toArray[b]? = some (.int .i64 (mx c b 6 : Int)) := by
 rw [List.getElem?_toArray]
 unfold wornV
 rw [List.getElem?_map, List.getElem?_range hb]; rfl
theorem worn_set (c : Nat → Nat → Nat) {d b : Nat} (hd : d < 6) : (wornV c).set b (.int .i64 ((max (mx c b 6) (c d b + 1) : Nat) : Int)) = wornV (bump c d b) := by
 apply List.ext_getElem?
 intro j
 unfold wornV
 rw [List.getElem?_set, List.getElem?_map, List.getElem?_map, List.length_map, List.length_range]
 by_cases hj : j < 16
 · rw [List.getElem?_range hj]
   simp only [Option.map_some]
   rw [mx_bump c d b j 6 hd]
   by_cases e : b = j
   · subst e
     rw [if_pos rfl, if_pos hj, if_pos rfl]
   · rw [if_neg e, if_neg (fun h => e h.symm)]
 · rw [List.getElem?_eq_none (by simpa using hj)]
   split
   · rw [if_neg (by omega)]; rfl
   · rfl
structure St (w : World) (base g gb q D B P : Nat) (N : Nd) (c : Nat → Nat → Nat) (w' : World) : Prop where
 nd : NandIn w' base g 0 N
 geo : w'.heap[gb]? = some (.cells ([.int .i64 (D : Int), .int .i64 (B : Int), .int .i64 (P : Int)] : List Value).toArray 39 (0, 0))
 wo : w'.heap[q]? = some (.cells (wornV c).toArray 68 (0, 0))
 ea : w'.heap[q + 1]? = some (.cells (eachV c).toArray 80 (0, 0))
 bel : Below w.heap.size w w'
theorem St.below {w w' w'' : World} {base g gb q D B P : Nat} {N : Nd} {c : Nat → Nat → Nat} (h : St w base g gb q D B P N c w') (hb : Below w'.heap.size w' w'') : St w base g gb q D B P N c w'' :=
 ⟨h.nd.below hb, blk_below h.geo hb, blk_below h.wo hb, blk_below h.ea hb, h.bel.trans (hb.mono h.bel.size)⟩
theorem pr_wraps {x : Int} {D B p1 p2 : Nat} (hx : wfI x) (hD : 3 ≤ D) (hD6 : D ≤ 6) (hB : 8 ≤ B) (hB16 : B ≤ 16) (h : (p1, p2) = pr D B x) :
 (IntKind.i64.wrap (x.tmod (D : Int) + (D : Int))).tmod (D : Int) = (p1 : Int) ∧ IntKind.i64.wrap (x.tdiv 7) = x.tdiv 7 ∧ (IntKind.i64.wrap ((x.tdiv 7).tmod (B : Int) + (B : Int))).tmod (B : Int) = (p2 : Int) := by
 have h1 := congrArg Prod.fst h
 have h2 := congrArg Prod.snd h
 simp only [pr] at h1 h2
 unfold wfI at hx
 simp [Lit.wf, IntKind.min, IntKind.max, IntKind.bits, IntKind.signed] at hx
 have a1 := Int.lt_tmod_of_pos x (show (0 : Int) < (D : Int) by omega)
 have a2 := Int.tmod_lt_of_pos x (show (0 : Int) < (D : Int) by omega)
 have b1 := Int.lt_tmod_of_pos (x.tdiv 7) (show (0 : Int) < (B : Int) by omega)
 have b2 := Int.tmod_lt_of_pos (x.tdiv 7) (show (0 : Int) < (B : Int) by omega)
 have c1 := Int.emod_nonneg x (show (D : Int) ≠ 0 by omega)
 have c2 := Int.emod_nonneg (x.tdiv 7) (show (B : Int) ≠ 0 by omega)
 have d1 : (x.tdiv 7).natAbs = x.natAbs / 7 := Int.natAbs_tdiv x 7
 refine ⟨?_, IntWalk.i64_in _ (by omega), ?_⟩
 · rw [IntWalk.i64_in _ (by omega), mod_twice (by omega)]; omega
 · rw [IntWalk.i64_in _ (by omega), mod_twice (by omega)]; omega
def flD (D B P : Nat) (c : Nat → Nat → Nat) (k : Nat) (dl : List Bool) : Nd := { flN D B P c k with dead := dl }
structure St2 (w : World) (base g gb q D B P : Nat) (N : Nd) (c : Nat → Nat → Nat) (w' : World) : Prop where
 nd : NandIn w' base g 1 N
 geo : w'.heap[gb]? = some (.cells ([.int .i64 (D : Int), .int .i64 (B : Int), .int .i64 (P : Int)] : List Value).toArray 39 (0, 0))
 wo : w'.heap[q]? = some (.cells (wornV c).toArray 68 (0, 0))
 bel : Below w.heap.size w w'
theorem St2.below {w w' w'' : World} {base g gb q D B P : Nat} {N : Nd} {c : Nat → Nat → Nat} (h : St2 w base g gb q D B P N c w') (hb : Below w'.heap.size w' w'') : St2 w base g gb q D B P N c w'' :=
 ⟨h.nd.below hb, blk_below h.geo hb, blk_below h.wo hb, h.bel.trans (hb.mono h.bel.size)⟩
theorem _root_.Go.Proofs.YtpbigfopmompfaaGreat.Upd.st2 {w w' w'' : World} {base g gb q D B P x : Nat} {N : Nd} {c : Nat → Nat → Nat} {cs : Array Value} (hU : Upd x (.cells cs 85 (0, 0)) w' w'') (h : St2 w base g gb q D B P N c w') (hx : w.heap.size < x) (hg : gb < x := by exact hx) (old : Array Value) (ho : w'.heap[x]? = some (.cells old 85 (0, 0))) : St2 w base g gb q D B P N c w'' :=
 ⟨h.nd.other (upd_grown hU) ho rfl, hU.old h.geo (by omega), hU.old h.wo (fun e => by have := h.wo; rw [e, ho] at this; simp at this), hU.below h.bel (by omega)⟩
theorem fault_plain {D B P K de : Nat} {c : Nat → Nat → Nat} (hD : 0 < D) (hB : 0 < B) (hP : 0 < P) (h : de < D) : (flN D B P c K).faultN ⟨0, 4, de, 0, 0, 0, 0⟩ = flD D B P c K ((List.replicate D false).set de true) := by
 have h1 : (flN D B P c K).inG (Flt.a ⟨0, 4, de, 0, 0, 0, 0⟩) = true := by
  simp [Nd.inG, flN, Nd.new, Flt.a]; omega
 have h2 : (flN D B P c K).faultB ⟨0, 4, de, 0, 0, 0, 0⟩ = true := by unfold Nd.faultB; rw [h1]; rfl
 unfold Nd.faultN
 rw [h2]
 rfl
theorem flt_wf4 {de : Nat} (h : de < 6) : (Flt.mk 0 4 de 0 0 0 0).wf := ⟨small_wf (x := 0) (by omega), small_wf (x := 4) (by omega), ad_wf (d := de) (b := 0) (p := 0) (by omega) (by omega) (by omega), small_wf (x := 0) (by omega), small_wf (x := 0) (by omega)⟩
theorem used_wraps (dd : Int) {B : Nat} (hB : 8 ≤ B) (hB16 : B ≤ 16) : ∃ (s : Int) (v us : Nat), IntKind.i64.wrap (dd + (B : Int)) = s ∧ IntKind.i64.wrap (s.tmod (B : Int) + (B : Int)) = (v : Int) ∧ (v : Int).tmod (B : Int) = (us : Int) ∧ (v : Int) % (B : Int) = (us : Int) ∧ us < B := by
 obtain ⟨s, hs⟩ : ∃ s, s = IntKind.i64.wrap (dd + (B : Int)) := ⟨_, rfl⟩
 have b1 := Int.lt_tmod_of_pos s (show (0 : Int) < (B : Int) by omega)
 have b2 := Int.tmod_lt_of_pos s (show (0 : Int) < (B : Int) by omega)
 have c1 := Int.emod_nonneg (s.tmod (B : Int) + (B : Int)) (show (B : Int) ≠ 0 by omega)
 have c2 := Int.emod_lt_of_pos (s.tmod (B : Int) + (B : Int)) (show (0 : Int) < (B : Int) by omega)
 refine ⟨s, (s.tmod (B : Int) + (B : Int)).toNat, ((s.tmod (B : Int) + (B : Int)) % (B : Int)).toNat, hs.symm, ?_, ?_, ?_, by omega⟩
 · rw [IntWalk.i64_in _ (by omega)]; omega
 · rw [Int.toNat_of_nonneg (by omega), Int.tmod_eq_emod_of_nonneg (by omega), Int.toNat_of_nonneg c1]
 · rw [Int.toNat_of_nonneg (by omega), Int.toNat_of_nonneg c1]
structure FinN (D B P : Nat) (C : Nat → Nat → Nat) (dl : List Bool) (ad us : Nat) (N : Nd) : Prop where
 dim : N.D = D ∧ N.B = B ∧ N.P = P
 dead : N.dead = dl
 worn : ∀ d b, (N.blk d b).worn = C d b
 cells : ∀ d b, (N.blk d b).cells.length = if d = ad ∧ b = us then 1 else 0
theorem alive_ok {D de ad : Nat} {dd : Int} {dl : List Bool} (hde : de < D) (hD : 3 ≤ D) (hdl : dl = if 0 ≤ dd then (List.replicate D false).set de true else List.replicate D false) (had : ad = if 0 ≤ dd ∧ de = 0 then 1 else 0) : ad < 2 ∧ ad < D ∧ dl.getD ad false = false := by
 by_cases h0 : 0 ≤ dd
 · rw [if_pos h0] at hdl
   by_cases h1 : de = 0
   · rw [if_pos ⟨h0, h1⟩] at had
     subst had hdl h1
     refine ⟨by omega, by omega, ?_⟩
     simp [List.getD, show 1 < D by omega]
   · rw [if_neg (fun h => h1 h.2)] at had
     subst had hdl
     refine ⟨by omega, by omega, ?_⟩
     simp [List.getD, h1, show 0 < D by omega]
 · rw [if_neg h0] at hdl
   rw [if_neg (fun h => h0 h.1)] at had
   subst had hdl
   exact ⟨by omega, by omega, by simp [List.getD, show 0 < D by omega]⟩
theorem prog_plain {D B P K ad us : Nat} {C : Nat → Nat → Nat} {dl : List Bool} (hP : 0 < P) (ha : ad < 2 ∧ ad < D ∧ dl.getD ad false = false) (hu : us < B) : (flD D B P C K dl).programE ⟨ad, us, 0⟩ (pg1 1) = 0 ∧ FinN D B P C dl ad us ((flD D B P C K dl).programN ⟨ad, us, 0⟩ (pg1 1)) := by
 have h1 : (flD D B P C K dl).inG ⟨ad, us, 0⟩ = true := by
  simp [Nd.inG, flD, flN, Nd.new]; omega
 have h2 : (flD D B P C K dl).dead.getD (Ad.mk ad us 0).d.toNat false = false := ha.2.2
 have hr : (flD D B P C K dl).refuses ⟨ad, us, 0⟩ = 0 := by
  unfold Nd.refuses
  rw [h1, h2]; rfl
 constructor
 · unfold Nd.programE
   rw [hr]; rfl
 · have e : (flD D B P C K dl).programN ⟨ad, us, 0⟩ (pg1 1) = { ((flD D B P C K dl).cutN.put ⟨ad, us, 0⟩ { (flD D B P C K dl).at ⟨ad, us, 0⟩ with cells := [⟨pg1 1, false, false⟩] }) with plan := [] } := by
    unfold Nd.programN
    rw [hr]; rfl
   rw [e]
   refine ⟨⟨rfl, rfl, rfl⟩, rfl, fun d b => ?_, fun d b => ?_⟩
   · show (if d = ad ∧ b = us then _ else _ : Blk).worn = _
     split
     · rename_i h; rw [h.1, h.2]; rfl
     · rfl
   · show (if d = ad ∧ b = us then _ else _ : Blk).cells.length = _
     split <;> rfl
theorem dead_bit (l : List Bool) (d : Nat) : ∀ k, (deadM l k).testBit d = (decide (d < k) && l.getD d false)
 | 0 => by simp [deadM]
 | k + 1 => by
  have ih := dead_bit l d k
  unfold deadM at ih ⊢
  rw [List.range_succ, List.foldl_append, List.foldl_cons, List.foldl_nil]
  by_cases hk : l.getD k false = true
  · rw [if_pos hk, Nat.testBit_or, ih, Nat.testBit_two_pow]
    by_cases e : k = d
    · subst e; rw [hk]; simp
    · simp only [e, decide_false, Bool.or_false]
      congr 1
      simp; omega
  · rw [if_neg hk, ih]
    by_cases e : k = d
    · subst e
      rw [show l.getD k false = false by simpa using hk]; simp
    · congr 1
      simp; omega
theorem and_bit : ∀ D : Nat, D ≤ 6 → ∀ m : Nat, m < 64 → ∀ d : Nat, d < D → (andN (2 ^ D - 1) m).testBit d = !m.testBit d := by decide +kernel
theorem alive_has {D ad : Nat} {dl : List Bool} {N : Nd} (h1 : N.D = D) (h2 : N.dead = dl) (hD : D ≤ 6) (ha : ad < 2 ∧ ad < D ∧ dl.getD ad false = false) : hasB (aliveM N : Int) (ad : Int) = true := by
 rw [hasB_nat]
 refine ⟨aliveM N, ad, rfl, rfl, by have := aliveM_lt (N := N) (by omega); omega, by omega, ?_⟩
 unfold aliveM
 rw [h1, h2, and_bit D hD _ (deadM_lt _ _ hD) ad ha.2.1, dead_bit, ha.2.2]
 simp
theorem alive_two : ∀ D : Nat, D ≤ 6 → ∀ de : Nat, de < D → andN (2 ^ D - 1) (deadM ((List.replicate D false).set de true) D) = 2 ^ D - 1 - 2 ^ de := by decide +kernel
theorem alive_one : ∀ D : Nat, D ≤ 6 → andN (2 ^ D - 1) (deadM (List.replicate D false) D) = 2 ^ D - 1 := by decide +kernel
theorem alive_val {D B P ad us de : Nat} {dd : Int} {C : Nat → Nat → Nat} {dl : List Bool} {N : Nd} {Y : Ty} (hL : Dim Y (Ty.new N.D N.B N.P) ∧ Y.dead = deadM N.dead N.D ∧ Y.alive = aliveM N ∧ Y.sb.length = N.B ∧ ∀ b, b < N.B → Y.sb[b]? = some (sbTo N b (aliveM N) Sb.none N.D)) (hF : FinN D B P C dl ad us N) (hD : D ≤ 6) (hB : 0 < B) (hde : de < D) (hdl : dl = if 0 ≤ dd then (List.replicate D false).set de true else List.replicate D false) :
 Y.alive = (if 0 ≤ dd then 2 ^ D - 1 - 2 ^ de else 2 ^ D - 1) ∧ Y.mask 0 = Y.alive := by
 have hs := hL.2.2.2.2 0 (by rw [hF.dim.2.1]; exact hB)
 have ha : Y.alive < 64 := by rw [hL.2.2.1]; exact aliveM_lt (by rw [hF.dim.1]; exact hD)
 constructor
 · rw [hL.2.2.1]
   unfold aliveM
   rw [hF.dim.1, hF.dead, hdl]
   split
   · exact alive_two D hD de hde
   · exact alive_one D hD
 · unfold Ty.mask
   rw [show (0 : Int) = ((0 : Nat) : Int) from rfl, tal.get_in hs]
   show andN Y.alive (sbTo N 0 (aliveM N) Sb.none N.D).bad = _
   rw [(sbTo_bad N 0 (aliveM N) Sb.none N.D).1]
   exact andN_zero _ ha
theorem and_facts : bits .andNot .i64 (7 : Int) (1 : Int) = 6 ∧ bits .andNot .i64 (7 : Int) (2 : Int) = 5 ∧ bits .andNot .i64 (7 : Int) (4 : Int) = 3 ∧ bits .andNot .i64 (15 : Int) (1 : Int) = 14 ∧ bits .andNot .i64 (15 : Int) (2 : Int) = 13 ∧ bits .andNot .i64 (15 : Int) (4 : Int) = 11 ∧ bits .andNot .i64 (15 : Int) (8 : Int) = 7 ∧ bits .andNot .i64 (31 : Int) (1 : Int) = 30 ∧ bits .andNot .i64 (31 : Int) (2 : Int) = 29 ∧ bits .andNot .i64 (31 : Int) (4 : Int) = 27 ∧ bits .andNot .i64 (31 : Int) (8 : Int) = 23 ∧ bits .andNot .i64 (31 : Int) (16 : Int) = 15 ∧ bits .andNot .i64 (63 : Int) (1 : Int) = 62 ∧ bits .andNot .i64 (63 : Int) (2 : Int) = 61 ∧ bits .andNot .i64 (63 : Int) (4 : Int) = 59 ∧ bits .andNot .i64 (63 : Int) (8 : Int) = 55 ∧ bits .andNot .i64 (63 : Int) (16 : Int) = 47 ∧ bits .andNot .i64 (63 : Int) (32 : Int) = 31 := by decide +kernel
theorem wrap_facts : IntKind.u64.wrap (0 : Int) = 0 ∧ IntKind.u64.wrap (1 : Int) = 1 ∧ IntKind.u64.wrap (2 : Int) = 2 ∧ IntKind.u64.wrap (3 : Int) = 3 ∧ IntKind.u64.wrap (4 : Int) = 4 ∧ IntKind.u64.wrap (5 : Int) = 5 ∧ IntKind.u64.wrap (6 : Int) = 6 ∧ IntKind.i64.wrap (1 : Int) = 1 ∧ IntKind.i64.wrap (2 : Int) = 2 ∧ IntKind.i64.wrap (4 : Int) = 4 ∧ IntKind.i64.wrap (8 : Int) = 8 ∧ IntKind.i64.wrap (16 : Int) = 16 ∧ IntKind.i64.wrap (32 : Int) = 32 ∧ IntKind.i64.wrap (64 : Int) = 64 ∧ min (0 : Int) 64 = 0 ∧ min (1 : Int) 64 = 1 ∧ min (2 : Int) 64 = 2 ∧ min (3 : Int) 64 = 3 ∧ min (4 : Int) 64 = 4 ∧ min (5 : Int) 64 = 5 ∧ min (6 : Int) 64 = 6 := by decide +kernel
structure St3 (w : World) (gb q tg tlb D B P : Nat) (Y : Ty) (c : Nat → Nat → Nat) (w' : World) : Prop where
 tal : tal.TalAt w' tg tlb Y
 geo : w'.heap[gb]? = some (.cells ([.int .i64 (D : Int), .int .i64 (B : Int), .int .i64 (P : Int)] : List Value).toArray 39 (0, 0))
 wo : w'.heap[q]? = some (.cells (wornV c).toArray 68 (0, 0))
 bel : Below w.heap.size w w'
theorem St3.below {w w' w'' : World} {gb q tg tlb D B P : Nat} {Y : Ty} {c : Nat → Nat → Nat} (h : St3 w gb q tg tlb D B P Y c w') (hb : Below w'.heap.size w' w'') : St3 w gb q tg tlb D B P Y c w'' :=
 ⟨h.tal.below hb, blk_below h.geo hb, blk_below h.wo hb, h.bel.trans (hb.mono h.bel.size)⟩
theorem tal_says {D B P ad us k : Nat} {C : Nat → Nat → Nat} {dl : List Bool} {N : Nd} {Y : Ty} (hL : Dim Y (Ty.new N.D N.B N.P) ∧ Y.dead = deadM N.dead N.D ∧ Y.alive = aliveM N ∧ Y.sb.length = N.B ∧ ∀ b, b < N.B → Y.sb[b]? = some (sbTo N b (aliveM N) Sb.none N.D)) (hF : FinN D B P C dl ad us N) (ha : ad < 2 ∧ ad < D ∧ dl.getD ad false = false) (hD : D ≤ 6) (hC : ∀ d b, D ≤ d → C d b = 0) (hk : k < B) :
 Y.wear (k : Int) = (mx C k 6 : Int) ∧ Y.blank (k : Int) = !decide (k = us) ∧ Y.held (k : Int) = false := by
 have hs := hL.2.2.2.2 k (by rw [hF.dim.2.1]; exact hk)
 have hw := sbTo_wear N k (aliveM N) N.D
 have hu := sbTo_used N k (aliveM N) N.D
 have hh := (sbTo_bad N k (aliveM N) Sb.none N.D).2
 unfold Ty.wear Ty.blank Ty.held
 rw [tal.get_in hs]
 refine ⟨?_, ?_, hh⟩
 · show (sbTo _ _ _ _ _).wear = _
   rw [hw, hF.dim.1, mx_more C k (fun d hd => hC d k hd) 6 hD]
   unfold mx
   congr 2
   funext m d
   rw [hF.worn]
 · show (!(sbTo _ _ _ _ _).used) = _
   congr 1
   rw [Bool.eq_iff_iff, hu, decide_eq_true_eq]
   constructor
   · rintro ⟨d, -, -, h⟩
     rw [hF.cells] at h
     split at h
     · rename_i e; exact e.2
     · omega
   · intro e
     refine ⟨ad, by rw [hF.dim.1]; exact ha.2.1, ?_, by rw [hF.cells, if_pos ⟨rfl, e⟩]; omega⟩
     exact alive_has hF.dim.1 hF.dead hD ha
def CutSt (w : World) (base g gb q D B P : Nat) (c : Nat → Nat → Nat) (w' : World) : Prop := ∃ k, k ≤ 40 ∧ St w base g gb q D B P (flN D B P c k) c w'
set_option maxRecDepth 100000 in
set_option maxHeartbeats 8000000 in
theorem walk0 (a b c : Int) (l : List Int) (A : Option Addr) (n cp : Nat) (dd : Int) (w : World) (hr : Rd w w.heap.size A n (ints .i64 l)) (hln : l.length = n) (hn : n ≤ maxLen) (hlw : ∀ x ∈ l, wfI x) (hdd : wfI dd) :
 Calls Tryz.prog 13 #[.agg #[.int .i64 a, .int .i64 b, .int .i64 c], .slice A n cp, .int .i64 dd] w fun e w' => e = .returned (.bool true) ∧ Below w.heap.size w w' := by
 obtain ⟨D, hD⟩ : ∃ D : Nat, (D : Int) = 3 + a % 4 := ⟨(3 + a % 4).toNat, by omega⟩
 obtain ⟨B, hB⟩ : ∃ B : Nat, (B : Int) = 8 + b % 9 := ⟨(8 + b % 9).toNat, by omega⟩
 obtain ⟨P, hP⟩ : ∃ P : Nat, (P : Int) = 2 + c % 7 := ⟨(2 + c % 7).toNat, by omega⟩
 have HG := Lib.hid (show 3 ≤ D ∧ D ≤ 6 ∧ 8 ≤ B ∧ B ≤ 16 ∧ 2 ≤ P ∧ P ≤ 8 by omega)
 have HGe := Lib.hid (fun W => geo_any a b c W)
 rw [← hD, ← hB, ← hP] at HGe
 have hb0 := nand.alloc_low w (.cells #[.int .i64 a, .int .i64 b, .int .i64 c] 39)
 have he := heap_new' w (.cells #[.int .i64 a, .int .i64 b, .int .i64 c] 39) _ rfl
 have HB0 := Lib.hid hb0
 have HE0 := Lib.hid he
 have HR := Lib.hid hr
 have HL := Lib.hid hln
 have HLW := Lib.hid hlw
 have HDD := Lib.hid hdd
 unfold maxLen at hn
 have HNM := Lib.hid hn
 clear hD hB hP hb0 he hr hln hlw hdd hn
 go_enter Tryz.func13, Tryz.ntmps13
 go_upto_region 1 with fail
 change Code.wp _ _ _ _ (w.alloc (.cells #[.int .i64 a, .int .i64 b, .int .i64 c] 39))
 generalize w.alloc (.cells #[.int .i64 a, .int .i64 b, .int .i64 c] 39) = wa at *
 go_wp2_with fail
 refine (begun13.begun13_any wa).mono ?_
 rintro e w1 ⟨rfl, hb1⟩
 have he1 := blk_below HE0.out hb1
 have HB1 := Lib.hid (HB0.out.trans (hb1.mono HB0.out.size))
 have c0 : w1.cell? ⟨w.heap.size, 0, none⟩ = some (.int .i64 a) := by rw [blk_cell he1]; rfl
 have c1 : w1.cell? ⟨w.heap.size, 1, none⟩ = some (.int .i64 b) := by rw [blk_cell he1]; rfl
 have c2 : w1.cell? ⟨w.heap.size, 2, none⟩ = some (.int .i64 c) := by rw [blk_cell he1]; rfl
 have HE1 := Lib.hid he1
 clear hb1 he1 HB0 HE0
 go_wp2_with fail
 refine (HGe.out _).mono ?_
 rintro e w2 ⟨rfl, hb2⟩
 have he2 := blk_below HE1.out hb2
 have HB2 := Lib.hid (HB1.out.trans (hb2.mono HB1.out.size))
 clear hb2 c0 c1 c2 HE1 HB1
 have iG : (Tryz.prog.info? 39).map (·.size) = some ([.int .i64 (D : Int), .int .i64 (B : Int), .int .i64 (P : Int)] : List Value).length := nand.geoInfo
 go_wp2_with (first | (refine wpList_put_row rfl 39 (.tmp 3) (.tmp 28) rfl w.heap.size [.int .i64 (D : Int), .int .i64 (B : Int), .int .i64 (P : Int)] rfl rfl 39 _ he2 iG rfl (by intro v hv; simp at hv; rcases hv with rfl | rfl | rfl <;> rfl) ?_; intro w3 hU3; have he3 := hU3.at_; have hb3 := hU3.below HB2.out (Nat.le_refl _); have hrow := range_blk he3; clear hU3) | (refine wpList_load_mid rfl 39 (.tmp 3) rfl w.heap.size 0 rfl [.int .i64 (D : Int), .int .i64 (B : Int), .int .i64 (P : Int)] _ hrow Tryz.underlying39 rfl iG ?_))
 refine (nand.new_any _ D B P HG.out).mono ?_
 rintro e w4 ⟨g, rfl, hn4, hb4⟩
 have he4 := blk_below he3 hb4
 have HB4 := Lib.hid (hb3.trans (hb4.mono hb3.size))
 have hlo4 := hb3.size
 have hN5 := fun o1 o2 => hn4.below (below2 w4 o1 o2)
 have he5 := fun o1 o2 => blk_below he4 (below2 w4 o1 o2)
 have HB5 := Lib.hid (fun o1 o2 => HB4.out.trans ((below2 w4 o1 o2).mono HB4.out.size))
 have HHE := Lib.hid (And.intro hN5 (And.intro he5 (lt_of_cells he4)))
 have HLB := Lib.hid hlo4
 clear hb4 hrow he4 he3 hb3 he2 HB2 HB4 hn4 hN5 he5 hlo4 iG HGe
 go_upto_region 8 with fail
 change Code.wp _ _ _ _ ((w4.alloc (.cells (wornV fun _ _ => 0).toArray 68)).alloc (.cells (eachV fun _ _ => 0).toArray 80))
 have hwa := heap_at1 w4 (.cells (wornV fun _ _ => 0).toArray 68) (.cells (eachV fun _ _ => 0).toArray 80)
 have hea := heap_new' (w4.alloc (.cells (wornV fun _ _ => 0).toArray 68)) (.cells (eachV fun _ _ => 0).toArray 80) (w4.heap.size + 1) (by simp)
 have hn5 := HHE.out.1 (.cells (wornV fun _ _ => 0).toArray 68) (.cells (eachV fun _ _ => 0).toArray 80)
 have he5 := HHE.out.2.1 (.cells (wornV fun _ _ => 0).toArray 68) (.cells (eachV fun _ _ => 0).toArray 80)
 have hb5 := HB5.out (.cells (wornV fun _ _ => 0).toArray 68) (.cells (eachV fun _ _ => 0).toArray 80)
 generalize (w4.alloc (.cells (wornV fun _ _ => 0).toArray 68)).alloc (.cells (eachV fun _ _ => 0).toArray 80) = w5 at *
 have HX := Lib.hid (show w.heap.size ≤ w3.heap.size ∧ w.heap.size < w4.heap.size from ⟨HLB.out, HHE.out.2.2⟩)
 have HS5 := Lib.hid (St.mk (N := flN D B P (cntL D B (l.take 0)) 0) (c := cntL D B (l.take 0)) hn5 he5 hwa hea hb5)
 clear hwa hea hn5 he5 hb5 HB5 HHE HLB
 generalize w3.heap.size = base at *
 generalize w4.heap.size = q at *
 go_upto_block 0 with fail
 go_cut [11] (fun _ wx => CutSt w base g w.heap.size q D B P (cntL D B (l.take 40)) wx)
 case first =>
  as_aux_lemma =>
   go_wp2_with fail
   go_loopw [11] (fun i wr => ∃ k : Nat, k ≤ n ∧ k ≤ 40 ∧ i = .int .i64 k ∧ St w base g w.heap.size q D B P (flN D B P (cntL D B (l.take k)) k) (cntL D B (l.take k)) wr) (fun i _ => n - (intOf i).toNat)
   case atStart => exact ⟨0, by omega, by omega, rfl, HS5.out⟩
   case round =>
    obtain ⟨k, hk, hk40, rfl, hst⟩ := hrel
    by_cases hgo : k < n ∧ k < 40
    · obtain ⟨hlt, hl40⟩ := hgo
      have hlI : (k : Int) < (n : Int) := by omega
      have hl40I : (k : Int) < 40 := by omega
      have hkl : k < l.length := by rw [HL.out]; exact hlt
      obtain ⟨x, hx⟩ : ∃ x, l[k]? = some x := ⟨_, List.getElem?_eq_getElem hkl⟩
      have hxw := HLW.out x (List.mem_of_getElem? hx)
      obtain ⟨⟨p1, p2⟩, hpr⟩ : ∃ p, p = pr D B x := ⟨_, rfl⟩
      have hpl := pr_lt (show 0 < D by have := HG.out; omega) (show 0 < B by have := HG.out; omega) x
      rw [← hpr] at hpl
      have HP := Lib.hid hpr
      have HPL := Lib.hid hpl
      have HXX := Lib.hid hx
      have HST := Lib.hid hst
      have HXW := Lib.hid hxw
      clear hx hkl hpr hpl hst hxw
      go_upto_region 11 with fail
      obtain ⟨bb, oo, rfl, hbb, hcl⟩ := (HR.out.below HST.out.bel (Nat.le_refl _)).at_ hlt
      have cx : wr.cell? ⟨bb, oo + k, none⟩ = some (.int .i64 x) := by rw [hcl, ints, List.getElem?_map, HXX.out]; rfl
      have cD : wr.cell? ⟨w.heap.size, 0, none⟩ = some (.int .i64 (D : Int)) := by rw [blk_cell HST.out.geo]; rfl
      have cB : wr.cell? ⟨w.heap.size, 1, none⟩ = some (.int .i64 (B : Int)) := by rw [blk_cell HST.out.geo]; rfl
      obtain ⟨hD3, hD6, hB8, hB16, -, -⟩ := HG.out
      have hDz : ¬ D = 0 := by omega
      have hBz : ¬ B = 0 := by omega
      clear hcl hbb
      have hk0 : (0 : Int) ≤ (k : Int) := by omega
      obtain ⟨y, hy⟩ : ∃ y, y = x.tdiv 7 := ⟨_, rfl⟩
      obtain ⟨e1, e2, e3⟩ := pr_wraps (D := D) (B := B) HXW.out (by omega) (by omega) (by omega) (by omega) HP.out
      replace e2 := e2.trans hy.symm
      rw [← hy] at e3
      clear hy
      refine wp_region_still_lit (by kernel_rfl) (by kernel_rfl) ?_
      repeat (refine wpStill_step (fun K hK => ?_); go_simp; refine hK _ ?_; clear hK K)
      refine wpStill_nil ?_
      have HST2 := Lib.hid (HST.out.below (Below.refl _ wr).drew)
      clear cx cD cB e1 e2 e3 HST
      have hfe := fl_erase (D := D) (B := B) (P := P) (c := cntL D B (l.take k)) (k := k) (by have := HG.out; omega) HPL.out.1 HPL.out.2
      have HER := Lib.hid (erase_any HST2.out.nd (p1 : Int) (p2 : Int) (by have := HPL.out; exact ad_wf (by omega) (by omega) (by omega)) (by show k ≤ _; omega) (by show cntL D B (l.take k) _ _ ≤ _; have h1 := cntL_le D B (p1 : Int).toNat (p2 : Int).toNat (l.take k) (fun _ _ => 0); have h2 : (l.take k).length ≤ k := List.length_take_le _ _; unfold cntL; omega) (by omega))
      rw [hfe.1, hfe.2] at HER
      have HCN := Lib.hid (show bump (cntL D B (l.take k)) p1 p2 = cntL D B (l.take (k + 1)) by
       rw [List.take_add_one, HXX.out, Option.toList_some, cntL_snoc, ← HP.out])
      clear hfe
      go_upto_region 14 with fail
      refine HER.out.mono ?_
      rintro e w7 ⟨rfl, hn7, hf7⟩
      obtain ⟨c', hc'⟩ : ∃ c', c' = cntL D B (l.take k) := ⟨_, rfl⟩
      have hge7 := hf7.blk HST2.out.geo rfl
      have hwo7 := hf7.blk HST2.out.wo rfl
      have hea7 := hf7.blk HST2.out.ea rfl
      have HB7 := Lib.hid (hf7.below HST2.out.bel HX.out.1 (Nat.le_refl _))
      have HN7 := Lib.hid hn7
      rw [← hc'] at hwo7 hea7 HCN HN7
      have HGE7 := Lib.hid hge7
      have HWO7 := Lib.hid hwo7
      have HEA7 := Lib.hid hea7
      have HC := Lib.hid hc'
      clear hn7 hf7 hge7 hwo7 hea7 hc' HER HST2
      go_wp2_with fail
      refine wp_tail 8 (by kernel_rfl) (by kernel_rfl) ?_
      intro wd hwd
      have hp16 : (p1 : Int) < 6 := by have := HPL.out; omega
      have hp10 : (0 : Int) ≤ (p1 : Int) := by omega
      have hp26 : (p2 : Int) < 16 := by have := HPL.out; omega
      have hp20 : (0 : Int) ≤ (p2 : Int) := by omega
      have hm40 : c' p1 p2 ≤ 40 := by have := cntL_le D B p1 p2 (l.take k) (fun _ _ => 0); rw [HC.out]; have h2 : (l.take k).length ≤ k := List.length_take_le _ _; unfold cntL; omega
      obtain ⟨m, hm⟩ : ∃ m, m = c' p1 p2 := ⟨_, rfl⟩
      rw [← hm] at hm40
      have hed : wd.heap[q + 1]? = some (.cells (eachV c').toArray 80 (0, 0)) := by rw [hwd]; exact HEA7.out
      have hwo : wd.heap[q]? = some (.cells (wornV c').toArray 68 (0, 0)) := by rw [hwd]; exact HWO7.out
      have cw : wd.cell? ⟨q + 1, p1 * 16 + p2, none⟩ = some (.int .i64 (m : Int)) := by
       rw [blk_cell hed, hm]
       exact each_get c' (by omega) (by omega)
      have fw := blk_frozen hed (p1 * 16 + p2)
      have hU := upd_setCell (i := p1 * 16 + p2) hed (.int .i64 ((m : Int) + 1))
      have hset : (eachV c').set (p1 * 16 + p2) (.int .i64 ((m : Int) + 1)) = eachV (bump c' p1 p2) := by
       rw [← each_set c' (by omega), ← hm]; rfl
      rw [hset] at hU
      have HU := Lib.hid hU
      have HW8 := Lib.hid (hU.old hwo (by omega))
      have hgd : wd.heap[w.heap.size]? = some (.cells ([.int .i64 (D : Int), .int .i64 (B : Int), .int .i64 (P : Int)] : List Value).toArray 39 (0, 0)) := by rw [hwd]; exact HGE7.out
      have HG8 := Lib.hid (hU.old hgd (by have := HX.out; omega))
      have hnd : NandIn wd base g 0 (flN D B P (bump c' p1 p2) (k + 1)) := by rw [hwd]; exact HN7.out.below (Below.refl _ _).drew
      have hbd : Below w.heap.size w wd := by rw [hwd]; exact HB7.out.drew
      have HN8 := Lib.hid (hnd.other (upd_grown hU) hed rfl)
      have HB8 := Lib.hid (hU.below hbd (by have := HX.out; omega))
      have HM := Lib.hid hm
      clear hwd hed hwo hU hset hgd hnd hbd hm HN7 HB7 HGE7 HWO7 HEA7
      simp only [List.take_succ_cons, List.take_zero, List.drop_succ_cons, List.drop_zero]
      repeat (refine wpStill_step (fun K hK => ?_); go_simp; refine hK _ ?_; clear hK K)
      refine wpStill_nil ?_
      go_upto_region 15 with fail
      clear cw fw
      generalize wd.setCell ⟨q + 1, p1 * 16 + p2, none⟩ (.int .i64 ((m : Int) + 1)) = w8 at *
      have HE8 := Lib.hid HU.out.at_
      obtain ⟨c2, hc2⟩ : ∃ c2, c2 = bump c' p1 p2 := ⟨_, rfl⟩
      refine wp_tail 11 (by kernel_rfl) (by kernel_rfl) ?_
      intro wf hwf
      obtain ⟨M, hM⟩ : ∃ M, M = mx c' p2 6 := ⟨_, rfl⟩
      obtain ⟨R, hR⟩ : ∃ R, R = max M (m + 1) := ⟨_, rfl⟩
      have hRI : max (M : Int) ((m : Int) + 1) = (R : Int) := by rw [hR]; omega
      have hed : wf.heap[q + 1]? = some (.cells (eachV (bump c' p1 p2)).toArray 80 (0, 0)) := by rw [hwf]; exact HE8.out
      have hwo : wf.heap[q]? = some (.cells (wornV c').toArray 68 (0, 0)) := by rw [hwf]; exact HW8.out
      have hgd : wf.heap[w.heap.size]? = some (.cells ([.int .i64 (D : Int), .int .i64 (B : Int), .int .i64 (P : Int)] : List Value).toArray 39 (0, 0)) := by rw [hwf]; exact HG8.out
      have hnd : NandIn wf base g 0 (flN D B P (bump c' p1 p2) (k + 1)) := by rw [hwf]; exact HN8.out.below (Below.refl _ _).drew
      have hbd : Below w.heap.size w wf := by rw [hwf]; exact HB8.out.drew
      have ce : wf.cell? ⟨q + 1, p1 * 16 + p2, none⟩ = some (.int .i64 ((m : Int) + 1)) := by
       rw [blk_cell hed, each_get _ (by omega) (by omega), HM.out]
       simp [bump]
      have cw : wf.cell? ⟨q, p2, none⟩ = some (.int .i64 (M : Int)) := by
       rw [blk_cell hwo, hM]
       exact worn_get c' (by omega)
      have fw := blk_frozen hwo p2
      have hU := upd_setCell (i := p2) hwo (.int .i64 (R : Int))
      have hset : (wornV c').set p2 (.int .i64 (R : Int)) = wornV (bump c' p1 p2) := by
       rw [← worn_set c' (d := p1) (by omega), ← HM.out, ← hM, hR]
      rw [hset] at hU
      have HF := Lib.hid (show St w base g w.heap.size q D B P (flN D B P (cntL D B (l.take (k + 1))) (k + 1)) (cntL D B (l.take (k + 1))) (wf.setCell ⟨q, p2, none⟩ (.int .i64 (R : Int))) by
       rw [← HCN.out]
       exact ⟨hnd.other (upd_grown hU) hwo rfl, hU.old hgd (by have := HX.out; omega), hU.at_, hU.old hed (by omega), hU.below hbd (Nat.le_of_lt HX.out.2)⟩)
      clear hwf hed hwo hU hset hgd hnd hbd hR hM HN8 HB8 HG8 HW8 HE8 HU hc2
      simp only [List.take_succ_cons, List.take_zero, List.drop_succ_cons, List.drop_zero]
      repeat (refine wpStill_step (fun K hK => ?_); go_simp; refine hK _ ?_; clear hK K)
      refine wpStill_nil ?_
      go_wp2_with fail
      go_roundw
      case rel => exact ⟨k + 1, by omega, by omega, by go_num, HF.out⟩
      case measure => simp [intOf]; omega
    · have hkk : k = n ∨ k = 40 := by omega
      have hkt : l.take k = l.take 40 := by
       rcases hkk with e | e
       · rw [List.take_of_length_le (by rw [HL.out]; omega), List.take_of_length_le (by rw [HL.out]; omega)]
       · rw [e]
      rw [hkt] at hst
      have HST := Lib.hid hst
      have HK := Lib.hid hk40
      obtain ⟨C, hC⟩ : ∃ C, C = cntL D B (l.take 40) := ⟨_, rfl⟩
      have HC0 := Lib.hid (show (∀ d b, D ≤ d → C d b = 0) ∧ (∀ d b, C d b ≤ 40) by
       rw [hC]
       refine ⟨fun d b hd => cntL_out (by have := HG.out; omega) (by have := HG.out; omega) hd _ _ rfl, fun d b => ?_⟩
       have h1 := cntL_le D B d b (l.take 40) (fun _ _ => 0)
       have h2 : (l.take 40).length ≤ 40 := List.length_take_le _ _
       unfold cntL; omega)
      rw [← hC] at HST
      have HFin := Lib.hid (show CutSt w base g w.heap.size q D B P (cntL D B (l.take 40)) wr from ⟨k, HK.out, by rw [← hC]; exact HST.out⟩)
      clear hC hkt hst HS5 HR HL HLW HNM hk hk40 HST
      rcases hkk with rfl | rfl
      all_goals
       clear hgo
       go_wp2_with fail
       all_goals
        go_meet
        exact HFin.out
 case rest =>
  obtain ⟨K, hK40, hst⟩ := hcut
  obtain ⟨C, hC⟩ : ∃ C, C = cntL D B (l.take 40) := ⟨_, rfl⟩
  rw [← hC] at hst
  have HC0 := Lib.hid (show (∀ d b, D ≤ d → C d b = 0) ∧ (∀ d b, C d b ≤ 40) by
   rw [hC]
   refine ⟨fun d b hd => cntL_out (by have := HG.out; omega) (by have := HG.out; omega) hd _ _ rfl, fun d b => ?_⟩
   have h1 := cntL_le D B d b (l.take 40) (fun _ _ => 0)
   have h2 : (l.take 40).length ≤ 40 := List.length_take_le _ _
   unfold cntL; omega)
  have HST := Lib.hid hst
  have HK := Lib.hid hK40
  clear hC hst hK40 HS5 HR HL HLW HNM
  obtain ⟨de, hde⟩ : ∃ de : Nat, de = (dd % (D : Int)).toNat := ⟨_, rfl⟩
  have hdeD : de < D := by
   have h1 := Int.emod_nonneg dd (show (D : Int) ≠ 0 by have := HG.out; omega)
   have h2 := Int.emod_lt_of_pos dd (show (0 : Int) < D by have := HG.out; omega)
   omega
  obtain ⟨dl, hdl⟩ : ∃ dl, dl = if 0 ≤ dd then (List.replicate D false).set de true else List.replicate D false := ⟨_, rfl⟩
  have HDE := Lib.hid (show dd % (D : Int) = (de : Int) by
   have h1 := Int.emod_nonneg dd (show (D : Int) ≠ 0 by have := HG.out; omega)
   omega)
  have HDL := Lib.hid hdl
  have HDL2 := Lib.hid hdeD
  clear hde hdeD hdl
  go_upto_if 93 with fail
  go_cut [] (fun wx => St2 w base g w.heap.size q D B P (flD D B P C K dl) C wx)
  case first =>
   as_aux_lemma =>
    by_cases h0 : 0 ≤ dd
    · obtain ⟨hD3, hD6, hB8, hB16, -, -⟩ := HG.out
      have hDz : ¬ D = 0 := by omega
      have e1 : dd % (D : Int) = (de : Int) := HDE.out
      have e2 : dd.tmod (D : Int) = (de : Int) := by rw [Int.tmod_eq_emod_of_nonneg h0]; exact e1
      have cD : wc.cell? ⟨w.heap.size, 0, none⟩ = some (.int .i64 (D : Int)) := by rw [blk_cell HST.out.geo]; rfl
      have hfn : (flN D B P C K).faultN ⟨0, 4, de, 0, 0, 0, 0⟩ = flD D B P C K dl := by
       rw [HDL.out, if_pos h0]
       exact fault_plain (by omega) (by omega) (by have := HG.out; omega) HDL2.out
      have HF := Lib.hid (fault_in HST.out.nd ⟨0, 4, de, 0, 0, 0, 0⟩ (flt_wf4 (by have := HDL2.out; omega)) (by omega))
      rw [hfn] at HF
      clear hfn
      go_wp2_with (first | (refine wpList_build_l rfl 85 _ rfl [(0, .int .i64 _)] rfl _ (ad_d _) ?_) | (refine wpList_build_l rfl 87 _ rfl [(1, .int .i64 _), (2, .agg _)] rfl _ (flt_ka 4 de 0 0) ?_))
      refine HF.out.mono ?_
      rintro e w7 ⟨rfl, hn7, hf7⟩
      have HR7 := Lib.hid (St2.mk hn7 (hf7.blk HST.out.geo rfl) (hf7.blk HST.out.wo rfl) (hf7.below HST.out.bel HX.out.1 (Nat.le_refl _)))
      clear hn7 hf7
      go_wp2_with fail
      go_meet
      exact HR7.out
    · have hfn : flN D B P C K = flD D B P C K dl := by rw [HDL.out, if_neg h0]; rfl
      have HR7 := Lib.hid (St2.mk (HST.out.nd.mono (Nat.zero_le 1)) HST.out.geo HST.out.wo HST.out.bel)
      rw [hfn] at HR7
      clear hfn
      go_wp2_with fail
      go_meet
      exact HR7.out
  case rest =>
   have HS2 := Lib.hid hcut
   clear hcut HST
   obtain ⟨s, v, us, e1, e2, e3, e4, hus⟩ := used_wraps dd (B := B) (by have := HG.out; omega) (by have := HG.out; omega)
   have HUS := Lib.hid hus
   have hBz : ¬ B = 0 := by have := HG.out; omega
   have cB : ∀ nq, (wc.drewN nq).cell? ⟨w.heap.size, 1, none⟩ = some (.int .i64 (B : Int)) := fun nq => by rw [blk_cell (show (wc.drewN nq).heap[w.heap.size]? = _ from HS2.out.geo)]; rfl
   have cB0 : wc.cell? ⟨w.heap.size, 1, none⟩ = some (.int .i64 (B : Int)) := cB 0
   have HCB := Lib.hid cB
   clear cB hus
   go_upto_region 18 with fail
   refine wp_region_still_lit (by kernel_rfl) (by kernel_rfl) ?_
   repeat (refine wpStill_step (fun K hK => ?_); go_simp; refine hK _ ?_; clear hK K)
   refine wpStill_nil ?_
   have HS3 := Lib.hid (HS2.out.below (Below.refl _ wc).drew)
   clear HS2 cB0 e1 e2 HCB
   go_upto_region 19 with fail
   have cB3 : wc.drew.cell? ⟨w.heap.size, 1, none⟩ = some (.int .i64 (B : Int)) := by rw [blk_cell HS3.out.geo]; rfl
   obtain ⟨ad, had⟩ : ∃ ad : Nat, ad = if 0 ≤ dd ∧ de = 0 then 1 else 0 := ⟨_, rfl⟩
   have HAD := Lib.hid had
   have hnew : ∀ o, (wc.alloc o).drew.heap[wc.heap.size]? = some o := fun o => heap_new' wc o _ rfl
   have hS4 : ∀ o, St2 w base g w.heap.size q D B P (flD D B P C K dl) C (wc.alloc o).drew := fun o => HS3.out.below (by
    have x := ((Below.refl _ wc).alloc (Nat.le_refl _) o).drew
    exact ⟨x.os, x.tape, x.output, x.size, x.block⟩)
   have hxg : w.heap.size < wc.heap.size := lt_of_cells HS3.out.geo
   go_upto_region 21 with (first | (refine wpList_build_l rfl 85 _ rfl [(0, .int .i64 _), (1, .int .i64 _)] rfl _ (ad_db 0 us) ?_) | (refine wpList_put_row rfl 85 (.tmp 15) (.tmp 117) rfl wc.heap.size (Ad.mk 0 us 0).v rfl rfl 85 _ (hnew _) aInfo rfl (one_ad _) ?_; intro w9 hU9; have h9 := hU9.at_; have hS9 := hU9.st2 (hS4 _) hxg hxg _ (hnew _); clear hU9))
   go_simp
   have H9 := Lib.hid (And.intro h9 hS9)
   have HLT := Lib.hid hxg
   clear h9 hS9 hS4 hnew hxg cB3 e3 e4 HS3 had
   generalize wc.heap.size = xa at *
   obtain ⟨Tb, hTb⟩ : ∃ Tb : Bool, Tb = decide (0 ≤ dd ∧ de = 0) := ⟨_, rfl⟩
   have HTB := Lib.hid hTb
   clear hTb
   go_cut [126] (fun v wx => v = .bool Tb ∧ wx = w9)
   case first =>
    as_aux_lemma =>
     have cD : w9.cell? ⟨w.heap.size, 0, none⟩ = some (.int .i64 (D : Int)) := by rw [blk_cell H9.out.2.geo]; rfl
     have hDz : ¬ D = 0 := by have := HG.out; omega
     by_cases h0 : 0 ≤ dd
     · have e1 : dd % (D : Int) = (de : Int) := HDE.out
       have e2 : dd.tmod (D : Int) = (de : Int) := by rw [Int.tmod_eq_emod_of_nonneg h0]; exact e1
       by_cases hd0 : de = 0
       · have HF := Lib.hid (show (true : Bool) = Tb by rw [HTB.out, decide_eq_true ⟨h0, hd0⟩])
         subst hd0
         go_wp2_with fail
         go_meet
         exact ⟨by rw [← HF.out], rfl⟩
       · have HF := Lib.hid (show (false : Bool) = Tb by rw [HTB.out, decide_eq_false (fun h => hd0 h.2)])
         have hq0 : ((de : Int) == 0) = false := by simpa using hd0
         go_wp2_with fail
         go_meet
         exact ⟨by rw [← HF.out], rfl⟩
     · have HF := Lib.hid (show (false : Bool) = Tb by rw [HTB.out, decide_eq_false (fun h => h0 h.1)])
       have hq : decide (0 ≤ dd) = false := decide_eq_false h0
       clear h0
       go_wp2_with fail
       go_meet
       exact ⟨by rw [← HF.out], rfl⟩
   case rest =>
   obtain ⟨rfl, hwx⟩ := hcut
   replace hwx := hwx.symm
   subst hwx
   cases Tb
   case' false =>
    have hh : ¬ (0 ≤ dd ∧ de = 0) := by have := HTB.out; simpa using this
    have HF := Lib.hid (show w9.heap[xa]? = some (.cells (Ad.mk ad us 0).v.toArray 85 (0, 0)) ∧ St2 w base g w.heap.size q D B P (flD D B P C K dl) C w9 by
     rw [HAD.out, if_neg hh]
     exact H9.out)
    clear hh H9 HTB
    go_upto_region 23 with fail
   case' true =>
    have hh : 0 ≤ dd ∧ de = 0 := by have := HTB.out; simpa using this
    have hU := upd_setCell (i := 0) H9.out.1 (.int .i64 1)
    have HF := Lib.hid (show (w9.setCell ⟨xa, 0, none⟩ (.int .i64 1)).heap[xa]? = some (.cells (Ad.mk ad us 0).v.toArray 85 (0, 0)) ∧ St2 w base g w.heap.size q D B P (flD D B P C K dl) C (w9.setCell ⟨xa, 0, none⟩ (.int .i64 1)) by
     rw [HAD.out, if_pos hh]
     exact ⟨hU.at_, hU.st2 H9.out.2 HLT.out HLT.out _ H9.out.1⟩)
    have cx : w9.cell? ⟨xa, 0, none⟩ = some (.int .i64 0) := by rw [blk_cell H9.out.1]; rfl
    have fx := blk_frozen H9.out.1 0
    clear hU hh H9 HTB
    go_upto_region 23 with fail
    clear cx fx
    generalize w9.setCell ⟨xa, 0, none⟩ (.int .i64 1) = w10 at *
   all_goals
    obtain ⟨hxa, hs2⟩ := HF.out
    have HAL := Lib.hid (alive_ok HDL2.out (by have := HG.out; omega) HDL.out HAD.out)
    obtain ⟨hpE, hFin⟩ := prog_plain (B := B) (P := P) (C := C) (K := K) (by have := HG.out; omega) HAL.out HUS.out
    have HFN := Lib.hid hFin
    have HPR := Lib.hid (program_any hs2.nd ⟨ad, us, 0⟩ (ad_wf (d := ad) (b := us) (p := 0) (by have := HAL.out; have := HG.out; omega) (by have := HUS.out; have := HG.out; omega) (by omega)) (pg1 1) (pg1_ok (by decide)).1 (pg1_ok (by decide)).2 (by show K ≤ _; have := HK.out; omega) (by show 0 ≤ _; omega))
    rw [hpE] at HPR
    obtain ⟨N9, hN9⟩ : ∃ N9, N9 = (flD D B P C K dl).programN ⟨ad, us, 0⟩ (pg1 1) := ⟨_, rfl⟩
    rw [← hN9] at HPR HFN
    have hrx := range_blk (cs := (Ad.mk ad us 0).v) hxa
    have HS2 := Lib.hid hs2
    clear hpE hFin hN9 hs2 HF
    go_wp2_with (first | (refine wpList_load_mid rfl 85 (.tmp 15) rfl xa 0 rfl (Ad.mk ad us 0).v _ hrx Tryz.underlying85 rfl aInfo ?_) | (refine wpList_build_l rfl 90 _ rfl [(0, .int .u8 _)] rfl _ (built_pg1 1) ?_))
    refine HPR.out.mono ?_
    rintro e wp ⟨rfl, hnp, hfp⟩
    have hgp := hfp.blk HS2.out.geo rfl
    have hwp := hfp.blk HS2.out.wo rfl
    have HBP := Lib.hid (hfp.below HS2.out.bel HX.out.1 (Nat.le_refl _))
    have HOF := Lib.hid (of_any hnp)
    have HGP := Lib.hid hgp
    have HWP := Lib.hid hwp
    clear hnp hfp hgp hwp HS2 HPR hxa hrx
    go_wp2_with fail
    refine HOF.out.mono ?_
    rintro e wt ⟨tg, tlb, rfl, htal, -, -, hbt⟩
    have HGT := Lib.hid (blk_below HGP.out hbt)
    have HWT := Lib.hid (blk_below HWP.out hbt)
    have HBT := Lib.hid (HBP.out.trans (hbt.mono HBP.out.size))
    have HTA := Lib.hid htal
    clear htal hbt HGP HWP HBP HOF
    have HD6 := Lib.hid (show N9.D ≤ 6 by have := HG.out; rw [HFN.out.dim.1]; omega)
    have HLAW := Lib.hid (tallyOf_law N9 HD6.out)
    obtain ⟨Y, hY⟩ : ∃ Y, Y = tallyOf N9 := ⟨_, rfl⟩
    rw [← hY] at HTA HLAW
    clear hY
    go_wp2_with fail
    go_loopw [17] (fun i wr => ∃ k : Nat, k ≤ B ∧ i = .int .i64 k ∧ St3 w w.heap.size q tg tlb D B P Y C wr) (fun i _ => B - (intOf i).toNat)
    case atStart => exact ⟨0, by omega, rfl, HTA.out, HGT.out, HWT.out, HBT.out⟩
    case round =>
     obtain ⟨k, hk, rfl, hst⟩ := hrel
     have cB : wr.cell? ⟨w.heap.size, 1, none⟩ = some (.int .i64 (B : Int)) := by rw [blk_cell hst.geo]; rfl
     have HS3 := Lib.hid hst
     clear hst HTA HGT HWT HBT
     by_cases hlt : k < B
     · have hltI : (k : Int) < (B : Int) := by omega
       obtain ⟨q1, q2, q3⟩ := tal_says HLAW.out HFN.out HAL.out (by have := HG.out; omega) HC0.out.1 hlt
       obtain ⟨M, hM⟩ : ∃ M, M = mx C k 6 := ⟨_, rfl⟩
       rw [← hM] at q1
       have hk16 : k < 16 := by have := HG.out; omega
       have hk0 : (0 : Int) ≤ (k : Int) := by omega
       have hk16I : (k : Int) < 16 := by omega
       have cM : wr.cell? ⟨q, k, none⟩ = some (.int .i64 (M : Int)) := by
        rw [blk_cell HS3.out.wo, hM]
        exact worn_get C hk16
       have HA1 := Lib.hid (fun j => tal.wear_any (HS3.out.tal.below (below_drewN (Below.refl _ wr) j)) (k : Int))
       have HA2 := Lib.hid (fun j => tal.blank_any (HS3.out.tal.below (below_drewN (Below.refl _ wr) j)) (k : Int))
       have HA3 := Lib.hid (fun j => tal.held_any (HS3.out.tal.below (below_drewN (Below.refl _ wr) j)) (k : Int))
       rw [q1] at HA1
       rw [q2] at HA2
       rw [q3] at HA3
       clear hM q1 q2 q3
       have HR := Lib.hid (fun j => (HS3.out).below (below_drewN (Below.refl _ wr) j))
       by_cases hku : k = us
       · rw [decide_eq_true hku] at HA2
         have hq : ((k : Int) == (us : Int)) = true := by simp; omega
         clear hku
         go_upto_region 29 with fail
         go_quiet (first | (go_at_call 23; exact Calls.quiet_of_same ((HA1.out _).mono fun _ _ h => ⟨h.1, h.2.symm⟩)) | (go_at_call 35; exact Calls.quiet_of_same ((HA2.out _).mono fun _ _ h => ⟨h.1, h.2.symm⟩)) | (go_at_call 36; exact Calls.quiet_of_same ((HA3.out _).mono fun _ _ h => ⟨h.1, h.2.symm⟩)))
         clear cB cM
         go_wp2_with fail
         go_roundw
         case rel => exact ⟨k + 1, by omega, by go_num, HR.out _⟩
         case measure => simp [intOf]; omega
       · rw [decide_eq_false hku] at HA2
         have hq : ((k : Int) == (us : Int)) = false := by simp; omega
         clear hku
         go_upto_region 29 with fail
         go_quiet (first | (go_at_call 23; exact Calls.quiet_of_same ((HA1.out _).mono fun _ _ h => ⟨h.1, h.2.symm⟩)) | (go_at_call 35; exact Calls.quiet_of_same ((HA2.out _).mono fun _ _ h => ⟨h.1, h.2.symm⟩)) | (go_at_call 36; exact Calls.quiet_of_same ((HA3.out _).mono fun _ _ h => ⟨h.1, h.2.symm⟩)))
         clear cB cM
         go_wp2_with fail
         go_roundw
         case rel => exact ⟨k + 1, by omega, by go_num, HR.out _⟩
         case measure => simp [intOf]; omega
     · obtain rfl : k = B := by omega
       obtain ⟨hv, hm⟩ := alive_val HLAW.out HFN.out (by have := HG.out; omega) (by have := HG.out; omega) HDL2.out HDL.out
       have cD : wr.cell? ⟨w.heap.size, 0, none⟩ = some (.int .i64 (D : Int)) := by rw [blk_cell HS3.out.geo]; rfl
       have HAl := Lib.hid (tal.alive_any HS3.out.tal)
       have HMk := Lib.hid (fun j => tal.mask_any (tal.drewN_at HS3.out.tal j) 0)
       have HB3 := Lib.hid HS3.out.bel
       have HEQ := Lib.hid HDE.out
       have HV := Lib.hid hv
       obtain ⟨V, hV⟩ : ∃ V, V = Y.alive := ⟨_, rfl⟩
       rw [hm, ← hV] at HMk
       rw [← hV] at HAl HV
       have hG := HG.out
       have hdD := HDL2.out
       obtain ⟨h3, h6, -, -, -, -⟩ := hG
       clear hv hm hV HS3 HLAW HFN HAL HAD HC0 HDL HUS
       have hcs : D = 3 ∨ D = 4 ∨ D = 5 ∨ D = 6 := by omega
       clear h3 h6
       by_cases h0 : 0 ≤ dd
       · have hcd : de = 0 ∨ de = 1 ∨ de = 2 ∨ de = 3 ∨ de = 4 ∨ de = 5 := by omega
         rw [if_pos h0] at HV
         obtain ⟨b0, b1, b2, b3, b4, b5, b6, b7, b8, b9, b10, b11, b12, b13, b14, b15, b16, b17, b18, b19, b20⟩ := wrap_facts
         obtain ⟨a0, a1, a2, a3, a4, a5, a6, a7, a8, a9, a10, a11, a12, a13, a14, a15, a16, a17⟩ := and_facts
         clear HDE HDL2
         rcases hcs with rfl | rfl | rfl | rfl <;> rcases hcd with rfl | rfl | rfl | rfl | rfl | rfl
         all_goals try (exfalso; omega)
         · as_aux_lemma =>
           obtain rfl := HV.out
           have e1 : dd % (3 : Int) = 0 := HEQ.out
           clear HV hdD
           go_wp2_with fail
           refine HAl.out.mono ?_
           rintro e wa2 ⟨rfl, n2, rfl⟩
           go_wp2_with fail
           refine (HMk.out n2).mono ?_
           rintro e wb2 ⟨rfl, n3, rfl⟩
           go_wp2_with fail
           go_ret
           exact ⟨rfl, below_drewN HB3.out _⟩
         · as_aux_lemma =>
           obtain rfl := HV.out
           have e1 : dd % (3 : Int) = 1 := HEQ.out
           clear HV hdD
           go_wp2_with fail
           refine HAl.out.mono ?_
           rintro e wa2 ⟨rfl, n2, rfl⟩
           go_wp2_with fail
           refine (HMk.out n2).mono ?_
           rintro e wb2 ⟨rfl, n3, rfl⟩
           go_wp2_with fail
           go_ret
           exact ⟨rfl, below_drewN HB3.out _⟩
         · as_aux_lemma =>
           obtain rfl := HV.out
           have e1 : dd % (3 : Int) = 2 := HEQ.out
           clear HV hdD
           go_wp2_with fail
           refine HAl.out.mono ?_
           rintro e wa2 ⟨rfl, n2, rfl⟩
           go_wp2_with fail
           refine (HMk.out n2).mono ?_
           rintro e wb2 ⟨rfl, n3, rfl⟩
           go_wp2_with fail
           go_ret
           exact ⟨rfl, below_drewN HB3.out _⟩
         · as_aux_lemma =>
           obtain rfl := HV.out
           have e1 : dd % (4 : Int) = 0 := HEQ.out
           clear HV hdD
           go_wp2_with fail
           refine HAl.out.mono ?_
           rintro e wa2 ⟨rfl, n2, rfl⟩
           go_wp2_with fail
           refine (HMk.out n2).mono ?_
           rintro e wb2 ⟨rfl, n3, rfl⟩
           go_wp2_with fail
           go_ret
           exact ⟨rfl, below_drewN HB3.out _⟩
         · as_aux_lemma =>
           obtain rfl := HV.out
           have e1 : dd % (4 : Int) = 1 := HEQ.out
           clear HV hdD
           go_wp2_with fail
           refine HAl.out.mono ?_
           rintro e wa2 ⟨rfl, n2, rfl⟩
           go_wp2_with fail
           refine (HMk.out n2).mono ?_
           rintro e wb2 ⟨rfl, n3, rfl⟩
           go_wp2_with fail
           go_ret
           exact ⟨rfl, below_drewN HB3.out _⟩
         · as_aux_lemma =>
           obtain rfl := HV.out
           have e1 : dd % (4 : Int) = 2 := HEQ.out
           clear HV hdD
           go_wp2_with fail
           refine HAl.out.mono ?_
           rintro e wa2 ⟨rfl, n2, rfl⟩
           go_wp2_with fail
           refine (HMk.out n2).mono ?_
           rintro e wb2 ⟨rfl, n3, rfl⟩
           go_wp2_with fail
           go_ret
           exact ⟨rfl, below_drewN HB3.out _⟩
         · as_aux_lemma =>
           obtain rfl := HV.out
           have e1 : dd % (4 : Int) = 3 := HEQ.out
           clear HV hdD
           go_wp2_with fail
           refine HAl.out.mono ?_
           rintro e wa2 ⟨rfl, n2, rfl⟩
           go_wp2_with fail
           refine (HMk.out n2).mono ?_
           rintro e wb2 ⟨rfl, n3, rfl⟩
           go_wp2_with fail
           go_ret
           exact ⟨rfl, below_drewN HB3.out _⟩
         · as_aux_lemma =>
           obtain rfl := HV.out
           have e1 : dd % (5 : Int) = 0 := HEQ.out
           clear HV hdD
           go_wp2_with fail
           refine HAl.out.mono ?_
           rintro e wa2 ⟨rfl, n2, rfl⟩
           go_wp2_with fail
           refine (HMk.out n2).mono ?_
           rintro e wb2 ⟨rfl, n3, rfl⟩
           go_wp2_with fail
           go_ret
           exact ⟨rfl, below_drewN HB3.out _⟩
         · as_aux_lemma =>
           obtain rfl := HV.out
           have e1 : dd % (5 : Int) = 1 := HEQ.out
           clear HV hdD
           go_wp2_with fail
           refine HAl.out.mono ?_
           rintro e wa2 ⟨rfl, n2, rfl⟩
           go_wp2_with fail
           refine (HMk.out n2).mono ?_
           rintro e wb2 ⟨rfl, n3, rfl⟩
           go_wp2_with fail
           go_ret
           exact ⟨rfl, below_drewN HB3.out _⟩
         · as_aux_lemma =>
           obtain rfl := HV.out
           have e1 : dd % (5 : Int) = 2 := HEQ.out
           clear HV hdD
           go_wp2_with fail
           refine HAl.out.mono ?_
           rintro e wa2 ⟨rfl, n2, rfl⟩
           go_wp2_with fail
           refine (HMk.out n2).mono ?_
           rintro e wb2 ⟨rfl, n3, rfl⟩
           go_wp2_with fail
           go_ret
           exact ⟨rfl, below_drewN HB3.out _⟩
         · as_aux_lemma =>
           obtain rfl := HV.out
           have e1 : dd % (5 : Int) = 3 := HEQ.out
           clear HV hdD
           go_wp2_with fail
           refine HAl.out.mono ?_
           rintro e wa2 ⟨rfl, n2, rfl⟩
           go_wp2_with fail
           refine (HMk.out n2).mono ?_
           rintro e wb2 ⟨rfl, n3, rfl⟩
           go_wp2_with fail
           go_ret
           exact ⟨rfl, below_drewN HB3.out _⟩
         · as_aux_lemma =>
           obtain rfl := HV.out
           have e1 : dd % (5 : Int) = 4 := HEQ.out
           clear HV hdD
           go_wp2_with fail
           refine HAl.out.mono ?_
           rintro e wa2 ⟨rfl, n2, rfl⟩
           go_wp2_with fail
           refine (HMk.out n2).mono ?_
           rintro e wb2 ⟨rfl, n3, rfl⟩
           go_wp2_with fail
           go_ret
           exact ⟨rfl, below_drewN HB3.out _⟩
         · as_aux_lemma =>
           obtain rfl := HV.out
           have e1 : dd % (6 : Int) = 0 := HEQ.out
           clear HV hdD
           go_wp2_with fail
           refine HAl.out.mono ?_
           rintro e wa2 ⟨rfl, n2, rfl⟩
           go_wp2_with fail
           refine (HMk.out n2).mono ?_
           rintro e wb2 ⟨rfl, n3, rfl⟩
           go_wp2_with fail
           go_ret
           exact ⟨rfl, below_drewN HB3.out _⟩
         · as_aux_lemma =>
           obtain rfl := HV.out
           have e1 : dd % (6 : Int) = 1 := HEQ.out
           clear HV hdD
           go_wp2_with fail
           refine HAl.out.mono ?_
           rintro e wa2 ⟨rfl, n2, rfl⟩
           go_wp2_with fail
           refine (HMk.out n2).mono ?_
           rintro e wb2 ⟨rfl, n3, rfl⟩
           go_wp2_with fail
           go_ret
           exact ⟨rfl, below_drewN HB3.out _⟩
         · as_aux_lemma =>
           obtain rfl := HV.out
           have e1 : dd % (6 : Int) = 2 := HEQ.out
           clear HV hdD
           go_wp2_with fail
           refine HAl.out.mono ?_
           rintro e wa2 ⟨rfl, n2, rfl⟩
           go_wp2_with fail
           refine (HMk.out n2).mono ?_
           rintro e wb2 ⟨rfl, n3, rfl⟩
           go_wp2_with fail
           go_ret
           exact ⟨rfl, below_drewN HB3.out _⟩
         · as_aux_lemma =>
           obtain rfl := HV.out
           have e1 : dd % (6 : Int) = 3 := HEQ.out
           clear HV hdD
           go_wp2_with fail
           refine HAl.out.mono ?_
           rintro e wa2 ⟨rfl, n2, rfl⟩
           go_wp2_with fail
           refine (HMk.out n2).mono ?_
           rintro e wb2 ⟨rfl, n3, rfl⟩
           go_wp2_with fail
           go_ret
           exact ⟨rfl, below_drewN HB3.out _⟩
         · as_aux_lemma =>
           obtain rfl := HV.out
           have e1 : dd % (6 : Int) = 4 := HEQ.out
           clear HV hdD
           go_wp2_with fail
           refine HAl.out.mono ?_
           rintro e wa2 ⟨rfl, n2, rfl⟩
           go_wp2_with fail
           refine (HMk.out n2).mono ?_
           rintro e wb2 ⟨rfl, n3, rfl⟩
           go_wp2_with fail
           go_ret
           exact ⟨rfl, below_drewN HB3.out _⟩
         · as_aux_lemma =>
           obtain rfl := HV.out
           have e1 : dd % (6 : Int) = 5 := HEQ.out
           clear HV hdD
           go_wp2_with fail
           refine HAl.out.mono ?_
           rintro e wa2 ⟨rfl, n2, rfl⟩
           go_wp2_with fail
           refine (HMk.out n2).mono ?_
           rintro e wb2 ⟨rfl, n3, rfl⟩
           go_wp2_with fail
           go_ret
           exact ⟨rfl, below_drewN HB3.out _⟩
       · rw [if_neg h0] at HV
         have hq : decide (0 ≤ dd) = false := decide_eq_false h0
         clear HDE HDL2 h0 hdD
         rcases hcs with rfl | rfl | rfl | rfl
         all_goals
          obtain rfl := HV.out
          clear HV
          go_wp2_with fail
          refine HAl.out.mono ?_
          rintro e wa2 ⟨rfl, n2, rfl⟩
          go_wp2_with fail
          refine (HMk.out n2).mono ?_
          rintro e wb2 ⟨rfl, n3, rfl⟩
          go_wp2_with fail
          go_ret
          exact ⟨rfl, below_drewN HB3.out _⟩
theorem walk (a0 : List Value) (A : Option Addr) (n c : Nat) (z : List Int) (a2 : Int) (w : World) (w0 : okAll (List.replicate 3 (Kd.int .i64)) a0 = true) (w1 : IsRow .i64 w A n c z) (w2 : (Lit.int .i64 a2).wf = true) : Calls Tryz.prog 13 #[.agg a0.toArray, .slice A n c, .int .i64 a2] w fun e w' => e = .returned (.bool true) ∧ Below w.heap.size w w' := by
 obtain ⟨x, y, v, rfl⟩ := pickHeld.open_geo3 w0
 obtain ⟨h1, h2, h3, h4, h5⟩ := w1.rd
 exact walk0 x y v (z.take n) A n c a2 w h1 h4 (Nat.le_trans h2 h3) h5 w2
end Go.Proofs.YtpbigfopmompfaaGreat.tallyOf
