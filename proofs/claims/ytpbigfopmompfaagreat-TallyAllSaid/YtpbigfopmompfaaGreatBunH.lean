import Derived.Test.YtpbigfopmompfaaGreatSpotRel
import Derived.Deep.RegionLaw
import Derived.Deep.Cut
import Derived.Laws.Pointers
/- What a claim's proof leans on: SpotOps, NandModel. -/
namespace Go.Proofs.YtpbigfopmompfaaGreat
open Go.RowKit
open Go.Maps (Keyed)
set_option linter.unusedVariables false
def Spot (w : World) (T : TypeId) (g b n : Nat) (f : List (Ad × Value)) : Prop :=
 w.heap[g]? = some (.cells #[.map (some b)] T (0, 0)) ∧ ∃ D, w.ownsMap Tryz.prog 85 anyElem b n D ∧ Rel D f
theorem owns_below {w w' : World} {b n : Nat} {D : DataW Value} (h : w.ownsMap Tryz.prog 85 anyElem b n D) (hb : Below w.heap.size w w') : w'.ownsMap Tryz.prog 85 anyElem b n D := by
 obtain ⟨es, clock, h1, h2⟩ := h
 exact ⟨es, clock, zad h1 hb, h2⟩
theorem Spot.below {w w' : World} {T : TypeId} {g b n : Nat} {f : List (Ad × Value)} (h : Spot w T g b n f) (hb : Below w.heap.size w w') : Spot w' T g b n f := by
 obtain ⟨h1, D, h2, h3⟩ := h
 exact ⟨zad h1 hb, D, owns_below h2 hb, h3⟩
theorem Spot.lt {w : World} {T : TypeId} {g b n : Nat} {f : List (Ad × Value)} (h : Spot w T g b n f) : g < w.heap.size ∧ b < w.heap.size := by
 obtain ⟨h1, D, h2, h3⟩ := h
 exact ⟨zag h1, h2.lt⟩
theorem Spot.mono {w : World} {T : TypeId} {g b n n' : Nat} {f : List (Ad × Value)} (h : Spot w T g b n f) (hn : n ≤ n') : Spot w T g b n' f := by
 obtain ⟨h1, D, h2, h3⟩ := h
 exact ⟨h1, D, h2.mono hn, h3⟩
theorem ad_at {w : World} {g : Nat} {a : Ad} {t : TypeId} {fr : Nat × Nat} (h : w.heap[g]? = some (.cells a.v.toArray t fr)) :
 w.cell? ⟨g, 0, none⟩ = some (.int .i64 a.d) ∧ w.cell? ⟨g, 1, none⟩ = some (.int .i64 a.b) ∧ w.cell? ⟨g, 2, none⟩ = some (.int .i64 a.p) := by
 refine ⟨by rw [zaf h]; rfl, by rw [zaf h]; rfl, by rw [zaf h]; rfl⟩
theorem owns_ne {w : World} {b n g : Nat} {D : DataW Value} {cs : Array Value} {t : TypeId} {fr : Nat × Nat} (h : w.ownsMap Tryz.prog 85 anyElem b n D) (hg : w.heap[g]? = some (.cells cs t fr)) : g ≠ b := by
 obtain ⟨es, clock, h1, -⟩ := h
 intro e
 rw [e, h1] at hg
 cases hg
theorem zb4 {w w' : World} {row : Option Nat} (h : w.drew.grownBy w' row) : w.grownBy w' row := ⟨h.os, h.tape, h.output, h.size, h.block⟩
def lookF (f : List (Ad × Value)) (a : Ad) (z : Value) : Value := ((f.find? fun p => decide (p.1 = a)).map (·.2)).getD z
theorem find_pair : ∀ {f : List (Ad × Value)} {a : Ad} {v : Value}, (f.map (·.1)).Nodup → (a, v) ∈ f → f.find? (fun p => decide (p.1 = a)) = some (a, v)
 | [], _, _, _, h => by simp at h
 | p :: f, a, v, hn, h => by
  rw [List.map_cons, List.nodup_cons] at hn; rcases List.mem_cons.1 h with e | h
  · rw [← e]; simp
  · have : p.1 ≠ a := fun e => hn.1 (by rw [e]; exact List.mem_map.2 ⟨(a, v), h, rfl⟩)
    rw [List.find?_cons_of_neg (by simpa using this)]; exact find_pair hn.2 h
theorem look_run {w : World} {b n : Nat} {D : DataW Value} {f : List (Ad × Value)} {t e : TypeId} (h : w.ownsMap Tryz.prog 85 anyElem b n D) (hR : Rel D f) {a : Ad} (ha : a.wf) (ht : Tryz.prog.underlying t = some (.map 85 e)) {z : Value} (hz : (zeroValue e).run Tryz.prog w = .ok z w) :
 (Instr.lookup t (.map (some b)) (.agg #[.int .i64 a.d, .int .i64 a.b, .int .i64 a.p]) true).run Tryz.prog w = .ok (.tuple #[lookF f a z, .bool (hasF f a)]) w := by
 have hk : keyOf Tryz.prog 85 (.agg #[.int .i64 a.d, .int .i64 a.b, .int .i64 a.p]) = some (klA a) := zb7 ha
 obtain ⟨es, clock, hb, F, hs, rfl⟩ := h
 rcases Maps.fit_look true adKeyed ht hz hb F hk with ⟨hrun, -, hat⟩ | ⟨e0, y, -, -, hrun, hRv, hat, -⟩
 · have h0 := Maps.has_false_of_atKey hat
   have hn : ¬ a ∈ f.map (·.1) := fun h' => by rw [(hR.has a ha).2 h'] at h0; cases h0
   rw [hrun]; have e1 : hasF f a = false := by unfold hasF; simpa using hn
   have e2 : f.find? (fun p => decide (p.1 = a)) = none := by
    rw [List.find?_eq_none]; intro p hp; simp; intro e; exact hn (List.mem_map.2 ⟨p, hp, e⟩)
   rw [e1]; unfold lookF; rw [e2]; rfl
 · have h1 := Maps.has_true_of_atKey hat
   obtain ⟨p, hp, e⟩ := List.mem_map.1 ((hR.has a ha).1 h1); obtain ⟨a', v⟩ := p; simp only at e; subst e; have h2 := hR.at_ _ v hp (.held v); rw [hat] at h2; have h3 : y = (DataW.held e0.val, []) := (Option.some.inj (show some ((DataW.held e0.val : DataW Value), ([] : List MemPlace)) = some y from hRv)).symm; rw [h3] at h2; have h3 : e0.val = v := DataW.held.inj h2; rw [hrun]; have e1 : hasF f a' = true := by unfold hasF; simpa using ⟨v, hp⟩
   rw [e1]; unfold lookF; rw [find_pair hR.nodup hp, h3]; rfl
theorem below_grown {w w' : World} (h : Below w.heap.size w w') (row : Option Nat) : w.grownBy w' row := ⟨h.os, h.tape, h.output, h.size, fun i hi _ => h.block i hi⟩
theorem turned_grown {w w' : World} {b : Nat} (h : w.mapTurned w' b) : w.grownBy w' (some b) := by
 obtain ⟨es, clock, es', clock', hb, rfl⟩ := h
 exact ⟨rfl, rfl, rfl, by simp [ChangeMaps.setBlock], fun i _ hi => ChangeMaps.heap_setBlock_other hb _ (fun e => hi (by rw [e]))⟩
section
variable {P : Program} {ops : Array Oper} {o : Oper} {a : Act} {w : World} {Q : Exit → Act → World → Prop}
end
end Go.Proofs.YtpbigfopmompfaaGreat
namespace Go.Proofs.YtpbigfopmompfaaGreat.nand
open Go.RowKit
set_option linter.unusedVariables false
structure Cel where
 (p : List Nat) (lost turned : Bool)
def Cel.v (c : Cel) : List Value := nats .u8 c.p ++ [.bool c.lost, .bool c.turned]
structure Blk where
 (cells : List Cel) (worn : Nat) (fails met : Bool)
def Blk.none : Blk := ⟨[], 0, false, false⟩
structure Nd where
 (D B P : Nat) (blk : Nat → Nat → Blk) (plan : List (Ad × Value)) (dead : List Bool) (off : Bool) (ops broken : Nat) (cuts : Bool) (left : Int) (keep : Nat)
def Nd.new (D B P : Nat) : Nd := ⟨D, B, P, fun _ _ => Blk.none, [], List.replicate D false, false, 0, 0, false, 0, 0⟩
def Nd.inG (N : Nd) (a : Ad) : Bool := decide ((0 ≤ a.d ∧ a.d < N.D) ∧ (0 ≤ a.b ∧ a.b < N.B) ∧ (0 ≤ a.p ∧ a.p < N.P))
def Nd.dies (N : Nd) (d : Int) : Bool := decide (0 ≤ d) && N.dead.getD d.toNat false
def Nd.refuses (N : Nd) (a : Ad) : Int := if N.off then 9 else if N.inG a then (if N.dead.getD a.d.toNat false then 8 else 0) else 3
def Nd.upd (N : Nd) (d b : Nat) (x : Blk) : Nd := { N with blk := fun i j => if i = d ∧ j = b then x else N.blk i j }
def Nd.at (N : Nd) (a : Ad) : Blk := N.blk a.d.toNat a.b.toNat
def Nd.put (N : Nd) (a : Ad) (x : Blk) : Nd := N.upd a.d.toNat a.b.toNat x
def Nd.cutB (N : Nd) : Bool := N.cuts && decide (N.left - 1 < 0)
def Nd.cutN (N : Nd) : Nd :=
 if N.cuts then (if N.left - 1 < 0 then { N with ops := N.ops + 1, left := N.left - 1, cuts := false, off := true } else { N with ops := N.ops + 1, left := N.left - 1 })
 else { N with ops := N.ops + 1 }
def torn (p : List Nat) (k : Nat) : List Nat := p.take k ++ List.replicate (32 - k) 255
def Nd.failsB (N : Nd) (a : Ad) : Bool := hasF N.plan a || (N.at a).met
def Nd.programE (N : Nd) (a : Ad) (p : List Nat) : Int :=
 if N.refuses a ≠ 0 then N.refuses a else if a.p ≠ (N.at a).cells.length then 4 else if N.cutB then 9 else if N.failsB a then 7 else 0
def Nd.programN (N : Nd) (a : Ad) (p : List Nat) : Nd :=
 if N.refuses a ≠ 0 then N else if a.p ≠ (N.at a).cells.length then { N with broken := N.broken + 1 }
 else if N.cutB then N.cutN.put a { N.at a with cells := (N.at a).cells ++ [⟨torn p N.keep, false, true⟩] }
 else { N.cutN.put a { N.at a with cells := (N.at a).cells ++ [⟨p, N.failsB a, false⟩] } with plan := delF N.plan a }
def Nd.readE (N : Nd) (a : Ad) : Int :=
 if N.refuses a ≠ 0 then N.refuses a else match (N.at a).cells[a.p.toNat]? with
  | none => 5
  | some c => if c.lost then 6 else 0
def Nd.readP (N : Nd) (a : Ad) : List Nat :=
 if N.refuses a ≠ 0 then List.replicate 32 0 else match (N.at a).cells[a.p.toNat]? with
  | none => List.replicate 32 0
  | some c => if c.lost then List.replicate 32 0 else c.p
def key (d b : Int) : Ad := ⟨d, b, 0⟩
def Blk.cut (x : Blk) (P : Nat) : Blk := { x with cells := (x.cells ++ List.replicate (P - x.cells.length) (Cel.mk (List.replicate 32 0) false false)).map fun c => Cel.mk c.p true c.turned }
def Nd.eraseE (N : Nd) (d b : Int) : Int :=
 if N.refuses (key d b) ≠ 0 then N.refuses (key d b) else if N.cutB then 9 else if (N.at (key d b)).fails then 7 else 0
def Nd.eraseN (N : Nd) (d b : Int) : Nd :=
 if N.refuses (key d b) ≠ 0 then N else if N.cutB then N.cutN.put (key d b) ((N.at (key d b)).cut N.P)
 else if (N.at (key d b)).fails then N.cutN.put (key d b) { N.at (key d b) with met := true }
 else { N.cutN.put (key d b) { N.at (key d b) with cells := [], worn := (N.at (key d b)).worn + 1 } with plan := N.plan.filter fun p => !(decide (p.1.d = d) && decide (p.1.b = b)) }
structure Flt where
 (at_ k d b p n x : Int)
def Flt.v (f : Flt) : List Value := [.int .i64 f.at_, .int .i64 f.k, .int .i64 f.d, .int .i64 f.b, .int .i64 f.p, .int .i64 f.n, .int .i64 f.x]
def Flt.a (f : Flt) : Ad := ⟨f.d, f.b, f.p⟩
def Blk.change (x : Blk) (i : Nat) (g : Cel → Cel) : Blk := { x with cells := x.cells.modify i g }
def Nd.cell? (N : Nd) (a : Ad) : Option Cel := (N.at a).cells[a.p.toNat]?
def flip (p : List Nat) (n : Nat) (x : Int) : List Nat := p.modify n fun y => y ^^^ (x % 256).toNat
def Nd.faultB (N : Nd) (f : Flt) : Bool :=
 N.inG f.a && (f.k == 1 || f.k == 2 || f.k == 3 || f.k == 4 || (f.k == 5 && decide (0 ≤ f.n ∧ f.n < 32) && !((N.cell? f.a).map (·.turned)).getD false))
def Nd.faultN (N : Nd) (f : Flt) : Nd :=
 if !N.faultB f then N
 else if f.k = 1 then { N with plan := putF N.plan f.a (.bool true) }
 else if f.k = 2 then N.put f.a { N.at f.a with fails := true }
 else if f.k = 3 then N.put f.a ((N.at f.a).change f.p.toNat fun c => { c with lost := true })
 else if f.k = 4 then { N with dead := N.dead.set f.d.toNat true }
 else N.put f.a ((N.at f.a).change f.p.toNat fun c => if c.lost then c else { c with p := flip c.p f.n.toNat f.x, turned := true })
def Nd.cutAt (N : Nd) (ops keep : Int) : Nd :=
 if N.off then N else { N with cuts := decide (0 ≤ ops), left := ops, keep := (min (max keep 0) 32).toNat, off := decide (ops < 0) }
def Nd.on (N : Nd) : Nd := { N with off := false, cuts := false }
structure Nd.ok (N : Nd) : Prop where
 geo : 3 ≤ N.D ∧ N.D ≤ 6 ∧ 8 ≤ N.B ∧ N.B ≤ 16 ∧ 2 ≤ N.P ∧ N.P ≤ 8
 dead : N.dead.length = N.D
 len : ∀ d b, (N.blk d b).cells.length ≤ N.P
 page : ∀ d b c, c ∈ (N.blk d b).cells → c.p.length = 32 ∧ ∀ y ∈ c.p, y < 256
 left : N.cuts = true → 0 ≤ N.left ∧ N.left ≤ 9223372036854775807
 keep : N.keep ≤ 32
 plan : ∀ p ∈ N.plan, p.2 = .bool true ∧ p.1.wf
theorem Nd.new_ok {D B P : Nat} (h : 3 ≤ D ∧ D ≤ 6 ∧ 8 ≤ B ∧ B ≤ 16 ∧ 2 ≤ P ∧ P ≤ 8) : (Nd.new D B P).ok :=
 ⟨h, by simp [Nd.new], by simp [Nd.new, Blk.none], by simp [Nd.new, Blk.none], by simp [Nd.new], by simp [Nd.new], by simp [Nd.new]⟩
end Go.Proofs.YtpbigfopmompfaaGreat.nand
