import Derived.Test.YtnfigkoefmldiaaGreatBunF
import Derived.Test.YtnfigkoefmldiaaGreatBunN
/- What a claim's proof leans on: Back, Back2. -/
/- The entry that is missing in a row. -/
namespace Go.Proofs.YtnfigkoefmldiaaGreat
open Go.RowKit
def backM (p : Sh) (l : List Sh) : Nat := overM (l ++ [p])
def backE (p : Sh) (l : List Sh) : En := ⟨lpnI (backM p l), seqI (backM p l), roleI (backM p l), overD (l ++ [p])⟩
def backC (p : Sh) (l : List Sh) : Bool := (p.k == 2) && (p.may && (!anyAlien p l && ((l.length : Int) == slotsI p.m - 1)))
def backB (p : Sh) (l : List Sh) : Bool := backC p l && (backE p l).may p.b p.o p.m
def zeroE : List Value := enV 0 0 0 zero16
def backV (p : Sh) (l : List Sh) : List Value := if backB p l then (backE p l).v else zeroE
def zeroD : List Value := nats .u8 zero16
theorem back_eq (p : Sh) (l : List Sh) (hc : backC p l = true) (b : Bool) (h : maySh (overD (l ++ [p])) (roleI (overM (l ++ [p]) : Int)) (lpnI (overM (l ++ [p]) : Int)) (seqI (overM (l ++ [p]) : Int)) 1 p.b p.o p.m = b) :
    backB p l = b ∧ backV p l = if b then enV (lpnI (overM (l ++ [p]) : Int)) (seqI (overM (l ++ [p]) : Int)) (roleI (overM (l ++ [p]) : Int)) (overD (l ++ [p])) else zeroE := by
  have e1 : (backE p l).may p.b p.o p.m = b := h
  have e2 : backB p l = b := by unfold backB; rw [hc, e1, Bool.true_and]
  have e3 : (backE p l).v = enV (lpnI (overM (l ++ [p]) : Int)) (seqI (overM (l ++ [p]) : Int)) (roleI (overM (l ++ [p]) : Int)) (overD (l ++ [p])) := rfl
  refine ⟨e2, ?_⟩
  unfold backV
  rw [e2, e3]
theorem en_sets (l s r x : Int) (d : List Nat) : (enV l s r d).set 0 (.int .i64 x) = enV x s r d ∧ (enV l s r d).set 1 (.int .i64 x) = enV l x r d ∧ (enV l s r d).set 2 (.int .i64 x) = enV l s x d := ⟨rfl, rfl, rfl⟩
theorem shs_snoc (l : List Sh) (p : Sh) : shs l ++ shs [p] = shs (l ++ [p]) := by simp [shs]
end Go.Proofs.YtnfigkoefmldiaaGreat
/- The entry that is missing in a row: nothing. -/
namespace Go.Proofs.YtnfigkoefmldiaaGreat
open Go.RowKit
end Go.Proofs.YtnfigkoefmldiaaGreat
