/-
  No cell of these rows narrows 'for every input' (looked for: loops, veiled, ifaces, maps, wideKeys, modest, calm, conditions, laid).
  DERIVED. THE GIVEN ROWS OF THIS SEAT. 12 by the template 'for every input the law returns true; each argument reads behind the call as it read before'; 0 by the template 'total and deterministic' (their statements: YtnfigkoefmldiaaGreatTotals.lean).
  GIVEN WITH THE SEED: the statements are not yours to turn. If you find one false, say at which input.
  Laid BY PROGRAM, IN A SANDBOX (cutbox-rows.mjs): the forced cells as the released guide's own fill.sh prints them over the translation 9fbf9d9342a6c26d… (all of the seat's roots in one cut). By AI agents, Wed Nov 11 2026. No macro, syntax, notation, axiom, sorry.
-/
import Derived.Test.YtnfigkoefmldiaaGreatChecked
import GoSem.Claim
import GoSem.ClaimJoined
import GoSem.ClaimMapViews
import Derived.JoinedTies
import Derived.KernelRfl
namespace Go.Proofs.YtnfigkoefmldiaaGreat
/- THE CELL 'sum', in the pinned program and in every row, IS THE sha256 OF THE DUMP (.gsa) THAT YtnfigkoefmldiaaGreatProg.lean LOADS. Nothing in Lean hashes anything: it is a label: what it is worth is what the hold of that sum in a sandbox is worth. -/
noncomputable def Tryz.pinned : Pinned := { name := "ytnfigkoefmldiaagreat", sum := "9fbf9d9342a6c26d89c12c51ee4f380a971019db15340ba4678894876e2fe0ae", checked := Tryz.checked }
namespace Rows
def none {H : Type} : Left H := { results := [], args := [] }

/-- 'ostrakonlaw7.NandOrder': WHATEVER THE INPUT: true; the input reads as it did. -/
def nandOrderSpec : ChangeSpec := { name := "nandOrder", fn := fun _ => fun
  | [d] => { results := [.lit (.bool true)], args := [d] }
  | _ => none }
def nandOrderRow : OpenClaim := { program := "ytnfigkoefmldiaagreat", sum := "9fbf9d9342a6c26d89c12c51ee4f380a971019db15340ba4678894876e2fe0ae", func := "ostrakon/ostrakonlaw7.NandOrder", spec := "nandOrder", unfollowed := true, recurses := true, plainKeys := false, apart := false }
def NandOrderSaid : Prop := nandOrderRow.holds Tryz.pinned (OpenSpec.ofChange nandOrderSpec)

/-- ITS FALSE NEIGHBOUR: 'it returns false'. Refute it at one input. -/
def nandOrderWrong : ChangeSpec := { name := "nandOrder", fn := fun _ => fun
  | [d] => { results := [.lit (.bool false)], args := [d] }
  | _ => none }
def NandOrderWrongFalsely : Prop := nandOrderRow.holds Tryz.pinned (OpenSpec.ofChange nandOrderWrong)

/-- 'ostrakonlaw7.NandCut': WHATEVER THE INPUT: true; the input reads as it did. -/
def nandCutSpec : ChangeSpec := { name := "nandCut", fn := fun _ => fun
  | [d1, d2, d3] => { results := [.lit (.bool true)], args := [d1, d2, d3] }
  | _ => none }
def nandCutRow : OpenClaim := { program := "ytnfigkoefmldiaagreat", sum := "9fbf9d9342a6c26d89c12c51ee4f380a971019db15340ba4678894876e2fe0ae", func := "ostrakon/ostrakonlaw7.NandCut", spec := "nandCut", unfollowed := true, recurses := true, plainKeys := false, apart := false }
def NandCutSaid : Prop := nandCutRow.holds Tryz.pinned (OpenSpec.ofChange nandCutSpec)

/-- ITS FALSE NEIGHBOUR: 'it returns false'. Refute it at one input. -/
def nandCutWrong : ChangeSpec := { name := "nandCut", fn := fun _ => fun
  | [d1, d2, d3] => { results := [.lit (.bool false)], args := [d1, d2, d3] }
  | _ => none }
def NandCutWrongFalsely : Prop := nandCutRow.holds Tryz.pinned (OpenSpec.ofChange nandCutWrong)

/-- 'ostrakonlaw7.NandDead': WHATEVER THE INPUT: true; the input reads as it did. -/
def nandDeadSpec : ChangeSpec := { name := "nandDead", fn := fun _ => fun
  | [d1, d2] => { results := [.lit (.bool true)], args := [d1, d2] }
  | _ => none }
def nandDeadRow : OpenClaim := { program := "ytnfigkoefmldiaagreat", sum := "9fbf9d9342a6c26d89c12c51ee4f380a971019db15340ba4678894876e2fe0ae", func := "ostrakon/ostrakonlaw7.NandDead", spec := "nandDead", unfollowed := true, recurses := true, plainKeys := false, apart := false }
def NandDeadSaid : Prop := nandDeadRow.holds Tryz.pinned (OpenSpec.ofChange nandDeadSpec)

/-- ITS FALSE NEIGHBOUR: 'it returns false'. Refute it at one input. -/
def nandDeadWrong : ChangeSpec := { name := "nandDead", fn := fun _ => fun
  | [d1, d2] => { results := [.lit (.bool false)], args := [d1, d2] }
  | _ => none }
def NandDeadWrongFalsely : Prop := nandDeadRow.holds Tryz.pinned (OpenSpec.ofChange nandDeadWrong)

/-- 'ostrakonlaw7.FaultMay': WHATEVER THE INPUT: true; the input reads as it did. -/
def faultMaySpec : ChangeSpec := { name := "faultMay", fn := fun _ => fun
  | [d1, d2, d3] => { results := [.lit (.bool true)], args := [d1, d2, d3] }
  | _ => none }
def faultMayRow : OpenClaim := { program := "ytnfigkoefmldiaagreat", sum := "9fbf9d9342a6c26d89c12c51ee4f380a971019db15340ba4678894876e2fe0ae", func := "ostrakon/ostrakonlaw7.FaultMay", spec := "faultMay", unfollowed := true, recurses := true, plainKeys := false, apart := false }
def FaultMaySaid : Prop := faultMayRow.holds Tryz.pinned (OpenSpec.ofChange faultMaySpec)

/-- ITS FALSE NEIGHBOUR: 'it returns false'. Refute it at one input. -/
def faultMayWrong : ChangeSpec := { name := "faultMay", fn := fun _ => fun
  | [d1, d2, d3] => { results := [.lit (.bool false)], args := [d1, d2, d3] }
  | _ => none }
def FaultMayWrongFalsely : Prop := faultMayRow.holds Tryz.pinned (OpenSpec.ofChange faultMayWrong)

/-- 'ostrakonlaw7.FaultPlan': WHATEVER THE INPUT: true; the input reads as it did. -/
def faultPlanSpec : ChangeSpec := { name := "faultPlan", fn := fun _ => fun
  | [d1, d2, d3] => { results := [.lit (.bool true)], args := [d1, d2, d3] }
  | _ => none }
def faultPlanRow : OpenClaim := { program := "ytnfigkoefmldiaagreat", sum := "9fbf9d9342a6c26d89c12c51ee4f380a971019db15340ba4678894876e2fe0ae", func := "ostrakon/ostrakonlaw7.FaultPlan", spec := "faultPlan", unfollowed := true, recurses := true, plainKeys := false, apart := false }
def FaultPlanSaid : Prop := faultPlanRow.holds Tryz.pinned (OpenSpec.ofChange faultPlanSpec)

/-- ITS FALSE NEIGHBOUR: 'it returns false'. Refute it at one input. -/
def faultPlanWrong : ChangeSpec := { name := "faultPlan", fn := fun _ => fun
  | [d1, d2, d3] => { results := [.lit (.bool false)], args := [d1, d2, d3] }
  | _ => none }
def FaultPlanWrongFalsely : Prop := faultPlanRow.holds Tryz.pinned (OpenSpec.ofChange faultPlanWrong)

/-- 'ostrakonlaw7.NandErase': WHATEVER THE INPUT: true; the input reads as it did. -/
def nandEraseSpec : ChangeSpec := { name := "nandErase", fn := fun _ => fun
  | [d1, d2] => { results := [.lit (.bool true)], args := [d1, d2] }
  | _ => none }
def nandEraseRow : OpenClaim := { program := "ytnfigkoefmldiaagreat", sum := "9fbf9d9342a6c26d89c12c51ee4f380a971019db15340ba4678894876e2fe0ae", func := "ostrakon/ostrakonlaw7.NandErase", spec := "nandErase", unfollowed := true, recurses := true, plainKeys := false, apart := false }
def NandEraseSaid : Prop := nandEraseRow.holds Tryz.pinned (OpenSpec.ofChange nandEraseSpec)

/-- ITS FALSE NEIGHBOUR: 'it returns false'. Refute it at one input. -/
def nandEraseWrong : ChangeSpec := { name := "nandErase", fn := fun _ => fun
  | [d1, d2] => { results := [.lit (.bool false)], args := [d1, d2] }
  | _ => none }
def NandEraseWrongFalsely : Prop := nandEraseRow.holds Tryz.pinned (OpenSpec.ofChange nandEraseWrong)

/-- 'ostrakonlaw7.NandProgram': WHATEVER THE INPUT: true; the input reads as it did. -/
def nandProgramSpec : ChangeSpec := { name := "nandProgram", fn := fun _ => fun
  | [d1, d2] => { results := [.lit (.bool true)], args := [d1, d2] }
  | _ => none }
def nandProgramRow : OpenClaim := { program := "ytnfigkoefmldiaagreat", sum := "9fbf9d9342a6c26d89c12c51ee4f380a971019db15340ba4678894876e2fe0ae", func := "ostrakon/ostrakonlaw7.NandProgram", spec := "nandProgram", unfollowed := true, recurses := true, plainKeys := false, apart := false }
def NandProgramSaid : Prop := nandProgramRow.holds Tryz.pinned (OpenSpec.ofChange nandProgramSpec)

/-- ITS FALSE NEIGHBOUR: 'it returns false'. Refute it at one input. -/
def nandProgramWrong : ChangeSpec := { name := "nandProgram", fn := fun _ => fun
  | [d1, d2] => { results := [.lit (.bool false)], args := [d1, d2] }
  | _ => none }
def NandProgramWrongFalsely : Prop := nandProgramRow.holds Tryz.pinned (OpenSpec.ofChange nandProgramWrong)

/-- 'ostrakonlaw7.NandBad': WHATEVER THE INPUT: true; the input reads as it did. -/
def nandBadSpec : ChangeSpec := { name := "nandBad", fn := fun _ => fun
  | [d] => { results := [.lit (.bool true)], args := [d] }
  | _ => none }
def nandBadRow : OpenClaim := { program := "ytnfigkoefmldiaagreat", sum := "9fbf9d9342a6c26d89c12c51ee4f380a971019db15340ba4678894876e2fe0ae", func := "ostrakon/ostrakonlaw7.NandBad", spec := "nandBad", unfollowed := true, recurses := true, plainKeys := false, apart := false }
def NandBadSaid : Prop := nandBadRow.holds Tryz.pinned (OpenSpec.ofChange nandBadSpec)

/-- ITS FALSE NEIGHBOUR: 'it returns false'. Refute it at one input. -/
def nandBadWrong : ChangeSpec := { name := "nandBad", fn := fun _ => fun
  | [d] => { results := [.lit (.bool false)], args := [d] }
  | _ => none }
def NandBadWrongFalsely : Prop := nandBadRow.holds Tryz.pinned (OpenSpec.ofChange nandBadWrong)

/-- 'ostrakonlaw7.NandTurn': WHATEVER THE INPUT: true; the input reads as it did. -/
def nandTurnSpec : ChangeSpec := { name := "nandTurn", fn := fun _ => fun
  | [d1, d2, d3] => { results := [.lit (.bool true)], args := [d1, d2, d3] }
  | _ => none }
def nandTurnRow : OpenClaim := { program := "ytnfigkoefmldiaagreat", sum := "9fbf9d9342a6c26d89c12c51ee4f380a971019db15340ba4678894876e2fe0ae", func := "ostrakon/ostrakonlaw7.NandTurn", spec := "nandTurn", unfollowed := true, recurses := true, plainKeys := false, apart := false }
def NandTurnSaid : Prop := nandTurnRow.holds Tryz.pinned (OpenSpec.ofChange nandTurnSpec)

/-- ITS FALSE NEIGHBOUR: 'it returns false'. Refute it at one input. -/
def nandTurnWrong : ChangeSpec := { name := "nandTurn", fn := fun _ => fun
  | [d1, d2, d3] => { results := [.lit (.bool false)], args := [d1, d2, d3] }
  | _ => none }
def NandTurnWrongFalsely : Prop := nandTurnRow.holds Tryz.pinned (OpenSpec.ofChange nandTurnWrong)

/-- 'ostrakonlaw7.NandEraseCut': WHATEVER THE INPUT: true; the input reads as it did. -/
def nandEraseCutSpec : ChangeSpec := { name := "nandEraseCut", fn := fun _ => fun
  | [d1, d2] => { results := [.lit (.bool true)], args := [d1, d2] }
  | _ => none }
def nandEraseCutRow : OpenClaim := { program := "ytnfigkoefmldiaagreat", sum := "9fbf9d9342a6c26d89c12c51ee4f380a971019db15340ba4678894876e2fe0ae", func := "ostrakon/ostrakonlaw7.NandEraseCut", spec := "nandEraseCut", unfollowed := true, recurses := true, plainKeys := false, apart := false }
def NandEraseCutSaid : Prop := nandEraseCutRow.holds Tryz.pinned (OpenSpec.ofChange nandEraseCutSpec)

/-- ITS FALSE NEIGHBOUR: 'it returns false'. Refute it at one input. -/
def nandEraseCutWrong : ChangeSpec := { name := "nandEraseCut", fn := fun _ => fun
  | [d1, d2] => { results := [.lit (.bool false)], args := [d1, d2] }
  | _ => none }
def NandEraseCutWrongFalsely : Prop := nandEraseCutRow.holds Tryz.pinned (OpenSpec.ofChange nandEraseCutWrong)

/-- 'ostrakonlaw7.NandOn': WHATEVER THE INPUT: true; the input reads as it did. -/
def nandOnSpec : ChangeSpec := { name := "nandOn", fn := fun _ => fun
  | [d1, d2] => { results := [.lit (.bool true)], args := [d1, d2] }
  | _ => none }
def nandOnRow : OpenClaim := { program := "ytnfigkoefmldiaagreat", sum := "9fbf9d9342a6c26d89c12c51ee4f380a971019db15340ba4678894876e2fe0ae", func := "ostrakon/ostrakonlaw7.NandOn", spec := "nandOn", unfollowed := true, recurses := true, plainKeys := false, apart := false }
def NandOnSaid : Prop := nandOnRow.holds Tryz.pinned (OpenSpec.ofChange nandOnSpec)

/-- ITS FALSE NEIGHBOUR: 'it returns false'. Refute it at one input. -/
def nandOnWrong : ChangeSpec := { name := "nandOn", fn := fun _ => fun
  | [d1, d2] => { results := [.lit (.bool false)], args := [d1, d2] }
  | _ => none }
def NandOnWrongFalsely : Prop := nandOnRow.holds Tryz.pinned (OpenSpec.ofChange nandOnWrong)

/-- 'ostrakonlaw7.NandNone': WHATEVER THE INPUT: true; the input reads as it did. -/
def nandNoneSpec : ChangeSpec := { name := "nandNone", fn := fun _ => fun
  | [] => { results := [.lit (.bool true)], args := [] }
  | _ => none }
def nandNoneRow : OpenClaim := { program := "ytnfigkoefmldiaagreat", sum := "9fbf9d9342a6c26d89c12c51ee4f380a971019db15340ba4678894876e2fe0ae", func := "ostrakon/ostrakonlaw7.NandNone", spec := "nandNone", unfollowed := true, recurses := true, plainKeys := false, apart := false }
def NandNoneSaid : Prop := nandNoneRow.holds Tryz.pinned (OpenSpec.ofChange nandNoneSpec)

/-- ITS FALSE NEIGHBOUR: 'it returns false'. Refute it at one input. -/
def nandNoneWrong : ChangeSpec := { name := "nandNone", fn := fun _ => fun
  | [] => { results := [.lit (.bool false)], args := [] }
  | _ => none }
def NandNoneWrongFalsely : Prop := nandNoneRow.holds Tryz.pinned (OpenSpec.ofChange nandNoneWrong)

/- THE SECOND FORM. 'bulk': how many values and letters a reading holds, each counted each time it is reached (what is shared counts as often as it is met; a slice's spare places count too). A statement '..UptoSaid' is the law's where the arguments, and the package variables that the reading takes, are together of bulk at most 1048576: NARROWER than '..Said'. Prove '..Said' where nothing that the law and all that it calls make is longer than what came in: it says more and counts as full. Else prove '..UptoSaid'. A law counts once. -/
mutual
def uptoBulk {H : Type} : DataW H → Nat
  | .lit (.string bytes) => bytes.length + 1
  | .lit _ => 1
  | .nil => 1
  | .ptr d => uptoBulk d + 1
  | .slice elems spare => uptoBulkAll elems + uptoBulkAll spare + 1
  | .agg parts => uptoBulkAll parts + 1
  | .iface _ d => uptoBulk d + 1
  | .map entries => uptoBulkEntries entries + 1
  | .held _ => 1
def uptoBulkAll {H : Type} : List (DataW H) → Nat
  | [] => 0
  | d :: r => uptoBulk d + uptoBulkAll r
def uptoBulkEntries {H : Type} : List (Lit × DataW H) → Nat
  | [] => 0
  | x :: r => uptoBulkEntry x + uptoBulkEntries r
def uptoBulkEntry {H : Type} : Lit × DataW H → Nat
  | (.string bytes, d) => bytes.length + uptoBulk d + 1
  | (_, d) => uptoBulk d + 1
 end
def uptoSmall : (H : Type) → List (DataW H) → Bool := fun _ ds => decide (uptoBulkAll ds ≤ 1048576)
def OpenSpec.upto (s : _root_.Go.ChangeSpec) : _root_.Go.OpenSpec := { _root_.Go.OpenSpec.ofChange s with cond := some uptoSmall }

/-- 'ostrakonlaw7.NandOrder', WHERE WHAT IT READS IS OF BULK AT MOST 1048576: true; the input reads as it did. -/
def nandOrderUptoRow : OpenClaim := { program := "ytnfigkoefmldiaagreat", sum := "9fbf9d9342a6c26d89c12c51ee4f380a971019db15340ba4678894876e2fe0ae", func := "ostrakon/ostrakonlaw7.NandOrder", spec := "nandOrder", unfollowed := true, recurses := true, plainKeys := false, apart := false, narrowed := true }
def NandOrderUptoSaid : Prop := nandOrderUptoRow.holds Tryz.pinned (OpenSpec.upto nandOrderSpec)

/-- 'ostrakonlaw7.NandCut', WHERE WHAT IT READS IS OF BULK AT MOST 1048576: true; the input reads as it did. -/
def nandCutUptoRow : OpenClaim := { program := "ytnfigkoefmldiaagreat", sum := "9fbf9d9342a6c26d89c12c51ee4f380a971019db15340ba4678894876e2fe0ae", func := "ostrakon/ostrakonlaw7.NandCut", spec := "nandCut", unfollowed := true, recurses := true, plainKeys := false, apart := false, narrowed := true }
def NandCutUptoSaid : Prop := nandCutUptoRow.holds Tryz.pinned (OpenSpec.upto nandCutSpec)

/-- 'ostrakonlaw7.NandDead', WHERE WHAT IT READS IS OF BULK AT MOST 1048576: true; the input reads as it did. -/
def nandDeadUptoRow : OpenClaim := { program := "ytnfigkoefmldiaagreat", sum := "9fbf9d9342a6c26d89c12c51ee4f380a971019db15340ba4678894876e2fe0ae", func := "ostrakon/ostrakonlaw7.NandDead", spec := "nandDead", unfollowed := true, recurses := true, plainKeys := false, apart := false, narrowed := true }
def NandDeadUptoSaid : Prop := nandDeadUptoRow.holds Tryz.pinned (OpenSpec.upto nandDeadSpec)

/-- 'ostrakonlaw7.FaultMay', WHERE WHAT IT READS IS OF BULK AT MOST 1048576: true; the input reads as it did. -/
def faultMayUptoRow : OpenClaim := { program := "ytnfigkoefmldiaagreat", sum := "9fbf9d9342a6c26d89c12c51ee4f380a971019db15340ba4678894876e2fe0ae", func := "ostrakon/ostrakonlaw7.FaultMay", spec := "faultMay", unfollowed := true, recurses := true, plainKeys := false, apart := false, narrowed := true }
def FaultMayUptoSaid : Prop := faultMayUptoRow.holds Tryz.pinned (OpenSpec.upto faultMaySpec)

/-- 'ostrakonlaw7.FaultPlan', WHERE WHAT IT READS IS OF BULK AT MOST 1048576: true; the input reads as it did. -/
def faultPlanUptoRow : OpenClaim := { program := "ytnfigkoefmldiaagreat", sum := "9fbf9d9342a6c26d89c12c51ee4f380a971019db15340ba4678894876e2fe0ae", func := "ostrakon/ostrakonlaw7.FaultPlan", spec := "faultPlan", unfollowed := true, recurses := true, plainKeys := false, apart := false, narrowed := true }
def FaultPlanUptoSaid : Prop := faultPlanUptoRow.holds Tryz.pinned (OpenSpec.upto faultPlanSpec)

/-- 'ostrakonlaw7.NandErase', WHERE WHAT IT READS IS OF BULK AT MOST 1048576: true; the input reads as it did. -/
def nandEraseUptoRow : OpenClaim := { program := "ytnfigkoefmldiaagreat", sum := "9fbf9d9342a6c26d89c12c51ee4f380a971019db15340ba4678894876e2fe0ae", func := "ostrakon/ostrakonlaw7.NandErase", spec := "nandErase", unfollowed := true, recurses := true, plainKeys := false, apart := false, narrowed := true }
def NandEraseUptoSaid : Prop := nandEraseUptoRow.holds Tryz.pinned (OpenSpec.upto nandEraseSpec)

/-- 'ostrakonlaw7.NandProgram', WHERE WHAT IT READS IS OF BULK AT MOST 1048576: true; the input reads as it did. -/
def nandProgramUptoRow : OpenClaim := { program := "ytnfigkoefmldiaagreat", sum := "9fbf9d9342a6c26d89c12c51ee4f380a971019db15340ba4678894876e2fe0ae", func := "ostrakon/ostrakonlaw7.NandProgram", spec := "nandProgram", unfollowed := true, recurses := true, plainKeys := false, apart := false, narrowed := true }
def NandProgramUptoSaid : Prop := nandProgramUptoRow.holds Tryz.pinned (OpenSpec.upto nandProgramSpec)

/-- 'ostrakonlaw7.NandBad', WHERE WHAT IT READS IS OF BULK AT MOST 1048576: true; the input reads as it did. -/
def nandBadUptoRow : OpenClaim := { program := "ytnfigkoefmldiaagreat", sum := "9fbf9d9342a6c26d89c12c51ee4f380a971019db15340ba4678894876e2fe0ae", func := "ostrakon/ostrakonlaw7.NandBad", spec := "nandBad", unfollowed := true, recurses := true, plainKeys := false, apart := false, narrowed := true }
def NandBadUptoSaid : Prop := nandBadUptoRow.holds Tryz.pinned (OpenSpec.upto nandBadSpec)

/-- 'ostrakonlaw7.NandTurn', WHERE WHAT IT READS IS OF BULK AT MOST 1048576: true; the input reads as it did. -/
def nandTurnUptoRow : OpenClaim := { program := "ytnfigkoefmldiaagreat", sum := "9fbf9d9342a6c26d89c12c51ee4f380a971019db15340ba4678894876e2fe0ae", func := "ostrakon/ostrakonlaw7.NandTurn", spec := "nandTurn", unfollowed := true, recurses := true, plainKeys := false, apart := false, narrowed := true }
def NandTurnUptoSaid : Prop := nandTurnUptoRow.holds Tryz.pinned (OpenSpec.upto nandTurnSpec)

/-- 'ostrakonlaw7.NandEraseCut', WHERE WHAT IT READS IS OF BULK AT MOST 1048576: true; the input reads as it did. -/
def nandEraseCutUptoRow : OpenClaim := { program := "ytnfigkoefmldiaagreat", sum := "9fbf9d9342a6c26d89c12c51ee4f380a971019db15340ba4678894876e2fe0ae", func := "ostrakon/ostrakonlaw7.NandEraseCut", spec := "nandEraseCut", unfollowed := true, recurses := true, plainKeys := false, apart := false, narrowed := true }
def NandEraseCutUptoSaid : Prop := nandEraseCutUptoRow.holds Tryz.pinned (OpenSpec.upto nandEraseCutSpec)

/-- 'ostrakonlaw7.NandOn', WHERE WHAT IT READS IS OF BULK AT MOST 1048576: true; the input reads as it did. -/
def nandOnUptoRow : OpenClaim := { program := "ytnfigkoefmldiaagreat", sum := "9fbf9d9342a6c26d89c12c51ee4f380a971019db15340ba4678894876e2fe0ae", func := "ostrakon/ostrakonlaw7.NandOn", spec := "nandOn", unfollowed := true, recurses := true, plainKeys := false, apart := false, narrowed := true }
def NandOnUptoSaid : Prop := nandOnUptoRow.holds Tryz.pinned (OpenSpec.upto nandOnSpec)

/-- 'ostrakonlaw7.NandNone', WHERE WHAT IT READS IS OF BULK AT MOST 1048576: true; the input reads as it did. -/
def nandNoneUptoRow : OpenClaim := { program := "ytnfigkoefmldiaagreat", sum := "9fbf9d9342a6c26d89c12c51ee4f380a971019db15340ba4678894876e2fe0ae", func := "ostrakon/ostrakonlaw7.NandNone", spec := "nandNone", unfollowed := true, recurses := true, plainKeys := false, apart := false, narrowed := true }
def NandNoneUptoSaid : Prop := nandNoneUptoRow.holds Tryz.pinned (OpenSpec.upto nandNoneSpec)

end Rows
end Go.Proofs.YtnfigkoefmldiaaGreat
