/-
  No cell of these rows narrows 'for every input' (looked for: loops, veiled, ifaces, maps, wideKeys, modest, calm, conditions, laid).
  DERIVED. THE GIVEN ROWS OF THIS SEAT. 11 by the template 'for every input the law returns true; each argument reads behind the call as it read before'; 0 by the template 'total and deterministic' (their statements: YtpbigfopmompfaaGreatTotals.lean).
  GIVEN WITH THE SEED: the statements are not yours to turn. If you find one false, say at which input.
  Laid BY PROGRAM, IN A SANDBOX (cutbox-rows.mjs): the forced cells as the released guide's own fill.sh prints them over the translation 4e5f6718aa800612… (all of the seat's roots in one cut). By AI agents, Wed Nov 11 2026. No macro, syntax, notation, axiom, sorry.
-/
import Derived.Test.YtpbigfopmompfaaGreatChecked
import GoSem.Claim
import GoSem.ClaimJoined
import GoSem.ClaimMapViews
import Derived.JoinedTies
import Derived.KernelRfl
namespace Go.Proofs.YtpbigfopmompfaaGreat
/- THE CELL 'sum', in the pinned program and in every row, IS THE sha256 OF THE DUMP (.gsa) THAT YtpbigfopmompfaaGreatProg.lean LOADS. Nothing in Lean hashes anything: it is a label: what it is worth is what the hold of that sum in a sandbox is worth. -/
noncomputable def Tryz.pinned : Pinned := { name := "ytpbigfopmompfaagreat", sum := "4e5f6718aa80061250d9c76726de7b1246c03085e7ec5fec6f056ae98291e7e4", checked := Tryz.checked }
namespace Rows
def none {H : Type} : Left H := { results := [], args := [] }

/-- 'ostrakonlaw13.TableOrder': WHATEVER THE INPUT: true; the input reads as it did. -/
def tableOrderSpec : ChangeSpec := { name := "tableOrder", fn := fun _ => fun
  | [d1, d2] => { results := [.lit (.bool true)], args := [d1, d2] }
  | _ => none }
def tableOrderRow : OpenClaim := { program := "ytpbigfopmompfaagreat", sum := "4e5f6718aa80061250d9c76726de7b1246c03085e7ec5fec6f056ae98291e7e4", func := "ostrakon/ostrakonlaw13.TableOrder", spec := "tableOrder", unfollowed := true, recurses := true, plainKeys := false, apart := false }
def TableOrderSaid : Prop := tableOrderRow.holds Tryz.pinned (OpenSpec.ofChange tableOrderSpec)

/-- ITS FALSE NEIGHBOUR: 'it returns false'. Refute it at one input. -/
def tableOrderWrong : ChangeSpec := { name := "tableOrder", fn := fun _ => fun
  | [d1, d2] => { results := [.lit (.bool false)], args := [d1, d2] }
  | _ => none }
def TableOrderWrongFalsely : Prop := tableOrderRow.holds Tryz.pinned (OpenSpec.ofChange tableOrderWrong)

/-- 'ostrakonlaw13.PickWear': WHATEVER THE INPUT: true; the input reads as it did. -/
def pickWearSpec : ChangeSpec := { name := "pickWear", fn := fun _ => fun
  | [d1, d2] => { results := [.lit (.bool true)], args := [d1, d2] }
  | _ => none }
def pickWearRow : OpenClaim := { program := "ytpbigfopmompfaagreat", sum := "4e5f6718aa80061250d9c76726de7b1246c03085e7ec5fec6f056ae98291e7e4", func := "ostrakon/ostrakonlaw13.PickWear", spec := "pickWear", unfollowed := true, recurses := true, plainKeys := false, apart := false }
def PickWearSaid : Prop := pickWearRow.holds Tryz.pinned (OpenSpec.ofChange pickWearSpec)

/-- ITS FALSE NEIGHBOUR: 'it returns false'. Refute it at one input. -/
def pickWearWrong : ChangeSpec := { name := "pickWear", fn := fun _ => fun
  | [d1, d2] => { results := [.lit (.bool false)], args := [d1, d2] }
  | _ => none }
def PickWearWrongFalsely : Prop := pickWearRow.holds Tryz.pinned (OpenSpec.ofChange pickWearWrong)

/-- 'ostrakonlaw13.TableMove': WHATEVER THE INPUT: true; the input reads as it did. -/
def tableMoveSpec : ChangeSpec := { name := "tableMove", fn := fun _ => fun
  | [d1, d2] => { results := [.lit (.bool true)], args := [d1, d2] }
  | _ => none }
def tableMoveRow : OpenClaim := { program := "ytpbigfopmompfaagreat", sum := "4e5f6718aa80061250d9c76726de7b1246c03085e7ec5fec6f056ae98291e7e4", func := "ostrakon/ostrakonlaw13.TableMove", spec := "tableMove", unfollowed := true, recurses := true, plainKeys := false, apart := false }
def TableMoveSaid : Prop := tableMoveRow.holds Tryz.pinned (OpenSpec.ofChange tableMoveSpec)

/-- ITS FALSE NEIGHBOUR: 'it returns false'. Refute it at one input. -/
def tableMoveWrong : ChangeSpec := { name := "tableMove", fn := fun _ => fun
  | [d1, d2] => { results := [.lit (.bool false)], args := [d1, d2] }
  | _ => none }
def TableMoveWrongFalsely : Prop := tableMoveRow.holds Tryz.pinned (OpenSpec.ofChange tableMoveWrong)

/-- 'ostrakonlaw13.TableCounts': WHATEVER THE INPUT: true; the input reads as it did. -/
def tableCountsSpec : ChangeSpec := { name := "tableCounts", fn := fun _ => fun
  | [d] => { results := [.lit (.bool true)], args := [d] }
  | _ => none }
def tableCountsRow : OpenClaim := { program := "ytpbigfopmompfaagreat", sum := "4e5f6718aa80061250d9c76726de7b1246c03085e7ec5fec6f056ae98291e7e4", func := "ostrakon/ostrakonlaw13.TableCounts", spec := "tableCounts", unfollowed := true, recurses := true, plainKeys := false, apart := false }
def TableCountsSaid : Prop := tableCountsRow.holds Tryz.pinned (OpenSpec.ofChange tableCountsSpec)

/-- ITS FALSE NEIGHBOUR: 'it returns false'. Refute it at one input. -/
def tableCountsWrong : ChangeSpec := { name := "tableCounts", fn := fun _ => fun
  | [d] => { results := [.lit (.bool false)], args := [d] }
  | _ => none }
def TableCountsWrongFalsely : Prop := tableCountsRow.holds Tryz.pinned (OpenSpec.ofChange tableCountsWrong)

/-- 'ostrakonlaw13.TableRoles': WHATEVER THE INPUT: true; the input reads as it did. -/
def tableRolesSpec : ChangeSpec := { name := "tableRoles", fn := fun _ => fun
  | [d1, d2] => { results := [.lit (.bool true)], args := [d1, d2] }
  | _ => none }
def tableRolesRow : OpenClaim := { program := "ytpbigfopmompfaagreat", sum := "4e5f6718aa80061250d9c76726de7b1246c03085e7ec5fec6f056ae98291e7e4", func := "ostrakon/ostrakonlaw13.TableRoles", spec := "tableRoles", unfollowed := true, recurses := true, plainKeys := false, apart := false }
def TableRolesSaid : Prop := tableRolesRow.holds Tryz.pinned (OpenSpec.ofChange tableRolesSpec)

/-- ITS FALSE NEIGHBOUR: 'it returns false'. Refute it at one input. -/
def tableRolesWrong : ChangeSpec := { name := "tableRoles", fn := fun _ => fun
  | [d1, d2] => { results := [.lit (.bool false)], args := [d1, d2] }
  | _ => none }
def TableRolesWrongFalsely : Prop := tableRolesRow.holds Tryz.pinned (OpenSpec.ofChange tableRolesWrong)

/-- 'ostrakonlaw13.PickOrder': WHATEVER THE INPUT: true; the input reads as it did. -/
def pickOrderSpec : ChangeSpec := { name := "pickOrder", fn := fun _ => fun
  | [d1, d2, d3] => { results := [.lit (.bool true)], args := [d1, d2, d3] }
  | _ => none }
def pickOrderRow : OpenClaim := { program := "ytpbigfopmompfaagreat", sum := "4e5f6718aa80061250d9c76726de7b1246c03085e7ec5fec6f056ae98291e7e4", func := "ostrakon/ostrakonlaw13.PickOrder", spec := "pickOrder", unfollowed := true, recurses := true, plainKeys := false, apart := false }
def PickOrderSaid : Prop := pickOrderRow.holds Tryz.pinned (OpenSpec.ofChange pickOrderSpec)

/-- ITS FALSE NEIGHBOUR: 'it returns false'. Refute it at one input. -/
def pickOrderWrong : ChangeSpec := { name := "pickOrder", fn := fun _ => fun
  | [d1, d2, d3] => { results := [.lit (.bool false)], args := [d1, d2, d3] }
  | _ => none }
def PickOrderWrongFalsely : Prop := pickOrderRow.holds Tryz.pinned (OpenSpec.ofChange pickOrderWrong)

/-- 'ostrakonlaw13.TableNone': WHATEVER THE INPUT: true; the input reads as it did. -/
def tableNoneSpec : ChangeSpec := { name := "tableNone", fn := fun _ => fun
  | [] => { results := [.lit (.bool true)], args := [] }
  | _ => none }
def tableNoneRow : OpenClaim := { program := "ytpbigfopmompfaagreat", sum := "4e5f6718aa80061250d9c76726de7b1246c03085e7ec5fec6f056ae98291e7e4", func := "ostrakon/ostrakonlaw13.TableNone", spec := "tableNone", unfollowed := true, recurses := true, plainKeys := false, apart := false }
def TableNoneSaid : Prop := tableNoneRow.holds Tryz.pinned (OpenSpec.ofChange tableNoneSpec)

/-- ITS FALSE NEIGHBOUR: 'it returns false'. Refute it at one input. -/
def tableNoneWrong : ChangeSpec := { name := "tableNone", fn := fun _ => fun
  | [] => { results := [.lit (.bool false)], args := [] }
  | _ => none }
def TableNoneWrongFalsely : Prop := tableNoneRow.holds Tryz.pinned (OpenSpec.ofChange tableNoneWrong)

/-- 'ostrakonlaw13.TallyAll': WHATEVER THE INPUT: true; the input reads as it did. -/
def tallyAllSpec : ChangeSpec := { name := "tallyAll", fn := fun _ => fun
  | [d1, d2] => { results := [.lit (.bool true)], args := [d1, d2] }
  | _ => none }
def tallyAllRow : OpenClaim := { program := "ytpbigfopmompfaagreat", sum := "4e5f6718aa80061250d9c76726de7b1246c03085e7ec5fec6f056ae98291e7e4", func := "ostrakon/ostrakonlaw13.TallyAll", spec := "tallyAll", unfollowed := true, recurses := true, plainKeys := false, apart := false }
def TallyAllSaid : Prop := tallyAllRow.holds Tryz.pinned (OpenSpec.ofChange tallyAllSpec)

/-- ITS FALSE NEIGHBOUR: 'it returns false'. Refute it at one input. -/
def tallyAllWrong : ChangeSpec := { name := "tallyAll", fn := fun _ => fun
  | [d1, d2] => { results := [.lit (.bool false)], args := [d1, d2] }
  | _ => none }
def TallyAllWrongFalsely : Prop := tallyAllRow.holds Tryz.pinned (OpenSpec.ofChange tallyAllWrong)

/-- 'ostrakonlaw13.PickHeld': WHATEVER THE INPUT: true; the input reads as it did. -/
def pickHeldSpec : ChangeSpec := { name := "pickHeld", fn := fun _ => fun
  | [d1, d2, d3] => { results := [.lit (.bool true)], args := [d1, d2, d3] }
  | _ => none }
def pickHeldRow : OpenClaim := { program := "ytpbigfopmompfaagreat", sum := "4e5f6718aa80061250d9c76726de7b1246c03085e7ec5fec6f056ae98291e7e4", func := "ostrakon/ostrakonlaw13.PickHeld", spec := "pickHeld", unfollowed := true, recurses := true, plainKeys := false, apart := false }
def PickHeldSaid : Prop := pickHeldRow.holds Tryz.pinned (OpenSpec.ofChange pickHeldSpec)

/-- ITS FALSE NEIGHBOUR: 'it returns false'. Refute it at one input. -/
def pickHeldWrong : ChangeSpec := { name := "pickHeld", fn := fun _ => fun
  | [d1, d2, d3] => { results := [.lit (.bool false)], args := [d1, d2, d3] }
  | _ => none }
def PickHeldWrongFalsely : Prop := pickHeldRow.holds Tryz.pinned (OpenSpec.ofChange pickHeldWrong)

/-- 'ostrakonlaw13.TallyEver': WHATEVER THE INPUT: true; the input reads as it did. -/
def tallyEverSpec : ChangeSpec := { name := "tallyEver", fn := fun _ => fun
  | [d1, d2, d3] => { results := [.lit (.bool true)], args := [d1, d2, d3] }
  | _ => none }
def tallyEverRow : OpenClaim := { program := "ytpbigfopmompfaagreat", sum := "4e5f6718aa80061250d9c76726de7b1246c03085e7ec5fec6f056ae98291e7e4", func := "ostrakon/ostrakonlaw13.TallyEver", spec := "tallyEver", unfollowed := true, recurses := true, plainKeys := false, apart := false }
def TallyEverSaid : Prop := tallyEverRow.holds Tryz.pinned (OpenSpec.ofChange tallyEverSpec)

/-- ITS FALSE NEIGHBOUR: 'it returns false'. Refute it at one input. -/
def tallyEverWrong : ChangeSpec := { name := "tallyEver", fn := fun _ => fun
  | [d1, d2, d3] => { results := [.lit (.bool false)], args := [d1, d2, d3] }
  | _ => none }
def TallyEverWrongFalsely : Prop := tallyEverRow.holds Tryz.pinned (OpenSpec.ofChange tallyEverWrong)

/-- 'ostrakonlaw13.TallyOf': WHATEVER THE INPUT: true; the input reads as it did. -/
def tallyOfSpec : ChangeSpec := { name := "tallyOf", fn := fun _ => fun
  | [d1, d2, d3] => { results := [.lit (.bool true)], args := [d1, d2, d3] }
  | _ => none }
def tallyOfRow : OpenClaim := { program := "ytpbigfopmompfaagreat", sum := "4e5f6718aa80061250d9c76726de7b1246c03085e7ec5fec6f056ae98291e7e4", func := "ostrakon/ostrakonlaw13.TallyOf", spec := "tallyOf", unfollowed := true, recurses := true, plainKeys := false, apart := false }
def TallyOfSaid : Prop := tallyOfRow.holds Tryz.pinned (OpenSpec.ofChange tallyOfSpec)

/-- ITS FALSE NEIGHBOUR: 'it returns false'. Refute it at one input. -/
def tallyOfWrong : ChangeSpec := { name := "tallyOf", fn := fun _ => fun
  | [d1, d2, d3] => { results := [.lit (.bool false)], args := [d1, d2, d3] }
  | _ => none }
def TallyOfWrongFalsely : Prop := tallyOfRow.holds Tryz.pinned (OpenSpec.ofChange tallyOfWrong)

/- THE SECOND FORM. 'bulk': how many values and letters a reading holds, each counted each time it is reached (what is shared counts as often as it is met; a slice's spare places count too). A statement '..UptoSaid' is the law's where the arguments, and the package variables that the reading takes, are together of bulk at most 1048576: NARROWER than '..Said'. Prove '..Said' where nothing that the law and all that it calls make is longer than what came in: it says more and counts as full. Else prove '..UptoSaid'. A law counts once. -/
mutual
def uptoBulk {H : Type} : DataW H → Nat
  | .lit (.string bytes) => bytes.length + 1
  | .lit _ => 1
  | .nil => 1
  | .ptr d => uptoBulk d + 1
  | .slice elems spare => uptoBulkAll elems + uptoBulkAll spare + 1
  | .agg parts => uptoBulkAll parts + 1
  | .iface _ d => uptoBulk d + 1
  | .map entries => uptoBulkEntries entries + 1
  | .held _ => 1
def uptoBulkAll {H : Type} : List (DataW H) → Nat
  | [] => 0
  | d :: r => uptoBulk d + uptoBulkAll r
def uptoBulkEntries {H : Type} : List (Lit × DataW H) → Nat
  | [] => 0
  | x :: r => uptoBulkEntry x + uptoBulkEntries r
def uptoBulkEntry {H : Type} : Lit × DataW H → Nat
  | (.string bytes, d) => bytes.length + uptoBulk d + 1
  | (_, d) => uptoBulk d + 1
 end
def uptoSmall : (H : Type) → List (DataW H) → Bool := fun _ ds => decide (uptoBulkAll ds ≤ 1048576)
def OpenSpec.upto (s : _root_.Go.ChangeSpec) : _root_.Go.OpenSpec := { _root_.Go.OpenSpec.ofChange s with cond := some uptoSmall }

/-- 'ostrakonlaw13.TableOrder', WHERE WHAT IT READS IS OF BULK AT MOST 1048576: true; the input reads as it did. -/
def tableOrderUptoRow : OpenClaim := { program := "ytpbigfopmompfaagreat", sum := "4e5f6718aa80061250d9c76726de7b1246c03085e7ec5fec6f056ae98291e7e4", func := "ostrakon/ostrakonlaw13.TableOrder", spec := "tableOrder", unfollowed := true, recurses := true, plainKeys := false, apart := false, narrowed := true }
def TableOrderUptoSaid : Prop := tableOrderUptoRow.holds Tryz.pinned (OpenSpec.upto tableOrderSpec)

/-- 'ostrakonlaw13.PickWear', WHERE WHAT IT READS IS OF BULK AT MOST 1048576: true; the input reads as it did. -/
def pickWearUptoRow : OpenClaim := { program := "ytpbigfopmompfaagreat", sum := "4e5f6718aa80061250d9c76726de7b1246c03085e7ec5fec6f056ae98291e7e4", func := "ostrakon/ostrakonlaw13.PickWear", spec := "pickWear", unfollowed := true, recurses := true, plainKeys := false, apart := false, narrowed := true }
def PickWearUptoSaid : Prop := pickWearUptoRow.holds Tryz.pinned (OpenSpec.upto pickWearSpec)

/-- 'ostrakonlaw13.TableMove', WHERE WHAT IT READS IS OF BULK AT MOST 1048576: true; the input reads as it did. -/
def tableMoveUptoRow : OpenClaim := { program := "ytpbigfopmompfaagreat", sum := "4e5f6718aa80061250d9c76726de7b1246c03085e7ec5fec6f056ae98291e7e4", func := "ostrakon/ostrakonlaw13.TableMove", spec := "tableMove", unfollowed := true, recurses := true, plainKeys := false, apart := false, narrowed := true }
def TableMoveUptoSaid : Prop := tableMoveUptoRow.holds Tryz.pinned (OpenSpec.upto tableMoveSpec)

/-- 'ostrakonlaw13.TableCounts', WHERE WHAT IT READS IS OF BULK AT MOST 1048576: true; the input reads as it did. -/
def tableCountsUptoRow : OpenClaim := { program := "ytpbigfopmompfaagreat", sum := "4e5f6718aa80061250d9c76726de7b1246c03085e7ec5fec6f056ae98291e7e4", func := "ostrakon/ostrakonlaw13.TableCounts", spec := "tableCounts", unfollowed := true, recurses := true, plainKeys := false, apart := false, narrowed := true }
def TableCountsUptoSaid : Prop := tableCountsUptoRow.holds Tryz.pinned (OpenSpec.upto tableCountsSpec)

/-- 'ostrakonlaw13.TableRoles', WHERE WHAT IT READS IS OF BULK AT MOST 1048576: true; the input reads as it did. -/
def tableRolesUptoRow : OpenClaim := { program := "ytpbigfopmompfaagreat", sum := "4e5f6718aa80061250d9c76726de7b1246c03085e7ec5fec6f056ae98291e7e4", func := "ostrakon/ostrakonlaw13.TableRoles", spec := "tableRoles", unfollowed := true, recurses := true, plainKeys := false, apart := false, narrowed := true }
def TableRolesUptoSaid : Prop := tableRolesUptoRow.holds Tryz.pinned (OpenSpec.upto tableRolesSpec)

/-- 'ostrakonlaw13.PickOrder', WHERE WHAT IT READS IS OF BULK AT MOST 1048576: true; the input reads as it did. -/
def pickOrderUptoRow : OpenClaim := { program := "ytpbigfopmompfaagreat", sum := "4e5f6718aa80061250d9c76726de7b1246c03085e7ec5fec6f056ae98291e7e4", func := "ostrakon/ostrakonlaw13.PickOrder", spec := "pickOrder", unfollowed := true, recurses := true, plainKeys := false, apart := false, narrowed := true }
def PickOrderUptoSaid : Prop := pickOrderUptoRow.holds Tryz.pinned (OpenSpec.upto pickOrderSpec)

/-- 'ostrakonlaw13.TableNone', WHERE WHAT IT READS IS OF BULK AT MOST 1048576: true; the input reads as it did. -/
def tableNoneUptoRow : OpenClaim := { program := "ytpbigfopmompfaagreat", sum := "4e5f6718aa80061250d9c76726de7b1246c03085e7ec5fec6f056ae98291e7e4", func := "ostrakon/ostrakonlaw13.TableNone", spec := "tableNone", unfollowed := true, recurses := true, plainKeys := false, apart := false, narrowed := true }
def TableNoneUptoSaid : Prop := tableNoneUptoRow.holds Tryz.pinned (OpenSpec.upto tableNoneSpec)

/-- 'ostrakonlaw13.TallyAll', WHERE WHAT IT READS IS OF BULK AT MOST 1048576: true; the input reads as it did. -/
def tallyAllUptoRow : OpenClaim := { program := "ytpbigfopmompfaagreat", sum := "4e5f6718aa80061250d9c76726de7b1246c03085e7ec5fec6f056ae98291e7e4", func := "ostrakon/ostrakonlaw13.TallyAll", spec := "tallyAll", unfollowed := true, recurses := true, plainKeys := false, apart := false, narrowed := true }
def TallyAllUptoSaid : Prop := tallyAllUptoRow.holds Tryz.pinned (OpenSpec.upto tallyAllSpec)

/-- 'ostrakonlaw13.PickHeld', WHERE WHAT IT READS IS OF BULK AT MOST 1048576: true; the input reads as it did. -/
def pickHeldUptoRow : OpenClaim := { program := "ytpbigfopmompfaagreat", sum := "4e5f6718aa80061250d9c76726de7b1246c03085e7ec5fec6f056ae98291e7e4", func := "ostrakon/ostrakonlaw13.PickHeld", spec := "pickHeld", unfollowed := true, recurses := true, plainKeys := false, apart := false, narrowed := true }
def PickHeldUptoSaid : Prop := pickHeldUptoRow.holds Tryz.pinned (OpenSpec.upto pickHeldSpec)

/-- 'ostrakonlaw13.TallyEver', WHERE WHAT IT READS IS OF BULK AT MOST 1048576: true; the input reads as it did. -/
def tallyEverUptoRow : OpenClaim := { program := "ytpbigfopmompfaagreat", sum := "4e5f6718aa80061250d9c76726de7b1246c03085e7ec5fec6f056ae98291e7e4", func := "ostrakon/ostrakonlaw13.TallyEver", spec := "tallyEver", unfollowed := true, recurses := true, plainKeys := false, apart := false, narrowed := true }
def TallyEverUptoSaid : Prop := tallyEverUptoRow.holds Tryz.pinned (OpenSpec.upto tallyEverSpec)

/-- 'ostrakonlaw13.TallyOf', WHERE WHAT IT READS IS OF BULK AT MOST 1048576: true; the input reads as it did. -/
def tallyOfUptoRow : OpenClaim := { program := "ytpbigfopmompfaagreat", sum := "4e5f6718aa80061250d9c76726de7b1246c03085e7ec5fec6f056ae98291e7e4", func := "ostrakon/ostrakonlaw13.TallyOf", spec := "tallyOf", unfollowed := true, recurses := true, plainKeys := false, apart := false, narrowed := true }
def TallyOfUptoSaid : Prop := tallyOfUptoRow.holds Tryz.pinned (OpenSpec.upto tallyOfSpec)

end Rows
end Go.Proofs.YtpbigfopmompfaaGreat
