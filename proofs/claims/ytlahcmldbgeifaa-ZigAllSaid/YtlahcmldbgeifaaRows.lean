/-
  No cell of these rows narrows 'for every input' (looked for: loops, veiled, ifaces, maps, wideKeys, modest, calm, conditions, laid).
  DERIVED. THE GIVEN ROWS OF THIS SEAT. 19 by the template 'for every input the law returns true; each argument reads behind the call as it read before'; 0 by the template 'total and deterministic' (their statements: YtlahcmldbgeifaaTotals.lean).
  GIVEN WITH THE SEED: the statements are not yours to turn. If you find one false, say at which input.
  Laid BY PROGRAM, IN A SANDBOX (cutbox-rows.mjs): the forced cells as the released guide's own fill.sh prints them over the translation ff507c0e62abfcc1… (all of the seat's roots in one cut). By AI agents, Wed Nov 11 2026. No macro, syntax, notation, axiom, sorry.
-/
import Derived.Test.YtlahcmldbgeifaaChecked
import GoSem.Claim
import GoSem.ClaimJoined
import GoSem.ClaimMapViews
import Derived.JoinedTies
import Derived.KernelRfl
namespace Go.Proofs.Ytlahcmldbgeifaa
/- THE CELL 'sum', in the pinned program and in every row, IS THE sha256 OF THE DUMP (.gsa) THAT YtlahcmldbgeifaaProg.lean LOADS. Nothing in Lean hashes anything: it is a label: what it is worth is what the hold of that sum in a sandbox is worth. -/
noncomputable def Try.pinned : Pinned := { name := "ytlahcmldbgeifaa", sum := "ff507c0e62abfcc1d12193de2b60215dc8fa4e05d11c092b9b86e3133ac6380f", checked := Try.checked }
namespace Rows
def none {H : Type} : Left H := { results := [], args := [] }

/-- 'ostrakonlaw0.Names': WHATEVER THE INPUT: true; the input reads as it did. -/
def namesSpec : ChangeSpec := { name := "names", fn := fun _ => fun
  | [] => { results := [.lit (.bool true)], args := [] }
  | _ => none }
def namesRow : OpenClaim := { program := "ytlahcmldbgeifaa", sum := "ff507c0e62abfcc1d12193de2b60215dc8fa4e05d11c092b9b86e3133ac6380f", func := "ostrakon/ostrakonlaw0.Names", spec := "names", apart := false }
def NamesSaid : Prop := namesRow.holds Try.pinned (OpenSpec.ofChange namesSpec)

/-- ITS FALSE NEIGHBOUR: 'it returns false'. Refute it at one input. -/
def namesWrong : ChangeSpec := { name := "names", fn := fun _ => fun
  | [] => { results := [.lit (.bool false)], args := [] }
  | _ => none }
def NamesWrongFalsely : Prop := namesRow.holds Try.pinned (OpenSpec.ofChange namesWrong)

/-- 'ostrakonlaw1.ZigOrder': WHATEVER THE INPUT: true; the input reads as it did. -/
def zigOrderSpec : ChangeSpec := { name := "zigOrder", fn := fun _ => fun
  | [d1, d2, d3, d4] => { results := [.lit (.bool true)], args := [d1, d2, d3, d4] }
  | _ => none }
def zigOrderRow : OpenClaim := { program := "ytlahcmldbgeifaa", sum := "ff507c0e62abfcc1d12193de2b60215dc8fa4e05d11c092b9b86e3133ac6380f", func := "ostrakon/ostrakonlaw1.ZigOrder", spec := "zigOrder", apart := false }
def ZigOrderSaid : Prop := zigOrderRow.holds Try.pinned (OpenSpec.ofChange zigOrderSpec)

/-- ITS FALSE NEIGHBOUR: 'it returns false'. Refute it at one input. -/
def zigOrderWrong : ChangeSpec := { name := "zigOrder", fn := fun _ => fun
  | [d1, d2, d3, d4] => { results := [.lit (.bool false)], args := [d1, d2, d3, d4] }
  | _ => none }
def ZigOrderWrongFalsely : Prop := zigOrderRow.holds Try.pinned (OpenSpec.ofChange zigOrderWrong)

/-- 'ostrakonlaw1.BitsAll': WHATEVER THE INPUT: true; the input reads as it did. -/
def bitsAllSpec : ChangeSpec := { name := "bitsAll", fn := fun _ => fun
  | [d] => { results := [.lit (.bool true)], args := [d] }
  | _ => none }
def bitsAllRow : OpenClaim := { program := "ytlahcmldbgeifaa", sum := "ff507c0e62abfcc1d12193de2b60215dc8fa4e05d11c092b9b86e3133ac6380f", func := "ostrakon/ostrakonlaw1.BitsAll", spec := "bitsAll", apart := false }
def BitsAllSaid : Prop := bitsAllRow.holds Try.pinned (OpenSpec.ofChange bitsAllSpec)

/-- ITS FALSE NEIGHBOUR: 'it returns false'. Refute it at one input. -/
def bitsAllWrong : ChangeSpec := { name := "bitsAll", fn := fun _ => fun
  | [d] => { results := [.lit (.bool false)], args := [d] }
  | _ => none }
def BitsAllWrongFalsely : Prop := bitsAllRow.holds Try.pinned (OpenSpec.ofChange bitsAllWrong)

/-- 'ostrakonlaw1.BitsAny': WHATEVER THE INPUT: true; the input reads as it did. -/
def bitsAnySpec : ChangeSpec := { name := "bitsAny", fn := fun _ => fun
  | [d1, d2] => { results := [.lit (.bool true)], args := [d1, d2] }
  | _ => none }
def bitsAnyRow : OpenClaim := { program := "ytlahcmldbgeifaa", sum := "ff507c0e62abfcc1d12193de2b60215dc8fa4e05d11c092b9b86e3133ac6380f", func := "ostrakon/ostrakonlaw1.BitsAny", spec := "bitsAny", apart := false }
def BitsAnySaid : Prop := bitsAnyRow.holds Try.pinned (OpenSpec.ofChange bitsAnySpec)

/-- ITS FALSE NEIGHBOUR: 'it returns false'. Refute it at one input. -/
def bitsAnyWrong : ChangeSpec := { name := "bitsAny", fn := fun _ => fun
  | [d1, d2] => { results := [.lit (.bool false)], args := [d1, d2] }
  | _ => none }
def BitsAnyWrongFalsely : Prop := bitsAnyRow.holds Try.pinned (OpenSpec.ofChange bitsAnyWrong)

/-- 'ostrakonlaw1.BitsFull': WHATEVER THE INPUT: true; the input reads as it did. -/
def bitsFullSpec : ChangeSpec := { name := "bitsFull", fn := fun _ => fun
  | [d1, d2] => { results := [.lit (.bool true)], args := [d1, d2] }
  | _ => none }
def bitsFullRow : OpenClaim := { program := "ytlahcmldbgeifaa", sum := "ff507c0e62abfcc1d12193de2b60215dc8fa4e05d11c092b9b86e3133ac6380f", func := "ostrakon/ostrakonlaw1.BitsFull", spec := "bitsFull", apart := false }
def BitsFullSaid : Prop := bitsFullRow.holds Try.pinned (OpenSpec.ofChange bitsFullSpec)

/-- ITS FALSE NEIGHBOUR: 'it returns false'. Refute it at one input. -/
def bitsFullWrong : ChangeSpec := { name := "bitsFull", fn := fun _ => fun
  | [d1, d2] => { results := [.lit (.bool false)], args := [d1, d2] }
  | _ => none }
def BitsFullWrongFalsely : Prop := bitsFullRow.holds Try.pinned (OpenSpec.ofChange bitsFullWrong)

/-- 'ostrakonlaw1.KoopTurn': WHATEVER THE INPUT: true; the input reads as it did. -/
def koopTurnSpec : ChangeSpec := { name := "koopTurn", fn := fun _ => fun
  | [d1, d2, d3] => { results := [.lit (.bool true)], args := [d1, d2, d3] }
  | _ => none }
def koopTurnRow : OpenClaim := { program := "ytlahcmldbgeifaa", sum := "ff507c0e62abfcc1d12193de2b60215dc8fa4e05d11c092b9b86e3133ac6380f", func := "ostrakon/ostrakonlaw1.KoopTurn", spec := "koopTurn", apart := false }
def KoopTurnSaid : Prop := koopTurnRow.holds Try.pinned (OpenSpec.ofChange koopTurnSpec)

/-- ITS FALSE NEIGHBOUR: 'it returns false'. Refute it at one input. -/
def koopTurnWrong : ChangeSpec := { name := "koopTurn", fn := fun _ => fun
  | [d1, d2, d3] => { results := [.lit (.bool false)], args := [d1, d2, d3] }
  | _ => none }
def KoopTurnWrongFalsely : Prop := koopTurnRow.holds Try.pinned (OpenSpec.ofChange koopTurnWrong)

/-- 'ostrakonlaw1.BitsNone': WHATEVER THE INPUT: true; the input reads as it did. -/
def bitsNoneSpec : ChangeSpec := { name := "bitsNone", fn := fun _ => fun
  | [] => { results := [.lit (.bool true)], args := [] }
  | _ => none }
def bitsNoneRow : OpenClaim := { program := "ytlahcmldbgeifaa", sum := "ff507c0e62abfcc1d12193de2b60215dc8fa4e05d11c092b9b86e3133ac6380f", func := "ostrakon/ostrakonlaw1.BitsNone", spec := "bitsNone", apart := false }
def BitsNoneSaid : Prop := bitsNoneRow.holds Try.pinned (OpenSpec.ofChange bitsNoneSpec)

/-- ITS FALSE NEIGHBOUR: 'it returns false'. Refute it at one input. -/
def bitsNoneWrong : ChangeSpec := { name := "bitsNone", fn := fun _ => fun
  | [] => { results := [.lit (.bool false)], args := [] }
  | _ => none }
def BitsNoneWrongFalsely : Prop := bitsNoneRow.holds Try.pinned (OpenSpec.ofChange bitsNoneWrong)

/-- 'ostrakonlaw1.ZigTurn': WHATEVER THE INPUT: true; the input reads as it did. -/
def zigTurnSpec : ChangeSpec := { name := "zigTurn", fn := fun _ => fun
  | [d1, d2] => { results := [.lit (.bool true)], args := [d1, d2] }
  | _ => none }
def zigTurnRow : OpenClaim := { program := "ytlahcmldbgeifaa", sum := "ff507c0e62abfcc1d12193de2b60215dc8fa4e05d11c092b9b86e3133ac6380f", func := "ostrakon/ostrakonlaw1.ZigTurn", spec := "zigTurn", apart := false }
def ZigTurnSaid : Prop := zigTurnRow.holds Try.pinned (OpenSpec.ofChange zigTurnSpec)

/-- ITS FALSE NEIGHBOUR: 'it returns false'. Refute it at one input. -/
def zigTurnWrong : ChangeSpec := { name := "zigTurn", fn := fun _ => fun
  | [d1, d2] => { results := [.lit (.bool false)], args := [d1, d2] }
  | _ => none }
def ZigTurnWrongFalsely : Prop := zigTurnRow.holds Try.pinned (OpenSpec.ofChange zigTurnWrong)

/-- 'ostrakonlaw1.BitsJoin': WHATEVER THE INPUT: true; the input reads as it did. -/
def bitsJoinSpec : ChangeSpec := { name := "bitsJoin", fn := fun _ => fun
  | [d1, d2, d3] => { results := [.lit (.bool true)], args := [d1, d2, d3] }
  | _ => none }
def bitsJoinRow : OpenClaim := { program := "ytlahcmldbgeifaa", sum := "ff507c0e62abfcc1d12193de2b60215dc8fa4e05d11c092b9b86e3133ac6380f", func := "ostrakon/ostrakonlaw1.BitsJoin", spec := "bitsJoin", apart := false }
def BitsJoinSaid : Prop := bitsJoinRow.holds Try.pinned (OpenSpec.ofChange bitsJoinSpec)

/-- ITS FALSE NEIGHBOUR: 'it returns false'. Refute it at one input. -/
def bitsJoinWrong : ChangeSpec := { name := "bitsJoin", fn := fun _ => fun
  | [d1, d2, d3] => { results := [.lit (.bool false)], args := [d1, d2, d3] }
  | _ => none }
def BitsJoinWrongFalsely : Prop := bitsJoinRow.holds Try.pinned (OpenSpec.ofChange bitsJoinWrong)

/-- 'ostrakonlaw1.BitsOwn': WHATEVER THE INPUT: true; the input reads as it did. -/
def bitsOwnSpec : ChangeSpec := { name := "bitsOwn", fn := fun _ => fun
  | [d1, d2] => { results := [.lit (.bool true)], args := [d1, d2] }
  | _ => none }
def bitsOwnRow : OpenClaim := { program := "ytlahcmldbgeifaa", sum := "ff507c0e62abfcc1d12193de2b60215dc8fa4e05d11c092b9b86e3133ac6380f", func := "ostrakon/ostrakonlaw1.BitsOwn", spec := "bitsOwn", apart := false }
def BitsOwnSaid : Prop := bitsOwnRow.holds Try.pinned (OpenSpec.ofChange bitsOwnSpec)

/-- ITS FALSE NEIGHBOUR: 'it returns false'. Refute it at one input. -/
def bitsOwnWrong : ChangeSpec := { name := "bitsOwn", fn := fun _ => fun
  | [d1, d2] => { results := [.lit (.bool false)], args := [d1, d2] }
  | _ => none }
def BitsOwnWrongFalsely : Prop := bitsOwnRow.holds Try.pinned (OpenSpec.ofChange bitsOwnWrong)

/-- 'ostrakonlaw1.KoopLine': WHATEVER THE INPUT: true; the input reads as it did. -/
def koopLineSpec : ChangeSpec := { name := "koopLine", fn := fun _ => fun
  | [d1, d2, d3] => { results := [.lit (.bool true)], args := [d1, d2, d3] }
  | _ => none }
def koopLineRow : OpenClaim := { program := "ytlahcmldbgeifaa", sum := "ff507c0e62abfcc1d12193de2b60215dc8fa4e05d11c092b9b86e3133ac6380f", func := "ostrakon/ostrakonlaw1.KoopLine", spec := "koopLine", apart := false }
def KoopLineSaid : Prop := koopLineRow.holds Try.pinned (OpenSpec.ofChange koopLineSpec)

/-- ITS FALSE NEIGHBOUR: 'it returns false'. Refute it at one input. -/
def koopLineWrong : ChangeSpec := { name := "koopLine", fn := fun _ => fun
  | [d1, d2, d3] => { results := [.lit (.bool false)], args := [d1, d2, d3] }
  | _ => none }
def KoopLineWrongFalsely : Prop := koopLineRow.holds Try.pinned (OpenSpec.ofChange koopLineWrong)

/-- 'ostrakonlaw1.ZigNarrow': WHATEVER THE INPUT: true; the input reads as it did. -/
def zigNarrowSpec : ChangeSpec := { name := "zigNarrow", fn := fun _ => fun
  | [d1, d2] => { results := [.lit (.bool true)], args := [d1, d2] }
  | _ => none }
def zigNarrowRow : OpenClaim := { program := "ytlahcmldbgeifaa", sum := "ff507c0e62abfcc1d12193de2b60215dc8fa4e05d11c092b9b86e3133ac6380f", func := "ostrakon/ostrakonlaw1.ZigNarrow", spec := "zigNarrow", apart := false }
def ZigNarrowSaid : Prop := zigNarrowRow.holds Try.pinned (OpenSpec.ofChange zigNarrowSpec)

/-- ITS FALSE NEIGHBOUR: 'it returns false'. Refute it at one input. -/
def zigNarrowWrong : ChangeSpec := { name := "zigNarrow", fn := fun _ => fun
  | [d1, d2] => { results := [.lit (.bool false)], args := [d1, d2] }
  | _ => none }
def ZigNarrowWrongFalsely : Prop := zigNarrowRow.holds Try.pinned (OpenSpec.ofChange zigNarrowWrong)

/-- 'ostrakonlaw1.LanePairs': WHATEVER THE INPUT: true; the input reads as it did. -/
def lanePairsSpec : ChangeSpec := { name := "lanePairs", fn := fun _ => fun
  | [d1, d2] => { results := [.lit (.bool true)], args := [d1, d2] }
  | _ => none }
def lanePairsRow : OpenClaim := { program := "ytlahcmldbgeifaa", sum := "ff507c0e62abfcc1d12193de2b60215dc8fa4e05d11c092b9b86e3133ac6380f", func := "ostrakon/ostrakonlaw1.LanePairs", spec := "lanePairs", apart := false }
def LanePairsSaid : Prop := lanePairsRow.holds Try.pinned (OpenSpec.ofChange lanePairsSpec)

/-- ITS FALSE NEIGHBOUR: 'it returns false'. Refute it at one input. -/
def lanePairsWrong : ChangeSpec := { name := "lanePairs", fn := fun _ => fun
  | [d1, d2] => { results := [.lit (.bool false)], args := [d1, d2] }
  | _ => none }
def LanePairsWrongFalsely : Prop := lanePairsRow.holds Try.pinned (OpenSpec.ofChange lanePairsWrong)

/-- 'ostrakonlaw1.KoopAll': WHATEVER THE INPUT: true; the input reads as it did. -/
def koopAllSpec : ChangeSpec := { name := "koopAll", fn := fun _ => fun
  | [d1, d2, d3, d4] => { results := [.lit (.bool true)], args := [d1, d2, d3, d4] }
  | _ => none }
def koopAllRow : OpenClaim := { program := "ytlahcmldbgeifaa", sum := "ff507c0e62abfcc1d12193de2b60215dc8fa4e05d11c092b9b86e3133ac6380f", func := "ostrakon/ostrakonlaw1.KoopAll", spec := "koopAll", apart := false }
def KoopAllSaid : Prop := koopAllRow.holds Try.pinned (OpenSpec.ofChange koopAllSpec)

/-- ITS FALSE NEIGHBOUR: 'it returns false'. Refute it at one input. -/
def koopAllWrong : ChangeSpec := { name := "koopAll", fn := fun _ => fun
  | [d1, d2, d3, d4] => { results := [.lit (.bool false)], args := [d1, d2, d3, d4] }
  | _ => none }
def KoopAllWrongFalsely : Prop := koopAllRow.holds Try.pinned (OpenSpec.ofChange koopAllWrong)

/-- 'ostrakonlaw1.KoopZero': WHATEVER THE INPUT: true; the input reads as it did. -/
def koopZeroSpec : ChangeSpec := { name := "koopZero", fn := fun _ => fun
  | [d1, d2, d3] => { results := [.lit (.bool true)], args := [d1, d2, d3] }
  | _ => none }
def koopZeroRow : OpenClaim := { program := "ytlahcmldbgeifaa", sum := "ff507c0e62abfcc1d12193de2b60215dc8fa4e05d11c092b9b86e3133ac6380f", func := "ostrakon/ostrakonlaw1.KoopZero", spec := "koopZero", apart := false }
def KoopZeroSaid : Prop := koopZeroRow.holds Try.pinned (OpenSpec.ofChange koopZeroSpec)

/-- ITS FALSE NEIGHBOUR: 'it returns false'. Refute it at one input. -/
def koopZeroWrong : ChangeSpec := { name := "koopZero", fn := fun _ => fun
  | [d1, d2, d3] => { results := [.lit (.bool false)], args := [d1, d2, d3] }
  | _ => none }
def KoopZeroWrongFalsely : Prop := koopZeroRow.holds Try.pinned (OpenSpec.ofChange koopZeroWrong)

/-- 'ostrakonlaw1.LaneAll': WHATEVER THE INPUT: true; the input reads as it did. -/
def laneAllSpec : ChangeSpec := { name := "laneAll", fn := fun _ => fun
  | [d1, d2, d3, d4] => { results := [.lit (.bool true)], args := [d1, d2, d3, d4] }
  | _ => none }
def laneAllRow : OpenClaim := { program := "ytlahcmldbgeifaa", sum := "ff507c0e62abfcc1d12193de2b60215dc8fa4e05d11c092b9b86e3133ac6380f", func := "ostrakon/ostrakonlaw1.LaneAll", spec := "laneAll", apart := false }
def LaneAllSaid : Prop := laneAllRow.holds Try.pinned (OpenSpec.ofChange laneAllSpec)

/-- ITS FALSE NEIGHBOUR: 'it returns false'. Refute it at one input. -/
def laneAllWrong : ChangeSpec := { name := "laneAll", fn := fun _ => fun
  | [d1, d2, d3, d4] => { results := [.lit (.bool false)], args := [d1, d2, d3, d4] }
  | _ => none }
def LaneAllWrongFalsely : Prop := laneAllRow.holds Try.pinned (OpenSpec.ofChange laneAllWrong)

/-- 'ostrakonlaw1.LaneWay': WHATEVER THE INPUT: true; the input reads as it did. -/
def laneWaySpec : ChangeSpec := { name := "laneWay", fn := fun _ => fun
  | [d] => { results := [.lit (.bool true)], args := [d] }
  | _ => none }
def laneWayRow : OpenClaim := { program := "ytlahcmldbgeifaa", sum := "ff507c0e62abfcc1d12193de2b60215dc8fa4e05d11c092b9b86e3133ac6380f", func := "ostrakon/ostrakonlaw1.LaneWay", spec := "laneWay", apart := false }
def LaneWaySaid : Prop := laneWayRow.holds Try.pinned (OpenSpec.ofChange laneWaySpec)

/-- ITS FALSE NEIGHBOUR: 'it returns false'. Refute it at one input. -/
def laneWayWrong : ChangeSpec := { name := "laneWay", fn := fun _ => fun
  | [d] => { results := [.lit (.bool false)], args := [d] }
  | _ => none }
def LaneWayWrongFalsely : Prop := laneWayRow.holds Try.pinned (OpenSpec.ofChange laneWayWrong)

/-- 'ostrakonlaw1.ZigBytes': WHATEVER THE INPUT: true; the input reads as it did. -/
def zigBytesSpec : ChangeSpec := { name := "zigBytes", fn := fun _ => fun
  | [d1, d2] => { results := [.lit (.bool true)], args := [d1, d2] }
  | _ => none }
def zigBytesRow : OpenClaim := { program := "ytlahcmldbgeifaa", sum := "ff507c0e62abfcc1d12193de2b60215dc8fa4e05d11c092b9b86e3133ac6380f", func := "ostrakon/ostrakonlaw1.ZigBytes", spec := "zigBytes", apart := false }
def ZigBytesSaid : Prop := zigBytesRow.holds Try.pinned (OpenSpec.ofChange zigBytesSpec)

/-- ITS FALSE NEIGHBOUR: 'it returns false'. Refute it at one input. -/
def zigBytesWrong : ChangeSpec := { name := "zigBytes", fn := fun _ => fun
  | [d1, d2] => { results := [.lit (.bool false)], args := [d1, d2] }
  | _ => none }
def ZigBytesWrongFalsely : Prop := zigBytesRow.holds Try.pinned (OpenSpec.ofChange zigBytesWrong)

/-- 'ostrakonlaw1.ZigAll': WHATEVER THE INPUT: true; the input reads as it did. -/
def zigAllSpec : ChangeSpec := { name := "zigAll", fn := fun _ => fun
  | [d1, d2, d3, d4, d5] => { results := [.lit (.bool true)], args := [d1, d2, d3, d4, d5] }
  | _ => none }
def zigAllRow : OpenClaim := { program := "ytlahcmldbgeifaa", sum := "ff507c0e62abfcc1d12193de2b60215dc8fa4e05d11c092b9b86e3133ac6380f", func := "ostrakon/ostrakonlaw1.ZigAll", spec := "zigAll", apart := false }
def ZigAllSaid : Prop := zigAllRow.holds Try.pinned (OpenSpec.ofChange zigAllSpec)

/-- ITS FALSE NEIGHBOUR: 'it returns false'. Refute it at one input. -/
def zigAllWrong : ChangeSpec := { name := "zigAll", fn := fun _ => fun
  | [d1, d2, d3, d4, d5] => { results := [.lit (.bool false)], args := [d1, d2, d3, d4, d5] }
  | _ => none }
def ZigAllWrongFalsely : Prop := zigAllRow.holds Try.pinned (OpenSpec.ofChange zigAllWrong)

/- THE SECOND FORM. 'bulk': how many values and letters a reading holds, each counted each time it is reached (what is shared counts as often as it is met; a slice's spare places count too). A statement '..UptoSaid' is the law's where the arguments, and the package variables that the reading takes, are together of bulk at most 1048576: NARROWER than '..Said'. Prove '..Said' where nothing that the law and all that it calls make is longer than what came in: it says more and counts as full. Else prove '..UptoSaid'. A law counts once. -/
mutual
def uptoBulk {H : Type} : DataW H → Nat
  | .lit (.string bytes) => bytes.length + 1
  | .lit _ => 1
  | .nil => 1
  | .ptr d => uptoBulk d + 1
  | .slice elems spare => uptoBulkAll elems + uptoBulkAll spare + 1
  | .agg parts => uptoBulkAll parts + 1
  | .iface _ d => uptoBulk d + 1
  | .map entries => uptoBulkEntries entries + 1
  | .held _ => 1
def uptoBulkAll {H : Type} : List (DataW H) → Nat
  | [] => 0
  | d :: r => uptoBulk d + uptoBulkAll r
def uptoBulkEntries {H : Type} : List (Lit × DataW H) → Nat
  | [] => 0
  | x :: r => uptoBulkEntry x + uptoBulkEntries r
def uptoBulkEntry {H : Type} : Lit × DataW H → Nat
  | (.string bytes, d) => bytes.length + uptoBulk d + 1
  | (_, d) => uptoBulk d + 1
 end
def uptoSmall : (H : Type) → List (DataW H) → Bool := fun _ ds => decide (uptoBulkAll ds ≤ 1048576)
def OpenSpec.upto (s : _root_.Go.ChangeSpec) : _root_.Go.OpenSpec := { _root_.Go.OpenSpec.ofChange s with cond := some uptoSmall }

/-- 'ostrakonlaw0.Names', WHERE WHAT IT READS IS OF BULK AT MOST 1048576: true; the input reads as it did. -/
def namesUptoRow : OpenClaim := { program := "ytlahcmldbgeifaa", sum := "ff507c0e62abfcc1d12193de2b60215dc8fa4e05d11c092b9b86e3133ac6380f", func := "ostrakon/ostrakonlaw0.Names", spec := "names", apart := false, narrowed := true }
def NamesUptoSaid : Prop := namesUptoRow.holds Try.pinned (OpenSpec.upto namesSpec)

/-- 'ostrakonlaw1.ZigOrder', WHERE WHAT IT READS IS OF BULK AT MOST 1048576: true; the input reads as it did. -/
def zigOrderUptoRow : OpenClaim := { program := "ytlahcmldbgeifaa", sum := "ff507c0e62abfcc1d12193de2b60215dc8fa4e05d11c092b9b86e3133ac6380f", func := "ostrakon/ostrakonlaw1.ZigOrder", spec := "zigOrder", apart := false, narrowed := true }
def ZigOrderUptoSaid : Prop := zigOrderUptoRow.holds Try.pinned (OpenSpec.upto zigOrderSpec)

/-- 'ostrakonlaw1.BitsAll', WHERE WHAT IT READS IS OF BULK AT MOST 1048576: true; the input reads as it did. -/
def bitsAllUptoRow : OpenClaim := { program := "ytlahcmldbgeifaa", sum := "ff507c0e62abfcc1d12193de2b60215dc8fa4e05d11c092b9b86e3133ac6380f", func := "ostrakon/ostrakonlaw1.BitsAll", spec := "bitsAll", apart := false, narrowed := true }
def BitsAllUptoSaid : Prop := bitsAllUptoRow.holds Try.pinned (OpenSpec.upto bitsAllSpec)

/-- 'ostrakonlaw1.BitsAny', WHERE WHAT IT READS IS OF BULK AT MOST 1048576: true; the input reads as it did. -/
def bitsAnyUptoRow : OpenClaim := { program := "ytlahcmldbgeifaa", sum := "ff507c0e62abfcc1d12193de2b60215dc8fa4e05d11c092b9b86e3133ac6380f", func := "ostrakon/ostrakonlaw1.BitsAny", spec := "bitsAny", apart := false, narrowed := true }
def BitsAnyUptoSaid : Prop := bitsAnyUptoRow.holds Try.pinned (OpenSpec.upto bitsAnySpec)

/-- 'ostrakonlaw1.BitsFull', WHERE WHAT IT READS IS OF BULK AT MOST 1048576: true; the input reads as it did. -/
def bitsFullUptoRow : OpenClaim := { program := "ytlahcmldbgeifaa", sum := "ff507c0e62abfcc1d12193de2b60215dc8fa4e05d11c092b9b86e3133ac6380f", func := "ostrakon/ostrakonlaw1.BitsFull", spec := "bitsFull", apart := false, narrowed := true }
def BitsFullUptoSaid : Prop := bitsFullUptoRow.holds Try.pinned (OpenSpec.upto bitsFullSpec)

/-- 'ostrakonlaw1.KoopTurn', WHERE WHAT IT READS IS OF BULK AT MOST 1048576: true; the input reads as it did. -/
def koopTurnUptoRow : OpenClaim := { program := "ytlahcmldbgeifaa", sum := "ff507c0e62abfcc1d12193de2b60215dc8fa4e05d11c092b9b86e3133ac6380f", func := "ostrakon/ostrakonlaw1.KoopTurn", spec := "koopTurn", apart := false, narrowed := true }
def KoopTurnUptoSaid : Prop := koopTurnUptoRow.holds Try.pinned (OpenSpec.upto koopTurnSpec)

/-- 'ostrakonlaw1.BitsNone', WHERE WHAT IT READS IS OF BULK AT MOST 1048576: true; the input reads as it did. -/
def bitsNoneUptoRow : OpenClaim := { program := "ytlahcmldbgeifaa", sum := "ff507c0e62abfcc1d12193de2b60215dc8fa4e05d11c092b9b86e3133ac6380f", func := "ostrakon/ostrakonlaw1.BitsNone", spec := "bitsNone", apart := false, narrowed := true }
def BitsNoneUptoSaid : Prop := bitsNoneUptoRow.holds Try.pinned (OpenSpec.upto bitsNoneSpec)

/-- 'ostrakonlaw1.ZigTurn', WHERE WHAT IT READS IS OF BULK AT MOST 1048576: true; the input reads as it did. -/
def zigTurnUptoRow : OpenClaim := { program := "ytlahcmldbgeifaa", sum := "ff507c0e62abfcc1d12193de2b60215dc8fa4e05d11c092b9b86e3133ac6380f", func := "ostrakon/ostrakonlaw1.ZigTurn", spec := "zigTurn", apart := false, narrowed := true }
def ZigTurnUptoSaid : Prop := zigTurnUptoRow.holds Try.pinned (OpenSpec.upto zigTurnSpec)

/-- 'ostrakonlaw1.BitsJoin', WHERE WHAT IT READS IS OF BULK AT MOST 1048576: true; the input reads as it did. -/
def bitsJoinUptoRow : OpenClaim := { program := "ytlahcmldbgeifaa", sum := "ff507c0e62abfcc1d12193de2b60215dc8fa4e05d11c092b9b86e3133ac6380f", func := "ostrakon/ostrakonlaw1.BitsJoin", spec := "bitsJoin", apart := false, narrowed := true }
def BitsJoinUptoSaid : Prop := bitsJoinUptoRow.holds Try.pinned (OpenSpec.upto bitsJoinSpec)

/-- 'ostrakonlaw1.BitsOwn', WHERE WHAT IT READS IS OF BULK AT MOST 1048576: true; the input reads as it did. -/
def bitsOwnUptoRow : OpenClaim := { program := "ytlahcmldbgeifaa", sum := "ff507c0e62abfcc1d12193de2b60215dc8fa4e05d11c092b9b86e3133ac6380f", func := "ostrakon/ostrakonlaw1.BitsOwn", spec := "bitsOwn", apart := false, narrowed := true }
def BitsOwnUptoSaid : Prop := bitsOwnUptoRow.holds Try.pinned (OpenSpec.upto bitsOwnSpec)

/-- 'ostrakonlaw1.KoopLine', WHERE WHAT IT READS IS OF BULK AT MOST 1048576: true; the input reads as it did. -/
def koopLineUptoRow : OpenClaim := { program := "ytlahcmldbgeifaa", sum := "ff507c0e62abfcc1d12193de2b60215dc8fa4e05d11c092b9b86e3133ac6380f", func := "ostrakon/ostrakonlaw1.KoopLine", spec := "koopLine", apart := false, narrowed := true }
def KoopLineUptoSaid : Prop := koopLineUptoRow.holds Try.pinned (OpenSpec.upto koopLineSpec)

/-- 'ostrakonlaw1.ZigNarrow', WHERE WHAT IT READS IS OF BULK AT MOST 1048576: true; the input reads as it did. -/
def zigNarrowUptoRow : OpenClaim := { program := "ytlahcmldbgeifaa", sum := "ff507c0e62abfcc1d12193de2b60215dc8fa4e05d11c092b9b86e3133ac6380f", func := "ostrakon/ostrakonlaw1.ZigNarrow", spec := "zigNarrow", apart := false, narrowed := true }
def ZigNarrowUptoSaid : Prop := zigNarrowUptoRow.holds Try.pinned (OpenSpec.upto zigNarrowSpec)

/-- 'ostrakonlaw1.LanePairs', WHERE WHAT IT READS IS OF BULK AT MOST 1048576: true; the input reads as it did. -/
def lanePairsUptoRow : OpenClaim := { program := "ytlahcmldbgeifaa", sum := "ff507c0e62abfcc1d12193de2b60215dc8fa4e05d11c092b9b86e3133ac6380f", func := "ostrakon/ostrakonlaw1.LanePairs", spec := "lanePairs", apart := false, narrowed := true }
def LanePairsUptoSaid : Prop := lanePairsUptoRow.holds Try.pinned (OpenSpec.upto lanePairsSpec)

/-- 'ostrakonlaw1.KoopAll', WHERE WHAT IT READS IS OF BULK AT MOST 1048576: true; the input reads as it did. -/
def koopAllUptoRow : OpenClaim := { program := "ytlahcmldbgeifaa", sum := "ff507c0e62abfcc1d12193de2b60215dc8fa4e05d11c092b9b86e3133ac6380f", func := "ostrakon/ostrakonlaw1.KoopAll", spec := "koopAll", apart := false, narrowed := true }
def KoopAllUptoSaid : Prop := koopAllUptoRow.holds Try.pinned (OpenSpec.upto koopAllSpec)

/-- 'ostrakonlaw1.KoopZero', WHERE WHAT IT READS IS OF BULK AT MOST 1048576: true; the input reads as it did. -/
def koopZeroUptoRow : OpenClaim := { program := "ytlahcmldbgeifaa", sum := "ff507c0e62abfcc1d12193de2b60215dc8fa4e05d11c092b9b86e3133ac6380f", func := "ostrakon/ostrakonlaw1.KoopZero", spec := "koopZero", apart := false, narrowed := true }
def KoopZeroUptoSaid : Prop := koopZeroUptoRow.holds Try.pinned (OpenSpec.upto koopZeroSpec)

/-- 'ostrakonlaw1.LaneAll', WHERE WHAT IT READS IS OF BULK AT MOST 1048576: true; the input reads as it did. -/
def laneAllUptoRow : OpenClaim := { program := "ytlahcmldbgeifaa", sum := "ff507c0e62abfcc1d12193de2b60215dc8fa4e05d11c092b9b86e3133ac6380f", func := "ostrakon/ostrakonlaw1.LaneAll", spec := "laneAll", apart := false, narrowed := true }
def LaneAllUptoSaid : Prop := laneAllUptoRow.holds Try.pinned (OpenSpec.upto laneAllSpec)

/-- 'ostrakonlaw1.LaneWay', WHERE WHAT IT READS IS OF BULK AT MOST 1048576: true; the input reads as it did. -/
def laneWayUptoRow : OpenClaim := { program := "ytlahcmldbgeifaa", sum := "ff507c0e62abfcc1d12193de2b60215dc8fa4e05d11c092b9b86e3133ac6380f", func := "ostrakon/ostrakonlaw1.LaneWay", spec := "laneWay", apart := false, narrowed := true }
def LaneWayUptoSaid : Prop := laneWayUptoRow.holds Try.pinned (OpenSpec.upto laneWaySpec)

/-- 'ostrakonlaw1.ZigBytes', WHERE WHAT IT READS IS OF BULK AT MOST 1048576: true; the input reads as it did. -/
def zigBytesUptoRow : OpenClaim := { program := "ytlahcmldbgeifaa", sum := "ff507c0e62abfcc1d12193de2b60215dc8fa4e05d11c092b9b86e3133ac6380f", func := "ostrakon/ostrakonlaw1.ZigBytes", spec := "zigBytes", apart := false, narrowed := true }
def ZigBytesUptoSaid : Prop := zigBytesUptoRow.holds Try.pinned (OpenSpec.upto zigBytesSpec)

/-- 'ostrakonlaw1.ZigAll', WHERE WHAT IT READS IS OF BULK AT MOST 1048576: true; the input reads as it did. -/
def zigAllUptoRow : OpenClaim := { program := "ytlahcmldbgeifaa", sum := "ff507c0e62abfcc1d12193de2b60215dc8fa4e05d11c092b9b86e3133ac6380f", func := "ostrakon/ostrakonlaw1.ZigAll", spec := "zigAll", apart := false, narrowed := true }
def ZigAllUptoSaid : Prop := zigAllUptoRow.holds Try.pinned (OpenSpec.upto zigAllSpec)

end Rows
end Go.Proofs.Ytlahcmldbgeifaa
