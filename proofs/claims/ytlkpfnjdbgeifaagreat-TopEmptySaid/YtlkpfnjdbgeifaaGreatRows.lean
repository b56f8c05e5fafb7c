/-
  No cell of these rows narrows 'for every input' (looked for: loops, veiled, ifaces, maps, wideKeys, modest, calm, conditions, laid).
  DERIVED. THE GIVEN ROWS OF THIS SEAT. 12 by the template 'for every input the law returns true; each argument reads behind the call as it read before'; 0 by the template 'total and deterministic' (their statements: YtlkpfnjdbgeifaaGreatTotals.lean).
  GIVEN WITH THE SEED: the statements are not yours to turn. If you find one false, say at which input.
  Laid BY PROGRAM, IN A SANDBOX (cutbox-rows.mjs): the forced cells as the released guide's own fill.sh prints them over the translation 9bd8fa516dc94387… (all of the seat's roots in one cut). By AI agents, Wed Nov 11 2026. No macro, syntax, notation, axiom, sorry.
-/
import Derived.Test.YtlkpfnjdbgeifaaGreatChecked
import GoSem.Claim
import GoSem.ClaimJoined
import GoSem.ClaimMapViews
import Derived.JoinedTies
import Derived.KernelRfl
namespace Go.Proofs.YtlkpfnjdbgeifaaGreat
/- THE CELL 'sum', in the pinned program and in every row, IS THE sha256 OF THE DUMP (.gsa) THAT YtlkpfnjdbgeifaaGreatProg.lean LOADS. Nothing in Lean hashes anything: it is a label: what it is worth is what the hold of that sum in a sandbox is worth. -/
noncomputable def Tryz.pinned : Pinned := { name := "ytlkpfnjdbgeifaagreat", sum := "9bd8fa516dc94387ee7d0ad0fd703017d1aa02300410d2f19618bae9afe66daf", checked := Tryz.checked }
namespace Rows
def none {H : Type} : Left H := { results := [], args := [] }

/-- 'ostrakontop.TopLost': WHATEVER THE INPUT: true; the input reads as it did. -/
def topLostSpec : ChangeSpec := { name := "topLost", fn := fun _ => fun
  | [d1, d2, d3] => { results := [.lit (.bool true)], args := [d1, d2, d3] }
  | _ => none }
def topLostRow : OpenClaim := { program := "ytlkpfnjdbgeifaagreat", sum := "9bd8fa516dc94387ee7d0ad0fd703017d1aa02300410d2f19618bae9afe66daf", func := "ostrakon/ostrakontop.TopLost", spec := "topLost", unfollowed := true, recurses := true, plainKeys := false, apart := false }
def TopLostSaid : Prop := topLostRow.holds Tryz.pinned (OpenSpec.ofChange topLostSpec)

/-- ITS FALSE NEIGHBOUR: 'it returns false'. Refute it at one input. -/
def topLostWrong : ChangeSpec := { name := "topLost", fn := fun _ => fun
  | [d1, d2, d3] => { results := [.lit (.bool false)], args := [d1, d2, d3] }
  | _ => none }
def TopLostWrongFalsely : Prop := topLostRow.holds Tryz.pinned (OpenSpec.ofChange topLostWrong)

/-- 'ostrakontop.TopWear': WHATEVER THE INPUT: true; the input reads as it did. -/
def topWearSpec : ChangeSpec := { name := "topWear", fn := fun _ => fun
  | [d1, d2] => { results := [.lit (.bool true)], args := [d1, d2] }
  | _ => none }
def topWearRow : OpenClaim := { program := "ytlkpfnjdbgeifaagreat", sum := "9bd8fa516dc94387ee7d0ad0fd703017d1aa02300410d2f19618bae9afe66daf", func := "ostrakon/ostrakontop.TopWear", spec := "topWear", unfollowed := true, recurses := true, plainKeys := false, apart := false }
def TopWearSaid : Prop := topWearRow.holds Tryz.pinned (OpenSpec.ofChange topWearSpec)

/-- ITS FALSE NEIGHBOUR: 'it returns false'. Refute it at one input. -/
def topWearWrong : ChangeSpec := { name := "topWear", fn := fun _ => fun
  | [d1, d2] => { results := [.lit (.bool false)], args := [d1, d2] }
  | _ => none }
def TopWearWrongFalsely : Prop := topWearRow.holds Tryz.pinned (OpenSpec.ofChange topWearWrong)

/-- 'ostrakontop.TopLater': WHATEVER THE INPUT: true; the input reads as it did. -/
def topLaterSpec : ChangeSpec := { name := "topLater", fn := fun _ => fun
  | [d1, d2, d3] => { results := [.lit (.bool true)], args := [d1, d2, d3] }
  | _ => none }
def topLaterRow : OpenClaim := { program := "ytlkpfnjdbgeifaagreat", sum := "9bd8fa516dc94387ee7d0ad0fd703017d1aa02300410d2f19618bae9afe66daf", func := "ostrakon/ostrakontop.TopLater", spec := "topLater", unfollowed := true, recurses := true, plainKeys := false, apart := false }
def TopLaterSaid : Prop := topLaterRow.holds Tryz.pinned (OpenSpec.ofChange topLaterSpec)

/-- ITS FALSE NEIGHBOUR: 'it returns false'. Refute it at one input. -/
def topLaterWrong : ChangeSpec := { name := "topLater", fn := fun _ => fun
  | [d1, d2, d3] => { results := [.lit (.bool false)], args := [d1, d2, d3] }
  | _ => none }
def TopLaterWrongFalsely : Prop := topLaterRow.holds Tryz.pinned (OpenSpec.ofChange topLaterWrong)

/-- 'ostrakontop.TopRaw': WHATEVER THE INPUT: true; the input reads as it did. -/
def topRawSpec : ChangeSpec := { name := "topRaw", fn := fun _ => fun
  | [d1, d2, d3] => { results := [.lit (.bool true)], args := [d1, d2, d3] }
  | _ => none }
def topRawRow : OpenClaim := { program := "ytlkpfnjdbgeifaagreat", sum := "9bd8fa516dc94387ee7d0ad0fd703017d1aa02300410d2f19618bae9afe66daf", func := "ostrakon/ostrakontop.TopRaw", spec := "topRaw", unfollowed := true, recurses := true, plainKeys := false, apart := false }
def TopRawSaid : Prop := topRawRow.holds Tryz.pinned (OpenSpec.ofChange topRawSpec)

/-- ITS FALSE NEIGHBOUR: 'it returns false'. Refute it at one input. -/
def topRawWrong : ChangeSpec := { name := "topRaw", fn := fun _ => fun
  | [d1, d2, d3] => { results := [.lit (.bool false)], args := [d1, d2, d3] }
  | _ => none }
def TopRawWrongFalsely : Prop := topRawRow.holds Tryz.pinned (OpenSpec.ofChange topRawWrong)

/-- 'ostrakontop.TopDieCut': WHATEVER THE INPUT: true; the input reads as it did. -/
def topDieCutSpec : ChangeSpec := { name := "topDieCut", fn := fun _ => fun
  | [d1, d2, d3] => { results := [.lit (.bool true)], args := [d1, d2, d3] }
  | _ => none }
def topDieCutRow : OpenClaim := { program := "ytlkpfnjdbgeifaagreat", sum := "9bd8fa516dc94387ee7d0ad0fd703017d1aa02300410d2f19618bae9afe66daf", func := "ostrakon/ostrakontop.TopDieCut", spec := "topDieCut", unfollowed := true, recurses := true, plainKeys := false, apart := false }
def TopDieCutSaid : Prop := topDieCutRow.holds Tryz.pinned (OpenSpec.ofChange topDieCutSpec)

/-- ITS FALSE NEIGHBOUR: 'it returns false'. Refute it at one input. -/
def topDieCutWrong : ChangeSpec := { name := "topDieCut", fn := fun _ => fun
  | [d1, d2, d3] => { results := [.lit (.bool false)], args := [d1, d2, d3] }
  | _ => none }
def TopDieCutWrongFalsely : Prop := topDieCutRow.holds Tryz.pinned (OpenSpec.ofChange topDieCutWrong)

/-- 'ostrakontop.TopEmpty': WHATEVER THE INPUT: true; the input reads as it did. -/
def topEmptySpec : ChangeSpec := { name := "topEmpty", fn := fun _ => fun
  | [d1, d2] => { results := [.lit (.bool true)], args := [d1, d2] }
  | _ => none }
def topEmptyRow : OpenClaim := { program := "ytlkpfnjdbgeifaagreat", sum := "9bd8fa516dc94387ee7d0ad0fd703017d1aa02300410d2f19618bae9afe66daf", func := "ostrakon/ostrakontop.TopEmpty", spec := "topEmpty", unfollowed := true, recurses := true, plainKeys := false, apart := false }
def TopEmptySaid : Prop := topEmptyRow.holds Tryz.pinned (OpenSpec.ofChange topEmptySpec)

/-- ITS FALSE NEIGHBOUR: 'it returns false'. Refute it at one input. -/
def topEmptyWrong : ChangeSpec := { name := "topEmpty", fn := fun _ => fun
  | [d1, d2] => { results := [.lit (.bool false)], args := [d1, d2] }
  | _ => none }
def TopEmptyWrongFalsely : Prop := topEmptyRow.holds Tryz.pinned (OpenSpec.ofChange topEmptyWrong)

/-- 'ostrakontop.TopSwap': WHATEVER THE INPUT: true; the input reads as it did. -/
def topSwapSpec : ChangeSpec := { name := "topSwap", fn := fun _ => fun
  | [d1, d2, d3] => { results := [.lit (.bool true)], args := [d1, d2, d3] }
  | _ => none }
def topSwapRow : OpenClaim := { program := "ytlkpfnjdbgeifaagreat", sum := "9bd8fa516dc94387ee7d0ad0fd703017d1aa02300410d2f19618bae9afe66daf", func := "ostrakon/ostrakontop.TopSwap", spec := "topSwap", unfollowed := true, recurses := true, plainKeys := false, apart := false }
def TopSwapSaid : Prop := topSwapRow.holds Tryz.pinned (OpenSpec.ofChange topSwapSpec)

/-- ITS FALSE NEIGHBOUR: 'it returns false'. Refute it at one input. -/
def topSwapWrong : ChangeSpec := { name := "topSwap", fn := fun _ => fun
  | [d1, d2, d3] => { results := [.lit (.bool false)], args := [d1, d2, d3] }
  | _ => none }
def TopSwapWrongFalsely : Prop := topSwapRow.holds Tryz.pinned (OpenSpec.ofChange topSwapWrong)

/-- 'ostrakontop.TopTrimCut': WHATEVER THE INPUT: true; the input reads as it did. -/
def topTrimCutSpec : ChangeSpec := { name := "topTrimCut", fn := fun _ => fun
  | [d1, d2, d3] => { results := [.lit (.bool true)], args := [d1, d2, d3] }
  | _ => none }
def topTrimCutRow : OpenClaim := { program := "ytlkpfnjdbgeifaagreat", sum := "9bd8fa516dc94387ee7d0ad0fd703017d1aa02300410d2f19618bae9afe66daf", func := "ostrakon/ostrakontop.TopTrimCut", spec := "topTrimCut", unfollowed := true, recurses := true, plainKeys := false, apart := false }
def TopTrimCutSaid : Prop := topTrimCutRow.holds Tryz.pinned (OpenSpec.ofChange topTrimCutSpec)

/-- ITS FALSE NEIGHBOUR: 'it returns false'. Refute it at one input. -/
def topTrimCutWrong : ChangeSpec := { name := "topTrimCut", fn := fun _ => fun
  | [d1, d2, d3] => { results := [.lit (.bool false)], args := [d1, d2, d3] }
  | _ => none }
def TopTrimCutWrongFalsely : Prop := topTrimCutRow.holds Tryz.pinned (OpenSpec.ofChange topTrimCutWrong)

/-- 'ostrakontop.TopDieTurns': WHATEVER THE INPUT: true; the input reads as it did. -/
def topDieTurnsSpec : ChangeSpec := { name := "topDieTurns", fn := fun _ => fun
  | [d1, d2] => { results := [.lit (.bool true)], args := [d1, d2] }
  | _ => none }
def topDieTurnsRow : OpenClaim := { program := "ytlkpfnjdbgeifaagreat", sum := "9bd8fa516dc94387ee7d0ad0fd703017d1aa02300410d2f19618bae9afe66daf", func := "ostrakon/ostrakontop.TopDieTurns", spec := "topDieTurns", unfollowed := true, recurses := true, plainKeys := false, apart := false }
def TopDieTurnsSaid : Prop := topDieTurnsRow.holds Tryz.pinned (OpenSpec.ofChange topDieTurnsSpec)

/-- ITS FALSE NEIGHBOUR: 'it returns false'. Refute it at one input. -/
def topDieTurnsWrong : ChangeSpec := { name := "topDieTurns", fn := fun _ => fun
  | [d1, d2] => { results := [.lit (.bool false)], args := [d1, d2] }
  | _ => none }
def TopDieTurnsWrongFalsely : Prop := topDieTurnsRow.holds Tryz.pinned (OpenSpec.ofChange topDieTurnsWrong)

/-- 'ostrakontop.TopFaultCut': WHATEVER THE INPUT: true; the input reads as it did. -/
def topFaultCutSpec : ChangeSpec := { name := "topFaultCut", fn := fun _ => fun
  | [d1, d2, d3] => { results := [.lit (.bool true)], args := [d1, d2, d3] }
  | _ => none }
def topFaultCutRow : OpenClaim := { program := "ytlkpfnjdbgeifaagreat", sum := "9bd8fa516dc94387ee7d0ad0fd703017d1aa02300410d2f19618bae9afe66daf", func := "ostrakon/ostrakontop.TopFaultCut", spec := "topFaultCut", unfollowed := true, recurses := true, plainKeys := false, apart := false }
def TopFaultCutSaid : Prop := topFaultCutRow.holds Tryz.pinned (OpenSpec.ofChange topFaultCutSpec)

/-- ITS FALSE NEIGHBOUR: 'it returns false'. Refute it at one input. -/
def topFaultCutWrong : ChangeSpec := { name := "topFaultCut", fn := fun _ => fun
  | [d1, d2, d3] => { results := [.lit (.bool false)], args := [d1, d2, d3] }
  | _ => none }
def TopFaultCutWrongFalsely : Prop := topFaultCutRow.holds Tryz.pinned (OpenSpec.ofChange topFaultCutWrong)

/-- 'ostrakontop.TopTwo': WHATEVER THE INPUT: true; the input reads as it did. -/
def topTwoSpec : ChangeSpec := { name := "topTwo", fn := fun _ => fun
  | [d1, d2] => { results := [.lit (.bool true)], args := [d1, d2] }
  | _ => none }
def topTwoRow : OpenClaim := { program := "ytlkpfnjdbgeifaagreat", sum := "9bd8fa516dc94387ee7d0ad0fd703017d1aa02300410d2f19618bae9afe66daf", func := "ostrakon/ostrakontop.TopTwo", spec := "topTwo", unfollowed := true, recurses := true, plainKeys := false, apart := false }
def TopTwoSaid : Prop := topTwoRow.holds Tryz.pinned (OpenSpec.ofChange topTwoSpec)

/-- ITS FALSE NEIGHBOUR: 'it returns false'. Refute it at one input. -/
def topTwoWrong : ChangeSpec := { name := "topTwo", fn := fun _ => fun
  | [d1, d2] => { results := [.lit (.bool false)], args := [d1, d2] }
  | _ => none }
def TopTwoWrongFalsely : Prop := topTwoRow.holds Tryz.pinned (OpenSpec.ofChange topTwoWrong)

/-- 'ostrakontop.TopSame': WHATEVER THE INPUT: true; the input reads as it did. -/
def topSameSpec : ChangeSpec := { name := "topSame", fn := fun _ => fun
  | [d1, d2, d3] => { results := [.lit (.bool true)], args := [d1, d2, d3] }
  | _ => none }
def topSameRow : OpenClaim := { program := "ytlkpfnjdbgeifaagreat", sum := "9bd8fa516dc94387ee7d0ad0fd703017d1aa02300410d2f19618bae9afe66daf", func := "ostrakon/ostrakontop.TopSame", spec := "topSame", unfollowed := true, recurses := true, plainKeys := false, apart := false }
def TopSameSaid : Prop := topSameRow.holds Tryz.pinned (OpenSpec.ofChange topSameSpec)

/-- ITS FALSE NEIGHBOUR: 'it returns false'. Refute it at one input. -/
def topSameWrong : ChangeSpec := { name := "topSame", fn := fun _ => fun
  | [d1, d2, d3] => { results := [.lit (.bool false)], args := [d1, d2, d3] }
  | _ => none }
def TopSameWrongFalsely : Prop := topSameRow.holds Tryz.pinned (OpenSpec.ofChange topSameWrong)

/- THE SECOND FORM. 'bulk': how many values and letters a reading holds, each counted each time it is reached (what is shared counts as often as it is met; a slice's spare places count too). A statement '..UptoSaid' is the law's where the arguments, and the package variables that the reading takes, are together of bulk at most 1048576: NARROWER than '..Said'. Prove '..Said' where nothing that the law and all that it calls make is longer than what came in: it says more and counts as full. Else prove '..UptoSaid'. A law counts once. -/
mutual
def uptoBulk {H : Type} : DataW H → Nat
  | .lit (.string bytes) => bytes.length + 1
  | .lit _ => 1
  | .nil => 1
  | .ptr d => uptoBulk d + 1
  | .slice elems spare => uptoBulkAll elems + uptoBulkAll spare + 1
  | .agg parts => uptoBulkAll parts + 1
  | .iface _ d => uptoBulk d + 1
  | .map entries => uptoBulkEntries entries + 1
  | .held _ => 1
def uptoBulkAll {H : Type} : List (DataW H) → Nat
  | [] => 0
  | d :: r => uptoBulk d + uptoBulkAll r
def uptoBulkEntries {H : Type} : List (Lit × DataW H) → Nat
  | [] => 0
  | x :: r => uptoBulkEntry x + uptoBulkEntries r
def uptoBulkEntry {H : Type} : Lit × DataW H → Nat
  | (.string bytes, d) => bytes.length + uptoBulk d + 1
  | (_, d) => uptoBulk d + 1
 end
def uptoSmall : (H : Type) → List (DataW H) → Bool := fun _ ds => decide (uptoBulkAll ds ≤ 1048576)
def OpenSpec.upto (s : _root_.Go.ChangeSpec) : _root_.Go.OpenSpec := { _root_.Go.OpenSpec.ofChange s with cond := some uptoSmall }

/-- 'ostrakontop.TopLost', WHERE WHAT IT READS IS OF BULK AT MOST 1048576: true; the input reads as it did. -/
def topLostUptoRow : OpenClaim := { program := "ytlkpfnjdbgeifaagreat", sum := "9bd8fa516dc94387ee7d0ad0fd703017d1aa02300410d2f19618bae9afe66daf", func := "ostrakon/ostrakontop.TopLost", spec := "topLost", unfollowed := true, recurses := true, plainKeys := false, apart := false, narrowed := true }
def TopLostUptoSaid : Prop := topLostUptoRow.holds Tryz.pinned (OpenSpec.upto topLostSpec)

/-- 'ostrakontop.TopWear', WHERE WHAT IT READS IS OF BULK AT MOST 1048576: true; the input reads as it did. -/
def topWearUptoRow : OpenClaim := { program := "ytlkpfnjdbgeifaagreat", sum := "9bd8fa516dc94387ee7d0ad0fd703017d1aa02300410d2f19618bae9afe66daf", func := "ostrakon/ostrakontop.TopWear", spec := "topWear", unfollowed := true, recurses := true, plainKeys := false, apart := false, narrowed := true }
def TopWearUptoSaid : Prop := topWearUptoRow.holds Tryz.pinned (OpenSpec.upto topWearSpec)

/-- 'ostrakontop.TopLater', WHERE WHAT IT READS IS OF BULK AT MOST 1048576: true; the input reads as it did. -/
def topLaterUptoRow : OpenClaim := { program := "ytlkpfnjdbgeifaagreat", sum := "9bd8fa516dc94387ee7d0ad0fd703017d1aa02300410d2f19618bae9afe66daf", func := "ostrakon/ostrakontop.TopLater", spec := "topLater", unfollowed := true, recurses := true, plainKeys := false, apart := false, narrowed := true }
def TopLaterUptoSaid : Prop := topLaterUptoRow.holds Tryz.pinned (OpenSpec.upto topLaterSpec)

/-- 'ostrakontop.TopRaw', WHERE WHAT IT READS IS OF BULK AT MOST 1048576: true; the input reads as it did. -/
def topRawUptoRow : OpenClaim := { program := "ytlkpfnjdbgeifaagreat", sum := "9bd8fa516dc94387ee7d0ad0fd703017d1aa02300410d2f19618bae9afe66daf", func := "ostrakon/ostrakontop.TopRaw", spec := "topRaw", unfollowed := true, recurses := true, plainKeys := false, apart := false, narrowed := true }
def TopRawUptoSaid : Prop := topRawUptoRow.holds Tryz.pinned (OpenSpec.upto topRawSpec)

/-- 'ostrakontop.TopDieCut', WHERE WHAT IT READS IS OF BULK AT MOST 1048576: true; the input reads as it did. -/
def topDieCutUptoRow : OpenClaim := { program := "ytlkpfnjdbgeifaagreat", sum := "9bd8fa516dc94387ee7d0ad0fd703017d1aa02300410d2f19618bae9afe66daf", func := "ostrakon/ostrakontop.TopDieCut", spec := "topDieCut", unfollowed := true, recurses := true, plainKeys := false, apart := false, narrowed := true }
def TopDieCutUptoSaid : Prop := topDieCutUptoRow.holds Tryz.pinned (OpenSpec.upto topDieCutSpec)

/-- 'ostrakontop.TopEmpty', WHERE WHAT IT READS IS OF BULK AT MOST 1048576: true; the input reads as it did. -/
def topEmptyUptoRow : OpenClaim := { program := "ytlkpfnjdbgeifaagreat", sum := "9bd8fa516dc94387ee7d0ad0fd703017d1aa02300410d2f19618bae9afe66daf", func := "ostrakon/ostrakontop.TopEmpty", spec := "topEmpty", unfollowed := true, recurses := true, plainKeys := false, apart := false, narrowed := true }
def TopEmptyUptoSaid : Prop := topEmptyUptoRow.holds Tryz.pinned (OpenSpec.upto topEmptySpec)

/-- 'ostrakontop.TopSwap', WHERE WHAT IT READS IS OF BULK AT MOST 1048576: true; the input reads as it did. -/
def topSwapUptoRow : OpenClaim := { program := "ytlkpfnjdbgeifaagreat", sum := "9bd8fa516dc94387ee7d0ad0fd703017d1aa02300410d2f19618bae9afe66daf", func := "ostrakon/ostrakontop.TopSwap", spec := "topSwap", unfollowed := true, recurses := true, plainKeys := false, apart := false, narrowed := true }
def TopSwapUptoSaid : Prop := topSwapUptoRow.holds Tryz.pinned (OpenSpec.upto topSwapSpec)

/-- 'ostrakontop.TopTrimCut', WHERE WHAT IT READS IS OF BULK AT MOST 1048576: true; the input reads as it did. -/
def topTrimCutUptoRow : OpenClaim := { program := "ytlkpfnjdbgeifaagreat", sum := "9bd8fa516dc94387ee7d0ad0fd703017d1aa02300410d2f19618bae9afe66daf", func := "ostrakon/ostrakontop.TopTrimCut", spec := "topTrimCut", unfollowed := true, recurses := true, plainKeys := false, apart := false, narrowed := true }
def TopTrimCutUptoSaid : Prop := topTrimCutUptoRow.holds Tryz.pinned (OpenSpec.upto topTrimCutSpec)

/-- 'ostrakontop.TopDieTurns', WHERE WHAT IT READS IS OF BULK AT MOST 1048576: true; the input reads as it did. -/
def topDieTurnsUptoRow : OpenClaim := { program := "ytlkpfnjdbgeifaagreat", sum := "9bd8fa516dc94387ee7d0ad0fd703017d1aa02300410d2f19618bae9afe66daf", func := "ostrakon/ostrakontop.TopDieTurns", spec := "topDieTurns", unfollowed := true, recurses := true, plainKeys := false, apart := false, narrowed := true }
def TopDieTurnsUptoSaid : Prop := topDieTurnsUptoRow.holds Tryz.pinned (OpenSpec.upto topDieTurnsSpec)

/-- 'ostrakontop.TopFaultCut', WHERE WHAT IT READS IS OF BULK AT MOST 1048576: true; the input reads as it did. -/
def topFaultCutUptoRow : OpenClaim := { program := "ytlkpfnjdbgeifaagreat", sum := "9bd8fa516dc94387ee7d0ad0fd703017d1aa02300410d2f19618bae9afe66daf", func := "ostrakon/ostrakontop.TopFaultCut", spec := "topFaultCut", unfollowed := true, recurses := true, plainKeys := false, apart := false, narrowed := true }
def TopFaultCutUptoSaid : Prop := topFaultCutUptoRow.holds Tryz.pinned (OpenSpec.upto topFaultCutSpec)

/-- 'ostrakontop.TopTwo', WHERE WHAT IT READS IS OF BULK AT MOST 1048576: true; the input reads as it did. -/
def topTwoUptoRow : OpenClaim := { program := "ytlkpfnjdbgeifaagreat", sum := "9bd8fa516dc94387ee7d0ad0fd703017d1aa02300410d2f19618bae9afe66daf", func := "ostrakon/ostrakontop.TopTwo", spec := "topTwo", unfollowed := true, recurses := true, plainKeys := false, apart := false, narrowed := true }
def TopTwoUptoSaid : Prop := topTwoUptoRow.holds Tryz.pinned (OpenSpec.upto topTwoSpec)

/-- 'ostrakontop.TopSame', WHERE WHAT IT READS IS OF BULK AT MOST 1048576: true; the input reads as it did. -/
def topSameUptoRow : OpenClaim := { program := "ytlkpfnjdbgeifaagreat", sum := "9bd8fa516dc94387ee7d0ad0fd703017d1aa02300410d2f19618bae9afe66daf", func := "ostrakon/ostrakontop.TopSame", spec := "topSame", unfollowed := true, recurses := true, plainKeys := false, apart := false, narrowed := true }
def TopSameUptoSaid : Prop := topSameUptoRow.holds Tryz.pinned (OpenSpec.upto topSameSpec)

end Rows
end Go.Proofs.YtlkpfnjdbgeifaaGreat
