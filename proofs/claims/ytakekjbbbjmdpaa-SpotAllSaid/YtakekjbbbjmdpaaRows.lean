/-
  No cell of these rows narrows 'for every input' (looked for: loops, veiled, ifaces, maps, wideKeys, modest, calm, conditions, laid).
  DERIVED. THE GIVEN ROWS OF THIS SEAT. 19 by the template 'for every input the law returns true; each argument reads behind the call as it read before'; 0 by the template 'total and deterministic' (their statements: YtakekjbbbjmdpaaTotals.lean).
  GIVEN WITH THE SEED: the statements are not yours to turn. If you find one false, say at which input.
  Laid BY PROGRAM, IN A SANDBOX (cutbox-rows.mjs): the forced cells as the released guide's own fill.sh prints them over the translation 895e731c4597ac9c… (all of the seat's roots in one cut). By AI agents, Wed Nov 11 2026. No macro, syntax, notation, axiom, sorry.
-/
import Derived.Test.YtakekjbbbjmdpaaChecked
import GoSem.Claim
import GoSem.ClaimJoined
import GoSem.ClaimMapViews
import Derived.JoinedTies
import Derived.KernelRfl
namespace Go.Proofs.Ytakekjbbbjmdpaa
/- THE CELL 'sum', in the pinned program and in every row, IS THE sha256 OF THE DUMP (.gsa) THAT YtakekjbbbjmdpaaProg.lean LOADS. Nothing in Lean hashes anything: it is a label: what it is worth is what the hold of that sum in a sandbox is worth. -/
noncomputable def Try.pinned : Pinned := { name := "ytakekjbbbjmdpaa", sum := "895e731c4597ac9cea6b91e0a9b75f657e45e5dac7c3ec87bb15b5c75d14edcd", checked := Try.checked }
namespace Rows
def none {H : Type} : Left H := { results := [], args := [] }

/-- 'ostrakonlaw6.GeoRows': WHATEVER THE INPUT: true; the input reads as it did. -/
def geoRowsSpec : ChangeSpec := { name := "geoRows", fn := fun _ => fun
  | [d1, d2, d3, d4, d5] => { results := [.lit (.bool true)], args := [d1, d2, d3, d4, d5] }
  | _ => none }
def geoRowsRow : OpenClaim := { program := "ytakekjbbbjmdpaa", sum := "895e731c4597ac9cea6b91e0a9b75f657e45e5dac7c3ec87bb15b5c75d14edcd", func := "ostrakon/ostrakonlaw6.GeoRows", spec := "geoRows", plainKeys := false, apart := false }
def GeoRowsSaid : Prop := geoRowsRow.holds Try.pinned (OpenSpec.ofChange geoRowsSpec)

/-- ITS FALSE NEIGHBOUR: 'it returns false'. Refute it at one input. -/
def geoRowsWrong : ChangeSpec := { name := "geoRows", fn := fun _ => fun
  | [d1, d2, d3, d4, d5] => { results := [.lit (.bool false)], args := [d1, d2, d3, d4, d5] }
  | _ => none }
def GeoRowsWrongFalsely : Prop := geoRowsRow.holds Try.pinned (OpenSpec.ofChange geoRowsWrong)

/-- 'ostrakonlaw6.GeoTurns': WHATEVER THE INPUT: true; the input reads as it did. -/
def geoTurnsSpec : ChangeSpec := { name := "geoTurns", fn := fun _ => fun
  | [d1, d2, d3] => { results := [.lit (.bool true)], args := [d1, d2, d3] }
  | _ => none }
def geoTurnsRow : OpenClaim := { program := "ytakekjbbbjmdpaa", sum := "895e731c4597ac9cea6b91e0a9b75f657e45e5dac7c3ec87bb15b5c75d14edcd", func := "ostrakon/ostrakonlaw6.GeoTurns", spec := "geoTurns", plainKeys := false, apart := false }
def GeoTurnsSaid : Prop := geoTurnsRow.holds Try.pinned (OpenSpec.ofChange geoTurnsSpec)

/-- ITS FALSE NEIGHBOUR: 'it returns false'. Refute it at one input. -/
def geoTurnsWrong : ChangeSpec := { name := "geoTurns", fn := fun _ => fun
  | [d1, d2, d3] => { results := [.lit (.bool false)], args := [d1, d2, d3] }
  | _ => none }
def GeoTurnsWrongFalsely : Prop := geoTurnsRow.holds Try.pinned (OpenSpec.ofChange geoTurnsWrong)

/-- 'ostrakonlaw6.GeoSmall': WHATEVER THE INPUT: true; the input reads as it did. -/
def geoSmallSpec : ChangeSpec := { name := "geoSmall", fn := fun _ => fun
  | [d1, d2, d3] => { results := [.lit (.bool true)], args := [d1, d2, d3] }
  | _ => none }
def geoSmallRow : OpenClaim := { program := "ytakekjbbbjmdpaa", sum := "895e731c4597ac9cea6b91e0a9b75f657e45e5dac7c3ec87bb15b5c75d14edcd", func := "ostrakon/ostrakonlaw6.GeoSmall", spec := "geoSmall", plainKeys := false, apart := false }
def GeoSmallSaid : Prop := geoSmallRow.holds Try.pinned (OpenSpec.ofChange geoSmallSpec)

/-- ITS FALSE NEIGHBOUR: 'it returns false'. Refute it at one input. -/
def geoSmallWrong : ChangeSpec := { name := "geoSmall", fn := fun _ => fun
  | [d1, d2, d3] => { results := [.lit (.bool false)], args := [d1, d2, d3] }
  | _ => none }
def GeoSmallWrongFalsely : Prop := geoSmallRow.holds Try.pinned (OpenSpec.ofChange geoSmallWrong)

/-- 'ostrakonlaw6.GeoShare': WHATEVER THE INPUT: true; the input reads as it did. -/
def geoShareSpec : ChangeSpec := { name := "geoShare", fn := fun _ => fun
  | [d1, d2] => { results := [.lit (.bool true)], args := [d1, d2] }
  | _ => none }
def geoShareRow : OpenClaim := { program := "ytakekjbbbjmdpaa", sum := "895e731c4597ac9cea6b91e0a9b75f657e45e5dac7c3ec87bb15b5c75d14edcd", func := "ostrakon/ostrakonlaw6.GeoShare", spec := "geoShare", plainKeys := false, apart := false }
def GeoShareSaid : Prop := geoShareRow.holds Try.pinned (OpenSpec.ofChange geoShareSpec)

/-- ITS FALSE NEIGHBOUR: 'it returns false'. Refute it at one input. -/
def geoShareWrong : ChangeSpec := { name := "geoShare", fn := fun _ => fun
  | [d1, d2] => { results := [.lit (.bool false)], args := [d1, d2] }
  | _ => none }
def GeoShareWrongFalsely : Prop := geoShareRow.holds Try.pinned (OpenSpec.ofChange geoShareWrong)

/-- 'ostrakonlaw9.SherdAll': WHATEVER THE INPUT: true; the input reads as it did. -/
def sherdAllSpec : ChangeSpec := { name := "sherdAll", fn := fun _ => fun
  | [d1, d2] => { results := [.lit (.bool true)], args := [d1, d2] }
  | _ => none }
def sherdAllRow : OpenClaim := { program := "ytakekjbbbjmdpaa", sum := "895e731c4597ac9cea6b91e0a9b75f657e45e5dac7c3ec87bb15b5c75d14edcd", func := "ostrakon/ostrakonlaw9.SherdAll", spec := "sherdAll", unfollowed := true, recurses := true, plainKeys := false, apart := false }
def SherdAllSaid : Prop := sherdAllRow.holds Try.pinned (OpenSpec.ofChange sherdAllSpec)

/-- ITS FALSE NEIGHBOUR: 'it returns false'. Refute it at one input. -/
def sherdAllWrong : ChangeSpec := { name := "sherdAll", fn := fun _ => fun
  | [d1, d2] => { results := [.lit (.bool false)], args := [d1, d2] }
  | _ => none }
def SherdAllWrongFalsely : Prop := sherdAllRow.holds Try.pinned (OpenSpec.ofChange sherdAllWrong)

/-- 'ostrakonlaw9.SherdAny': WHATEVER THE INPUT: true; the input reads as it did. -/
def sherdAnySpec : ChangeSpec := { name := "sherdAny", fn := fun _ => fun
  | [d1, d2, d3, d4] => { results := [.lit (.bool true)], args := [d1, d2, d3, d4] }
  | _ => none }
def sherdAnyRow : OpenClaim := { program := "ytakekjbbbjmdpaa", sum := "895e731c4597ac9cea6b91e0a9b75f657e45e5dac7c3ec87bb15b5c75d14edcd", func := "ostrakon/ostrakonlaw9.SherdAny", spec := "sherdAny", unfollowed := true, recurses := true, plainKeys := false, apart := false }
def SherdAnySaid : Prop := sherdAnyRow.holds Try.pinned (OpenSpec.ofChange sherdAnySpec)

/-- ITS FALSE NEIGHBOUR: 'it returns false'. Refute it at one input. -/
def sherdAnyWrong : ChangeSpec := { name := "sherdAny", fn := fun _ => fun
  | [d1, d2, d3, d4] => { results := [.lit (.bool false)], args := [d1, d2, d3, d4] }
  | _ => none }
def SherdAnyWrongFalsely : Prop := sherdAnyRow.holds Try.pinned (OpenSpec.ofChange sherdAnyWrong)

/-- 'ostrakonlaw9.SherdTorn': WHATEVER THE INPUT: true; the input reads as it did. -/
def sherdTornSpec : ChangeSpec := { name := "sherdTorn", fn := fun _ => fun
  | [d1, d2] => { results := [.lit (.bool true)], args := [d1, d2] }
  | _ => none }
def sherdTornRow : OpenClaim := { program := "ytakekjbbbjmdpaa", sum := "895e731c4597ac9cea6b91e0a9b75f657e45e5dac7c3ec87bb15b5c75d14edcd", func := "ostrakon/ostrakonlaw9.SherdTorn", spec := "sherdTorn", unfollowed := true, recurses := true, plainKeys := false, apart := false }
def SherdTornSaid : Prop := sherdTornRow.holds Try.pinned (OpenSpec.ofChange sherdTornSpec)

/-- ITS FALSE NEIGHBOUR: 'it returns false'. Refute it at one input. -/
def sherdTornWrong : ChangeSpec := { name := "sherdTorn", fn := fun _ => fun
  | [d1, d2] => { results := [.lit (.bool false)], args := [d1, d2] }
  | _ => none }
def SherdTornWrongFalsely : Prop := sherdTornRow.holds Try.pinned (OpenSpec.ofChange sherdTornWrong)

/-- 'ostrakonlaw9.SherdTurn': WHATEVER THE INPUT: true; the input reads as it did. -/
def sherdTurnSpec : ChangeSpec := { name := "sherdTurn", fn := fun _ => fun
  | [d1, d2, d3] => { results := [.lit (.bool true)], args := [d1, d2, d3] }
  | _ => none }
def sherdTurnRow : OpenClaim := { program := "ytakekjbbbjmdpaa", sum := "895e731c4597ac9cea6b91e0a9b75f657e45e5dac7c3ec87bb15b5c75d14edcd", func := "ostrakon/ostrakonlaw9.SherdTurn", spec := "sherdTurn", unfollowed := true, recurses := true, plainKeys := false, apart := false }
def SherdTurnSaid : Prop := sherdTurnRow.holds Try.pinned (OpenSpec.ofChange sherdTurnSpec)

/-- ITS FALSE NEIGHBOUR: 'it returns false'. Refute it at one input. -/
def sherdTurnWrong : ChangeSpec := { name := "sherdTurn", fn := fun _ => fun
  | [d1, d2, d3] => { results := [.lit (.bool false)], args := [d1, d2, d3] }
  | _ => none }
def SherdTurnWrongFalsely : Prop := sherdTurnRow.holds Try.pinned (OpenSpec.ofChange sherdTurnWrong)

/-- 'ostrakonlaw9.SherdMeta': WHATEVER THE INPUT: true; the input reads as it did. -/
def sherdMetaSpec : ChangeSpec := { name := "sherdMeta", fn := fun _ => fun
  | [d1, d2, d3, d4] => { results := [.lit (.bool true)], args := [d1, d2, d3, d4] }
  | _ => none }
def sherdMetaRow : OpenClaim := { program := "ytakekjbbbjmdpaa", sum := "895e731c4597ac9cea6b91e0a9b75f657e45e5dac7c3ec87bb15b5c75d14edcd", func := "ostrakon/ostrakonlaw9.SherdMeta", spec := "sherdMeta", unfollowed := true, recurses := true, plainKeys := false, apart := false }
def SherdMetaSaid : Prop := sherdMetaRow.holds Try.pinned (OpenSpec.ofChange sherdMetaSpec)

/-- ITS FALSE NEIGHBOUR: 'it returns false'. Refute it at one input. -/
def sherdMetaWrong : ChangeSpec := { name := "sherdMeta", fn := fun _ => fun
  | [d1, d2, d3, d4] => { results := [.lit (.bool false)], args := [d1, d2, d3, d4] }
  | _ => none }
def SherdMetaWrongFalsely : Prop := sherdMetaRow.holds Try.pinned (OpenSpec.ofChange sherdMetaWrong)

/-- 'ostrakonlaw9.WeaveBack': WHATEVER THE INPUT: true; the input reads as it did. -/
def weaveBackSpec : ChangeSpec := { name := "weaveBack", fn := fun _ => fun
  | [d1, d2, d3, d4, d5] => { results := [.lit (.bool true)], args := [d1, d2, d3, d4, d5] }
  | _ => none }
def weaveBackRow : OpenClaim := { program := "ytakekjbbbjmdpaa", sum := "895e731c4597ac9cea6b91e0a9b75f657e45e5dac7c3ec87bb15b5c75d14edcd", func := "ostrakon/ostrakonlaw9.WeaveBack", spec := "weaveBack", unfollowed := true, recurses := true, plainKeys := false, apart := false }
def WeaveBackSaid : Prop := weaveBackRow.holds Try.pinned (OpenSpec.ofChange weaveBackSpec)

/-- ITS FALSE NEIGHBOUR: 'it returns false'. Refute it at one input. -/
def weaveBackWrong : ChangeSpec := { name := "weaveBack", fn := fun _ => fun
  | [d1, d2, d3, d4, d5] => { results := [.lit (.bool false)], args := [d1, d2, d3, d4, d5] }
  | _ => none }
def WeaveBackWrongFalsely : Prop := weaveBackRow.holds Try.pinned (OpenSpec.ofChange weaveBackWrong)

/-- 'ostrakonlaw9.WeaveAny': WHATEVER THE INPUT: true; the input reads as it did. -/
def weaveAnySpec : ChangeSpec := { name := "weaveAny", fn := fun _ => fun
  | [d1, d2] => { results := [.lit (.bool true)], args := [d1, d2] }
  | _ => none }
def weaveAnyRow : OpenClaim := { program := "ytakekjbbbjmdpaa", sum := "895e731c4597ac9cea6b91e0a9b75f657e45e5dac7c3ec87bb15b5c75d14edcd", func := "ostrakon/ostrakonlaw9.WeaveAny", spec := "weaveAny", unfollowed := true, recurses := true, plainKeys := false, apart := false }
def WeaveAnySaid : Prop := weaveAnyRow.holds Try.pinned (OpenSpec.ofChange weaveAnySpec)

/-- ITS FALSE NEIGHBOUR: 'it returns false'. Refute it at one input. -/
def weaveAnyWrong : ChangeSpec := { name := "weaveAny", fn := fun _ => fun
  | [d1, d2] => { results := [.lit (.bool false)], args := [d1, d2] }
  | _ => none }
def WeaveAnyWrongFalsely : Prop := weaveAnyRow.holds Try.pinned (OpenSpec.ofChange weaveAnyWrong)

/-- 'ostrakonlaw9.SherdRoles': WHATEVER THE INPUT: true; the input reads as it did. -/
def sherdRolesSpec : ChangeSpec := { name := "sherdRoles", fn := fun _ => fun
  | [d1, d2, d3, d4] => { results := [.lit (.bool true)], args := [d1, d2, d3, d4] }
  | _ => none }
def sherdRolesRow : OpenClaim := { program := "ytakekjbbbjmdpaa", sum := "895e731c4597ac9cea6b91e0a9b75f657e45e5dac7c3ec87bb15b5c75d14edcd", func := "ostrakon/ostrakonlaw9.SherdRoles", spec := "sherdRoles", unfollowed := true, recurses := true, plainKeys := false, apart := false }
def SherdRolesSaid : Prop := sherdRolesRow.holds Try.pinned (OpenSpec.ofChange sherdRolesSpec)

/-- ITS FALSE NEIGHBOUR: 'it returns false'. Refute it at one input. -/
def sherdRolesWrong : ChangeSpec := { name := "sherdRoles", fn := fun _ => fun
  | [d1, d2, d3, d4] => { results := [.lit (.bool false)], args := [d1, d2, d3, d4] }
  | _ => none }
def SherdRolesWrongFalsely : Prop := sherdRolesRow.holds Try.pinned (OpenSpec.ofChange sherdRolesWrong)

/-- 'ostrakonlaw9.SherdPlaces': WHATEVER THE INPUT: true; the input reads as it did. -/
def sherdPlacesSpec : ChangeSpec := { name := "sherdPlaces", fn := fun _ => fun
  | [d1, d2, d3] => { results := [.lit (.bool true)], args := [d1, d2, d3] }
  | _ => none }
def sherdPlacesRow : OpenClaim := { program := "ytakekjbbbjmdpaa", sum := "895e731c4597ac9cea6b91e0a9b75f657e45e5dac7c3ec87bb15b5c75d14edcd", func := "ostrakon/ostrakonlaw9.SherdPlaces", spec := "sherdPlaces", unfollowed := true, recurses := true, plainKeys := false, apart := false }
def SherdPlacesSaid : Prop := sherdPlacesRow.holds Try.pinned (OpenSpec.ofChange sherdPlacesSpec)

/-- ITS FALSE NEIGHBOUR: 'it returns false'. Refute it at one input. -/
def sherdPlacesWrong : ChangeSpec := { name := "sherdPlaces", fn := fun _ => fun
  | [d1, d2, d3] => { results := [.lit (.bool false)], args := [d1, d2, d3] }
  | _ => none }
def SherdPlacesWrongFalsely : Prop := sherdPlacesRow.holds Try.pinned (OpenSpec.ofChange sherdPlacesWrong)

/-- 'ostrakonlaw9.WeaveOver': WHATEVER THE INPUT: true; the input reads as it did. -/
def weaveOverSpec : ChangeSpec := { name := "weaveOver", fn := fun _ => fun
  | [d1, d2] => { results := [.lit (.bool true)], args := [d1, d2] }
  | _ => none }
def weaveOverRow : OpenClaim := { program := "ytakekjbbbjmdpaa", sum := "895e731c4597ac9cea6b91e0a9b75f657e45e5dac7c3ec87bb15b5c75d14edcd", func := "ostrakon/ostrakonlaw9.WeaveOver", spec := "weaveOver", unfollowed := true, recurses := true, plainKeys := false, apart := false }
def WeaveOverSaid : Prop := weaveOverRow.holds Try.pinned (OpenSpec.ofChange weaveOverSpec)

/-- ITS FALSE NEIGHBOUR: 'it returns false'. Refute it at one input. -/
def weaveOverWrong : ChangeSpec := { name := "weaveOver", fn := fun _ => fun
  | [d1, d2] => { results := [.lit (.bool false)], args := [d1, d2] }
  | _ => none }
def WeaveOverWrongFalsely : Prop := weaveOverRow.holds Try.pinned (OpenSpec.ofChange weaveOverWrong)

/-- 'ostrakonlaw9.WeaveOne': WHATEVER THE INPUT: true; the input reads as it did. -/
def weaveOneSpec : ChangeSpec := { name := "weaveOne", fn := fun _ => fun
  | [d1, d2, d3] => { results := [.lit (.bool true)], args := [d1, d2, d3] }
  | _ => none }
def weaveOneRow : OpenClaim := { program := "ytakekjbbbjmdpaa", sum := "895e731c4597ac9cea6b91e0a9b75f657e45e5dac7c3ec87bb15b5c75d14edcd", func := "ostrakon/ostrakonlaw9.WeaveOne", spec := "weaveOne", unfollowed := true, recurses := true, plainKeys := false, apart := false }
def WeaveOneSaid : Prop := weaveOneRow.holds Try.pinned (OpenSpec.ofChange weaveOneSpec)

/-- ITS FALSE NEIGHBOUR: 'it returns false'. Refute it at one input. -/
def weaveOneWrong : ChangeSpec := { name := "weaveOne", fn := fun _ => fun
  | [d1, d2, d3] => { results := [.lit (.bool false)], args := [d1, d2, d3] }
  | _ => none }
def WeaveOneWrongFalsely : Prop := weaveOneRow.holds Try.pinned (OpenSpec.ofChange weaveOneWrong)

/-- 'ostrakonlaw5.SpotAll': WHATEVER THE INPUT: true; the input reads as it did. -/
def spotAllSpec : ChangeSpec := { name := "spotAll", fn := fun _ => fun
  | [d] => { results := [.lit (.bool true)], args := [d] }
  | _ => none }
def spotAllRow : OpenClaim := { program := "ytakekjbbbjmdpaa", sum := "895e731c4597ac9cea6b91e0a9b75f657e45e5dac7c3ec87bb15b5c75d14edcd", func := "ostrakon/ostrakonlaw5.SpotAll", spec := "spotAll", unfollowed := true, recurses := true, plainKeys := false, apart := false }
def SpotAllSaid : Prop := spotAllRow.holds Try.pinned (OpenSpec.ofChange spotAllSpec)

/-- ITS FALSE NEIGHBOUR: 'it returns false'. Refute it at one input. -/
def spotAllWrong : ChangeSpec := { name := "spotAll", fn := fun _ => fun
  | [d] => { results := [.lit (.bool false)], args := [d] }
  | _ => none }
def SpotAllWrongFalsely : Prop := spotAllRow.holds Try.pinned (OpenSpec.ofChange spotAllWrong)

/-- 'ostrakonlaw5.SpotBlock': WHATEVER THE INPUT: true; the input reads as it did. -/
def spotBlockSpec : ChangeSpec := { name := "spotBlock", fn := fun _ => fun
  | [d1, d2, d3] => { results := [.lit (.bool true)], args := [d1, d2, d3] }
  | _ => none }
def spotBlockRow : OpenClaim := { program := "ytakekjbbbjmdpaa", sum := "895e731c4597ac9cea6b91e0a9b75f657e45e5dac7c3ec87bb15b5c75d14edcd", func := "ostrakon/ostrakonlaw5.SpotBlock", spec := "spotBlock", unfollowed := true, recurses := true, plainKeys := false, apart := false }
def SpotBlockSaid : Prop := spotBlockRow.holds Try.pinned (OpenSpec.ofChange spotBlockSpec)

/-- ITS FALSE NEIGHBOUR: 'it returns false'. Refute it at one input. -/
def spotBlockWrong : ChangeSpec := { name := "spotBlock", fn := fun _ => fun
  | [d1, d2, d3] => { results := [.lit (.bool false)], args := [d1, d2, d3] }
  | _ => none }
def SpotBlockWrongFalsely : Prop := spotBlockRow.holds Try.pinned (OpenSpec.ofChange spotBlockWrong)

/-- 'ostrakonlaw5.SpotTwins': WHATEVER THE INPUT: true; the input reads as it did. -/
def spotTwinsSpec : ChangeSpec := { name := "spotTwins", fn := fun _ => fun
  | [d] => { results := [.lit (.bool true)], args := [d] }
  | _ => none }
def spotTwinsRow : OpenClaim := { program := "ytakekjbbbjmdpaa", sum := "895e731c4597ac9cea6b91e0a9b75f657e45e5dac7c3ec87bb15b5c75d14edcd", func := "ostrakon/ostrakonlaw5.SpotTwins", spec := "spotTwins", unfollowed := true, recurses := true, plainKeys := false, apart := false }
def SpotTwinsSaid : Prop := spotTwinsRow.holds Try.pinned (OpenSpec.ofChange spotTwinsSpec)

/-- ITS FALSE NEIGHBOUR: 'it returns false'. Refute it at one input. -/
def spotTwinsWrong : ChangeSpec := { name := "spotTwins", fn := fun _ => fun
  | [d] => { results := [.lit (.bool false)], args := [d] }
  | _ => none }
def SpotTwinsWrongFalsely : Prop := spotTwinsRow.holds Try.pinned (OpenSpec.ofChange spotTwinsWrong)

/-- 'ostrakonlaw5.SpotNone': WHATEVER THE INPUT: true; the input reads as it did. -/
def spotNoneSpec : ChangeSpec := { name := "spotNone", fn := fun _ => fun
  | [] => { results := [.lit (.bool true)], args := [] }
  | _ => none }
def spotNoneRow : OpenClaim := { program := "ytakekjbbbjmdpaa", sum := "895e731c4597ac9cea6b91e0a9b75f657e45e5dac7c3ec87bb15b5c75d14edcd", func := "ostrakon/ostrakonlaw5.SpotNone", spec := "spotNone", unfollowed := true, recurses := true, plainKeys := false, apart := false }
def SpotNoneSaid : Prop := spotNoneRow.holds Try.pinned (OpenSpec.ofChange spotNoneSpec)

/-- ITS FALSE NEIGHBOUR: 'it returns false'. Refute it at one input. -/
def spotNoneWrong : ChangeSpec := { name := "spotNone", fn := fun _ => fun
  | [] => { results := [.lit (.bool false)], args := [] }
  | _ => none }
def SpotNoneWrongFalsely : Prop := spotNoneRow.holds Try.pinned (OpenSpec.ofChange spotNoneWrong)

/- THE SECOND FORM. 'bulk': how many values and letters a reading holds, each counted each time it is reached (what is shared counts as often as it is met; a slice's spare places count too). A statement '..UptoSaid' is the law's where the arguments, and the package variables that the reading takes, are together of bulk at most 1048576: NARROWER than '..Said'. Prove '..Said' where nothing that the law and all that it calls make is longer than what came in: it says more and counts as full. Else prove '..UptoSaid'. A law counts once. -/
mutual
def uptoBulk {H : Type} : DataW H → Nat
  | .lit (.string bytes) => bytes.length + 1
  | .lit _ => 1
  | .nil => 1
  | .ptr d => uptoBulk d + 1
  | .slice elems spare => uptoBulkAll elems + uptoBulkAll spare + 1
  | .agg parts => uptoBulkAll parts + 1
  | .iface _ d => uptoBulk d + 1
  | .map entries => uptoBulkEntries entries + 1
  | .held _ => 1
def uptoBulkAll {H : Type} : List (DataW H) → Nat
  | [] => 0
  | d :: r => uptoBulk d + uptoBulkAll r
def uptoBulkEntries {H : Type} : List (Lit × DataW H) → Nat
  | [] => 0
  | x :: r => uptoBulkEntry x + uptoBulkEntries r
def uptoBulkEntry {H : Type} : Lit × DataW H → Nat
  | (.string bytes, d) => bytes.length + uptoBulk d + 1
  | (_, d) => uptoBulk d + 1
 end
def uptoSmall : (H : Type) → List (DataW H) → Bool := fun _ ds => decide (uptoBulkAll ds ≤ 1048576)
def OpenSpec.upto (s : _root_.Go.ChangeSpec) : _root_.Go.OpenSpec := { _root_.Go.OpenSpec.ofChange s with cond := some uptoSmall }

/-- 'ostrakonlaw6.GeoRows', WHERE WHAT IT READS IS OF BULK AT MOST 1048576: true; the input reads as it did. -/
def geoRowsUptoRow : OpenClaim := { program := "ytakekjbbbjmdpaa", sum := "895e731c4597ac9cea6b91e0a9b75f657e45e5dac7c3ec87bb15b5c75d14edcd", func := "ostrakon/ostrakonlaw6.GeoRows", spec := "geoRows", plainKeys := false, apart := false, narrowed := true }
def GeoRowsUptoSaid : Prop := geoRowsUptoRow.holds Try.pinned (OpenSpec.upto geoRowsSpec)

/-- 'ostrakonlaw6.GeoTurns', WHERE WHAT IT READS IS OF BULK AT MOST 1048576: true; the input reads as it did. -/
def geoTurnsUptoRow : OpenClaim := { program := "ytakekjbbbjmdpaa", sum := "895e731c4597ac9cea6b91e0a9b75f657e45e5dac7c3ec87bb15b5c75d14edcd", func := "ostrakon/ostrakonlaw6.GeoTurns", spec := "geoTurns", plainKeys := false, apart := false, narrowed := true }
def GeoTurnsUptoSaid : Prop := geoTurnsUptoRow.holds Try.pinned (OpenSpec.upto geoTurnsSpec)

/-- 'ostrakonlaw6.GeoSmall', WHERE WHAT IT READS IS OF BULK AT MOST 1048576: true; the input reads as it did. -/
def geoSmallUptoRow : OpenClaim := { program := "ytakekjbbbjmdpaa", sum := "895e731c4597ac9cea6b91e0a9b75f657e45e5dac7c3ec87bb15b5c75d14edcd", func := "ostrakon/ostrakonlaw6.GeoSmall", spec := "geoSmall", plainKeys := false, apart := false, narrowed := true }
def GeoSmallUptoSaid : Prop := geoSmallUptoRow.holds Try.pinned (OpenSpec.upto geoSmallSpec)

/-- 'ostrakonlaw6.GeoShare', WHERE WHAT IT READS IS OF BULK AT MOST 1048576: true; the input reads as it did. -/
def geoShareUptoRow : OpenClaim := { program := "ytakekjbbbjmdpaa", sum := "895e731c4597ac9cea6b91e0a9b75f657e45e5dac7c3ec87bb15b5c75d14edcd", func := "ostrakon/ostrakonlaw6.GeoShare", spec := "geoShare", plainKeys := false, apart := false, narrowed := true }
def GeoShareUptoSaid : Prop := geoShareUptoRow.holds Try.pinned (OpenSpec.upto geoShareSpec)

/-- 'ostrakonlaw9.SherdAll', WHERE WHAT IT READS IS OF BULK AT MOST 1048576: true; the input reads as it did. -/
def sherdAllUptoRow : OpenClaim := { program := "ytakekjbbbjmdpaa", sum := "895e731c4597ac9cea6b91e0a9b75f657e45e5dac7c3ec87bb15b5c75d14edcd", func := "ostrakon/ostrakonlaw9.SherdAll", spec := "sherdAll", unfollowed := true, recurses := true, plainKeys := false, apart := false, narrowed := true }
def SherdAllUptoSaid : Prop := sherdAllUptoRow.holds Try.pinned (OpenSpec.upto sherdAllSpec)

/-- 'ostrakonlaw9.SherdAny', WHERE WHAT IT READS IS OF BULK AT MOST 1048576: true; the input reads as it did. -/
def sherdAnyUptoRow : OpenClaim := { program := "ytakekjbbbjmdpaa", sum := "895e731c4597ac9cea6b91e0a9b75f657e45e5dac7c3ec87bb15b5c75d14edcd", func := "ostrakon/ostrakonlaw9.SherdAny", spec := "sherdAny", unfollowed := true, recurses := true, plainKeys := false, apart := false, narrowed := true }
def SherdAnyUptoSaid : Prop := sherdAnyUptoRow.holds Try.pinned (OpenSpec.upto sherdAnySpec)

/-- 'ostrakonlaw9.SherdTorn', WHERE WHAT IT READS IS OF BULK AT MOST 1048576: true; the input reads as it did. -/
def sherdTornUptoRow : OpenClaim := { program := "ytakekjbbbjmdpaa", sum := "895e731c4597ac9cea6b91e0a9b75f657e45e5dac7c3ec87bb15b5c75d14edcd", func := "ostrakon/ostrakonlaw9.SherdTorn", spec := "sherdTorn", unfollowed := true, recurses := true, plainKeys := false, apart := false, narrowed := true }
def SherdTornUptoSaid : Prop := sherdTornUptoRow.holds Try.pinned (OpenSpec.upto sherdTornSpec)

/-- 'ostrakonlaw9.SherdTurn', WHERE WHAT IT READS IS OF BULK AT MOST 1048576: true; the input reads as it did. -/
def sherdTurnUptoRow : OpenClaim := { program := "ytakekjbbbjmdpaa", sum := "895e731c4597ac9cea6b91e0a9b75f657e45e5dac7c3ec87bb15b5c75d14edcd", func := "ostrakon/ostrakonlaw9.SherdTurn", spec := "sherdTurn", unfollowed := true, recurses := true, plainKeys := false, apart := false, narrowed := true }
def SherdTurnUptoSaid : Prop := sherdTurnUptoRow.holds Try.pinned (OpenSpec.upto sherdTurnSpec)

/-- 'ostrakonlaw9.SherdMeta', WHERE WHAT IT READS IS OF BULK AT MOST 1048576: true; the input reads as it did. -/
def sherdMetaUptoRow : OpenClaim := { program := "ytakekjbbbjmdpaa", sum := "895e731c4597ac9cea6b91e0a9b75f657e45e5dac7c3ec87bb15b5c75d14edcd", func := "ostrakon/ostrakonlaw9.SherdMeta", spec := "sherdMeta", unfollowed := true, recurses := true, plainKeys := false, apart := false, narrowed := true }
def SherdMetaUptoSaid : Prop := sherdMetaUptoRow.holds Try.pinned (OpenSpec.upto sherdMetaSpec)

/-- 'ostrakonlaw9.WeaveBack', WHERE WHAT IT READS IS OF BULK AT MOST 1048576: true; the input reads as it did. -/
def weaveBackUptoRow : OpenClaim := { program := "ytakekjbbbjmdpaa", sum := "895e731c4597ac9cea6b91e0a9b75f657e45e5dac7c3ec87bb15b5c75d14edcd", func := "ostrakon/ostrakonlaw9.WeaveBack", spec := "weaveBack", unfollowed := true, recurses := true, plainKeys := false, apart := false, narrowed := true }
def WeaveBackUptoSaid : Prop := weaveBackUptoRow.holds Try.pinned (OpenSpec.upto weaveBackSpec)

/-- 'ostrakonlaw9.WeaveAny', WHERE WHAT IT READS IS OF BULK AT MOST 1048576: true; the input reads as it did. -/
def weaveAnyUptoRow : OpenClaim := { program := "ytakekjbbbjmdpaa", sum := "895e731c4597ac9cea6b91e0a9b75f657e45e5dac7c3ec87bb15b5c75d14edcd", func := "ostrakon/ostrakonlaw9.WeaveAny", spec := "weaveAny", unfollowed := true, recurses := true, plainKeys := false, apart := false, narrowed := true }
def WeaveAnyUptoSaid : Prop := weaveAnyUptoRow.holds Try.pinned (OpenSpec.upto weaveAnySpec)

/-- 'ostrakonlaw9.SherdRoles', WHERE WHAT IT READS IS OF BULK AT MOST 1048576: true; the input reads as it did. -/
def sherdRolesUptoRow : OpenClaim := { program := "ytakekjbbbjmdpaa", sum := "895e731c4597ac9cea6b91e0a9b75f657e45e5dac7c3ec87bb15b5c75d14edcd", func := "ostrakon/ostrakonlaw9.SherdRoles", spec := "sherdRoles", unfollowed := true, recurses := true, plainKeys := false, apart := false, narrowed := true }
def SherdRolesUptoSaid : Prop := sherdRolesUptoRow.holds Try.pinned (OpenSpec.upto sherdRolesSpec)

/-- 'ostrakonlaw9.SherdPlaces', WHERE WHAT IT READS IS OF BULK AT MOST 1048576: true; the input reads as it did. -/
def sherdPlacesUptoRow : OpenClaim := { program := "ytakekjbbbjmdpaa", sum := "895e731c4597ac9cea6b91e0a9b75f657e45e5dac7c3ec87bb15b5c75d14edcd", func := "ostrakon/ostrakonlaw9.SherdPlaces", spec := "sherdPlaces", unfollowed := true, recurses := true, plainKeys := false, apart := false, narrowed := true }
def SherdPlacesUptoSaid : Prop := sherdPlacesUptoRow.holds Try.pinned (OpenSpec.upto sherdPlacesSpec)

/-- 'ostrakonlaw9.WeaveOver', WHERE WHAT IT READS IS OF BULK AT MOST 1048576: true; the input reads as it did. -/
def weaveOverUptoRow : OpenClaim := { program := "ytakekjbbbjmdpaa", sum := "895e731c4597ac9cea6b91e0a9b75f657e45e5dac7c3ec87bb15b5c75d14edcd", func := "ostrakon/ostrakonlaw9.WeaveOver", spec := "weaveOver", unfollowed := true, recurses := true, plainKeys := false, apart := false, narrowed := true }
def WeaveOverUptoSaid : Prop := weaveOverUptoRow.holds Try.pinned (OpenSpec.upto weaveOverSpec)

/-- 'ostrakonlaw9.WeaveOne', WHERE WHAT IT READS IS OF BULK AT MOST 1048576: true; the input reads as it did. -/
def weaveOneUptoRow : OpenClaim := { program := "ytakekjbbbjmdpaa", sum := "895e731c4597ac9cea6b91e0a9b75f657e45e5dac7c3ec87bb15b5c75d14edcd", func := "ostrakon/ostrakonlaw9.WeaveOne", spec := "weaveOne", unfollowed := true, recurses := true, plainKeys := false, apart := false, narrowed := true }
def WeaveOneUptoSaid : Prop := weaveOneUptoRow.holds Try.pinned (OpenSpec.upto weaveOneSpec)

/-- 'ostrakonlaw5.SpotAll', WHERE WHAT IT READS IS OF BULK AT MOST 1048576: true; the input reads as it did. -/
def spotAllUptoRow : OpenClaim := { program := "ytakekjbbbjmdpaa", sum := "895e731c4597ac9cea6b91e0a9b75f657e45e5dac7c3ec87bb15b5c75d14edcd", func := "ostrakon/ostrakonlaw5.SpotAll", spec := "spotAll", unfollowed := true, recurses := true, plainKeys := false, apart := false, narrowed := true }
def SpotAllUptoSaid : Prop := spotAllUptoRow.holds Try.pinned (OpenSpec.upto spotAllSpec)

/-- 'ostrakonlaw5.SpotBlock', WHERE WHAT IT READS IS OF BULK AT MOST 1048576: true; the input reads as it did. -/
def spotBlockUptoRow : OpenClaim := { program := "ytakekjbbbjmdpaa", sum := "895e731c4597ac9cea6b91e0a9b75f657e45e5dac7c3ec87bb15b5c75d14edcd", func := "ostrakon/ostrakonlaw5.SpotBlock", spec := "spotBlock", unfollowed := true, recurses := true, plainKeys := false, apart := false, narrowed := true }
def SpotBlockUptoSaid : Prop := spotBlockUptoRow.holds Try.pinned (OpenSpec.upto spotBlockSpec)

/-- 'ostrakonlaw5.SpotTwins', WHERE WHAT IT READS IS OF BULK AT MOST 1048576: true; the input reads as it did. -/
def spotTwinsUptoRow : OpenClaim := { program := "ytakekjbbbjmdpaa", sum := "895e731c4597ac9cea6b91e0a9b75f657e45e5dac7c3ec87bb15b5c75d14edcd", func := "ostrakon/ostrakonlaw5.SpotTwins", spec := "spotTwins", unfollowed := true, recurses := true, plainKeys := false, apart := false, narrowed := true }
def SpotTwinsUptoSaid : Prop := spotTwinsUptoRow.holds Try.pinned (OpenSpec.upto spotTwinsSpec)

/-- 'ostrakonlaw5.SpotNone', WHERE WHAT IT READS IS OF BULK AT MOST 1048576: true; the input reads as it did. -/
def spotNoneUptoRow : OpenClaim := { program := "ytakekjbbbjmdpaa", sum := "895e731c4597ac9cea6b91e0a9b75f657e45e5dac7c3ec87bb15b5c75d14edcd", func := "ostrakon/ostrakonlaw5.SpotNone", spec := "spotNone", unfollowed := true, recurses := true, plainKeys := false, apart := false, narrowed := true }
def SpotNoneUptoSaid : Prop := spotNoneUptoRow.holds Try.pinned (OpenSpec.upto spotNoneSpec)

end Rows
end Go.Proofs.Ytakekjbbbjmdpaa
